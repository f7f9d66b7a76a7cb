/- Least: the document's, by hand: the good way. Least: the document's, by hand: the ways that answer nothing. Least: the program's closures and calls. Least: rows in blocks of their own, for the program's walk. Least: the program's, by hand: the good way. Least: the program's, by hand: the ways that answer nothing. Least: what both answer. -/
import Derived.Test.YtfcjfjmjcmanaaaGl
import Derived.Deep.QuietTactic
import Derived.BigQuiet
import Derived.Test.YtfcjfjmjcmanaaaXshelf
set_option linter.unusedVariables false
namespace Go.Proofs.Ytfcjfjmjcmanaaa.X
open Go.RowKit Go.Proofs.Ytfcjfjmjcmanaaa.PNums Go.Proofs.YtfcjfjmjcmanaaaW.PrintWords Go.Proofs.YtfcjfjmjcmanaaaW.PrintLast Go.Proofs.YtfcjfjmjcmanaaaW.PrintMore
/-- How long a row is. -/
def lenOf : Value → Nat
  | .slice _ n _ => n
  | _ => 0
theorem j_step (L : List Int) (f : Int → Bool) (i j : Int) (b t : Bool) (m n : Nat) (W : World) (hf : (L.take (j.toNat + 1)).all f = (b && t)) (hw : wrap64 (j + 1) = j + 1) (hj : 0 ≤ j ∧ j < i) {r : Bool} (hr : r = (b && t)) :
    (∃ j1 : Int, Value.bool r = Value.bool ((L.take j1.toNat).all f) ∧ Value.int IntKind.i64 (wrap64 (j + 1)) = Value.int IntKind.i64 j1 ∧ Aside0 (0 ≤ j1 ∧ j1 ≤ i) ∧ Drawn0 W (W.drewN (m + n))) ∧
    (i - intOf (Value.int IntKind.i64 (wrap64 (j + 1)))).toNat < (i - intOf (Value.int IntKind.i64 j)).toNat := by
  rw [hw]
  exact ⟨⟨j + 1, by rw [show (j + 1).toNat = j.toNat + 1 by omega, hf, hr], rfl, ⟨by omega⟩, ⟨_, rfl⟩⟩, by simp only [intOf]; omega⟩
theorem i_step (L : List Int) (t : Int → Int → Bool) (i v e : Int) (m n : Nat) (W : World) (hs : rb t L (i + 1).toNat = e) (hw : wrap64 (i + 1) = i + 1) (hi : 0 ≤ i ∧ i < (L.length : Int)) (he : e = v) :
    (∃ i1 : Int, Value.int IntKind.i64 v = Value.int IntKind.i64 (rb t L i1.toNat) ∧ Value.int IntKind.i64 (wrap64 (i + 1)) = Value.int IntKind.i64 i1 ∧ Aside0 (0 ≤ i1 ∧ i1 ≤ (L.length : Int)) ∧ Drawn0 W (W.drewN (n + m))) ∧
    ((L.length : Int) - intOf (Value.int IntKind.i64 (wrap64 (i + 1)))).toNat < ((L.length : Int) - intOf (Value.int IntKind.i64 i)).toNat := by
  rw [hw]
  exact ⟨⟨i + 1, by rw [hs, he], rfl, ⟨by omega⟩, ⟨_, rfl⟩⟩, by simp only [intOf]; omega⟩
theorem num_facts {x : Int} (h : Hnum x) : decide (x < 0) = false ∧ decide (16 ≤ x) = false := ⟨decide_eq_false (by unfold Hnum at h; omega), decide_eq_false (by unfold Hnum at h; omega)⟩
set_option maxRecDepth 100000 in
set_option maxHeartbeats 8000000 in
theorem rl_good (A0 : Option Addr) (c0 : Nat) (l : List Int) (A1 : Option Addr) (c1 : Nat) (ps : List (Int × Int)) (w : World) (hr0 : Kd.C (Kd.int .i64) w A0 l.length l) (hc0 : l.length ≤ c0) (hr1 : Kd.C Kp w A1 ps.length ps)
    (hl : l.length ≤ 512) (hp : ps.length ≤ 256) (hn : ∀ x ∈ l, Hnum x) (hok : PairsOk ps) :
    Calls Try.prog 37 #[.slice A0 l.length c0, .slice A1 ps.length c1] w fun e w' => ∃ A c, e = .returned (.tuple #[.slice A l.length c, .int .i64 0]) ∧ l.length ≤ c ∧ Kd.C (Kd.int .i64) w' A l.length (lst (tab ps) l.length l) ∧ Below w.heap.size w w' := by
  have HR0 := Aside0.mk hr0
  have HC0 := Aside0.mk hc0
  have HR1 := Aside0.mk hr1
  have HL := Aside0.mk hl
  have HP := Aside0.mk hp
  have HN := Aside0.mk hn
  have HOK := Aside0.mk hok
  have hlb : decide ((l.length : Int) > 512) = false := decide_eq_false (by omega)
  have hpb : decide ((ps.length : Int) > 256) = false := decide_eq_false (by omega)
  have hnum := hnumbers_spec l (l.length + 1) (by omega) (by omega)
  rw [decide_eq_true hn] at hnum
  have HNUM := Aside0.mk hnum
  clear hr0 hc0 hr1 hl hp hn hok hnum
  go_enter Try.func37, Try.ntmps37
  go_wp2_with (go_at_call 89; refine (larderref07_numbers.calls (l.length + 1) A0 c0 l true _ HR0.out HC0.out HNUM.out).mono ?_; rintro e w1 ⟨rfl, ⟨m1, rfl⟩⟩)
  go_loopw [6] (fun p wr => ∃ i : Int, p = .int .i64 i ∧ Aside0 (0 ≤ i ∧ i ≤ (ps.length : Int)) ∧ Aside0 (Below w.heap.size w wr)) (fun p _ => ((ps.length : Int) - intOf p).toNat)
  case atStart => exact ⟨0, rfl, ⟨by omega⟩, ⟨by repeat (first | exact Below.refl w.heap.size w | apply pw_below_drewN | apply below_drew1)⟩⟩
  case round =>
    obtain ⟨i, rfl, Hi, HB⟩ := hrel
    by_cases hlt : i < (ps.length : Int)
    · have p0 : 0 ≤ i := Hi.out.1
      obtain ⟨ad, rfl, hpa⟩ := at_pair HR1.out i p0 hlt
      have hblk := hpa.lt
      obtain ⟨nx, ny⟩ := HOK.out _ (pd_mem ps i p0 hlt)
      have hw1 := wrn (l := ps) (by have := HP.out; omega) p0 hlt
      have hltb : decide (i < (ps.length : Int)) = true := decide_eq_true hlt
      have HI := Aside0.mk (show 0 ≤ i ∧ i < (ps.length : Int) from ⟨p0, hlt⟩)
      replace p0 := eq_true p0
      replace hlt := eq_true hlt
      obtain ⟨⟨x, y⟩, hx⟩ : ∃ x, pd ps i = x := ⟨_, rfl⟩
      rw [hx] at hpa nx ny
      clear hx
      obtain ⟨hc1, hc3⟩ := hpa.below hblk HB.out
      clear hblk hpa
      obtain ⟨fx0, fx1⟩ := num_facts nx
      obtain ⟨fy0, fy1⟩ := num_facts ny
      clear nx ny
      go_wp2
      exact ⟨⟨wrap64 (i + 1), rfl, ⟨by rw [hw1]; have := HI.out; omega⟩, HB⟩, by rw [hw1]; simp only [intOf]; have := HI.out; omega⟩
    · have hltb : decide (i < (ps.length : Int)) = false := decide_eq_false hlt
      clear hlt Hi
      go_wp2_with (go_at_call 90; refine (apartOf_calls A1 c1 ps _ (Kd.C_below HR1.out HB.out) ⟨by have := HP.out; omega⟩ HOK).mono ?_; rintro e w2 ⟨rfl, B2⟩; have HB2 := Aside0.mk (below_step HB.out B2); clear B2 HB)
      have hst := row_store (Row.new w2 Try.zeroCells118) (cs' := cellsOf (tab ps)) (by rw [cellsOf_size, zero118]; simp) (cellsOf_one _)
      rw [World.setRow_alloc_new] at hst
      simp only [hst, Result.andThen]
      rw [Oper.upon_skip]
      clear hst
      have HT := Aside0.mk (Tab.of (tab ps) (Row.new w2 (cellsOf (tab ps))))
      have HB3 := Aside0.mk (below_alloc HB2.out (.cells (cellsOf (tab ps)) 118))
      have HSZ := Aside0.mk (show w2.heap.size < (w2.alloc (.cells (cellsOf (tab ps)) 118)).heap.size by simp)
      generalize hW : w2.alloc (.cells (cellsOf (tab ps)) 118) = W at HT HB3 HSZ ⊢
      clear hW HB2
      have HC2 := Aside0.mk (Kd.C_below HR0.out HB3.out)
      go_wp2_with ((with_reducible refine gate_builtin (b := .append) (xs := #[.tmp 64, .tmp 65]) rfl ?_); at_builtin; refine Kd.R_append_rows (Kd.int .i64) (w0 := W) W.heap.size rfl (.tmp 64) (.tmp 65) 26 3 (.int .i64 0) 8 rfl Try.underlying26 info3 rfl (by decide) (by omega) (.slice none 0 0) ([] : List Int) l _ _ _ (fun _ => True) (fun _ => False) rfl rfl (Kd.R_nil _ _ _ _ (fun _ => True)) HC2.out (fun _ _ h => h) (fun _ h => h.elim) (fun _ _ => trivial) (Below.refl _ _) (Nat.le_refl _) (by have := HL.out; simp only [List.length_nil]; omega) ?_; intro v1 w4 ho hb hg hat; have HO := Aside0.mk ho; have HB4 := Aside0.mk hb; clear ho hb hg hat)
      go_loopw [8, 9] (fun vl vo wr => ∃ (L out : List Int), Aside0 (Kd.R (Kd.int .i64) 3 wr W.heap.size (fun _ => True) vl L) ∧ Aside0 (Kd.R (Kd.int .i64) 3 wr W.heap.size (fun k => True ∧ some k ≠ vl.ownBlock) vo out) ∧
        Aside0 (Below W.heap.size W wr) ∧ Aside0 (out ++ lst (tab ps) L.length L = lst (tab ps) l.length l) ∧ Aside0 (out.length + L.length = l.length) ∧ Aside0 (∀ x ∈ L, Hnum x)) (fun vl _ _ => lenOf vl)
      case atStart => exact ⟨l, [], HO, ⟨Kd.R_nil _ _ _ _ _⟩, HB4, ⟨by simp⟩, ⟨by simp⟩, HN⟩
      case round =>
        clear HO HB4
        obtain ⟨L, out, HLl, HO, HB, HE, HLEN, HNL⟩ := hrel
        rename World => W1
        obtain ⟨AL, cL, rfl⟩ := Kd.R_slice HLl.out
        obtain ⟨_, hcL, hCL⟩ := Kd.R_reads' HLl.out
        have HCL := Aside0.mk hCL
        have HcL := Aside0.mk hcL
        have HL5 : Aside0 (L.length ≤ 512) := ⟨by have := HLEN.out; have := HL.out; omega⟩
        have HTW := Aside0.mk (HT.out.below HSZ.out HB.out)
        clear hCL hcL
        by_cases hpos : 0 < L.length
        · have hposb : decide (0 < L.length) = true := decide_eq_true hpos
          have HPOS := Aside0.mk hpos
          clear hpos
          go_wp2
          go_loopw [10, 11] (fun vb vi wr => ∃ i : Int, vb = .int .i64 (rb (tab ps) L i.toNat) ∧ vi = .int .i64 i ∧ Aside0 (0 ≤ i ∧ i ≤ (L.length : Int)) ∧ Drawn0 W1 wr) (fun _ vi _ => ((L.length : Int) - intOf vi).toNat)
          case atStart => exact ⟨0, rfl, rfl, ⟨by omega⟩, Drawn0.refl _⟩
          case round =>
            obtain ⟨i, rfl, rfl, Hi, ⟨m1, rfl⟩⟩ := hrel
            by_cases hlt : i < (L.length : Int)
            · have hltb : decide (i < (L.length : Int)) = true := decide_eq_true hlt
              have p0 : 0 ≤ i := Hi.out.1
              have HI := Aside0.mk (show 0 ≤ i ∧ i < (L.length : Int) from ⟨p0, hlt⟩)
              have HNx := Aside0.mk (hrd_num L HNL.out i p0 hlt)
              obtain ⟨x, hx⟩ : ∃ x, rd L i = x := ⟨_, rfl⟩
              have HX := Aside0.mk hx
              rw [hx] at HNx
              clear hx
              replace hlt := eq_true hlt
              replace p0 := eq_true p0
              go_wp2
              go_loopw [12, 13] (fun vf vj wr => ∃ j : Int, vf = .bool ((L.take j.toNat).all fun h => tab ps h x) ∧ vj = .int .i64 j ∧ Aside0 (0 ≤ j ∧ j ≤ i) ∧ Drawn0 W1 wr) (fun _ vj _ => (i - intOf vj).toNat)
              case atStart => exact ⟨0, by simp, rfl, ⟨by have := HI.out; omega⟩, ⟨m1, rfl⟩⟩
              case round =>
                obtain ⟨j, rfl, rfl, Hj, ⟨m2, rfl⟩⟩ := hrel
                by_cases hjl : j < i
                · have hjlb : decide (j < i) = true := decide_eq_true hjl
                  have hI := HI.out
                  have q0 : 0 ≤ j := Hj.out.1
                  have q1 : j < (L.length : Int) := by omega
                  have hC := HCL.out
                  obtain ⟨ad, rfl, hxc⟩ := Kd.at_int hC i hI.1 hI.2
                  obtain ⟨ad2, e2, hyc⟩ := Kd.at_int hC j q0 q1
                  obtain rfl : ad = ad2 := by injection e2
                  rw [HX.out] at hxc
                  have HNy := Aside0.mk (hrd_num L HNL.out j q0 q1)
                  have hft := front_take (tab ps) L x j.toNat (by omega)
                  rw [Int.toNat_of_nonneg q0] at hft
                  obtain ⟨y, hy⟩ : ∃ y, rd L j = y := ⟨_, rfl⟩
                  rw [hy] at hyc HNy hft
                  obtain ⟨hcell, _⟩ := HTW.out.cell HNy.out HNx.out
                  obtain ⟨t, ht⟩ : ∃ t, tab ps y x = t := ⟨_, rfl⟩
                  rw [ht] at hcell hft
                  have HFT := Aside0.mk hft
                  have hwj := Aside0.mk (show wrap64 (j + 1) = j + 1 from hwrId (by omega) (by have := HL5.out; omega))
                  have HJ := Aside0.mk (show 0 ≤ j ∧ j < i from ⟨q0, hjl⟩)
                  have p0 := eq_true hI.1
                  have hlt := eq_true hI.2
                  have px0 : 0 ≤ x := HNx.out.1
                  have px1 : x < 16 := HNx.out.2
                  have py0 : 0 ≤ y := HNy.out.1
                  have py1 : y < 16 := HNy.out.2
                  replace q0 := eq_true q0
                  replace q1 := eq_true q1
                  clear hy ht hft e2 hC hjl hI
                  obtain ⟨b, hb⟩ : ∃ b, (L.take j.toNat).all (fun h => tab ps h x) = b := ⟨_, rfl⟩
                  rw [hb] at HFT ⊢
                  clear hb
                  cases t with
                  | true =>
                    go_wp2
                    go_quiet (fail)
                    go_wp2
                    exact j_step L (fun h => tab ps h x) i j b true m2 nq W1 HFT.out hwj.out HJ.out (by simp)
                  | false =>
                    go_wp2
                    go_quiet (fail)
                    go_wp2
                    exact j_step L (fun h => tab ps h x) i j b false m2 nq W1 HFT.out hwj.out HJ.out (by simp)
                · have hjlb : decide (j < i) = false := decide_eq_false hjl
                  have hji : j = i := by have := Hj.out; omega
                  have hI := HI.out
                  have hrr := rb_range (tab ps) L i.toNat
                  have hfr : (L.take j.toNat).all (fun h => tab ps h x) = front (tab ps) L i.toNat := by
                    unfold front
                    rw [Int.toNat_of_nonneg hI.1, HX.out, hji]
                  have hst : rb (tab ps) L (i + 1).toNat = if front (tab ps) L i.toNat = true ∧ (rb (tab ps) L i.toNat < 0 ∨ x < rd L (rb (tab ps) L i.toNat)) then i else rb (tab ps) L i.toNat := by
                    rw [show (i + 1).toNat = i.toNat + 1 by omega]
                    show (if front (tab ps) L i.toNat = true ∧ (rb (tab ps) L i.toNat < 0 ∨ rd L (i.toNat : Int) < rd L (rb (tab ps) L i.toNat)) then (i.toNat : Int) else rb (tab ps) L i.toNat) = _
                    rw [Int.toNat_of_nonneg hI.1, HX.out]
                  rw [hfr]
                  clear hfr
                  generalize front (tab ps) L i.toNat = b at hst ⊢
                  generalize rb (tab ps) L i.toNat = bst at hst hrr ⊢
                  have HST := Aside0.mk hst
                  have hwi := Aside0.mk (show wrap64 (i + 1) = i + 1 from hwrId (by omega) (by have := HL5.out; omega))
                  have hC := HCL.out
                  obtain ⟨ad, rfl, hxc⟩ := Kd.at_int hC i hI.1 hI.2
                  rw [HX.out] at hxc
                  have p0 := eq_true hI.1
                  have hlt := eq_true hI.2
                  clear hst hji hjl Hj
                  cases b with
                  | false =>
                    clear hC hI hrr
                    go_wp2
                    go_quiet (fail)
                    go_wp2
                    exact i_step L (tab ps) i bst _ nq m2 W1 HST.out hwi.out HI.out (by simp)
                  | true =>
                    by_cases hb0 : bst < 0
                    · have hb0b : decide (bst < 0) = true := decide_eq_true hb0
                      have HB0 := Aside0.mk hb0
                      clear hC hI hrr hb0
                      go_wp2
                      go_quiet (fail)
                      go_wp2
                      exact i_step L (tab ps) i i _ nq m2 W1 HST.out hwi.out HI.out (by rw [if_pos ⟨trivial, .inl HB0.out⟩])
                    · have hb0b : decide (bst < 0) = false := decide_eq_false hb0
                      have HB0 := Aside0.mk hb0
                      have q0 : 0 ≤ bst := by omega
                      have q1 : bst < (L.length : Int) := by omega
                      obtain ⟨ad2, e2, hyc⟩ := Kd.at_int hC bst q0 q1
                      obtain rfl : ad = ad2 := by injection e2
                      obtain ⟨y, hy⟩ : ∃ y, rd L bst = y := ⟨_, rfl⟩
                      rw [hy] at hyc
                      have HY := Aside0.mk hy
                      replace q0 := eq_true q0
                      replace q1 := eq_true q1
                      clear hC hI hrr hb0 hy e2
                      by_cases hxy : x < y
                      · have hxyb : decide (x < y) = true := decide_eq_true hxy
                        have HXY := Aside0.mk hxy
                        clear hxy
                        go_wp2
                        go_quiet (fail)
                        go_wp2
                        exact i_step L (tab ps) i i _ nq m2 W1 HST.out hwi.out HI.out (by rw [if_pos ⟨trivial, .inr (by rw [HY.out]; exact HXY.out)⟩])
                      · have hxyb : decide (x < y) = false := decide_eq_false hxy
                        have HXY := Aside0.mk hxy
                        clear hxy
                        go_wp2
                        go_quiet (fail)
                        go_wp2
                        exact i_step L (tab ps) i bst _ nq m2 W1 HST.out hwi.out HI.out (by rw [if_neg (fun z => by have h1 := HB0.out; have h2 := HXY.out; have h3 := HY.out; rcases z.2 with z | z <;> omega)])
            · have hltb : decide (i < (L.length : Int)) = false := decide_eq_false hlt
              have hpos := HPOS.out
              have hrr := rb_range (tab ps) L L.length
              have hls := lst_step (tab ps) L hpos
              have hii : i.toNat = L.length := by have := Hi.out; omega
              rw [hii]
              obtain ⟨b, hb⟩ : ∃ b, rb (tab ps) L L.length = b := ⟨_, rfl⟩
              obtain ⟨hl1, hl2⟩ := hls b hb.symm
              rw [hb] at hrr ⊢
              have q0 : 0 ≤ b := hrr.2.2 hpos
              have q1 : b < (L.length : Int) := hrr.2.1
              have HQ := Aside0.mk (show 0 ≤ b ∧ b < (L.length : Int) from ⟨q0, q1⟩)
              obtain ⟨x, hx⟩ : ∃ x, rd L b = x := ⟨_, rfl⟩
              rw [hx] at hl1
              have HL1 := Aside0.mk hl1
              have HL2 := Aside0.mk hl2
              have hwb : wrap64 (b + 1) = b + 1 := hwrId (by omega) (by have := HL5.out; omega)
              obtain ⟨ad, rfl, hxc⟩ := Kd.at_int HCL.out b q0 q1
              rw [hx] at hxc
              obtain ⟨i03, hi03, _, hsz3, _⟩ := info_parts info3
              have hcutT := cut_to (P := Try.prog) 26 3 .i64 Try.underlying26 hi03 (some ad) L.length cL b q0 (by omega) HcL.out
              have hcutF := cut_from (P := Try.prog) 26 3 .i64 Try.underlying26 hi03 1 hsz3 (some ad) L.length cL (b + 1) (by omega) (by omega)
              have HD1 : Aside0 (Kd.R (Kd.int .i64) 3 W1 W.heap.size (fun k => True ∧ some k ≠ Value.ownBlock _) (.slice (some ad) L.length cL) L) := ⟨R_ok HLl.out (ok' := fun k => True ∧ some k ≠ Value.ownBlock _) (fun k hk => ⟨trivial, fun z => (HO.out.1 k z.symm).2 hk.symm⟩)⟩
              have HO1 := Aside0.mk (R_ok HO.out (ok' := fun _ => True) (fun _ _ => trivial))
              have HNL2 : Aside0 (∀ y ∈ L.take b.toNat ++ L.drop (b.toNat + 1), Hnum y) := ⟨fun y hy => by
                rcases List.mem_append.1 hy with h | h
                · exact HNL.out y (List.mem_of_mem_take h)
                · exact HNL.out y (List.mem_of_mem_drop h)⟩
              replace q0 := eq_true q0
              replace q1 := eq_true q1
              clear hi03 hsz3 hii hlt hpos hrr hls hb hl1 hl2 hx
              have HTK : Aside0 ((L.take b.toNat).length = b.toNat) := ⟨by rw [List.length_take]; have := HQ.out; omega⟩
              have hbn : (b + 1).toNat = b.toNat + 1 := by have := HQ.out; omega
              rw [hbn] at hcutF
              obtain ⟨AF, hAF⟩ : ∃ AF, (if cL = b.toNat + 1 then some ad else (some ad).map (·.add ((b.toNat + 1) * 1))) = AF := ⟨_, rfl⟩
              rw [hAF] at hcutF
              have HAF := Aside0.mk hAF
              clear hAF
              have HLb := Aside0.mk hltb
              go_wp2_with (first
                | ((with_reducible refine gate_builtin (b := .append) (xs := #[.tmp 110, .tmp 115]) rfl ?_); at_builtin; refine Kd.R_append (Kd.int .i64) (w0 := W) W.heap.size rfl (.tmp 110) (.tmp 115) 26 3 (.int .i64 0) 8 rfl Try.underlying26 info3 rfl (by decide) (by omega) u9 out x [.int .i64 x] (fun _ => True) (fun _ => False) rfl rfl rfl (fun _ hk => hk.elim) (fun _ _ => trivial) (Kd.R_drewN HO1.out m1) (pw_below_drewN HB.out m1) HB.out.size (by have := HLEN.out; have := HL.out; have := HL2.out; omega) ?_; intro v5 w5 ho hb hg hat; have HO2 := Aside0.mk ho; have HB5 := Aside0.mk hb; have HD2 := Aside0.mk (Kd.R_after (Kd.R_drewN HD1.out m1) hg hat); clear ho hb hg hat)
                | ((with_reducible refine gate_builtin (b := .append) (xs := #[.tmp 117, .tmp 120]) rfl ?_); at_builtin; refine Kd.R_append_rows (Kd.int .i64) (w0 := W) W.heap.size rfl (.tmp 117) (.tmp 120) 26 3 (.int .i64 0) 8 rfl Try.underlying26 info3 rfl (by decide) (by omega) (.slice none 0 0) ([] : List Int) (L.take b.toNat) _ _ _ (fun _ => True) (fun _ => False) rfl rfl (Kd.R_nil _ _ _ _ (fun _ => True)) (by have h := Kd.C_take (m := b.toNat) (Kd.R_reads' HD2.out).2.2 (by have := HQ.out; omega); rw [HTK.out] at h; exact h) (fun _ _ h => h) (fun _ h => h.elim) (fun _ _ => trivial) HB5.out HB5.out.size (by have := HQ.out; have := HL5.out; simp only [List.length_nil]; omega) ?_; intro v6 w6 ho hb hg hat; have HN6 := Aside0.mk ho; have HB6 := Aside0.mk hb; have HO3 := Aside0.mk (Kd.R_after (v := .slice none 0 0) (R_ok HO2.out (ok' := fun k => True ∧ some k ≠ Value.ownBlock (.slice none 0 0)) (fun _ _ => ⟨trivial, by simp [Value.ownBlock]⟩)) hg hat); have HD3 := Aside0.mk (Kd.R_after (v := .slice none 0 0) (R_ok HD2.out (ok' := fun k => True ∧ some k ≠ Value.ownBlock (.slice none 0 0)) (fun _ _ => ⟨trivial, by simp [Value.ownBlock]⟩)) hg hat); clear ho hb hg hat)
                | ((with_reducible refine gate_builtin (b := .append) (xs := #[.tmp 122, .tmp 126]) rfl ?_); at_builtin; refine Kd.R_append_rows (Kd.int .i64) (w0 := W) W.heap.size rfl (.tmp 122) (.tmp 126) 26 3 (.int .i64 0) 8 rfl Try.underlying26 info3 rfl (by decide) (by omega) _ _ (L.drop (b.toNat + 1)) _ _ _ (fun _ => True) (fun _ => False) rfl rfl HN6.out (by have h := C_from (Kd.R_reads' HD3.out).2.2 HcL.out (b.toNat + 1) (by have := HQ.out; omega); rw [HAF.out] at h; exact h) (fun _ _ h => h) (fun _ h => h.elim) (fun _ _ => trivial) HB6.out HB6.out.size (by have := HTK.out; have := HQ.out; have := HL5.out; simp only [List.nil_append]; omega) ?_; intro v7 w7 ho hb hg hat; have HN7 := Aside0.mk ho; have HB7 := Aside0.mk hb; have HO4 := Aside0.mk (Kd.R_after HO3.out hg hat); clear ho hb hg hat))
              have hN7 := HN7.out
              rw [List.nil_append] at hN7
              obtain ⟨A7, c7, rfl⟩ := Kd.R_slice hN7
              exact ⟨⟨_, _, ⟨hN7⟩, HO4, HB7, ⟨by rw [List.append_assoc, List.singleton_append, ← HL1.out]; exact HE.out⟩, ⟨by rw [List.length_append, List.length_singleton]; have := HL2.out; have := HLEN.out; omega⟩, HNL2⟩, by have := HL2.out; simp only [lenOf]; omega⟩
        · have hposb : decide (0 < L.length) = false := decide_eq_false hpos
          obtain rfl : L = [] := List.length_eq_zero_iff.1 (by omega)
          obtain ⟨Ao, co, rfl, hco, hCo⟩ := Kd.R_reads HO.out
          have hE : out = lst (tab ps) l.length l := by have := HE.out; simpa [lst] using this
          have hlen : out.length = l.length := by have := HLEN.out; simpa using this
          rw [hE] at hCo
          have hll := lst_length (tab ps) l.length l
          rw [hll] at hCo
          rw [hlen] at hco
          have HCo := Aside0.mk hCo
          have Hco := Aside0.mk hco
          have HBW := Aside0.mk (below_step HB3.out HB.out)
          rw [hlen]
          clear hpos hE hlen hCo hco hll
          go_wp2
          go_ret2
          exact ⟨_, _, rfl, Hco.out, HCo.out, HBW.out⟩
end Go.Proofs.Ytfcjfjmjcmanaaa.X
set_option linter.unusedVariables false
namespace Go.Proofs.Ytfcjfjmjcmanaaa.X
open Go.RowKit Go.Proofs.Ytfcjfjmjcmanaaa.PNums Go.Proofs.YtfcjfjmjcmanaaaW.PrintWords Go.Proofs.YtfcjfjmjcmanaaaW.PrintLast Go.Proofs.YtfcjfjmjcmanaaaW.PrintMore
set_option maxRecDepth 100000
set_option maxHeartbeats 4000000
theorem rl_long (A0 : Option Addr) (c0 : Nat) (l : List Int) (A1 : Option Addr) (c1 : Nat) (ps : List (Int × Int)) (w : World) (hb : ¬ (l.length ≤ 512 ∧ ps.length ≤ 256)) :
    Calls Try.prog 37 #[.slice A0 l.length c0, .slice A1 ps.length c1] w fun e w' => e = .returned (.tuple #[.slice none 0 0, .int .i64 1]) ∧ Below w.heap.size w w' := by
  by_cases hl : (l.length : Int) > 512
  · have hlb : decide ((l.length : Int) > 512) = true := decide_eq_true hl
    clear hl hb
    go_enter Try.func37, Try.ntmps37
    go_wp2
    go_ret2
    exact ⟨rfl, by repeat (first | exact Below.refl w.heap.size w | apply pw_below_drewN | apply below_drew1)⟩
  · have hlb : decide ((l.length : Int) > 512) = false := decide_eq_false hl
    have hpb : decide ((ps.length : Int) > 256) = true := decide_eq_true (by omega)
    clear hl hb
    go_enter Try.func37, Try.ntmps37
    go_wp2
    go_ret2
    exact ⟨rfl, by repeat (first | exact Below.refl w.heap.size w | apply pw_below_drewN | apply below_drew1)⟩
theorem rl_num (A0 : Option Addr) (c0 : Nat) (l : List Int) (A1 : Option Addr) (c1 : Nat) (ps : List (Int × Int)) (w : World) (hr0 : Kd.C (Kd.int .i64) w A0 l.length l) (hc0 : l.length ≤ c0)
    (hl : l.length ≤ 512) (hp : ps.length ≤ 256) (hn : ¬ ∀ x ∈ l, Hnum x) :
    Calls Try.prog 37 #[.slice A0 l.length c0, .slice A1 ps.length c1] w fun e w' => e = .returned (.tuple #[.slice none 0 0, .int .i64 2]) ∧ Below w.heap.size w w' := by
  have HR0 := Aside0.mk hr0
  have HC0 := Aside0.mk hc0
  have hlb : decide ((l.length : Int) > 512) = false := decide_eq_false (by omega)
  have hpb : decide ((ps.length : Int) > 256) = false := decide_eq_false (by omega)
  have hnum := hnumbers_spec l (l.length + 1) (by omega) (by omega)
  rw [decide_eq_false hn] at hnum
  have HNUM := Aside0.mk hnum
  clear hr0 hc0 hl hp hn hnum
  go_enter Try.func37, Try.ntmps37
  go_wp2_with (go_at_call 89; refine (larderref07_numbers.calls (l.length + 1) A0 c0 l false _ HR0.out HC0.out HNUM.out).mono ?_; rintro e w1 ⟨rfl, ⟨m1, rfl⟩⟩)
  go_ret2
  exact ⟨rfl, by repeat (first | exact Below.refl w.heap.size w | apply pw_below_drewN | apply below_drew1)⟩
theorem rl_pair (A0 : Option Addr) (c0 : Nat) (l : List Int) (A1 : Option Addr) (c1 : Nat) (ps : List (Int × Int)) (w : World) (hr0 : Kd.C (Kd.int .i64) w A0 l.length l) (hc0 : l.length ≤ c0) (hr1 : Kd.C Kp w A1 ps.length ps)
    (hl : l.length ≤ 512) (hp : ps.length ≤ 256) (hn : ∀ x ∈ l, Hnum x) (hok : ¬ PairsOk ps) :
    Calls Try.prog 37 #[.slice A0 l.length c0, .slice A1 ps.length c1] w fun e w' => e = .returned (.tuple #[.slice none 0 0, .int .i64 2]) ∧ Below w.heap.size w w' := by
  have HR0 := Aside0.mk hr0
  have HC0 := Aside0.mk hc0
  have HR1 := Aside0.mk hr1
  have HP := Aside0.mk hp
  have HOK := Aside0.mk hok
  have hlb : decide ((l.length : Int) > 512) = false := decide_eq_false (by omega)
  have hpb : decide ((ps.length : Int) > 256) = false := decide_eq_false (by omega)
  have hnum := hnumbers_spec l (l.length + 1) (by omega) (by omega)
  rw [decide_eq_true hn] at hnum
  have HNUM := Aside0.mk hnum
  clear hr0 hc0 hr1 hl hp hn hok hnum
  go_enter Try.func37, Try.ntmps37
  go_wp2_with (go_at_call 89; refine (larderref07_numbers.calls (l.length + 1) A0 c0 l true _ HR0.out HC0.out HNUM.out).mono ?_; rintro e w1 ⟨rfl, ⟨m1, rfl⟩⟩)
  go_loopw [6] (fun p wr => ∃ i : Int, p = .int .i64 i ∧ Aside0 (0 ≤ i ∧ i ≤ (ps.length : Int)) ∧ Aside0 (PairsOk (ps.take i.toNat)) ∧ Aside0 (Below w.heap.size w wr)) (fun p _ => ((ps.length : Int) - intOf p).toNat)
  case atStart => exact ⟨0, rfl, ⟨by omega⟩, ⟨by simp [PairsOk]⟩, ⟨by repeat (first | exact Below.refl w.heap.size w | apply pw_below_drewN | apply below_drew1)⟩⟩
  case round =>
    obtain ⟨i, rfl, Hi, HPO, HB⟩ := hrel
    by_cases hlt : i < (ps.length : Int)
    · have p0 : 0 ≤ i := Hi.out.1
      obtain ⟨ad, rfl, hpa⟩ := at_pair HR1.out i p0 hlt
      have hblk := hpa.lt
      have htk := pd_take ps i p0 hlt
      have hw1 := wrn (l := ps) (by have := HP.out; omega) p0 hlt
      have hltb : decide (i < (ps.length : Int)) = true := decide_eq_true hlt
      have HI := Aside0.mk (show 0 ≤ i ∧ i < (ps.length : Int) from ⟨p0, hlt⟩)
      replace p0 := eq_true p0
      replace hlt := eq_true hlt
      obtain ⟨⟨x, y⟩, hx⟩ : ∃ x, pd ps i = x := ⟨_, rfl⟩
      rw [hx] at hpa htk
      have HTK := Aside0.mk htk
      clear hx htk
      obtain ⟨hc1, hc3⟩ := hpa.below hblk HB.out
      clear hblk hpa
      by_cases x0 : x < 0
      · have x0b : decide (x < 0) = true := decide_eq_true x0
        clear x0
        go_wp2
        go_ret2
        exact ⟨rfl, HB.out⟩
      by_cases x1 : 16 ≤ x
      · have x0b : decide (x < 0) = false := decide_eq_false x0
        have x1b : decide (16 ≤ x) = true := decide_eq_true x1
        clear x0 x1
        go_wp2
        go_ret2
        exact ⟨rfl, HB.out⟩
      have x0b : decide (x < 0) = false := decide_eq_false x0
      have x1b : decide (16 ≤ x) = false := decide_eq_false x1
      have HNX : Aside0 (Hnum x) := ⟨by unfold Hnum; omega⟩
      clear x0 x1
      by_cases y0 : y < 0
      · have y0b : decide (y < 0) = true := decide_eq_true y0
        clear y0
        go_wp2
        go_ret2
        exact ⟨rfl, HB.out⟩
      by_cases y1 : 16 ≤ y
      · have y0b : decide (y < 0) = false := decide_eq_false y0
        have y1b : decide (16 ≤ y) = true := decide_eq_true y1
        clear y0 y1
        go_wp2
        go_ret2
        exact ⟨rfl, HB.out⟩
      have y0b : decide (y < 0) = false := decide_eq_false y0
      have y1b : decide (16 ≤ y) = false := decide_eq_false y1
      have HNY : Aside0 (Hnum y) := ⟨by unfold Hnum; omega⟩
      clear y0 y1
      go_wp2
      exact ⟨⟨wrap64 (i + 1), rfl, ⟨by rw [hw1]; have := HI.out; omega⟩, ⟨by
        rw [hw1, show (i + 1).toNat = i.toNat + 1 by have := HI.out; omega, HTK.out]
        intro p hp
        rcases List.mem_append.1 hp with hp | hp
        · exact HPO.out p hp
        · rw [List.mem_singleton.1 hp]; exact ⟨HNX.out, HNY.out⟩⟩, HB⟩, by rw [hw1]; simp only [intOf]; have := HI.out; omega⟩
    · exfalso
      refine HOK.out ?_
      have := HPO.out
      rwa [List.take_of_length_le (by have := Hi.out; omega)] at this
end Go.Proofs.Ytfcjfjmjcmanaaa.X
set_option linter.unusedVariables false
namespace Go.Proofs.Ytfcjfjmjcmanaaa.X
open Go.RowKit Go.Lib Go.Proofs.YtfcjfjmjcmanaaaW.PrintWords Go.Proofs.YtfcjfjmjcmanaaaW.PrintLast Go.Proofs.YtfcjfjmjcmanaaaW.PrintMore
theorem right_calls (h : Int) (w : World) : Calls Try.prog 84 #[.int .i64 h] w fun e w' => e = .returned (.bool (decide (Hnum h))) ∧ Drawn0 w w' := by
  by_cases h0 : 0 ≤ h
  · by_cases h1 : h < 16
    · have d : decide (Hnum h) = true := decide_eq_true (by unfold Hnum; omega)
      have d0 : decide (h ≥ 0) = true := decide_eq_true h0
      have d1 : decide (h < 16) = true := decide_eq_true h1
      rw [d]
      clear h0 h1
      go_enter Try.func84, Try.ntmps84
      go_wp2
      go_ret
      exact ⟨rfl, by repeat (first | exact Drawn0.refl _ | apply Drawn0.step)⟩
    · have d : decide (Hnum h) = false := decide_eq_false (by unfold Hnum; omega)
      have d0 : decide (h ≥ 0) = true := decide_eq_true h0
      have d1 : decide (h < 16) = false := decide_eq_false h1
      rw [d]
      clear h0 h1
      go_enter Try.func84, Try.ntmps84
      go_wp2
      go_ret
      exact ⟨rfl, by repeat (first | exact Drawn0.refl _ | apply Drawn0.step)⟩
  · have d : decide (Hnum h) = false := decide_eq_false (by unfold Hnum; omega)
    have d0 : decide (h ≥ 0) = false := decide_eq_false h0
    rw [d]
    clear h0
    go_enter Try.func84, Try.ntmps84
    go_wp2
    go_ret
    exact ⟨rfl, by repeat (first | exact Drawn0.refl _ | apply Drawn0.step)⟩
set_option maxRecDepth 100000 in
theorem stands_calls (F Lb I : Nat) (t : Int → Int → Bool) (h x i : Int) (ad : Addr) (n c : Nat) (w : World) (hT : Tab w F t) (hL : w.cell? ⟨Lb, 0, none⟩ = some (.slice (some ad) n c)) (hI : w.cell? ⟨I, 0, none⟩ = some (.int .i64 i)) (h0 : 0 ≤ i) (h1 : i < (n : Int))
    (hx : w.cell? (ad.add i.toNat) = some (.int .i64 x)) (nh : Hnum h) (nx : Hnum x) :
    Calls Try.prog 87 #[.int .i64 h, .pointer (some ⟨F, 0, none⟩), .pointer (some ⟨Lb, 0, none⟩), .pointer (some ⟨I, 0, none⟩)] w fun e w' => e = .returned (.bool (!t h x)) ∧ ∃ q, w' = w.drewN q := by
  obtain ⟨hcell, _⟩ := hT.cell nh nx
  have ph0 : 0 ≤ h := nh.1
  have ph1 : h < 16 := nh.2
  have px0 : 0 ≤ x := nx.1
  have px1 : x < 16 := nx.2
  replace h0 := eq_true h0
  replace h1 := eq_true h1
  generalize t h x = b at hcell ⊢
  clear hT nh nx
  go_enter Try.func87, Try.ntmps87
  go_wp2
  go_quiet (fail)
  go_wp2
  go_ret
  exact ⟨by cases b <;> rfl, ⟨_, rfl⟩⟩
def fin16 (h : Int) : Fin 16 := ⟨h.toNat % 16, Nat.mod_lt _ (by omega)⟩
theorem fin16_num {h : Int} (hn : Hnum h) : ((fin16 h).val : Int) = h := by unfold Hnum at hn; show ((h.toNat % 16 : Nat) : Int) = h; omega
theorem num_fin (z : Fin 16) : Hnum (z.val : Int) := ⟨by omega, by have := z.isLt; omega⟩
theorem any_front (t : Int → Int → Bool) (x : Int) : ∀ L : List Int, (∀ y ∈ L, Hnum y) → (L.map fin16).any (fun z => !t (z.val : Int) x) = !(L.all fun h => t h x)
  | [], _ => rfl
  | y :: L, h => by
    rw [List.map_cons, List.any_cons, List.all_cons, any_front t x L (fun z hz => h z (List.mem_cons_of_mem _ hz)), fin16_num (h y List.mem_cons_self)]
    cases t y x <;> rfl
theorem contains_calls (F Lb I : Nat) (t : Int → Int → Bool) (x i : Int) (L : List Int) (g cap : Nat) (w : World) (hT : Tab w F t) (hL : w.cell? ⟨Lb, 0, none⟩ = some (.slice (some ⟨g, 0, none⟩) L.length cap)) (hI : w.cell? ⟨I, 0, none⟩ = some (.int .i64 i)) (h0 : 0 ≤ i) (h1 : i < (L.length : Int))
    (hx : rd L i = x) (hn : ∀ y ∈ L, Hnum y) (hl : L.length ≤ 512) (hc : ∀ j : Nat, j < L.length → w.cell? ⟨g, j, none⟩ = some (.int .i64 (rd L (j : Int)))) (hF : F < w.heap.size) (hLb : Lb < w.heap.size) (hIb : I < w.heap.size) (hg : g < w.heap.size) :
    Calls Try.prog 86 #[.slice (some ⟨g, 0, none⟩) i.toNat cap, .func (.func 87) #[] #[.pointer (some ⟨F, 0, none⟩), .pointer (some ⟨Lb, 0, none⟩), .pointer (some ⟨I, 0, none⟩)]] w fun e w' => e = .returned (.bool (!front t L i.toNat)) ∧ ∃ q, w' = w.drewN q := by
  have nx : Hnum x := by rw [← hx]; exact hrd_num L hn i h0 h1
  have hfr : ((L.map fin16).take i.toNat).any (fun z => !t (z.val : Int) x) = !front t L i.toNat := by
    unfold front
    rw [← List.map_take, any_front t x (L.take i.toNat) (fun y hy => hn y (List.mem_of_mem_take hy)), Int.toNat_of_nonneg h0, hx]
  rw [← hfr]
  refine Try.slices_ContainsFunc (fun z : Fin 16 => Value.int .i64 (z.val : Int)) (fun z => !t (z.val : Int) x) 87 _ (enters_of Try.func87 (by kernel_rfl) rfl) g 0 i.toNat cap (L.map fin16) w ?_ (by rw [List.length_map]; omega) (by omega) ?_
  · intro W z hb
    have hcW := hc i.toNat (by omega)
    rw [Int.toNat_of_nonneg h0, hx] at hcW
    refine stands_calls F Lb I t (z.val : Int) x i ⟨g, 0, none⟩ L.length cap W (hT.below hF hb) ((hb.cell (p := ⟨Lb, 0, none⟩) hLb).trans hL) ((hb.cell (p := ⟨I, 0, none⟩) hIb).trans hI) h0 h1 ?_ (num_fin z) nx
    have hadd : (⟨g, 0, none⟩ : Addr).add i.toNat = ⟨g, i.toNat, none⟩ := by unfold Addr.add; split <;> simp_all
    rw [hadd]
    exact (hb.cell (p := ⟨g, i.toNat, none⟩) hg).trans hcW
  · intro j hj
    rw [List.length_map] at hj
    have e : (L.map fin16)[j]! = fin16 (rd L (j : Int)) := by
      rw [getElem!_pos (L.map fin16) j (by rw [List.length_map]; exact hj), List.getElem_map]
      congr 1
      unfold rd; rw [Int.toNat_natCast, List.getD_eq_getElem?_getD, List.getElem?_eq_getElem hj]; rfl
    rw [Nat.zero_add, hc j hj, e, fin16_num (hrd_num L hn j (by omega) (by omega))]
theorem delete_calls (L : List Int) (v : Value) (base : Nat) (ok : Nat → Prop) (b : Nat) (hb : b < L.length) (w : World) (hR : Kd.R (Kd.int .i64) 3 w base ok v L) :
    Calls Try.prog 88 #[v, .int .i64 (b : Int), .int .i64 ((b : Int) + 1)] w fun e w' => ∃ v', e = .returned v' ∧ Kd.R (Kd.int .i64) 3 w' base ok v' (L.take b ++ L.drop (b + 1)) ∧ v'.ownBlock = v.ownBlock ∧ w.grownBy w' v.ownBlock := by
  have ho := Kd.own_of_R hR
  have hok := hR.1
  obtain ⟨h1, h2⟩ := ho
  rcases h2 with ⟨_, h0⟩ | ⟨g, cap, cur, rfl, hbg, hh, hlc, hm, hs, ht⟩
  · omega
  have hlenN : (L.take b ++ L.drop (b + 1)).length = L.length - 1 := by rw [List.length_append, List.length_take, List.length_drop]; omega
  rw [Nat.mul_one] at hs ht
  have hcell : ∀ j, j < L.length → w.cell? ⟨g, 0 + j, none⟩ = some (.int .i64 (L.getD j 0)) := fun j hj => by
    rw [Nat.zero_add, cell_of_row w g j cur 3 (0, 0) hh, ← Array.getElem?_toList]
    have : (cur.toList.take L.length)[j]? = cur.toList[j]? := by rw [List.getElem?_take, if_pos hj]
    rw [← this, ht]
    unfold encs
    rw [List.getElem?_map, List.getElem?_eq_getElem hj, List.getD_eq_getElem?_getD, List.getElem?_eq_getElem hj]; rfl
  have hcall := Try.slices_Delete_int_cells g 0 L.length cap b (b + 1) L w (Nat.le_refl _) hlc (by unfold maxLen at hm; omega) (by omega) (by omega) hcell (fun j hj => by
    unfold World.frozen?
    rw [hh]; simp)
  rw [List.take_length, show b + 1 - b = 1 by omega] at hcall
  refine hcall.mono ?_
  rintro e w' ⟨rfl, q, rfl⟩
  have hh' : (w.drewN q).heap[g]? = some (.cells cur 3 (0, 0)) := hh
  have hvl : ((L.take b ++ L.drop (b + 1) ++ List.replicate 1 (0 : Int)).map (Value.int .i64)).length = L.length := by rw [List.length_map, List.length_append, List.length_replicate, hlenN]; omega
  obtain ⟨cur', hr1, hr2, hr3⟩ := setCells_row (e := 3) _ 0 (w.drewN q) cur hh' (by rw [hvl]; omega)
  obtain ⟨s1, s2, s3, s4⟩ := setCells_same g ((L.take b ++ L.drop (b + 1) ++ List.replicate 1 (0 : Int)).map (Value.int .i64)) 0 (w.drewN q)
  refine ⟨_, rfl, Kd.R_of_own ⟨by simp [encs], .inr ⟨g, cap, cur', by rw [hlenN], hbg, hr1, by omega, hm, by rw [hr2, hs, Nat.mul_one], ?_⟩⟩ hok, rfl, ⟨s1, s2, s3, by rw [s4]; exact Nat.le_refl _, fun k hk hne => setCells_far _ 0 k (fun z => hne (by rw [z]; rfl))⟩⟩
  rw [hr3, List.take_zero, List.nil_append, Nat.mul_one, List.take_append_of_le_length (by rw [hvl, hlenN]; omega), List.map_append, List.take_append_of_le_length (by rw [List.length_map]; exact Nat.le_refl _), List.take_of_length_le (by rw [List.length_map]; exact Nat.le_refl _)]
  rfl
end Go.Proofs.Ytfcjfjmjcmanaaa.X
set_option linter.unusedVariables false
namespace Go.Proofs.Ytfcjfjmjcmanaaa.X
open Go.RowKit Go.Proofs.Ytfcjfjmjcmanaaa.PNums Go.Proofs.YtfcjfjmjcmanaaaW.PrintWords Go.Proofs.YtfcjfjmjcmanaaaW.PrintLast Go.Proofs.YtfcjfjmjcmanaaaW.PrintMore
theorem make0 (n : Nat) (hn : n ≤ 512) (W : World) : (Instr.makeSlice 26 (.int .i64 0) (.int .i64 (n : Int))).run Try.prog W = .ok (.slice (some ⟨W.heap.size, 0, none⟩) 0 n) (W.alloc (.cells (madeCells #[.int .i64 0] n) 3)) := by
  obtain ⟨i, hi, hzz⟩ := Option.map_eq_some_iff.1 info3
  simp only [Prod.mk.injEq] at hzz
  obtain ⟨hz, hs, hb⟩ := hzz
  have hr := run_make (P := Try.prog) W 26 3 i (.int .i64 0) Try.underlying26 hi hz .i64 .i64 0 (n : Int) (by omega) (by omega) (by rw [hb]; omega) (by omega)
  simp only [Int.toNat_natCast, hs, Nat.mul_one] at hr
  exact hr
theorem made_R (n : Nat) (hn : n ≤ 512) (W : World) (ok : Nat → Prop) (hk : ok W.heap.size) : Kd.R (Kd.int .i64) 3 (W.alloc (.cells (madeCells #[.int .i64 0] n) 3)) W.heap.size ok (.slice (some ⟨W.heap.size, 0, none⟩) 0 n) ([] : List Int) :=
  Kd.R_of_own ⟨rfl, .inr ⟨W.heap.size, n, _, rfl, Nat.le_refl _, heap_alloc_last W _, Nat.zero_le _, by unfold maxLen; omega, by rw [size_madeCells, Nat.mul_one], by simp [encs]⟩⟩ (fun k hk' => by
    obtain rfl : W.heap.size = k := by simpa [Value.ownBlock] using hk'
    exact hk)
theorem own_form {W : World} {base : Nat} {ok : Nat → Prop} {v : Value} {L : List Int} (h : Kd.R (Kd.int .i64) 3 W base ok v L) (hp : 0 < L.length) :
    ∃ g cap, v = .slice (some ⟨g, 0, none⟩) L.length cap ∧ base ≤ g ∧ ok g ∧ g < W.heap.size ∧ L.length ≤ cap ∧ ∀ j : Nat, j < L.length → W.cell? ⟨g, j, none⟩ = some (.int .i64 (rd L (j : Int))) := by
  have hok := h.1
  obtain ⟨h1, h2⟩ := Kd.own_of_R h
  rcases h2 with ⟨_, h0⟩ | ⟨g, cap, cur, rfl, hbg, hh, hlc, hm, hs, ht⟩
  · omega
  rw [Nat.mul_one] at ht
  refine ⟨g, cap, rfl, hbg, hok g rfl, (Array.getElem?_eq_some_iff.1 hh).1, hlc, fun j hj => ?_⟩
  rw [cell_of_row W g j cur 3 (0, 0) hh, ← Array.getElem?_toList]
  have : (cur.toList.take L.length)[j]? = cur.toList[j]? := by rw [List.getElem?_take, if_pos hj]
  rw [← this, ht]
  unfold encs rd
  rw [List.getElem?_map, List.getElem?_eq_getElem hj, Int.toNat_natCast, List.getD_eq_getElem?_getD, List.getElem?_eq_getElem hj]; rfl
theorem Tab.grown {W W' : World} {B : Nat} {f : Int → Int → Bool} {row : Option Nat} (h : Tab W B f) (hg : W.grownBy W' row) (hne : some B ≠ row) : Tab W' B f := by
  obtain ⟨cs, hr, hs, hc⟩ := h
  exact ⟨cs, (hg.block B hr.lt hne).trans hr, hs, hc⟩
theorem boxed_grown {W W' : World} {B : Nat} {t : TypeId} {v : Value} {row : Option Nat} (h : Boxed W B t v) (hg : W.grownBy W' row) (hne : some B ≠ row) : Boxed W' B t v := (hg.block B h.lt hne).trans h
theorem boxed_below {W W' : World} {B n : Nat} {t : TypeId} {v : Value} (h : Boxed W B t v) (hn : B < n) (hb : Below n W W') : Boxed W' B t v := (hb.block B hn).trans h
theorem boxed_set {W : World} {B : Nat} {t : TypeId} {v : Value} (h : Boxed W B t v) (u : Value) : Boxed (W.setCell ⟨B, 0, none⟩ u) B t u := by
  unfold Boxed at h ⊢
  have hl := (Array.getElem?_eq_some_iff.1 h).1
  have hv := (Array.getElem?_eq_some_iff.1 h).2
  unfold World.setCell
  rw [Array.getElem?_eq_getElem (by simp; exact hl), Array.getElem_modify, if_pos rfl, hv]
  rfl
/-- What the walk of Least keeps while it looks for the best: nothing of it is written. -/
structure Keep (W : World) (n F Lb : Nat) (t : Int → Int → Bool) (vl vo : Value) (L out : List Int) (w : World) : Prop where
  tab : Tab W F t
  box : Boxed W Lb 26 vl
  left : Kd.R (Kd.int .i64) 3 W n (fun k => k < Lb ∧ F < k) vl L
  out : Kd.R (Kd.int .i64) 3 W (Lb + 1) (fun k => Lb < k) vo out
  below : Below w.heap.size w W
theorem Keep.later {W W' : World} {n F Lb : Nat} {t : Int → Int → Bool} {vl vo : Value} {L out : List Int} {w : World} (h : Keep W n F Lb t vl vo L out w) (hb : Below W.heap.size W W') : Keep W' n F Lb t vl vo L out w := by
  obtain ⟨cs, hr, _⟩ := h.tab
  exact ⟨h.tab.below hr.lt hb, boxed_below h.box h.box.lt hb, Kd.R_below h.left hb, Kd.R_below h.out hb, below_step h.below hb⟩
theorem Keep.pushed {W W' : World} {n F Lb : Nat} {t : Int → Int → Bool} {vl vo vo' : Value} {L out out' : List Int} {w : World} (h : Keep W n F Lb t vl vo L out w) (hF : F < Lb) (hw : w.heap.size ≤ Lb) (hg : W.grownBy W' vo.ownBlock) (ho : Kd.R (Kd.int .i64) 3 W' (Lb + 1) (fun k => Lb < k) vo' out') : Keep W' n F Lb t vl vo' L out' w := by
  have h1 := h.out.1
  refine ⟨h.tab.grown hg (fun z => by have := h1 F z.symm; omega), boxed_grown h.box hg (fun z => by have := h1 Lb z.symm; omega), Kd.R_step h.left (fun k hk hl => hg.block k hl (fun z => by have := h1 k z.symm; omega)), ho, pw_below_grown h.below _ h.below.size hg (fun k hk => by have := h1 k hk; omega)⟩
theorem Keep.cut {W W' : World} {n F Lb : Nat} {t : Int → Int → Bool} {vl vo vl' : Value} {L out L' : List Int} {w : World} (h : Keep W n F Lb t vl vo L out w) (hn : w.heap.size ≤ n) (hL : w.heap.size ≤ Lb) (hg : W.grownBy W' vl.ownBlock) (hl : Kd.R (Kd.int .i64) 3 W' n (fun k => k < Lb ∧ F < k) vl' L') : Keep (W'.setCell ⟨Lb, 0, none⟩ vl') n F Lb t vl' vo L' out w := by
  have h1 := h.left.1
  have hge : ∀ k, vl.ownBlock = some k → n ≤ k := fun k hk => by
    obtain ⟨_, h2⟩ := Kd.own_of_R h.left
    rcases h2 with ⟨rfl, _⟩ | ⟨g, cap, cur, rfl, hbg, _⟩
    · simp [Value.ownBlock] at hk
    · simp [Value.ownBlock] at hk; omega
  have hbox : Boxed W' Lb 26 vl := boxed_grown h.box hg (fun z => by have := h1 Lb z.symm; omega)
  have hF : F ≠ Lb := by
    intro z; subst z
    obtain ⟨cs, hr, hs, _⟩ := h.tab
    have hb := h.box
    unfold Boxed at hb
    unfold Row at hr
    rw [hb] at hr
    injection hr with hr
    injection hr with hr
    rw [← hr] at hs
    simp at hs
  refine ⟨(h.tab.grown hg (fun z => by have := h1 F z.symm; omega)).far _ _ hF, boxed_set hbox _, Kd.R_far hl (fun k hk => by show k ≠ Lb; omega) _, Kd.R_far (Kd.R_step h.out (fun k hk hl => hg.block k hl (fun z => by have := h1 k z.symm; omega))) (fun k hk => by show k ≠ Lb; omega) _, (pw_below_grown h.below _ h.below.size hg (fun k hk => by have := hge k hk; omega)).setCell (p := ⟨Lb, 0, none⟩) hL _⟩
end Go.Proofs.Ytfcjfjmjcmanaaa.X
set_option linter.unusedVariables false
namespace Go.Proofs.Ytfcjfjmjcmanaaa.X
open Go.RowKit Go.Proofs.Ytfcjfjmjcmanaaa.PNums Go.Proofs.YtfcjfjmjcmanaaaW.PrintWords Go.Proofs.YtfcjfjmjcmanaaaW.PrintLast Go.Proofs.YtfcjfjmjcmanaaaW.PrintMore
theorem p_step (L : List Int) (t : Int → Int → Bool) (i v e : Int) (W1 wq : World) (hs : pb t L (i + 1).toNat = e) (hw : wrap64 (i + 1) = i + 1) (hi : 0 ≤ i ∧ i < (L.length : Int)) (he : e = v) (hb : Below W1.heap.size W1 wq) :
    (∃ i1 : Int, Value.int IntKind.i64 v = Value.int IntKind.i64 (pb t L i1.toNat) ∧ Value.int IntKind.i64 (wrap64 (i + 1)) = Value.int IntKind.i64 i1 ∧ Aside0 (0 ≤ i1 ∧ i1 ≤ (L.length : Int)) ∧ Aside0 (Below W1.heap.size W1 wq)) ∧
    ((L.length : Int) - intOf (Value.int IntKind.i64 (wrap64 (i + 1)))).toNat < ((L.length : Int) - intOf (Value.int IntKind.i64 i)).toNat := by
  rw [hw]
  exact ⟨⟨i + 1, by rw [hs, he], rfl, ⟨by omega⟩, ⟨hb⟩⟩, by simp only [intOf]; omega⟩
set_option maxRecDepth 100000 in
set_option maxHeartbeats 8000000 in
theorem pl_good (A0 : Option Addr) (c0 : Nat) (l : List Int) (A1 : Option Addr) (c1 : Nat) (ps : List (Int × Int)) (w : World) (hr0 : Kd.C (Kd.int .i64) w A0 l.length l) (hc0 : l.length ≤ c0) (hr1 : Kd.C Kp w A1 ps.length ps)
    (hl : l.length ≤ 512) (hp : ps.length ≤ 256) (hn : ∀ x ∈ l, Hnum x) (hok : PairsOk ps) :
    Calls Try.prog 36 #[.slice A0 l.length c0, .slice A1 ps.length c1] w fun e w' => ∃ A c, e = .returned (.tuple #[.slice A l.length c, .int .i64 0]) ∧ l.length ≤ c ∧ Kd.C (Kd.int .i64) w' A l.length (lst (tab ps) l.length l) ∧ Below w.heap.size w w' := by
  have HR0 := Aside0.mk hr0
  have HC0 := Aside0.mk hc0
  have HR1 := Aside0.mk hr1
  have HL := Aside0.mk hl
  have HP := Aside0.mk hp
  have HN := Aside0.mk hn
  have HOK := Aside0.mk hok
  have hlb : decide ((l.length : Int) > 512) = false := decide_eq_false (by omega)
  have hpb : decide ((ps.length : Int) > 256) = false := decide_eq_false (by omega)
  clear hr0 hc0 hr1 hl hp hn hok
  go_enter Try.func36, Try.ntmps36
  go_wp2
  go_loopw [27] (fun p wr => ∃ i : Int, p = .int .i64 i ∧ Aside0 (0 ≤ i ∧ i ≤ (l.length : Int)) ∧ Drawn0 w wr) (fun p _ => ((l.length : Int) - intOf p).toNat)
  case atStart => exact ⟨0, rfl, ⟨by omega⟩, by repeat (first | exact Drawn0.refl _ | apply Drawn0.step)⟩
  case round =>
    obtain ⟨i, rfl, Hi, ⟨m1, rfl⟩⟩ := hrel
    by_cases hlt : i < (l.length : Int)
    · have p0 : 0 ≤ i := Hi.out.1
      obtain ⟨ad, rfl, hxc⟩ := Kd.at_int HR0.out i p0 hlt
      have hltb : decide (i < (l.length : Int)) = true := decide_eq_true hlt
      have nx := hrd_num l HN.out i p0 hlt
      have hw1 : wrap64 (i + 1) = i + 1 := hwrId (by omega) (by have := HL.out; omega)
      have HI := Aside0.mk (show 0 ≤ i ∧ i < (l.length : Int) from ⟨p0, hlt⟩)
      have dn : decide (Hnum (rd l i)) = true := decide_eq_true nx
      obtain ⟨x, hx⟩ : ∃ x, rd l i = x := ⟨_, rfl⟩
      rw [hx] at hxc dn
      replace p0 := eq_true p0
      replace hlt := eq_true hlt
      clear hx nx
      go_wp2_with (go_at_call 84; refine (right_calls x _).mono ?_; rintro e w1 ⟨rfl, ⟨m2, rfl⟩⟩; rw [dn])
      exact ⟨⟨wrap64 (i + 1), rfl, ⟨by rw [hw1]; have := HI.out; omega⟩, ⟨_, rfl⟩⟩, by rw [hw1]; simp only [intOf]; have := HI.out; omega⟩
    · have hltb : decide (i < (l.length : Int)) = false := decide_eq_false hlt
      clear hlt Hi
      have HT0 := Aside0.mk (Tab.new (w.drewN m1))
      have HB0 := Aside0.mk ((pw_below_drewN (Below.refl w.heap.size w) m1).alloc (Nat.le_refl _) (.cells Try.zeroCells118 118))
      go_wp2
      go_loopw [38] (fun p wr => ∃ i : Int, p = .int .i64 i ∧ Aside0 (0 ≤ i ∧ i ≤ (ps.length : Int)) ∧ Aside0 (Tab wr w.heap.size (tab (ps.take i.toNat))) ∧ Aside0 (Below w.heap.size w wr)) (fun p _ => ((ps.length : Int) - intOf p).toNat)
      case atStart => exact ⟨0, rfl, ⟨by omega⟩, ⟨HT0.out.congr fun x y _ _ => by simp [tab]⟩, HB0⟩
      case round =>
        clear HT0 HB0
        obtain ⟨i, rfl, Hi, HT, HB⟩ := hrel
        by_cases hlt : i < (ps.length : Int)
        · have p0 : 0 ≤ i := Hi.out.1
          obtain ⟨ad, rfl, hpa⟩ := at_pair HR1.out i p0 hlt
          have hblk := hpa.lt
          have hok' := HOK.out _ (pd_mem ps i p0 hlt)
          have hw1 := wrn (l := ps) (by have := HP.out; omega) p0 hlt
          have hltb : decide (i < (ps.length : Int)) = true := decide_eq_true hlt
          have HI := Aside0.mk (show 0 ≤ i ∧ i < (ps.length : Int) from ⟨p0, hlt⟩)
          replace p0 := eq_true p0
          replace hlt := eq_true hlt
          obtain ⟨⟨x, y⟩, hx⟩ : ∃ x, pd ps i = x := ⟨_, rfl⟩
          rw [hx] at hpa hok'
          have HX := Aside0.mk hx
          clear hx
          obtain ⟨hc1, hc3⟩ := hpa.below hblk HB.out
          have hc2 : wr.cell? ((ad.add (i.toNat * 2)).add 1) = some (.int .i64 y) := by rw [add_add, add_next]; exact hc3
          obtain ⟨nx, ny⟩ := hok'
          have HNx := Aside0.mk nx
          have HNy := Aside0.mk ny
          have dnx : decide (Hnum x) = true := decide_eq_true nx
          have dny : decide (Hnum y) = true := decide_eq_true ny
          clear hblk hpa
          have HT2 := Aside0.mk (HT.out.below (n := w.heap.size + 1) (Nat.lt_succ_self _) (W' := wr.alloc (.cells #[.int .i64 x, .int .i64 y] 58)) ((Below.refl _ _).alloc (by obtain ⟨cs, hr, _⟩ := HT.out; exact hr.lt) _))
          have HB2 := Aside0.mk (HB.out.alloc HB.out.size (.cells #[.int .i64 x, .int .i64 y] 58))
          by_cases hn : x = y
          · have hnb : (x != y) = false := bne_eq_false_iff_eq.2 hn
            have HN := Aside0.mk hn
            clear hn nx ny
            go_wp2_with (first | (go_at_call 84; refine (right_calls x _).mono ?_; rintro e w1 ⟨rfl, ⟨m2, rfl⟩⟩; rw [dnx]) | (go_at_call 84; refine (right_calls y _).mono ?_; rintro e w1 ⟨rfl, ⟨m3, rfl⟩⟩; rw [dny]))
            exact ⟨⟨wrap64 (i + 1), rfl, ⟨by rw [hw1]; have := HI.out; omega⟩, ⟨by rw [hw1]; exact HT2.out.congr fun a b _ _ => (tab_step_eq ps i HI.out.1 HI.out.2 x y HX.out HN.out a b).symm⟩, ⟨pw_below_drewN HB2.out _⟩⟩, by rw [hw1]; simp only [intOf]; have := HI.out; omega⟩
          · have hnb : (x != y) = true := bne_iff_ne.2 hn
            have HN := Aside0.mk hn
            clear hn nx ny
            go_wp2_with (first | (go_at_call 84; refine (right_calls x _).mono ?_; rintro e w1 ⟨rfl, ⟨m2, rfl⟩⟩; rw [dnx]) | (go_at_call 84; refine (right_calls y _).mono ?_; rintro e w1 ⟨rfl, ⟨m3, rfl⟩⟩; rw [dny]))
            have hx0 : ((wr.alloc (.cells #[.int .i64 x, .int .i64 y] 58)).drewN (m2 + m3)).cell? ⟨wr.heap.size, 0, none⟩ = some (.int .i64 x) := (World.cell?_alloc_new _ _ _ _).trans rfl
            have hx1 : ((wr.alloc (.cells #[.int .i64 x, .int .i64 y] 58)).drewN (m2 + m3)).cell? ⟨wr.heap.size, 1, none⟩ = some (.int .i64 y) := (World.cell?_alloc_new _ _ _ _).trans rfl
            have HT3 : Aside0 (Tab ((wr.alloc (.cells #[.int .i64 x, .int .i64 y] 58)).drewN (m2 + m3)) w.heap.size (tab (ps.take i.toNat))) := ⟨HT2.out⟩
            have HB3 := Aside0.mk (pw_below_drewN HB2.out (m2 + m3))
            generalize (wr.alloc (.cells #[.int .i64 x, .int .i64 y] 58)).drewN (m2 + m3) = W2 at hx0 hx1 HT3 HB3 ⊢
            have hBF : wr.heap.size ≠ w.heap.size := by obtain ⟨cs, hr, _⟩ := HT.out; exact Nat.ne_of_gt hr.lt
            have HBF := Aside0.mk hBF
            generalize wr.heap.size = B at hx0 hx1 hBF HBF ⊢
            clear HT HB HT2 HB2 hc1 hc2 hc3 dnx dny hBF
            obtain ⟨hxy, fxy⟩ := HT3.out.cell HNx.out HNy.out
            obtain ⟨hyx, fyx⟩ := HT3.out.cell HNy.out HNx.out
            have px0 : 0 ≤ x := HNx.out.1
            have px1 : x < 16 := HNx.out.2
            have py0 : 0 ≤ y := HNy.out.1
            have py1 : y < 16 := HNy.out.2
            have HT4 := Aside0.mk (HT3.out.set HNx.out HNy.out)
            have HB4 := Aside0.mk (HB3.out.setCell (p := ⟨w.heap.size, x.toNat * 16 + y.toNat, none⟩) (Nat.le_refl _) (.bool true))
            have hz0 : (W2.setCell ⟨w.heap.size, x.toNat * 16 + y.toNat, none⟩ (.bool true)).cell? ⟨B, 0, none⟩ = some (.int .i64 x) := by rw [World.cell?_setCell_other _ _ _ _ (by intro z; injection z with z; exact HBF.out z.symm)]; exact hx0
            have hz1 : (W2.setCell ⟨w.heap.size, x.toNat * 16 + y.toNat, none⟩ (.bool true)).cell? ⟨B, 1, none⟩ = some (.int .i64 y) := by rw [World.cell?_setCell_other _ _ _ _ (by intro z; injection z with z; exact HBF.out z.symm)]; exact hx1
            obtain ⟨hy2, fy2⟩ := HT4.out.cell HNy.out HNx.out
            go_region
            go_wp2
            exact ⟨⟨wrap64 (i + 1), rfl, ⟨by rw [hw1]; have := HI.out; omega⟩, ⟨by rw [hw1]; exact (HT4.out.set HNy.out HNx.out).congr fun a b _ _ => (tab_step_ne ps i HI.out.1 HI.out.2 x y HX.out HN.out a b).symm⟩, ⟨below_drew1 (HB4.out.setCell (p := ⟨w.heap.size, y.toNat * 16 + x.toNat, none⟩) (Nat.le_refl _) (.bool true))⟩⟩, by rw [hw1]; simp only [intOf]; have := HI.out; omega⟩
        · --TAIL
          have hltb : decide (i < (ps.length : Int)) = false := decide_eq_false hlt
          have HTl : Aside0 (Tab wr w.heap.size (tab ps)) := ⟨by have := HT.out; rwa [List.take_of_length_le (by have := Hi.out; omega)] at this⟩
          have HF : Aside0 (w.heap.size < wr.heap.size) := ⟨by obtain ⟨cs, hr, _⟩ := HTl.out; exact hr.lt⟩
          have hmk := make0 l.length HL.out
          clear hlt Hi HT
          go_wp2_with (go_at_call 85; refine (slices_Clone.calls A0 c0 l l _ (Kd.C_below HR0.out HB.out) HC0.out (by unfold slices_Clone.f; rw [if_pos (by have := HL.out; omega)])).mono ?_; rintro e w3 ⟨vl, rfl, hvl, B3⟩; obtain ⟨Al, cl, rfl⟩ := Kd.R_slice hvl; have HVL := Aside0.mk hvl; have HB3 := Aside0.mk B3; clear hvl B3)
          have HK : Aside0 (Keep ((w3.alloc (.cells #[.slice Al l.length cl] 26)).alloc (.cells (madeCells #[.int .i64 0] l.length) 3)) wr.heap.size w.heap.size w3.heap.size (tab ps) (.slice Al l.length cl) (.slice (some ⟨w3.heap.size + 1, 0, none⟩) 0 l.length) l [] w) := ⟨by
            have h1 := HVL.out
            have h3 := HB3.out.size
            have h4 := HF.out
            have hb1 : Below w3.heap.size w3 (w3.alloc (.cells #[.slice Al l.length cl] 26)) := (Below.refl _ _).alloc (Nat.le_refl _) _
            have hb2 : Below (w3.alloc (.cells #[.slice Al l.length cl] 26)).heap.size (w3.alloc (.cells #[.slice Al l.length cl] 26)) ((w3.alloc (.cells #[.slice Al l.length cl] 26)).alloc (.cells (madeCells #[.int .i64 0] l.length) 3)) := (Below.refl _ _).alloc (Nat.le_refl _) _
            have hb3 : Below w3.heap.size w3 ((w3.alloc (.cells #[.slice Al l.length cl] 26)).alloc (.cells (madeCells #[.int .i64 0] l.length) 3)) := hb1.trans (hb2.mono (by simp))
            have hmR := made_R l.length HL.out (w3.alloc (.cells #[.slice Al l.length cl] 26)) (fun k => w3.heap.size < k) (by simp)
            rw [World.size_alloc] at hmR
            refine ⟨(HTl.out.below (n := wr.heap.size) h4 HB3.out).below (n := w3.heap.size) (by omega) hb3, boxed_below (Boxed.new w3 26 (.slice Al l.length cl)) (by simp) hb2, Kd.R_below (R_ok h1 (fun k hk => ?_)) hb3, hmR, below_step (below_step HB.out HB3.out) hb3⟩
            obtain ⟨_, h2⟩ := Kd.own_of_R h1
            rcases h2 with ⟨e1, _⟩ | ⟨g, cap, cur, e1, hbg, hh, _⟩
            · rw [e1] at hk; simp [Value.ownBlock] at hk
            · rw [e1] at hk
              obtain rfl : g = k := by simpa [Value.ownBlock] using hk
              exact ⟨(Array.getElem?_eq_some_iff.1 hh).1, by omega⟩⟩
          have HWN := Aside0.mk HB.out.size
          have HFL : Aside0 (w.heap.size < w3.heap.size) := ⟨by have := HF.out; have := HB3.out.size; omega⟩
          clear hmk HVL HB3 HTl HF HB
          generalize (w3.alloc (.cells #[.slice Al l.length cl] 26)).alloc (.cells (madeCells #[.int .i64 0] l.length) 3) = W0 at HK ⊢
          generalize wr.heap.size = n0 at HK HWN
          generalize w3.heap.size = Lb at HK HFL ⊢
          go_loopw [13] (fun vo wr => ∃ (L out : List Int) (vl : Value), Aside0 (Keep wr n0 w.heap.size Lb (tab ps) vl vo L out w) ∧ Aside0 (out ++ lst (tab ps) L.length L = lst (tab ps) l.length l) ∧ Aside0 (out.length + L.length = l.length) ∧ Aside0 (∀ x ∈ L, Hnum x)) (fun vo _ => l.length - lenOf vo)
          case atStart => exact ⟨l, [], _, HK, ⟨by simp⟩, ⟨by simp⟩, HN⟩
          case round =>
            clear HK
            obtain ⟨L, out, vl, HK, HE, HLEN, HNL⟩ := hrel
            rename World => W1
            have HL5 : Aside0 (L.length ≤ 512) := ⟨by have := HLEN.out; have := HL.out; omega⟩
            by_cases hpos : 0 < L.length
            · have hposb : decide (0 < L.length) = true := decide_eq_true hpos
              have HPOS := Aside0.mk hpos
              obtain ⟨g, cap, rfl, hng, ⟨hgL, hgF⟩, hgs, hcap, hcells⟩ := own_form HK.out.left hpos
              have HCELLS := Aside0.mk hcells
              have HG := Aside0.mk (And.intro hgs hcap)
              have hbox := HK.out.box.cell
              clear hpos hng hgL hgF hgs hcap hcells
              go_wp2
              go_loopw [14, 82] (fun vb vi wr => ∃ i : Int, vb = .int .i64 (pb (tab ps) L i.toNat) ∧ vi = .int .i64 i ∧ Aside0 (0 ≤ i ∧ i ≤ (L.length : Int)) ∧ Aside0 (Below W1.heap.size W1 wr)) (fun _ vi _ => ((L.length : Int) - intOf vi).toNat)
              case atStart => exact ⟨0, rfl, rfl, ⟨by omega⟩, ⟨Below.refl _ _⟩⟩
              case round =>
                obtain ⟨i, rfl, rfl, Hi, HB⟩ := hrel
                by_cases hlt : i < (L.length : Int)
                · have p0 : 0 ≤ i := Hi.out.1
                  have hltb : decide (i < (L.length : Int)) = true := decide_eq_true hlt
                  have HI := Aside0.mk (show 0 ≤ i ∧ i < (L.length : Int) from ⟨p0, hlt⟩)
                  have HBV := Aside0.mk (HB.out.alloc HB.out.size (.cells #[.int .i64 i] 3))
                  have HKV := Aside0.mk (HK.out.later HBV.out)
                  have hboxV := HKV.out.box.cell
                  have hIV := (Boxed.new wr 3 (.int .i64 i)).cell
                  have hgV : ∀ j : Nat, j < L.length → (wr.alloc (.cells #[.int .i64 i] 3)).cell? ⟨g, j, none⟩ = some (.int .i64 (rd L (j : Int))) := fun j hj => (HBV.out.cell (p := ⟨g, j, none⟩) HG.out.1).trans (HCELLS.out j hj)
                  have hpr := pb_range (tab ps) L i.toNat
                  have q0 : 0 ≤ pb (tab ps) L i.toNat := hpr.1
                  have q1 : pb (tab ps) L i.toNat < (L.length : Int) := by
                    by_cases hz : 0 < i.toNat
                    · have := hpr.2 hz; omega
                    · have e : i.toNat = 0 := by omega
                      rw [e]; show (0 : Int) < _; omega
                  have hst : pb (tab ps) L (i + 1).toNat = if front (tab ps) L i.toNat = true ∧ rd L i < rd L (pb (tab ps) L i.toNat) then i else pb (tab ps) L i.toNat := by
                    rw [show (i + 1).toNat = i.toNat + 1 by omega]
                    show (if front (tab ps) L i.toNat = true ∧ rd L (i.toNat : Int) < rd L (pb (tab ps) L i.toNat) then (i.toNat : Int) else pb (tab ps) L i.toNat) = _
                    rw [Int.toNat_of_nonneg p0]
                  obtain ⟨x, hx⟩ : ∃ x, rd L i = x := ⟨_, rfl⟩
                  have hct := contains_calls w.heap.size Lb wr.heap.size (tab ps) x i L g cap (wr.alloc (.cells #[.int .i64 i] 3)) HKV.out.tab hboxV hIV p0 hlt hx HNL.out HL5.out hgV (by obtain ⟨cs, hr, _⟩ := HKV.out.tab; exact hr.lt) HKV.out.box.lt (by simp) (Nat.lt_of_lt_of_le HG.out.1 HBV.out.size)
                  have hxi := hgV i.toNat (by omega)
                  rw [Int.toNat_of_nonneg p0, hx] at hxi
                  generalize hbst : pb (tab ps) L i.toNat = bst at q0 q1 hst ⊢
                  have hyb := hgV bst.toNat (by omega)
                  rw [Int.toNat_of_nonneg q0] at hyb
                  obtain ⟨y, hy⟩ : ∃ y, rd L bst = y := ⟨_, rfl⟩
                  rw [hy] at hyb hst
                  rw [hx] at hst
                  obtain ⟨b, hb⟩ : ∃ b, front (tab ps) L i.toNat = b := ⟨_, rfl⟩
                  rw [hb] at hct hst
                  have hwi := Aside0.mk (show wrap64 (i + 1) = i + 1 from hwrId (by omega) (by have := HL5.out; omega))
                  obtain ⟨i03, hi03, _, hsz3, _⟩ := info_parts info3
                  have hcut := cut_to (P := Try.prog) 26 3 .i64 Try.underlying26 hi03 (some ⟨g, 0, none⟩) L.length cap i p0 (by omega) HG.out.2
                  have HST := Aside0.mk hst
                  have HCT := Aside0.mk hct
                  have hxi2 : (wr.alloc (.cells #[.int .i64 i] 3)).cell? ((⟨g, 0, none⟩ : Addr).add i.toNat) = some (.int .i64 x) := by
                    rw [show (⟨g, 0, none⟩ : Addr).add i.toNat = ⟨g, i.toNat, none⟩ by unfold Addr.add; split <;> simp_all]; exact hxi
                  have hyb2 : (wr.alloc (.cells #[.int .i64 i] 3)).cell? ((⟨g, 0, none⟩ : Addr).add bst.toNat) = some (.int .i64 y) := by
                    rw [show (⟨g, 0, none⟩ : Addr).add bst.toNat = ⟨g, bst.toNat, none⟩ by unfold Addr.add; split <;> simp_all]; exact hyb
                  replace p0 := eq_true p0
                  replace hlt := eq_true hlt
                  replace q0 := eq_true q0
                  replace q1 := eq_true q1
                  clear hpr hgV hct hst hx hy hb hbst hi03 hsz3 Hi hbox
                  cases b with
                  | false =>
                    go_wp2_with (go_at_call 86; refine HCT.out.mono ?_; rintro e w6 ⟨rfl, q, rfl⟩)
                    go_quiet (fail)
                    go_wp2
                    exact p_step L (tab ps) i bst _ W1 _ HST.out hwi.out HI.out (by simp) (pw_below_drewN HBV.out _)
                  | true =>
                    by_cases hxy : x < y
                    · have hxyb : decide (x < y) = true := decide_eq_true hxy
                      have HXY := Aside0.mk hxy
                      clear hxy
                      go_wp2_with (go_at_call 86; refine HCT.out.mono ?_; rintro e w6 ⟨rfl, q, rfl⟩)
                      go_quiet (fail)
                      go_wp2
                      exact p_step L (tab ps) i i _ W1 _ HST.out hwi.out HI.out (by rw [if_pos ⟨trivial, HXY.out⟩]) (pw_below_drewN HBV.out _)
                    · have hxyb : decide (x < y) = false := decide_eq_false hxy
                      have HXY := Aside0.mk hxy
                      clear hxy
                      go_wp2_with (go_at_call 86; refine HCT.out.mono ?_; rintro e w6 ⟨rfl, q, rfl⟩)
                      go_quiet (fail)
                      go_wp2
                      exact p_step L (tab ps) i bst _ W1 _ HST.out hwi.out HI.out (by rw [if_neg (fun z => by have h2 := HXY.out; omega)]) (pw_below_drewN HBV.out _)
                · have hltb : decide (i < (L.length : Int)) = false := decide_eq_false hlt
                  have hpos := HPOS.out
                  have hii : i.toNat = L.length := by have := Hi.out; omega
                  rw [hii]
                  have hrr := rb_range (tab ps) L L.length
                  have hls := lst_step (tab ps) L hpos
                  have hpe : pb (tab ps) L L.length = rb (tab ps) L L.length := by
                    obtain ⟨n, hn⟩ : ∃ n, L.length = n + 1 := ⟨L.length - 1, by omega⟩
                    rw [hn]; exact pb_eq _ _ _
                  obtain ⟨bn, hbn⟩ : ∃ bn : Nat, rb (tab ps) L L.length = bn := ⟨(rb (tab ps) L L.length).toNat, by have := hrr.2.2 hpos; omega⟩
                  obtain ⟨hl1, hl2⟩ := hls (bn : Int) hbn.symm
                  rw [Int.toNat_natCast] at hl1 hl2
                  rw [hbn] at hrr
                  rw [hpe, hbn]
                  have q1 : bn < L.length := by omega
                  have HQ := Aside0.mk q1
                  obtain ⟨x, hx⟩ : ∃ x, rd L (bn : Int) = x := ⟨_, rfl⟩
                  rw [hx] at hl1
                  have HL1 := Aside0.mk hl1
                  have HL2 := Aside0.mk hl2
                  have hwb : wrap64 ((bn : Int) + 1) = (bn : Int) + 1 := hwrId (by omega) (by have := HL5.out; omega)
                  have HKw := Aside0.mk (HK.out.later HB.out)
                  have hboxw := HKw.out.box.cell
                  have hxc : wr.cell? ⟨g, bn, none⟩ = some (.int .i64 x) := by rw [← hx]; exact (HB.out.cell (p := ⟨g, bn, none⟩) HG.out.1).trans (HCELLS.out bn q1)
                  have hxc2 : wr.cell? ((⟨g, 0, none⟩ : Addr).add bn) = some (.int .i64 x) := by
                    rw [show (⟨g, 0, none⟩ : Addr).add bn = ⟨g, bn, none⟩ by unfold Addr.add; split <;> simp_all]; exact hxc
                  have HNL2 : Aside0 (∀ y ∈ L.take bn ++ L.drop (bn + 1), Hnum y) := ⟨fun y hy => by
                    rcases List.mem_append.1 hy with h | h
                    · exact HNL.out y (List.mem_of_mem_take h)
                    · exact HNL.out y (List.mem_of_mem_drop h)⟩
                  have q2 := eq_true (show (bn : Int) < (L.length : Int) by omega)
                  have q3 := eq_true (show (0 : Int) ≤ (bn : Int) by omega)
                  replace q1 := eq_true q1
                  clear hii hlt hpos hrr hls hl1 hl2 hx hpe hbn Hi hbox
                  go_wp2_with (first
                    | ((with_reducible refine gate_builtin (b := .append) (xs := #[.tmp 105, .tmp 110]) rfl ?_); at_builtin; refine Kd.R_append (Kd.int .i64) (w0 := wr) (Lb + 1) rfl (.tmp 105) (.tmp 110) 26 3 (.int .i64 0) 8 rfl Try.underlying26 info3 rfl (by decide) (by omega) u13 out x [.int .i64 x] (fun k => Lb < k) (fun _ => False) rfl rfl rfl (fun _ hk => hk.elim) (fun k hk => Nat.lt_of_lt_of_le HKw.out.box.lt hk) HKw.out.out (Below.refl _ _) HKw.out.box.lt (by have := HLEN.out; have := HL.out; have := HQ.out; omega) ?_; intro v5 w5 ho hb hg hat; have HK5 := Aside0.mk (HKw.out.pushed HFL.out (Nat.le_of_lt HFL.out) hg ho); have hbox5 := HK5.out.box.cell; clear ho hb hg hat hboxw hxc hxc2)
                    | (go_at_call 88; rw [hwb]; refine (delete_calls L _ n0 _ bn HQ.out _ HK5.out.left).mono ?_; rintro e w7 ⟨vl7, rfl, hR7, hob, hg7⟩; obtain ⟨A7, c7, rfl⟩ := Kd.R_slice hR7; have HB7 := Aside0.mk (boxed_grown HK5.out.box hg7 (fun z => by have := HK5.out.left.1 Lb z.symm; omega)); have HK7 := Aside0.mk (HK5.out.cut HWN.out (Nat.le_of_lt HFL.out) hg7 hR7); have hbox7 := HB7.out.cell; have hfr7 := HB7.out.frozen; clear hR7 hob hg7 hbox5))
                  have h7 := HK7.out
                  obtain ⟨A5, c5, e5⟩ := Kd.R_slice HK7.out.out
                  obtain ⟨A6, c6, e6⟩ := Kd.R_slice HKw.out.out
                  simp only [List.length_append, List.length_take, List.length_drop] at h7
                  exact ⟨⟨_, _, _, ⟨h7⟩, ⟨by rw [List.append_assoc, List.singleton_append, ← HL1.out]; exact HE.out⟩, ⟨by rw [List.length_append, List.length_singleton]; have := HL2.out; have := HLEN.out; omega⟩, HNL2⟩, by rw [e5, e6]; simp only [lenOf, List.length_append, List.length_singleton]; have := HLEN.out; have := HPOS.out; omega⟩
            · have hposb : decide (0 < L.length) = false := decide_eq_false hpos
              obtain rfl : L = [] := List.length_eq_zero_iff.1 (by omega)
              obtain ⟨Av, cv, rfl⟩ := Kd.R_slice HK.out.left
              have hbox := HK.out.box.cell
              obtain ⟨Ao, co, rfl, hco, hCo⟩ := Kd.R_reads HK.out.out
              have hE : out = lst (tab ps) l.length l := by have := HE.out; simpa [lst] using this
              have hlen : out.length = l.length := by have := HLEN.out; simpa using this
              rw [hE] at hCo
              have hll := lst_length (tab ps) l.length l
              rw [hll] at hCo
              rw [hlen] at hco
              have HCo := Aside0.mk hCo
              have Hco := Aside0.mk hco
              have HBW := Aside0.mk HK.out.below
              rw [hlen]
              clear hpos hE hlen hCo hco hll HK
              go_wp2
              go_ret2
              exact ⟨_, _, rfl, Hco.out, HCo.out, HBW.out⟩
end Go.Proofs.Ytfcjfjmjcmanaaa.X
set_option linter.unusedVariables false
namespace Go.Proofs.Ytfcjfjmjcmanaaa.X
open Go.RowKit Go.Proofs.Ytfcjfjmjcmanaaa.PNums Go.Proofs.YtfcjfjmjcmanaaaW.PrintWords Go.Proofs.YtfcjfjmjcmanaaaW.PrintLast Go.Proofs.YtfcjfjmjcmanaaaW.PrintMore
set_option maxRecDepth 100000
set_option maxHeartbeats 8000000
theorem pl_long (A0 : Option Addr) (c0 : Nat) (l : List Int) (A1 : Option Addr) (c1 : Nat) (ps : List (Int × Int)) (w : World) (hb : ¬ (l.length ≤ 512 ∧ ps.length ≤ 256)) :
    Calls Try.prog 36 #[.slice A0 l.length c0, .slice A1 ps.length c1] w fun e w' => e = .returned (.tuple #[.slice none 0 0, .int .i64 1]) ∧ Below w.heap.size w w' := by
  by_cases hl : (l.length : Int) > 512
  · have hlb : decide ((l.length : Int) > 512) = true := decide_eq_true hl
    clear hl hb
    go_enter Try.func36, Try.ntmps36
    go_wp2
    go_ret2
    exact ⟨rfl, by repeat (first | exact Below.refl w.heap.size w | apply pw_below_drewN | apply below_drew1)⟩
  · have hlb : decide ((l.length : Int) > 512) = false := decide_eq_false hl
    have hpb : decide ((ps.length : Int) > 256) = true := decide_eq_true (by omega)
    clear hl hb
    go_enter Try.func36, Try.ntmps36
    go_wp2
    go_ret2
    exact ⟨rfl, by repeat (first | exact Below.refl w.heap.size w | apply pw_below_drewN | apply below_drew1)⟩
theorem num_take (l : List Int) (i : Int) (h0 : 0 ≤ i) (h1 : i < (l.length : Int)) (h : ∀ x ∈ l.take i.toNat, Hnum x) (hx : Hnum (rd l i)) : ∀ x ∈ l.take (i + 1).toNat, Hnum x := by
  rw [show (i + 1).toNat = i.toNat + 1 by omega, htake_next l i h0 h1]
  intro y hy
  rcases List.mem_append.1 hy with hy | hy
  · exact h y hy
  · rw [List.mem_singleton.1 hy]; exact hx
theorem pl_num (A0 : Option Addr) (c0 : Nat) (l : List Int) (A1 : Option Addr) (c1 : Nat) (ps : List (Int × Int)) (w : World) (hr0 : Kd.C (Kd.int .i64) w A0 l.length l) (hc0 : l.length ≤ c0)
    (hl : l.length ≤ 512) (hp : ps.length ≤ 256) (hn : ¬ ∀ x ∈ l, Hnum x) :
    Calls Try.prog 36 #[.slice A0 l.length c0, .slice A1 ps.length c1] w fun e w' => e = .returned (.tuple #[.slice none 0 0, .int .i64 2]) ∧ Below w.heap.size w w' := by
  have HR0 := Aside0.mk hr0
  have HL := Aside0.mk hl
  have HN := Aside0.mk hn
  have hlb : decide ((l.length : Int) > 512) = false := decide_eq_false (by omega)
  have hpb : decide ((ps.length : Int) > 256) = false := decide_eq_false (by omega)
  clear hr0 hc0 hl hp hn
  go_enter Try.func36, Try.ntmps36
  go_wp2
  go_loopw [27] (fun p wr => ∃ i : Int, p = .int .i64 i ∧ Aside0 (0 ≤ i ∧ i ≤ (l.length : Int)) ∧ Aside0 (∀ x ∈ l.take i.toNat, Hnum x) ∧ Drawn0 w wr) (fun p _ => ((l.length : Int) - intOf p).toNat)
  case atStart => exact ⟨0, rfl, ⟨by omega⟩, ⟨by simp⟩, by repeat (first | exact Drawn0.refl _ | apply Drawn0.step)⟩
  case round =>
    obtain ⟨i, rfl, Hi, HT, ⟨m1, rfl⟩⟩ := hrel
    by_cases hlt : i < (l.length : Int)
    · have p0 : 0 ≤ i := Hi.out.1
      obtain ⟨ad, rfl, hxc⟩ := Kd.at_int HR0.out i p0 hlt
      have hltb : decide (i < (l.length : Int)) = true := decide_eq_true hlt
      have hw1 : wrap64 (i + 1) = i + 1 := hwrId (by omega) (by have := HL.out; omega)
      have HI := Aside0.mk (show 0 ≤ i ∧ i < (l.length : Int) from ⟨p0, hlt⟩)
      have hnt := num_take l i p0 hlt HT.out
      obtain ⟨x, hx⟩ : ∃ x, rd l i = x := ⟨_, rfl⟩
      rw [hx] at hxc hnt
      have HNT := Aside0.mk hnt
      replace p0 := eq_true p0
      replace hlt := eq_true hlt
      clear hx hnt
      by_cases nx : Hnum x
      · have dn : decide (Hnum x) = true := decide_eq_true nx
        have HNx := Aside0.mk nx
        clear nx
        go_wp2_with (go_at_call 84; refine (right_calls x _).mono ?_; rintro e w1 ⟨rfl, ⟨m2, rfl⟩⟩; rw [dn])
        exact ⟨⟨wrap64 (i + 1), rfl, ⟨by rw [hw1]; have := HI.out; omega⟩, ⟨by rw [hw1]; exact HNT.out HNx.out⟩, ⟨_, rfl⟩⟩, by rw [hw1]; simp only [intOf]; have := HI.out; omega⟩
      · have dn : decide (Hnum x) = false := decide_eq_false nx
        clear nx
        go_wp2_with (go_at_call 84; refine (right_calls x _).mono ?_; rintro e w1 ⟨rfl, ⟨m2, rfl⟩⟩; rw [dn])
        go_ret2
        exact ⟨rfl, pw_below_drewN (Below.refl _ _) _⟩
    · exfalso
      refine HN.out ?_
      have := HT.out
      rwa [List.take_of_length_le (by have := Hi.out; omega)] at this
theorem pair_take (l : List (Int × Int)) (i : Int) (h0 : 0 ≤ i) (h1 : i < (l.length : Int)) (h : PairsOk (l.take i.toNat)) (hx : Hnum (pd l i).1 ∧ Hnum (pd l i).2) : PairsOk (l.take (i + 1).toNat) := by
  rw [show (i + 1).toNat = i.toNat + 1 by omega, pd_take l i h0 h1]
  intro y hy
  rcases List.mem_append.1 hy with hy | hy
  · exact h y hy
  · rw [List.mem_singleton.1 hy]; exact hx
theorem pl_pair (A0 : Option Addr) (c0 : Nat) (l : List Int) (A1 : Option Addr) (c1 : Nat) (ps : List (Int × Int)) (w : World) (hr0 : Kd.C (Kd.int .i64) w A0 l.length l) (hc0 : l.length ≤ c0) (hr1 : Kd.C Kp w A1 ps.length ps)
    (hl : l.length ≤ 512) (hp : ps.length ≤ 256) (hn : ∀ x ∈ l, Hnum x) (hok : ¬ PairsOk ps) :
    Calls Try.prog 36 #[.slice A0 l.length c0, .slice A1 ps.length c1] w fun e w' => e = .returned (.tuple #[.slice none 0 0, .int .i64 2]) ∧ Below w.heap.size w w' := by
  have HR0 := Aside0.mk hr0
  have HC0 := Aside0.mk hc0
  have HR1 := Aside0.mk hr1
  have HL := Aside0.mk hl
  have HP := Aside0.mk hp
  have HN := Aside0.mk hn
  have HOK := Aside0.mk hok
  have hlb : decide ((l.length : Int) > 512) = false := decide_eq_false (by omega)
  have hpb : decide ((ps.length : Int) > 256) = false := decide_eq_false (by omega)
  clear hr0 hc0 hr1 hl hp hn hok
  go_enter Try.func36, Try.ntmps36
  go_wp2
  go_loopw [27] (fun p wr => ∃ i : Int, p = .int .i64 i ∧ Aside0 (0 ≤ i ∧ i ≤ (l.length : Int)) ∧ Drawn0 w wr) (fun p _ => ((l.length : Int) - intOf p).toNat)
  case atStart => exact ⟨0, rfl, ⟨by omega⟩, by repeat (first | exact Drawn0.refl _ | apply Drawn0.step)⟩
  case round =>
    obtain ⟨i, rfl, Hi, ⟨m1, rfl⟩⟩ := hrel
    by_cases hlt : i < (l.length : Int)
    · have p0 : 0 ≤ i := Hi.out.1
      obtain ⟨ad, rfl, hxc⟩ := Kd.at_int HR0.out i p0 hlt
      have hltb : decide (i < (l.length : Int)) = true := decide_eq_true hlt
      have nx := hrd_num l HN.out i p0 hlt
      have hw1 : wrap64 (i + 1) = i + 1 := hwrId (by omega) (by have := HL.out; omega)
      have HI := Aside0.mk (show 0 ≤ i ∧ i < (l.length : Int) from ⟨p0, hlt⟩)
      have dn : decide (Hnum (rd l i)) = true := decide_eq_true nx
      obtain ⟨x, hx⟩ : ∃ x, rd l i = x := ⟨_, rfl⟩
      rw [hx] at hxc dn
      replace p0 := eq_true p0
      replace hlt := eq_true hlt
      clear hx nx
      go_wp2_with (go_at_call 84; refine (right_calls x _).mono ?_; rintro e w1 ⟨rfl, ⟨m2, rfl⟩⟩; rw [dn])
      exact ⟨⟨wrap64 (i + 1), rfl, ⟨by rw [hw1]; have := HI.out; omega⟩, ⟨_, rfl⟩⟩, by rw [hw1]; simp only [intOf]; have := HI.out; omega⟩
    · have hltb : decide (i < (l.length : Int)) = false := decide_eq_false hlt
      clear hlt Hi
      have HT0 := Aside0.mk (Tab.new (w.drewN m1))
      have HB0 := Aside0.mk ((pw_below_drewN (Below.refl w.heap.size w) m1).alloc (Nat.le_refl _) (.cells Try.zeroCells118 118))
      go_wp2
      go_loopw [38] (fun p wr => ∃ i : Int, p = .int .i64 i ∧ Aside0 (0 ≤ i ∧ i ≤ (ps.length : Int)) ∧ Aside0 (PairsOk (ps.take i.toNat)) ∧ Aside0 (Tab wr w.heap.size (tab (ps.take i.toNat))) ∧ Aside0 (Below w.heap.size w wr)) (fun p _ => ((ps.length : Int) - intOf p).toNat)
      case atStart => exact ⟨0, rfl, ⟨by omega⟩, ⟨by simp [PairsOk]⟩, ⟨HT0.out.congr fun x y _ _ => by simp [tab]⟩, HB0⟩
      case round =>
        clear HT0 HB0
        obtain ⟨i, rfl, Hi, HPO, HT, HB⟩ := hrel
        by_cases hlt : i < (ps.length : Int)
        · have p0 : 0 ≤ i := Hi.out.1
          obtain ⟨ad, rfl, hpa⟩ := at_pair HR1.out i p0 hlt
          have hblk := hpa.lt
          have hpt := pair_take ps i p0 hlt HPO.out
          have hw1 := wrn (l := ps) (by have := HP.out; omega) p0 hlt
          have hltb : decide (i < (ps.length : Int)) = true := decide_eq_true hlt
          have HI := Aside0.mk (show 0 ≤ i ∧ i < (ps.length : Int) from ⟨p0, hlt⟩)
          replace p0 := eq_true p0
          replace hlt := eq_true hlt
          obtain ⟨⟨x, y⟩, hx⟩ : ∃ x, pd ps i = x := ⟨_, rfl⟩
          rw [hx] at hpa hpt
          have HPT := Aside0.mk hpt
          have HX := Aside0.mk hx
          clear hx
          obtain ⟨hc1, hc3⟩ := hpa.below hblk HB.out
          have hc2 : wr.cell? ((ad.add (i.toNat * 2)).add 1) = some (.int .i64 y) := by rw [add_add, add_next]; exact hc3
          clear hblk hpa hpt
          by_cases nx : Hnum x
          rotate_left
          · have dnx : decide (Hnum x) = false := decide_eq_false nx
            have HB2 := Aside0.mk (HB.out.alloc HB.out.size (.cells #[.int .i64 x, .int .i64 y] 58))
            clear nx
            go_wp2_with (go_at_call 84; refine (right_calls x _).mono ?_; rintro e w1 ⟨rfl, ⟨m2, rfl⟩⟩; rw [dnx])
            go_ret2
            exact ⟨rfl, pw_below_drewN HB2.out _⟩
          have HNx := Aside0.mk nx
          have dnx : decide (Hnum x) = true := decide_eq_true nx
          by_cases ny : Hnum y
          rotate_left
          · have dny : decide (Hnum y) = false := decide_eq_false ny
            have HB2 := Aside0.mk (HB.out.alloc HB.out.size (.cells #[.int .i64 x, .int .i64 y] 58))
            clear nx ny
            go_wp2_with (first | (go_at_call 84; refine (right_calls x _).mono ?_; rintro e w1 ⟨rfl, ⟨m2, rfl⟩⟩; rw [dnx]) | (go_at_call 84; refine (right_calls y _).mono ?_; rintro e w1 ⟨rfl, ⟨m3, rfl⟩⟩; rw [dny]))
            go_ret2
            exact ⟨rfl, pw_below_drewN HB2.out _⟩
          have HNy := Aside0.mk ny
          have dny : decide (Hnum y) = true := decide_eq_true ny
          have HT2 := Aside0.mk (HT.out.below (n := w.heap.size + 1) (Nat.lt_succ_self _) (W' := wr.alloc (.cells #[.int .i64 x, .int .i64 y] 58)) ((Below.refl _ _).alloc (by obtain ⟨cs, hr, _⟩ := HT.out; exact hr.lt) _))
          have HB2 := Aside0.mk (HB.out.alloc HB.out.size (.cells #[.int .i64 x, .int .i64 y] 58))
          by_cases hn : x = y
          · have hnb : (x != y) = false := bne_eq_false_iff_eq.2 hn
            have HN := Aside0.mk hn
            clear hn nx ny
            go_wp2_with (first | (go_at_call 84; refine (right_calls x _).mono ?_; rintro e w1 ⟨rfl, ⟨m2, rfl⟩⟩; rw [dnx]) | (go_at_call 84; refine (right_calls y _).mono ?_; rintro e w1 ⟨rfl, ⟨m3, rfl⟩⟩; rw [dny]))
            exact ⟨⟨wrap64 (i + 1), rfl, ⟨by rw [hw1]; have := HI.out; omega⟩, ⟨by rw [hw1]; exact HPT.out ⟨HNx.out, HNy.out⟩⟩, ⟨by rw [hw1]; exact HT2.out.congr fun a b _ _ => (tab_step_eq ps i HI.out.1 HI.out.2 x y HX.out HN.out a b).symm⟩, ⟨pw_below_drewN HB2.out _⟩⟩, by rw [hw1]; simp only [intOf]; have := HI.out; omega⟩
          · have hnb : (x != y) = true := bne_iff_ne.2 hn
            have HN := Aside0.mk hn
            clear hn nx ny
            go_wp2_with (first | (go_at_call 84; refine (right_calls x _).mono ?_; rintro e w1 ⟨rfl, ⟨m2, rfl⟩⟩; rw [dnx]) | (go_at_call 84; refine (right_calls y _).mono ?_; rintro e w1 ⟨rfl, ⟨m3, rfl⟩⟩; rw [dny]))
            have hx0 : ((wr.alloc (.cells #[.int .i64 x, .int .i64 y] 58)).drewN (m2 + m3)).cell? ⟨wr.heap.size, 0, none⟩ = some (.int .i64 x) := (World.cell?_alloc_new _ _ _ _).trans rfl
            have hx1 : ((wr.alloc (.cells #[.int .i64 x, .int .i64 y] 58)).drewN (m2 + m3)).cell? ⟨wr.heap.size, 1, none⟩ = some (.int .i64 y) := (World.cell?_alloc_new _ _ _ _).trans rfl
            have HT3 : Aside0 (Tab ((wr.alloc (.cells #[.int .i64 x, .int .i64 y] 58)).drewN (m2 + m3)) w.heap.size (tab (ps.take i.toNat))) := ⟨HT2.out⟩
            have HB3 := Aside0.mk (pw_below_drewN HB2.out (m2 + m3))
            generalize (wr.alloc (.cells #[.int .i64 x, .int .i64 y] 58)).drewN (m2 + m3) = W2 at hx0 hx1 HT3 HB3 ⊢
            have hBF : wr.heap.size ≠ w.heap.size := by obtain ⟨cs, hr, _⟩ := HT.out; exact Nat.ne_of_gt hr.lt
            have HBF := Aside0.mk hBF
            generalize wr.heap.size = B at hx0 hx1 hBF HBF ⊢
            clear HT HB HT2 HB2 hc1 hc2 hc3 dnx dny hBF
            obtain ⟨hxy, fxy⟩ := HT3.out.cell HNx.out HNy.out
            obtain ⟨hyx, fyx⟩ := HT3.out.cell HNy.out HNx.out
            have px0 : 0 ≤ x := HNx.out.1
            have px1 : x < 16 := HNx.out.2
            have py0 : 0 ≤ y := HNy.out.1
            have py1 : y < 16 := HNy.out.2
            have HT4 := Aside0.mk (HT3.out.set HNx.out HNy.out)
            have HB4 := Aside0.mk (HB3.out.setCell (p := ⟨w.heap.size, x.toNat * 16 + y.toNat, none⟩) (Nat.le_refl _) (.bool true))
            have hz0 : (W2.setCell ⟨w.heap.size, x.toNat * 16 + y.toNat, none⟩ (.bool true)).cell? ⟨B, 0, none⟩ = some (.int .i64 x) := by rw [World.cell?_setCell_other _ _ _ _ (by intro z; injection z with z; exact HBF.out z.symm)]; exact hx0
            have hz1 : (W2.setCell ⟨w.heap.size, x.toNat * 16 + y.toNat, none⟩ (.bool true)).cell? ⟨B, 1, none⟩ = some (.int .i64 y) := by rw [World.cell?_setCell_other _ _ _ _ (by intro z; injection z with z; exact HBF.out z.symm)]; exact hx1
            obtain ⟨hy2, fy2⟩ := HT4.out.cell HNy.out HNx.out
            go_region
            go_wp2
            exact ⟨⟨wrap64 (i + 1), rfl, ⟨by rw [hw1]; have := HI.out; omega⟩, ⟨by rw [hw1]; exact HPT.out ⟨HNx.out, HNy.out⟩⟩, ⟨by rw [hw1]; exact (HT4.out.set HNy.out HNx.out).congr fun a b _ _ => (tab_step_ne ps i HI.out.1 HI.out.2 x y HX.out HN.out a b).symm⟩, ⟨below_drew1 (HB4.out.setCell (p := ⟨w.heap.size, y.toNat * 16 + x.toNat, none⟩) (Nat.le_refl _) (.bool true))⟩⟩, by rw [hw1]; simp only [intOf]; have := HI.out; omega⟩
        · exfalso
          refine HOK.out ?_
          have := HPO.out
          rwa [List.take_of_length_le (by have := Hi.out; omega)] at this
end Go.Proofs.Ytfcjfjmjcmanaaa.X
set_option linter.unusedVariables false
namespace Go.Proofs.Ytfcjfjmjcmanaaa.X
open Go.RowKit Go.Proofs.YtfcjfjmjcmanaaaW.PrintWords Go.Proofs.YtfcjfjmjcmanaaaW.PrintLast Go.Proofs.YtfcjfjmjcmanaaaW.PrintMore
instance (h : Int) : Decidable (Hnum h) := by unfold Hnum; infer_instance
open Classical in
/-- What Least answers. -/
noncomputable def leastOf (l : List Int) (ps : List (Int × Int)) : List Int × Int :=
  if ¬ (l.length ≤ 512 ∧ ps.length ≤ 256) then ([], 1) else if ¬ (∀ x ∈ l, Hnum x) then ([], 2) else if ¬ PairsOk ps then ([], 2) else (lst (tab ps) l.length l, 0)
theorem least_calls (f : Nat) (A0 : Option Addr) (c0 : Nat) (l : List Int) (A1 : Option Addr) (c1 : Nat) (ps : List (Int × Int)) (w : World)
    (h1 : ¬ (l.length ≤ 512 ∧ ps.length ≤ 256) → Calls Try.prog f #[.slice A0 l.length c0, .slice A1 ps.length c1] w fun e w' => e = .returned (.tuple #[.slice none 0 0, .int .i64 1]) ∧ Below w.heap.size w w')
    (h2 : l.length ≤ 512 → ps.length ≤ 256 → (¬ ∀ x ∈ l, Hnum x) → Calls Try.prog f #[.slice A0 l.length c0, .slice A1 ps.length c1] w fun e w' => e = .returned (.tuple #[.slice none 0 0, .int .i64 2]) ∧ Below w.heap.size w w')
    (h3 : l.length ≤ 512 → ps.length ≤ 256 → (∀ x ∈ l, Hnum x) → ¬ PairsOk ps → Calls Try.prog f #[.slice A0 l.length c0, .slice A1 ps.length c1] w fun e w' => e = .returned (.tuple #[.slice none 0 0, .int .i64 2]) ∧ Below w.heap.size w w')
    (h4 : l.length ≤ 512 → ps.length ≤ 256 → (∀ x ∈ l, Hnum x) → PairsOk ps → Calls Try.prog f #[.slice A0 l.length c0, .slice A1 ps.length c1] w fun e w' => ∃ A c, e = .returned (.tuple #[.slice A l.length c, .int .i64 0]) ∧ l.length ≤ c ∧ Kd.C (Kd.int .i64) w' A l.length (lst (tab ps) l.length l) ∧ Below w.heap.size w w') :
    Calls Try.prog f #[.slice A0 l.length c0, .slice A1 ps.length c1] w fun e w' => ∃ A c, e = .returned (.tuple #[.slice A (leastOf l ps).1.length c, .int .i64 (leastOf l ps).2]) ∧ (leastOf l ps).1.length ≤ c ∧ Kd.C (Kd.int .i64) w' A (leastOf l ps).1.length (leastOf l ps).1 ∧ Below w.heap.size w w' := by
  unfold leastOf
  by_cases c1 : l.length ≤ 512 ∧ ps.length ≤ 256
  · rw [if_neg (by simpa using c1)]
    by_cases c2 : ∀ x ∈ l, Hnum x
    · rw [if_neg (by simpa using c2)]
      by_cases c3 : PairsOk ps
      · rw [if_neg (by simpa using c3)]
        refine (h4 c1.1 c1.2 c2 c3).mono ?_
        rintro e w' ⟨A, c, rfl, hc, hC, hB⟩
        refine ⟨A, c, ?_, ?_, ?_, hB⟩
        · rw [lst_length]
        · rw [lst_length]; exact hc
        · rw [lst_length]; exact hC
      · rw [if_pos c3]
        refine (h3 c1.1 c1.2 c2 c3).mono ?_
        rintro e w' ⟨rfl, hB⟩
        exact ⟨none, 0, rfl, Nat.le_refl _, Kd.C_nil _ _, hB⟩
    · rw [if_pos c2]
      refine (h2 c1.1 c1.2 c2).mono ?_
      rintro e w' ⟨rfl, hB⟩
      exact ⟨none, 0, rfl, Nat.le_refl _, Kd.C_nil _ _, hB⟩
  · rw [if_pos c1]
    refine (h1 c1).mono ?_
    rintro e w' ⟨rfl, hB⟩
    exact ⟨none, 0, rfl, Nat.le_refl _, Kd.C_nil _ _, hB⟩
theorem pl_calls (A0 : Option Addr) (c0 : Nat) (l : List Int) (A1 : Option Addr) (c1 : Nat) (ps : List (Int × Int)) (w : World) (hr0 : Kd.C (Kd.int .i64) w A0 l.length l) (hc0 : l.length ≤ c0) (hr1 : Kd.C Kp w A1 ps.length ps) :
    Calls Try.prog 36 #[.slice A0 l.length c0, .slice A1 ps.length c1] w fun e w' => ∃ A c, e = .returned (.tuple #[.slice A (leastOf l ps).1.length c, .int .i64 (leastOf l ps).2]) ∧ (leastOf l ps).1.length ≤ c ∧ Kd.C (Kd.int .i64) w' A (leastOf l ps).1.length (leastOf l ps).1 ∧ Below w.heap.size w w' :=
  least_calls 36 A0 c0 l A1 c1 ps w (fun h => pl_long A0 c0 l A1 c1 ps w h) (fun a b c => pl_num A0 c0 l A1 c1 ps w hr0 hc0 a b c) (fun a b c d => pl_pair A0 c0 l A1 c1 ps w hr0 hc0 hr1 a b c d) (fun a b c d => pl_good A0 c0 l A1 c1 ps w hr0 hc0 hr1 a b c d)
theorem rl_calls (A0 : Option Addr) (c0 : Nat) (l : List Int) (A1 : Option Addr) (c1 : Nat) (ps : List (Int × Int)) (w : World) (hr0 : Kd.C (Kd.int .i64) w A0 l.length l) (hc0 : l.length ≤ c0) (hr1 : Kd.C Kp w A1 ps.length ps) :
    Calls Try.prog 37 #[.slice A0 l.length c0, .slice A1 ps.length c1] w fun e w' => ∃ A c, e = .returned (.tuple #[.slice A (leastOf l ps).1.length c, .int .i64 (leastOf l ps).2]) ∧ (leastOf l ps).1.length ≤ c ∧ Kd.C (Kd.int .i64) w' A (leastOf l ps).1.length (leastOf l ps).1 ∧ Below w.heap.size w w' :=
  least_calls 37 A0 c0 l A1 c1 ps w (fun h => rl_long A0 c0 l A1 c1 ps w h) (fun a b c => rl_num A0 c0 l A1 c1 ps w hr0 hc0 a b c) (fun a b c d => rl_pair A0 c0 l A1 c1 ps w hr0 hc0 hr1 a b c d) (fun a b c d => rl_good A0 c0 l A1 c1 ps w hr0 hc0 hr1 a b c d)
theorem leastOf_len (l : List Int) (ps : List (Int × Int)) : (leastOf l ps).1.length ≤ 512 := by
  unfold leastOf
  split
  · simp
  · rename_i h
    have h : l.length ≤ 512 ∧ ps.length ≤ 256 := Classical.not_not.1 h
    split
    · simp
    · split
      · simp
      · rw [lst_length]; exact h.1
end Go.Proofs.Ytfcjfjmjcmanaaa.X
