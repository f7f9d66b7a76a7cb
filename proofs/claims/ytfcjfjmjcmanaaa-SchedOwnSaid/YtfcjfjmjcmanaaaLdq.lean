/- Least: the document's, by hand: the good way. -/
import Derived.Test.YtfcjfjmjcmanaaaGl
import Derived.Deep.QuietTactic
import Derived.BigQuiet
set_option linter.unusedVariables false
namespace Go.Proofs.Ytfcjfjmjcmanaaa.X
open Go.RowKit Go.Proofs.Ytfcjfjmjcmanaaa.PNums Go.Proofs.YtfcjfjmjcmanaaaW.PrintWords Go.Proofs.YtfcjfjmjcmanaaaW.PrintLast Go.Proofs.YtfcjfjmjcmanaaaW.PrintMore
/-- How long a row is. -/
def lenOf : Value → Nat
  | .slice _ n _ => n
  | _ => 0
theorem j_step (L : List Int) (f : Int → Bool) (i j : Int) (b t : Bool) (m n : Nat) (W : World) (hf : (L.take (j.toNat + 1)).all f = (b && t)) (hw : wrap64 (j + 1) = j + 1) (hj : 0 ≤ j ∧ j < i) {r : Bool} (hr : r = (b && t)) :
    (∃ j1 : Int, Value.bool r = Value.bool ((L.take j1.toNat).all f) ∧ Value.int IntKind.i64 (wrap64 (j + 1)) = Value.int IntKind.i64 j1 ∧ Aside0 (0 ≤ j1 ∧ j1 ≤ i) ∧ Drawn0 W (W.drewN (m + n))) ∧
    (i - intOf (Value.int IntKind.i64 (wrap64 (j + 1)))).toNat < (i - intOf (Value.int IntKind.i64 j)).toNat := by
  rw [hw]
  exact ⟨⟨j + 1, by rw [show (j + 1).toNat = j.toNat + 1 by omega, hf, hr], rfl, ⟨by omega⟩, ⟨_, rfl⟩⟩, by simp only [intOf]; omega⟩
theorem i_step (L : List Int) (t : Int → Int → Bool) (i v e : Int) (m n : Nat) (W : World) (hs : rb t L (i + 1).toNat = e) (hw : wrap64 (i + 1) = i + 1) (hi : 0 ≤ i ∧ i < (L.length : Int)) (he : e = v) :
    (∃ i1 : Int, Value.int IntKind.i64 v = Value.int IntKind.i64 (rb t L i1.toNat) ∧ Value.int IntKind.i64 (wrap64 (i + 1)) = Value.int IntKind.i64 i1 ∧ Aside0 (0 ≤ i1 ∧ i1 ≤ (L.length : Int)) ∧ Drawn0 W (W.drewN (n + m))) ∧
    ((L.length : Int) - intOf (Value.int IntKind.i64 (wrap64 (i + 1)))).toNat < ((L.length : Int) - intOf (Value.int IntKind.i64 i)).toNat := by
  rw [hw]
  exact ⟨⟨i + 1, by rw [hs, he], rfl, ⟨by omega⟩, ⟨_, rfl⟩⟩, by simp only [intOf]; omega⟩
theorem num_facts {x : Int} (h : Hnum x) : decide (x < 0) = false ∧ decide (16 ≤ x) = false := ⟨decide_eq_false (by unfold Hnum at h; omega), decide_eq_false (by unfold Hnum at h; omega)⟩
set_option maxRecDepth 100000 in
set_option maxHeartbeats 8000000 in
theorem rl_good (A0 : Option Addr) (c0 : Nat) (l : List Int) (A1 : Option Addr) (c1 : Nat) (ps : List (Int × Int)) (w : World) (hr0 : Kd.C (Kd.int .i64) w A0 l.length l) (hc0 : l.length ≤ c0) (hr1 : Kd.C Kp w A1 ps.length ps)
    (hl : l.length ≤ 512) (hp : ps.length ≤ 256) (hn : ∀ x ∈ l, Hnum x) (hok : PairsOk ps) :
    Calls Try.prog 37 #[.slice A0 l.length c0, .slice A1 ps.length c1] w fun e w' => ∃ A c, e = .returned (.tuple #[.slice A l.length c, .int .i64 0]) ∧ l.length ≤ c ∧ Kd.C (Kd.int .i64) w' A l.length (lst (tab ps) l.length l) ∧ Below w.heap.size w w' := by
  have HR0 := Aside0.mk hr0
  have HC0 := Aside0.mk hc0
  have HR1 := Aside0.mk hr1
  have HL := Aside0.mk hl
  have HP := Aside0.mk hp
  have HN := Aside0.mk hn
  have HOK := Aside0.mk hok
  have hlb : decide ((l.length : Int) > 512) = false := decide_eq_false (by omega)
  have hpb : decide ((ps.length : Int) > 256) = false := decide_eq_false (by omega)
  have hnum := hnumbers_spec l (l.length + 1) (by omega) (by omega)
  rw [decide_eq_true hn] at hnum
  have HNUM := Aside0.mk hnum
  clear hr0 hc0 hr1 hl hp hn hok hnum
  go_enter Try.func37, Try.ntmps37
  go_wp2_with (go_at_call 89; refine (larderref07_numbers.calls (l.length + 1) A0 c0 l true _ HR0.out HC0.out HNUM.out).mono ?_; rintro e w1 ⟨rfl, ⟨m1, rfl⟩⟩)
  go_loopw [6] (fun p wr => ∃ i : Int, p = .int .i64 i ∧ Aside0 (0 ≤ i ∧ i ≤ (ps.length : Int)) ∧ Aside0 (Below w.heap.size w wr)) (fun p _ => ((ps.length : Int) - intOf p).toNat)
  case atStart => exact ⟨0, rfl, ⟨by omega⟩, ⟨by repeat (first | exact Below.refl w.heap.size w | apply pw_below_drewN | apply below_drew1)⟩⟩
  case round =>
    obtain ⟨i, rfl, Hi, HB⟩ := hrel
    by_cases hlt : i < (ps.length : Int)
    · have p0 : 0 ≤ i := Hi.out.1
      obtain ⟨ad, rfl, hpa⟩ := at_pair HR1.out i p0 hlt
      have hblk := hpa.lt
      obtain ⟨nx, ny⟩ := HOK.out _ (pd_mem ps i p0 hlt)
      have hw1 := wrn (l := ps) (by have := HP.out; omega) p0 hlt
      have hltb : decide (i < (ps.length : Int)) = true := decide_eq_true hlt
      have HI := Aside0.mk (show 0 ≤ i ∧ i < (ps.length : Int) from ⟨p0, hlt⟩)
      replace p0 := eq_true p0
      replace hlt := eq_true hlt
      obtain ⟨⟨x, y⟩, hx⟩ : ∃ x, pd ps i = x := ⟨_, rfl⟩
      rw [hx] at hpa nx ny
      clear hx
      obtain ⟨hc1, hc3⟩ := hpa.below hblk HB.out
      clear hblk hpa
      obtain ⟨fx0, fx1⟩ := num_facts nx
      obtain ⟨fy0, fy1⟩ := num_facts ny
      clear nx ny
      go_wp2
      exact ⟨⟨wrap64 (i + 1), rfl, ⟨by rw [hw1]; have := HI.out; omega⟩, HB⟩, by rw [hw1]; simp only [intOf]; have := HI.out; omega⟩
    · have hltb : decide (i < (ps.length : Int)) = false := decide_eq_false hlt
      clear hlt Hi
      go_wp2_with (go_at_call 90; refine (apartOf_calls A1 c1 ps _ (Kd.C_below HR1.out HB.out) ⟨by have := HP.out; omega⟩ HOK).mono ?_; rintro e w2 ⟨rfl, B2⟩; have HB2 := Aside0.mk (below_step HB.out B2); clear B2 HB)
      have hst := row_store (Row.new w2 Try.zeroCells118) (cs' := cellsOf (tab ps)) (by rw [cellsOf_size, zero118]; simp) (cellsOf_one _)
      rw [World.setRow_alloc_new] at hst
      simp only [hst, Result.andThen]
      rw [Oper.upon_skip]
      clear hst
      have HT := Aside0.mk (Tab.of (tab ps) (Row.new w2 (cellsOf (tab ps))))
      have HB3 := Aside0.mk (below_alloc HB2.out (.cells (cellsOf (tab ps)) 118))
      have HSZ := Aside0.mk (show w2.heap.size < (w2.alloc (.cells (cellsOf (tab ps)) 118)).heap.size by simp)
      generalize hW : w2.alloc (.cells (cellsOf (tab ps)) 118) = W at HT HB3 HSZ ⊢
      clear hW HB2
      have HC2 := Aside0.mk (Kd.C_below HR0.out HB3.out)
      go_wp2_with ((with_reducible refine gate_builtin (b := .append) (xs := #[.tmp 64, .tmp 65]) rfl ?_); at_builtin; refine Kd.R_append_rows (Kd.int .i64) (w0 := W) W.heap.size rfl (.tmp 64) (.tmp 65) 26 3 (.int .i64 0) 8 rfl Try.underlying26 info3 rfl (by decide) (by omega) (.slice none 0 0) ([] : List Int) l _ _ _ (fun _ => True) (fun _ => False) rfl rfl (Kd.R_nil _ _ _ _ (fun _ => True)) HC2.out (fun _ _ h => h) (fun _ h => h.elim) (fun _ _ => trivial) (Below.refl _ _) (Nat.le_refl _) (by have := HL.out; simp only [List.length_nil]; omega) ?_; intro v1 w4 ho hb hg hat; have HO := Aside0.mk ho; have HB4 := Aside0.mk hb; clear ho hb hg hat)
      go_loopw [8, 9] (fun vl vo wr => ∃ (L out : List Int), Aside0 (Kd.R (Kd.int .i64) 3 wr W.heap.size (fun _ => True) vl L) ∧ Aside0 (Kd.R (Kd.int .i64) 3 wr W.heap.size (fun k => True ∧ some k ≠ vl.ownBlock) vo out) ∧
        Aside0 (Below W.heap.size W wr) ∧ Aside0 (out ++ lst (tab ps) L.length L = lst (tab ps) l.length l) ∧ Aside0 (out.length + L.length = l.length) ∧ Aside0 (∀ x ∈ L, Hnum x)) (fun vl _ _ => lenOf vl)
      case atStart => exact ⟨l, [], HO, ⟨Kd.R_nil _ _ _ _ _⟩, HB4, ⟨by simp⟩, ⟨by simp⟩, HN⟩
      case round =>
        clear HO HB4
        obtain ⟨L, out, HLl, HO, HB, HE, HLEN, HNL⟩ := hrel
        rename World => W1
        obtain ⟨AL, cL, rfl⟩ := Kd.R_slice HLl.out
        obtain ⟨_, hcL, hCL⟩ := Kd.R_reads' HLl.out
        have HCL := Aside0.mk hCL
        have HcL := Aside0.mk hcL
        have HL5 : Aside0 (L.length ≤ 512) := ⟨by have := HLEN.out; have := HL.out; omega⟩
        have HTW := Aside0.mk (HT.out.below HSZ.out HB.out)
        clear hCL hcL
        by_cases hpos : 0 < L.length
        · have hposb : decide (0 < L.length) = true := decide_eq_true hpos
          have HPOS := Aside0.mk hpos
          clear hpos
          go_wp2
          go_loopw [10, 11] (fun vb vi wr => ∃ i : Int, vb = .int .i64 (rb (tab ps) L i.toNat) ∧ vi = .int .i64 i ∧ Aside0 (0 ≤ i ∧ i ≤ (L.length : Int)) ∧ Drawn0 W1 wr) (fun _ vi _ => ((L.length : Int) - intOf vi).toNat)
          case atStart => exact ⟨0, rfl, rfl, ⟨by omega⟩, Drawn0.refl _⟩
          case round =>
            obtain ⟨i, rfl, rfl, Hi, ⟨m1, rfl⟩⟩ := hrel
            by_cases hlt : i < (L.length : Int)
            · have hltb : decide (i < (L.length : Int)) = true := decide_eq_true hlt
              have p0 : 0 ≤ i := Hi.out.1
              have HI := Aside0.mk (show 0 ≤ i ∧ i < (L.length : Int) from ⟨p0, hlt⟩)
              have HNx := Aside0.mk (hrd_num L HNL.out i p0 hlt)
              obtain ⟨x, hx⟩ : ∃ x, rd L i = x := ⟨_, rfl⟩
              have HX := Aside0.mk hx
              rw [hx] at HNx
              clear hx
              replace hlt := eq_true hlt
              replace p0 := eq_true p0
              go_wp2
              go_loopw [12, 13] (fun vf vj wr => ∃ j : Int, vf = .bool ((L.take j.toNat).all fun h => tab ps h x) ∧ vj = .int .i64 j ∧ Aside0 (0 ≤ j ∧ j ≤ i) ∧ Drawn0 W1 wr) (fun _ vj _ => (i - intOf vj).toNat)
              case atStart => exact ⟨0, by simp, rfl, ⟨by have := HI.out; omega⟩, ⟨m1, rfl⟩⟩
              case round =>
                obtain ⟨j, rfl, rfl, Hj, ⟨m2, rfl⟩⟩ := hrel
                by_cases hjl : j < i
                · have hjlb : decide (j < i) = true := decide_eq_true hjl
                  have hI := HI.out
                  have q0 : 0 ≤ j := Hj.out.1
                  have q1 : j < (L.length : Int) := by omega
                  have hC := HCL.out
                  obtain ⟨ad, rfl, hxc⟩ := Kd.at_int hC i hI.1 hI.2
                  obtain ⟨ad2, e2, hyc⟩ := Kd.at_int hC j q0 q1
                  obtain rfl : ad = ad2 := by injection e2
                  rw [HX.out] at hxc
                  have HNy := Aside0.mk (hrd_num L HNL.out j q0 q1)
                  have hft := front_take (tab ps) L x j.toNat (by omega)
                  rw [Int.toNat_of_nonneg q0] at hft
                  obtain ⟨y, hy⟩ : ∃ y, rd L j = y := ⟨_, rfl⟩
                  rw [hy] at hyc HNy hft
                  obtain ⟨hcell, _⟩ := HTW.out.cell HNy.out HNx.out
                  obtain ⟨t, ht⟩ : ∃ t, tab ps y x = t := ⟨_, rfl⟩
                  rw [ht] at hcell hft
                  have HFT := Aside0.mk hft
                  have hwj := Aside0.mk (show wrap64 (j + 1) = j + 1 from hwrId (by omega) (by have := HL5.out; omega))
                  have HJ := Aside0.mk (show 0 ≤ j ∧ j < i from ⟨q0, hjl⟩)
                  have p0 := eq_true hI.1
                  have hlt := eq_true hI.2
                  have px0 : 0 ≤ x := HNx.out.1
                  have px1 : x < 16 := HNx.out.2
                  have py0 : 0 ≤ y := HNy.out.1
                  have py1 : y < 16 := HNy.out.2
                  replace q0 := eq_true q0
                  replace q1 := eq_true q1
                  clear hy ht hft e2 hC hjl hI
                  obtain ⟨b, hb⟩ : ∃ b, (L.take j.toNat).all (fun h => tab ps h x) = b := ⟨_, rfl⟩
                  rw [hb] at HFT ⊢
                  clear hb
                  cases t with
                  | true =>
                    go_wp2
                    go_quiet (fail)
                    go_wp2
                    exact j_step L (fun h => tab ps h x) i j b true m2 nq W1 HFT.out hwj.out HJ.out (by simp)
                  | false =>
                    go_wp2
                    go_quiet (fail)
                    go_wp2
                    exact j_step L (fun h => tab ps h x) i j b false m2 nq W1 HFT.out hwj.out HJ.out (by simp)
                · have hjlb : decide (j < i) = false := decide_eq_false hjl
                  have hji : j = i := by have := Hj.out; omega
                  have hI := HI.out
                  have hrr := rb_range (tab ps) L i.toNat
                  have hfr : (L.take j.toNat).all (fun h => tab ps h x) = front (tab ps) L i.toNat := by
                    unfold front
                    rw [Int.toNat_of_nonneg hI.1, HX.out, hji]
                  have hst : rb (tab ps) L (i + 1).toNat = if front (tab ps) L i.toNat = true ∧ (rb (tab ps) L i.toNat < 0 ∨ x < rd L (rb (tab ps) L i.toNat)) then i else rb (tab ps) L i.toNat := by
                    rw [show (i + 1).toNat = i.toNat + 1 by omega]
                    show (if front (tab ps) L i.toNat = true ∧ (rb (tab ps) L i.toNat < 0 ∨ rd L (i.toNat : Int) < rd L (rb (tab ps) L i.toNat)) then (i.toNat : Int) else rb (tab ps) L i.toNat) = _
                    rw [Int.toNat_of_nonneg hI.1, HX.out]
                  rw [hfr]
                  clear hfr
                  generalize front (tab ps) L i.toNat = b at hst ⊢
                  generalize rb (tab ps) L i.toNat = bst at hst hrr ⊢
                  have HST := Aside0.mk hst
                  have hwi := Aside0.mk (show wrap64 (i + 1) = i + 1 from hwrId (by omega) (by have := HL5.out; omega))
                  have hC := HCL.out
                  obtain ⟨ad, rfl, hxc⟩ := Kd.at_int hC i hI.1 hI.2
                  rw [HX.out] at hxc
                  have p0 := eq_true hI.1
                  have hlt := eq_true hI.2
                  clear hst hji hjl Hj
                  cases b with
                  | false =>
                    clear hC hI hrr
                    go_wp2
                    go_quiet (fail)
                    go_wp2
                    exact i_step L (tab ps) i bst _ nq m2 W1 HST.out hwi.out HI.out (by simp)
                  | true =>
                    by_cases hb0 : bst < 0
                    · have hb0b : decide (bst < 0) = true := decide_eq_true hb0
                      have HB0 := Aside0.mk hb0
                      clear hC hI hrr hb0
                      go_wp2
                      go_quiet (fail)
                      go_wp2
                      exact i_step L (tab ps) i i _ nq m2 W1 HST.out hwi.out HI.out (by rw [if_pos ⟨trivial, .inl HB0.out⟩])
                    · have hb0b : decide (bst < 0) = false := decide_eq_false hb0
                      have HB0 := Aside0.mk hb0
                      have q0 : 0 ≤ bst := by omega
                      have q1 : bst < (L.length : Int) := by omega
                      obtain ⟨ad2, e2, hyc⟩ := Kd.at_int hC bst q0 q1
                      obtain rfl : ad = ad2 := by injection e2
                      obtain ⟨y, hy⟩ : ∃ y, rd L bst = y := ⟨_, rfl⟩
                      rw [hy] at hyc
                      have HY := Aside0.mk hy
                      replace q0 := eq_true q0
                      replace q1 := eq_true q1
                      clear hC hI hrr hb0 hy e2
                      by_cases hxy : x < y
                      · have hxyb : decide (x < y) = true := decide_eq_true hxy
                        have HXY := Aside0.mk hxy
                        clear hxy
                        go_wp2
                        go_quiet (fail)
                        go_wp2
                        exact i_step L (tab ps) i i _ nq m2 W1 HST.out hwi.out HI.out (by rw [if_pos ⟨trivial, .inr (by rw [HY.out]; exact HXY.out)⟩])
                      · have hxyb : decide (x < y) = false := decide_eq_false hxy
                        have HXY := Aside0.mk hxy
                        clear hxy
                        go_wp2
                        go_quiet (fail)
                        go_wp2
                        exact i_step L (tab ps) i bst _ nq m2 W1 HST.out hwi.out HI.out (by rw [if_neg (fun z => by have h1 := HB0.out; have h2 := HXY.out; have h3 := HY.out; rcases z.2 with z | z <;> omega)])
            · have hltb : decide (i < (L.length : Int)) = false := decide_eq_false hlt
              have hpos := HPOS.out
              have hrr := rb_range (tab ps) L L.length
              have hls := lst_step (tab ps) L hpos
              have hii : i.toNat = L.length := by have := Hi.out; omega
              rw [hii]
              obtain ⟨b, hb⟩ : ∃ b, rb (tab ps) L L.length = b := ⟨_, rfl⟩
              obtain ⟨hl1, hl2⟩ := hls b hb.symm
              rw [hb] at hrr ⊢
              have q0 : 0 ≤ b := hrr.2.2 hpos
              have q1 : b < (L.length : Int) := hrr.2.1
              have HQ := Aside0.mk (show 0 ≤ b ∧ b < (L.length : Int) from ⟨q0, q1⟩)
              obtain ⟨x, hx⟩ : ∃ x, rd L b = x := ⟨_, rfl⟩
              rw [hx] at hl1
              have HL1 := Aside0.mk hl1
              have HL2 := Aside0.mk hl2
              have hwb : wrap64 (b + 1) = b + 1 := hwrId (by omega) (by have := HL5.out; omega)
              obtain ⟨ad, rfl, hxc⟩ := Kd.at_int HCL.out b q0 q1
              rw [hx] at hxc
              obtain ⟨i03, hi03, _, hsz3, _⟩ := info_parts info3
              have hcutT := cut_to (P := Try.prog) 26 3 .i64 Try.underlying26 hi03 (some ad) L.length cL b q0 (by omega) HcL.out
              have hcutF := cut_from (P := Try.prog) 26 3 .i64 Try.underlying26 hi03 1 hsz3 (some ad) L.length cL (b + 1) (by omega) (by omega)
              have HD1 : Aside0 (Kd.R (Kd.int .i64) 3 W1 W.heap.size (fun k => True ∧ some k ≠ Value.ownBlock _) (.slice (some ad) L.length cL) L) := ⟨R_ok HLl.out (ok' := fun k => True ∧ some k ≠ Value.ownBlock _) (fun k hk => ⟨trivial, fun z => (HO.out.1 k z.symm).2 hk.symm⟩)⟩
              have HO1 := Aside0.mk (R_ok HO.out (ok' := fun _ => True) (fun _ _ => trivial))
              have HNL2 : Aside0 (∀ y ∈ L.take b.toNat ++ L.drop (b.toNat + 1), Hnum y) := ⟨fun y hy => by
                rcases List.mem_append.1 hy with h | h
                · exact HNL.out y (List.mem_of_mem_take h)
                · exact HNL.out y (List.mem_of_mem_drop h)⟩
              replace q0 := eq_true q0
              replace q1 := eq_true q1
              clear hi03 hsz3 hii hlt hpos hrr hls hb hl1 hl2 hx
              have HTK : Aside0 ((L.take b.toNat).length = b.toNat) := ⟨by rw [List.length_take]; have := HQ.out; omega⟩
              have hbn : (b + 1).toNat = b.toNat + 1 := by have := HQ.out; omega
              rw [hbn] at hcutF
              obtain ⟨AF, hAF⟩ : ∃ AF, (if cL = b.toNat + 1 then some ad else (some ad).map (·.add ((b.toNat + 1) * 1))) = AF := ⟨_, rfl⟩
              rw [hAF] at hcutF
              have HAF := Aside0.mk hAF
              clear hAF
              have HLb := Aside0.mk hltb
              go_wp2_with (first
                | ((with_reducible refine gate_builtin (b := .append) (xs := #[.tmp 110, .tmp 115]) rfl ?_); at_builtin; refine Kd.R_append (Kd.int .i64) (w0 := W) W.heap.size rfl (.tmp 110) (.tmp 115) 26 3 (.int .i64 0) 8 rfl Try.underlying26 info3 rfl (by decide) (by omega) u9 out x [.int .i64 x] (fun _ => True) (fun _ => False) rfl rfl rfl (fun _ hk => hk.elim) (fun _ _ => trivial) (Kd.R_drewN HO1.out m1) (pw_below_drewN HB.out m1) HB.out.size (by have := HLEN.out; have := HL.out; have := HL2.out; omega) ?_; intro v5 w5 ho hb hg hat; have HO2 := Aside0.mk ho; have HB5 := Aside0.mk hb; have HD2 := Aside0.mk (Kd.R_after (Kd.R_drewN HD1.out m1) hg hat); clear ho hb hg hat)
                | ((with_reducible refine gate_builtin (b := .append) (xs := #[.tmp 117, .tmp 120]) rfl ?_); at_builtin; refine Kd.R_append_rows (Kd.int .i64) (w0 := W) W.heap.size rfl (.tmp 117) (.tmp 120) 26 3 (.int .i64 0) 8 rfl Try.underlying26 info3 rfl (by decide) (by omega) (.slice none 0 0) ([] : List Int) (L.take b.toNat) _ _ _ (fun _ => True) (fun _ => False) rfl rfl (Kd.R_nil _ _ _ _ (fun _ => True)) (by have h := Kd.C_take (m := b.toNat) (Kd.R_reads' HD2.out).2.2 (by have := HQ.out; omega); rw [HTK.out] at h; exact h) (fun _ _ h => h) (fun _ h => h.elim) (fun _ _ => trivial) HB5.out HB5.out.size (by have := HQ.out; have := HL5.out; simp only [List.length_nil]; omega) ?_; intro v6 w6 ho hb hg hat; have HN6 := Aside0.mk ho; have HB6 := Aside0.mk hb; have HO3 := Aside0.mk (Kd.R_after (v := .slice none 0 0) (R_ok HO2.out (ok' := fun k => True ∧ some k ≠ Value.ownBlock (.slice none 0 0)) (fun _ _ => ⟨trivial, by simp [Value.ownBlock]⟩)) hg hat); have HD3 := Aside0.mk (Kd.R_after (v := .slice none 0 0) (R_ok HD2.out (ok' := fun k => True ∧ some k ≠ Value.ownBlock (.slice none 0 0)) (fun _ _ => ⟨trivial, by simp [Value.ownBlock]⟩)) hg hat); clear ho hb hg hat)
                | ((with_reducible refine gate_builtin (b := .append) (xs := #[.tmp 122, .tmp 126]) rfl ?_); at_builtin; refine Kd.R_append_rows (Kd.int .i64) (w0 := W) W.heap.size rfl (.tmp 122) (.tmp 126) 26 3 (.int .i64 0) 8 rfl Try.underlying26 info3 rfl (by decide) (by omega) _ _ (L.drop (b.toNat + 1)) _ _ _ (fun _ => True) (fun _ => False) rfl rfl HN6.out (by have h := C_from (Kd.R_reads' HD3.out).2.2 HcL.out (b.toNat + 1) (by have := HQ.out; omega); rw [HAF.out] at h; exact h) (fun _ _ h => h) (fun _ h => h.elim) (fun _ _ => trivial) HB6.out HB6.out.size (by have := HTK.out; have := HQ.out; have := HL5.out; simp only [List.nil_append]; omega) ?_; intro v7 w7 ho hb hg hat; have HN7 := Aside0.mk ho; have HB7 := Aside0.mk hb; have HO4 := Aside0.mk (Kd.R_after HO3.out hg hat); clear ho hb hg hat))
              have hN7 := HN7.out
              rw [List.nil_append] at hN7
              obtain ⟨A7, c7, rfl⟩ := Kd.R_slice hN7
              exact ⟨⟨_, _, ⟨hN7⟩, HO4, HB7, ⟨by rw [List.append_assoc, List.singleton_append, ← HL1.out]; exact HE.out⟩, ⟨by rw [List.length_append, List.length_singleton]; have := HL2.out; have := HLEN.out; omega⟩, HNL2⟩, by have := HL2.out; simp only [lenOf]; omega⟩
        · have hposb : decide (0 < L.length) = false := decide_eq_false hpos
          obtain rfl : L = [] := List.length_eq_zero_iff.1 (by omega)
          obtain ⟨Ao, co, rfl, hco, hCo⟩ := Kd.R_reads HO.out
          have hE : out = lst (tab ps) l.length l := by have := HE.out; simpa [lst] using this
          have hlen : out.length = l.length := by have := HLEN.out; simpa using this
          rw [hE] at hCo
          have hll := lst_length (tab ps) l.length l
          rw [hll] at hCo
          rw [hlen] at hco
          have HCo := Aside0.mk hCo
          have Hco := Aside0.mk hco
          have HBW := Aside0.mk (below_step HB3.out HB.out)
          rw [hlen]
          clear hpos hE hlen hCo hco hll
          go_wp2
          go_ret2
          exact ⟨_, _, rfl, Hco.out, HCo.out, HBW.out⟩
end Go.Proofs.Ytfcjfjmjcmanaaa.X
