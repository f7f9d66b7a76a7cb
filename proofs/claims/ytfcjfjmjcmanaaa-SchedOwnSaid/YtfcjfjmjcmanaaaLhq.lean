/- Least: the program's, by hand: the good way. -/
import Derived.Test.YtfcjfjmjcmanaaaLiq
set_option linter.unusedVariables false
namespace Go.Proofs.Ytfcjfjmjcmanaaa.X
open Go.RowKit Go.Proofs.Ytfcjfjmjcmanaaa.PNums Go.Proofs.YtfcjfjmjcmanaaaW.PrintWords Go.Proofs.YtfcjfjmjcmanaaaW.PrintLast Go.Proofs.YtfcjfjmjcmanaaaW.PrintMore
theorem p_step (L : List Int) (t : Int → Int → Bool) (i v e : Int) (W1 wq : World) (hs : pb t L (i + 1).toNat = e) (hw : wrap64 (i + 1) = i + 1) (hi : 0 ≤ i ∧ i < (L.length : Int)) (he : e = v) (hb : Below W1.heap.size W1 wq) :
    (∃ i1 : Int, Value.int IntKind.i64 v = Value.int IntKind.i64 (pb t L i1.toNat) ∧ Value.int IntKind.i64 (wrap64 (i + 1)) = Value.int IntKind.i64 i1 ∧ Aside0 (0 ≤ i1 ∧ i1 ≤ (L.length : Int)) ∧ Aside0 (Below W1.heap.size W1 wq)) ∧
    ((L.length : Int) - intOf (Value.int IntKind.i64 (wrap64 (i + 1)))).toNat < ((L.length : Int) - intOf (Value.int IntKind.i64 i)).toNat := by
  rw [hw]
  exact ⟨⟨i + 1, by rw [hs, he], rfl, ⟨by omega⟩, ⟨hb⟩⟩, by simp only [intOf]; omega⟩
theorem R_lower0 {W : World} {b : Nat} {ok ok' : Nat → Prop} {v : Value} {L : List Int} (h : Kd.R (Kd.int .i64) 3 W b ok v L) (hk : ∀ k, ok k → ok' k) : Kd.R (Kd.int .i64) 3 W 0 ok' v L := by
  have h0 := h.1
  obtain ⟨h1, h2⟩ := Kd.own_of_R h
  refine Kd.R_of_own ⟨h1, ?_⟩ (fun k hk' => hk k (h0 k hk'))
  rcases h2 with h2 | ⟨g, cap, cur, e, hg, r⟩
  · exact .inl h2
  · exact .inr ⟨g, cap, cur, e, Nat.zero_le _, r⟩
set_option maxRecDepth 100000 in
set_option maxHeartbeats 8000000 in
theorem pl_goodR (A0 : Option Addr) (c0 : Nat) (l : List Int) (A1 : Option Addr) (c1 : Nat) (ps : List (Int × Int)) (w : World) (hr0 : Kd.C (Kd.int .i64) w A0 l.length l) (hc0 : l.length ≤ c0) (hr1 : Kd.C Kp w A1 ps.length ps)
    (hl : l.length ≤ 512) (hp : ps.length ≤ 256) (hn : ∀ x ∈ l, Hnum x) (hok : PairsOk ps) :
    Calls Try.prog 36 #[.slice A0 l.length c0, .slice A1 ps.length c1] w fun e w' => ∃ v, e = .returned (.tuple #[v, .int .i64 0]) ∧ Kd.R (Kd.int .i64) 3 w' 0 (fun k => w.heap.size ≤ k) v (lst (tab ps) l.length l) ∧ Below w.heap.size w w' := by
  have HR0 := Aside0.mk hr0
  have HC0 := Aside0.mk hc0
  have HR1 := Aside0.mk hr1
  have HL := Aside0.mk hl
  have HP := Aside0.mk hp
  have HN := Aside0.mk hn
  have HOK := Aside0.mk hok
  have hlb : decide ((l.length : Int) > 512) = false := decide_eq_false (by omega)
  have hpb : decide ((ps.length : Int) > 256) = false := decide_eq_false (by omega)
  clear hr0 hc0 hr1 hl hp hn hok
  go_enter Try.func36, Try.ntmps36
  go_wp2
  go_loopw [27] (fun p wr => ∃ i : Int, p = .int .i64 i ∧ Aside0 (0 ≤ i ∧ i ≤ (l.length : Int)) ∧ Drawn0 w wr) (fun p _ => ((l.length : Int) - intOf p).toNat)
  case atStart => exact ⟨0, rfl, ⟨by omega⟩, by repeat (first | exact Drawn0.refl _ | apply Drawn0.step)⟩
  case round =>
    obtain ⟨i, rfl, Hi, ⟨m1, rfl⟩⟩ := hrel
    by_cases hlt : i < (l.length : Int)
    · have p0 : 0 ≤ i := Hi.out.1
      obtain ⟨ad, rfl, hxc⟩ := Kd.at_int HR0.out i p0 hlt
      have hltb : decide (i < (l.length : Int)) = true := decide_eq_true hlt
      have nx := hrd_num l HN.out i p0 hlt
      have hw1 : wrap64 (i + 1) = i + 1 := hwrId (by omega) (by have := HL.out; omega)
      have HI := Aside0.mk (show 0 ≤ i ∧ i < (l.length : Int) from ⟨p0, hlt⟩)
      have dn : decide (Hnum (rd l i)) = true := decide_eq_true nx
      obtain ⟨x, hx⟩ : ∃ x, rd l i = x := ⟨_, rfl⟩
      rw [hx] at hxc dn
      replace p0 := eq_true p0
      replace hlt := eq_true hlt
      clear hx nx
      go_wp2_with (go_at_call 84; refine (right_calls x _).mono ?_; rintro e w1 ⟨rfl, ⟨m2, rfl⟩⟩; rw [dn])
      exact ⟨⟨wrap64 (i + 1), rfl, ⟨by rw [hw1]; have := HI.out; omega⟩, ⟨_, rfl⟩⟩, by rw [hw1]; simp only [intOf]; have := HI.out; omega⟩
    · have hltb : decide (i < (l.length : Int)) = false := decide_eq_false hlt
      clear hlt Hi
      have HT0 := Aside0.mk (Tab.new (w.drewN m1))
      have HB0 := Aside0.mk ((pw_below_drewN (Below.refl w.heap.size w) m1).alloc (Nat.le_refl _) (.cells Try.zeroCells118 118))
      go_wp2
      go_loopw [38] (fun p wr => ∃ i : Int, p = .int .i64 i ∧ Aside0 (0 ≤ i ∧ i ≤ (ps.length : Int)) ∧ Aside0 (Tab wr w.heap.size (tab (ps.take i.toNat))) ∧ Aside0 (Below w.heap.size w wr)) (fun p _ => ((ps.length : Int) - intOf p).toNat)
      case atStart => exact ⟨0, rfl, ⟨by omega⟩, ⟨HT0.out.congr fun x y _ _ => by simp [tab]⟩, HB0⟩
      case round =>
        clear HT0 HB0
        obtain ⟨i, rfl, Hi, HT, HB⟩ := hrel
        by_cases hlt : i < (ps.length : Int)
        · have p0 : 0 ≤ i := Hi.out.1
          obtain ⟨ad, rfl, hpa⟩ := at_pair HR1.out i p0 hlt
          have hblk := hpa.lt
          have hok' := HOK.out _ (pd_mem ps i p0 hlt)
          have hw1 := wrn (l := ps) (by have := HP.out; omega) p0 hlt
          have hltb : decide (i < (ps.length : Int)) = true := decide_eq_true hlt
          have HI := Aside0.mk (show 0 ≤ i ∧ i < (ps.length : Int) from ⟨p0, hlt⟩)
          replace p0 := eq_true p0
          replace hlt := eq_true hlt
          obtain ⟨⟨x, y⟩, hx⟩ : ∃ x, pd ps i = x := ⟨_, rfl⟩
          rw [hx] at hpa hok'
          have HX := Aside0.mk hx
          clear hx
          obtain ⟨hc1, hc3⟩ := hpa.below hblk HB.out
          have hc2 : wr.cell? ((ad.add (i.toNat * 2)).add 1) = some (.int .i64 y) := by rw [add_add, add_next]; exact hc3
          obtain ⟨nx, ny⟩ := hok'
          have HNx := Aside0.mk nx
          have HNy := Aside0.mk ny
          have dnx : decide (Hnum x) = true := decide_eq_true nx
          have dny : decide (Hnum y) = true := decide_eq_true ny
          clear hblk hpa
          have HT2 := Aside0.mk (HT.out.below (n := w.heap.size + 1) (Nat.lt_succ_self _) (W' := wr.alloc (.cells #[.int .i64 x, .int .i64 y] 58)) ((Below.refl _ _).alloc (by obtain ⟨cs, hr, _⟩ := HT.out; exact hr.lt) _))
          have HB2 := Aside0.mk (HB.out.alloc HB.out.size (.cells #[.int .i64 x, .int .i64 y] 58))
          by_cases hn : x = y
          · have hnb : (x != y) = false := bne_eq_false_iff_eq.2 hn
            have HN := Aside0.mk hn
            clear hn nx ny
            go_wp2_with (first | (go_at_call 84; refine (right_calls x _).mono ?_; rintro e w1 ⟨rfl, ⟨m2, rfl⟩⟩; rw [dnx]) | (go_at_call 84; refine (right_calls y _).mono ?_; rintro e w1 ⟨rfl, ⟨m3, rfl⟩⟩; rw [dny]))
            exact ⟨⟨wrap64 (i + 1), rfl, ⟨by rw [hw1]; have := HI.out; omega⟩, ⟨by rw [hw1]; exact HT2.out.congr fun a b _ _ => (tab_step_eq ps i HI.out.1 HI.out.2 x y HX.out HN.out a b).symm⟩, ⟨pw_below_drewN HB2.out _⟩⟩, by rw [hw1]; simp only [intOf]; have := HI.out; omega⟩
          · have hnb : (x != y) = true := bne_iff_ne.2 hn
            have HN := Aside0.mk hn
            clear hn nx ny
            go_wp2_with (first | (go_at_call 84; refine (right_calls x _).mono ?_; rintro e w1 ⟨rfl, ⟨m2, rfl⟩⟩; rw [dnx]) | (go_at_call 84; refine (right_calls y _).mono ?_; rintro e w1 ⟨rfl, ⟨m3, rfl⟩⟩; rw [dny]))
            have hx0 : ((wr.alloc (.cells #[.int .i64 x, .int .i64 y] 58)).drewN (m2 + m3)).cell? ⟨wr.heap.size, 0, none⟩ = some (.int .i64 x) := (World.cell?_alloc_new _ _ _ _).trans rfl
            have hx1 : ((wr.alloc (.cells #[.int .i64 x, .int .i64 y] 58)).drewN (m2 + m3)).cell? ⟨wr.heap.size, 1, none⟩ = some (.int .i64 y) := (World.cell?_alloc_new _ _ _ _).trans rfl
            have HT3 : Aside0 (Tab ((wr.alloc (.cells #[.int .i64 x, .int .i64 y] 58)).drewN (m2 + m3)) w.heap.size (tab (ps.take i.toNat))) := ⟨HT2.out⟩
            have HB3 := Aside0.mk (pw_below_drewN HB2.out (m2 + m3))
            generalize (wr.alloc (.cells #[.int .i64 x, .int .i64 y] 58)).drewN (m2 + m3) = W2 at hx0 hx1 HT3 HB3 ⊢
            have hBF : wr.heap.size ≠ w.heap.size := by obtain ⟨cs, hr, _⟩ := HT.out; exact Nat.ne_of_gt hr.lt
            have HBF := Aside0.mk hBF
            generalize wr.heap.size = B at hx0 hx1 hBF HBF ⊢
            clear HT HB HT2 HB2 hc1 hc2 hc3 dnx dny hBF
            obtain ⟨hxy, fxy⟩ := HT3.out.cell HNx.out HNy.out
            obtain ⟨hyx, fyx⟩ := HT3.out.cell HNy.out HNx.out
            have px0 : 0 ≤ x := HNx.out.1
            have px1 : x < 16 := HNx.out.2
            have py0 : 0 ≤ y := HNy.out.1
            have py1 : y < 16 := HNy.out.2
            have HT4 := Aside0.mk (HT3.out.set HNx.out HNy.out)
            have HB4 := Aside0.mk (HB3.out.setCell (p := ⟨w.heap.size, x.toNat * 16 + y.toNat, none⟩) (Nat.le_refl _) (.bool true))
            have hz0 : (W2.setCell ⟨w.heap.size, x.toNat * 16 + y.toNat, none⟩ (.bool true)).cell? ⟨B, 0, none⟩ = some (.int .i64 x) := by rw [World.cell?_setCell_other _ _ _ _ (by intro z; injection z with z; exact HBF.out z.symm)]; exact hx0
            have hz1 : (W2.setCell ⟨w.heap.size, x.toNat * 16 + y.toNat, none⟩ (.bool true)).cell? ⟨B, 1, none⟩ = some (.int .i64 y) := by rw [World.cell?_setCell_other _ _ _ _ (by intro z; injection z with z; exact HBF.out z.symm)]; exact hx1
            obtain ⟨hy2, fy2⟩ := HT4.out.cell HNy.out HNx.out
            go_region
            go_wp2
            exact ⟨⟨wrap64 (i + 1), rfl, ⟨by rw [hw1]; have := HI.out; omega⟩, ⟨by rw [hw1]; exact (HT4.out.set HNy.out HNx.out).congr fun a b _ _ => (tab_step_ne ps i HI.out.1 HI.out.2 x y HX.out HN.out a b).symm⟩, ⟨below_drew1 (HB4.out.setCell (p := ⟨w.heap.size, y.toNat * 16 + x.toNat, none⟩) (Nat.le_refl _) (.bool true))⟩⟩, by rw [hw1]; simp only [intOf]; have := HI.out; omega⟩
        · --TAIL
          have hltb : decide (i < (ps.length : Int)) = false := decide_eq_false hlt
          have HTl : Aside0 (Tab wr w.heap.size (tab ps)) := ⟨by have := HT.out; rwa [List.take_of_length_le (by have := Hi.out; omega)] at this⟩
          have HF : Aside0 (w.heap.size < wr.heap.size) := ⟨by obtain ⟨cs, hr, _⟩ := HTl.out; exact hr.lt⟩
          have hmk := make0 l.length HL.out
          clear hlt Hi HT
          go_wp2_with (go_at_call 85; refine (slices_Clone.calls A0 c0 l l _ (Kd.C_below HR0.out HB.out) HC0.out (by unfold slices_Clone.f; rw [if_pos (by have := HL.out; omega)])).mono ?_; rintro e w3 ⟨vl, rfl, hvl, B3⟩; obtain ⟨Al, cl, rfl⟩ := Kd.R_slice hvl; have HVL := Aside0.mk hvl; have HB3 := Aside0.mk B3; clear hvl B3)
          have HK : Aside0 (Keep ((w3.alloc (.cells #[.slice Al l.length cl] 26)).alloc (.cells (madeCells #[.int .i64 0] l.length) 3)) wr.heap.size w.heap.size w3.heap.size (tab ps) (.slice Al l.length cl) (.slice (some ⟨w3.heap.size + 1, 0, none⟩) 0 l.length) l [] w) := ⟨by
            have h1 := HVL.out
            have h3 := HB3.out.size
            have h4 := HF.out
            have hb1 : Below w3.heap.size w3 (w3.alloc (.cells #[.slice Al l.length cl] 26)) := (Below.refl _ _).alloc (Nat.le_refl _) _
            have hb2 : Below (w3.alloc (.cells #[.slice Al l.length cl] 26)).heap.size (w3.alloc (.cells #[.slice Al l.length cl] 26)) ((w3.alloc (.cells #[.slice Al l.length cl] 26)).alloc (.cells (madeCells #[.int .i64 0] l.length) 3)) := (Below.refl _ _).alloc (Nat.le_refl _) _
            have hb3 : Below w3.heap.size w3 ((w3.alloc (.cells #[.slice Al l.length cl] 26)).alloc (.cells (madeCells #[.int .i64 0] l.length) 3)) := hb1.trans (hb2.mono (by simp))
            have hmR := made_R l.length HL.out (w3.alloc (.cells #[.slice Al l.length cl] 26)) (fun k => w3.heap.size < k) (by simp)
            rw [World.size_alloc] at hmR
            refine ⟨(HTl.out.below (n := wr.heap.size) h4 HB3.out).below (n := w3.heap.size) (by omega) hb3, boxed_below (Boxed.new w3 26 (.slice Al l.length cl)) (by simp) hb2, Kd.R_below (R_ok h1 (fun k hk => ?_)) hb3, hmR, below_step (below_step HB.out HB3.out) hb3⟩
            obtain ⟨_, h2⟩ := Kd.own_of_R h1
            rcases h2 with ⟨e1, _⟩ | ⟨g, cap, cur, e1, hbg, hh, _⟩
            · rw [e1] at hk; simp [Value.ownBlock] at hk
            · rw [e1] at hk
              obtain rfl : g = k := by simpa [Value.ownBlock] using hk
              exact ⟨(Array.getElem?_eq_some_iff.1 hh).1, by omega⟩⟩
          have HWN := Aside0.mk HB.out.size
          have HFL : Aside0 (w.heap.size < w3.heap.size) := ⟨by have := HF.out; have := HB3.out.size; omega⟩
          clear hmk HVL HB3 HTl HF HB
          generalize (w3.alloc (.cells #[.slice Al l.length cl] 26)).alloc (.cells (madeCells #[.int .i64 0] l.length) 3) = W0 at HK ⊢
          generalize wr.heap.size = n0 at HK HWN
          generalize w3.heap.size = Lb at HK HFL ⊢
          go_loopw [13] (fun vo wr => ∃ (L out : List Int) (vl : Value), Aside0 (Keep wr n0 w.heap.size Lb (tab ps) vl vo L out w) ∧ Aside0 (out ++ lst (tab ps) L.length L = lst (tab ps) l.length l) ∧ Aside0 (out.length + L.length = l.length) ∧ Aside0 (∀ x ∈ L, Hnum x)) (fun vo _ => l.length - lenOf vo)
          case atStart => exact ⟨l, [], _, HK, ⟨by simp⟩, ⟨by simp⟩, HN⟩
          case round =>
            clear HK
            obtain ⟨L, out, vl, HK, HE, HLEN, HNL⟩ := hrel
            rename World => W1
            have HL5 : Aside0 (L.length ≤ 512) := ⟨by have := HLEN.out; have := HL.out; omega⟩
            by_cases hpos : 0 < L.length
            · have hposb : decide (0 < L.length) = true := decide_eq_true hpos
              have HPOS := Aside0.mk hpos
              obtain ⟨g, cap, rfl, hng, ⟨hgL, hgF⟩, hgs, hcap, hcells⟩ := own_form HK.out.left hpos
              have HCELLS := Aside0.mk hcells
              have HG := Aside0.mk (And.intro hgs hcap)
              have hbox := HK.out.box.cell
              clear hpos hng hgL hgF hgs hcap hcells
              go_wp2
              go_loopw [14, 82] (fun vb vi wr => ∃ i : Int, vb = .int .i64 (pb (tab ps) L i.toNat) ∧ vi = .int .i64 i ∧ Aside0 (0 ≤ i ∧ i ≤ (L.length : Int)) ∧ Aside0 (Below W1.heap.size W1 wr)) (fun _ vi _ => ((L.length : Int) - intOf vi).toNat)
              case atStart => exact ⟨0, rfl, rfl, ⟨by omega⟩, ⟨Below.refl _ _⟩⟩
              case round =>
                obtain ⟨i, rfl, rfl, Hi, HB⟩ := hrel
                by_cases hlt : i < (L.length : Int)
                · have p0 : 0 ≤ i := Hi.out.1
                  have hltb : decide (i < (L.length : Int)) = true := decide_eq_true hlt
                  have HI := Aside0.mk (show 0 ≤ i ∧ i < (L.length : Int) from ⟨p0, hlt⟩)
                  have HBV := Aside0.mk (HB.out.alloc HB.out.size (.cells #[.int .i64 i] 3))
                  have HKV := Aside0.mk (HK.out.later HBV.out)
                  have hboxV := HKV.out.box.cell
                  have hIV := (Boxed.new wr 3 (.int .i64 i)).cell
                  have hgV : ∀ j : Nat, j < L.length → (wr.alloc (.cells #[.int .i64 i] 3)).cell? ⟨g, j, none⟩ = some (.int .i64 (rd L (j : Int))) := fun j hj => (HBV.out.cell (p := ⟨g, j, none⟩) HG.out.1).trans (HCELLS.out j hj)
                  have hpr := pb_range (tab ps) L i.toNat
                  have q0 : 0 ≤ pb (tab ps) L i.toNat := hpr.1
                  have q1 : pb (tab ps) L i.toNat < (L.length : Int) := by
                    by_cases hz : 0 < i.toNat
                    · have := hpr.2 hz; omega
                    · have e : i.toNat = 0 := by omega
                      rw [e]; show (0 : Int) < _; omega
                  have hst : pb (tab ps) L (i + 1).toNat = if front (tab ps) L i.toNat = true ∧ rd L i < rd L (pb (tab ps) L i.toNat) then i else pb (tab ps) L i.toNat := by
                    rw [show (i + 1).toNat = i.toNat + 1 by omega]
                    show (if front (tab ps) L i.toNat = true ∧ rd L (i.toNat : Int) < rd L (pb (tab ps) L i.toNat) then (i.toNat : Int) else pb (tab ps) L i.toNat) = _
                    rw [Int.toNat_of_nonneg p0]
                  obtain ⟨x, hx⟩ : ∃ x, rd L i = x := ⟨_, rfl⟩
                  have hct := contains_calls w.heap.size Lb wr.heap.size (tab ps) x i L g cap (wr.alloc (.cells #[.int .i64 i] 3)) HKV.out.tab hboxV hIV p0 hlt hx HNL.out HL5.out hgV (by obtain ⟨cs, hr, _⟩ := HKV.out.tab; exact hr.lt) HKV.out.box.lt (by simp) (Nat.lt_of_lt_of_le HG.out.1 HBV.out.size)
                  have hxi := hgV i.toNat (by omega)
                  rw [Int.toNat_of_nonneg p0, hx] at hxi
                  generalize hbst : pb (tab ps) L i.toNat = bst at q0 q1 hst ⊢
                  have hyb := hgV bst.toNat (by omega)
                  rw [Int.toNat_of_nonneg q0] at hyb
                  obtain ⟨y, hy⟩ : ∃ y, rd L bst = y := ⟨_, rfl⟩
                  rw [hy] at hyb hst
                  rw [hx] at hst
                  obtain ⟨b, hb⟩ : ∃ b, front (tab ps) L i.toNat = b := ⟨_, rfl⟩
                  rw [hb] at hct hst
                  have hwi := Aside0.mk (show wrap64 (i + 1) = i + 1 from hwrId (by omega) (by have := HL5.out; omega))
                  obtain ⟨i03, hi03, _, hsz3, _⟩ := info_parts info3
                  have hcut := cut_to (P := Try.prog) 26 3 .i64 Try.underlying26 hi03 (some ⟨g, 0, none⟩) L.length cap i p0 (by omega) HG.out.2
                  have HST := Aside0.mk hst
                  have HCT := Aside0.mk hct
                  have hxi2 : (wr.alloc (.cells #[.int .i64 i] 3)).cell? ((⟨g, 0, none⟩ : Addr).add i.toNat) = some (.int .i64 x) := by
                    rw [show (⟨g, 0, none⟩ : Addr).add i.toNat = ⟨g, i.toNat, none⟩ by unfold Addr.add; split <;> simp_all]; exact hxi
                  have hyb2 : (wr.alloc (.cells #[.int .i64 i] 3)).cell? ((⟨g, 0, none⟩ : Addr).add bst.toNat) = some (.int .i64 y) := by
                    rw [show (⟨g, 0, none⟩ : Addr).add bst.toNat = ⟨g, bst.toNat, none⟩ by unfold Addr.add; split <;> simp_all]; exact hyb
                  replace p0 := eq_true p0
                  replace hlt := eq_true hlt
                  replace q0 := eq_true q0
                  replace q1 := eq_true q1
                  clear hpr hgV hct hst hx hy hb hbst hi03 hsz3 Hi hbox
                  cases b with
                  | false =>
                    go_wp2_with (go_at_call 86; refine HCT.out.mono ?_; rintro e w6 ⟨rfl, q, rfl⟩)
                    go_quiet (fail)
                    go_wp2
                    exact p_step L (tab ps) i bst _ W1 _ HST.out hwi.out HI.out (by simp) (pw_below_drewN HBV.out _)
                  | true =>
                    by_cases hxy : x < y
                    · have hxyb : decide (x < y) = true := decide_eq_true hxy
                      have HXY := Aside0.mk hxy
                      clear hxy
                      go_wp2_with (go_at_call 86; refine HCT.out.mono ?_; rintro e w6 ⟨rfl, q, rfl⟩)
                      go_quiet (fail)
                      go_wp2
                      exact p_step L (tab ps) i i _ W1 _ HST.out hwi.out HI.out (by rw [if_pos ⟨trivial, HXY.out⟩]) (pw_below_drewN HBV.out _)
                    · have hxyb : decide (x < y) = false := decide_eq_false hxy
                      have HXY := Aside0.mk hxy
                      clear hxy
                      go_wp2_with (go_at_call 86; refine HCT.out.mono ?_; rintro e w6 ⟨rfl, q, rfl⟩)
                      go_quiet (fail)
                      go_wp2
                      exact p_step L (tab ps) i bst _ W1 _ HST.out hwi.out HI.out (by rw [if_neg (fun z => by have h2 := HXY.out; omega)]) (pw_below_drewN HBV.out _)
                · have hltb : decide (i < (L.length : Int)) = false := decide_eq_false hlt
                  have hpos := HPOS.out
                  have hii : i.toNat = L.length := by have := Hi.out; omega
                  rw [hii]
                  have hrr := rb_range (tab ps) L L.length
                  have hls := lst_step (tab ps) L hpos
                  have hpe : pb (tab ps) L L.length = rb (tab ps) L L.length := by
                    obtain ⟨n, hn⟩ : ∃ n, L.length = n + 1 := ⟨L.length - 1, by omega⟩
                    rw [hn]; exact pb_eq _ _ _
                  obtain ⟨bn, hbn⟩ : ∃ bn : Nat, rb (tab ps) L L.length = bn := ⟨(rb (tab ps) L L.length).toNat, by have := hrr.2.2 hpos; omega⟩
                  obtain ⟨hl1, hl2⟩ := hls (bn : Int) hbn.symm
                  rw [Int.toNat_natCast] at hl1 hl2
                  rw [hbn] at hrr
                  rw [hpe, hbn]
                  have q1 : bn < L.length := by omega
                  have HQ := Aside0.mk q1
                  obtain ⟨x, hx⟩ : ∃ x, rd L (bn : Int) = x := ⟨_, rfl⟩
                  rw [hx] at hl1
                  have HL1 := Aside0.mk hl1
                  have HL2 := Aside0.mk hl2
                  have hwb : wrap64 ((bn : Int) + 1) = (bn : Int) + 1 := hwrId (by omega) (by have := HL5.out; omega)
                  have HKw := Aside0.mk (HK.out.later HB.out)
                  have hboxw := HKw.out.box.cell
                  have hxc : wr.cell? ⟨g, bn, none⟩ = some (.int .i64 x) := by rw [← hx]; exact (HB.out.cell (p := ⟨g, bn, none⟩) HG.out.1).trans (HCELLS.out bn q1)
                  have hxc2 : wr.cell? ((⟨g, 0, none⟩ : Addr).add bn) = some (.int .i64 x) := by
                    rw [show (⟨g, 0, none⟩ : Addr).add bn = ⟨g, bn, none⟩ by unfold Addr.add; split <;> simp_all]; exact hxc
                  have HNL2 : Aside0 (∀ y ∈ L.take bn ++ L.drop (bn + 1), Hnum y) := ⟨fun y hy => by
                    rcases List.mem_append.1 hy with h | h
                    · exact HNL.out y (List.mem_of_mem_take h)
                    · exact HNL.out y (List.mem_of_mem_drop h)⟩
                  have q2 := eq_true (show (bn : Int) < (L.length : Int) by omega)
                  have q3 := eq_true (show (0 : Int) ≤ (bn : Int) by omega)
                  replace q1 := eq_true q1
                  clear hii hlt hpos hrr hls hl1 hl2 hx hpe hbn Hi hbox
                  go_wp2_with (first
                    | ((with_reducible refine gate_builtin (b := .append) (xs := #[.tmp 105, .tmp 110]) rfl ?_); at_builtin; refine Kd.R_append (Kd.int .i64) (w0 := wr) (Lb + 1) rfl (.tmp 105) (.tmp 110) 26 3 (.int .i64 0) 8 rfl Try.underlying26 info3 rfl (by decide) (by omega) u13 out x [.int .i64 x] (fun k => Lb < k) (fun _ => False) rfl rfl rfl (fun _ hk => hk.elim) (fun k hk => Nat.lt_of_lt_of_le HKw.out.box.lt hk) HKw.out.out (Below.refl _ _) HKw.out.box.lt (by have := HLEN.out; have := HL.out; have := HQ.out; omega) ?_; intro v5 w5 ho hb hg hat; have HK5 := Aside0.mk (HKw.out.pushed HFL.out (Nat.le_of_lt HFL.out) hg ho); have hbox5 := HK5.out.box.cell; clear ho hb hg hat hboxw hxc hxc2)
                    | (go_at_call 88; rw [hwb]; refine (delete_calls L _ n0 _ bn HQ.out _ HK5.out.left).mono ?_; rintro e w7 ⟨vl7, rfl, hR7, hob, hg7⟩; obtain ⟨A7, c7, rfl⟩ := Kd.R_slice hR7; have HB7 := Aside0.mk (boxed_grown HK5.out.box hg7 (fun z => by have := HK5.out.left.1 Lb z.symm; omega)); have HK7 := Aside0.mk (HK5.out.cut HWN.out (Nat.le_of_lt HFL.out) hg7 hR7); have hbox7 := HB7.out.cell; have hfr7 := HB7.out.frozen; clear hR7 hob hg7 hbox5))
                  have h7 := HK7.out
                  obtain ⟨A5, c5, e5⟩ := Kd.R_slice HK7.out.out
                  obtain ⟨A6, c6, e6⟩ := Kd.R_slice HKw.out.out
                  simp only [List.length_append, List.length_take, List.length_drop] at h7
                  exact ⟨⟨_, _, _, ⟨h7⟩, ⟨by rw [List.append_assoc, List.singleton_append, ← HL1.out]; exact HE.out⟩, ⟨by rw [List.length_append, List.length_singleton]; have := HL2.out; have := HLEN.out; omega⟩, HNL2⟩, by rw [e5, e6]; simp only [lenOf, List.length_append, List.length_singleton]; have := HLEN.out; have := HPOS.out; omega⟩
            · have hposb : decide (0 < L.length) = false := decide_eq_false hpos
              obtain rfl : L = [] := List.length_eq_zero_iff.1 (by omega)
              obtain ⟨Av, cv, rfl⟩ := Kd.R_slice HK.out.left
              have hbox := HK.out.box.cell
              obtain ⟨Ao, co, rfl⟩ := Kd.R_slice HK.out.out
              have hE : out = lst (tab ps) l.length l := by have := HE.out; simpa [lst] using this
              subst hE
              have HR := Aside0.mk (R_lower0 HK.out.out (fun k hk => Nat.le_of_lt (Nat.lt_of_lt_of_le HFL.out (Nat.le_of_lt hk))))
              have HBW := Aside0.mk HK.out.below
              clear hpos HK
              go_wp2
              go_ret2
              exact ⟨_, rfl, HR.out, HBW.out⟩
end Go.Proofs.Ytfcjfjmjcmanaaa.X
