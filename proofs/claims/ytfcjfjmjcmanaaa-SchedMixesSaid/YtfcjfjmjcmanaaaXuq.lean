/- The document's Switches (on the light base), by hand. -/
import Derived.Test.YtfcjfjmjcmanaaaXwq
import Derived.BigQuiet
import Derived.Deep.QuietTactic
set_option linter.unusedVariables false
namespace Go.Proofs.Ytfcjfjmjcmanaaa.X
open Go.RowKit Go.Proofs.Ytfcjfjmjcmanaaa.PNums Go.Proofs.YtfcjfjmjcmanaaaW.PrintWords Go.Proofs.YtfcjfjmjcmanaaaW.PrintLast Go.Proofs.YtfcjfjmjcmanaaaW.PrintMore
theorem arr16 (j : Nat) (hj : j < 16) : (#[.int .i64 0, .int .i64 0, .int .i64 0, .int .i64 0, .int .i64 0, .int .i64 0, .int .i64 0, .int .i64 0, .int .i64 0, .int .i64 0, .int .i64 0, .int .i64 0, .int .i64 0, .int .i64 0, .int .i64 0, .int .i64 0] : Array Value)[j]? = some (.int .i64 0) := by
  rcases (show j = 0 ∨ j = 1 ∨ j = 2 ∨ j = 3 ∨ j = 4 ∨ j = 5 ∨ j = 6 ∨ j = 7 ∨ j = 8 ∨ j = 9 ∨ j = 10 ∨ j = 11 ∨ j = 12 ∨ j = 13 ∨ j = 14 ∨ j = 15 by omega) with h | h | h | h | h | h | h | h | h | h | h | h | h | h | h | h <;> subst h <;> rfl
theorem drop_rd (l : List Int) (i : Int) (h0 : 0 ≤ i) (h1 : i < (l.length : Int)) : l.drop i.toNat = rd l i :: l.drop (i.toNat + 1) := by
  rw [List.drop_eq_getElem_cons (show i.toNat < l.length by omega)]
  unfold rd
  rw [List.getD_eq_getElem?_getD, List.getElem?_eq_getElem (show i.toNat < l.length by omega)]; rfl
theorem rsw_set (l : List Int) (i x cx : Int) (wq : World) (B : Nat) (hl : l.length ≤ 65536) (h0 : 0 ≤ i) (h1 : i < (l.length : Int)) (hx : rd l i = x) (hn : Hnum x) (hc : (((l.drop (i.toNat + 1)).count x : Nat) : Int) = cx)
    (ha : Arr wq B (fun x => ((l.drop (i.toNat + 1)).count x : Nat))) : Arr (wq.setCell ⟨B, x.toNat, none⟩ (.int .i64 (wrap64 (cx + 1)))) B (fun x => ((l.drop i.toNat).count x : Nat)) := by
  have hcb : (l.drop (i.toNat + 1)).count x ≤ l.length := Nat.le_trans List.count_le_length (by rw [List.length_drop]; omega)
  rw [wrId (by omega) (by omega)]
  refine (ha.set x hn _).congr fun y hy => ?_
  rw [← hc, drop_rd l i h0 h1, hx, List.count_cons]
  by_cases z : y = x
  · subst z; simp
  · have z' : (x == y) = false := by simpa using fun q => z q.symm
    rw [if_neg z]; simp [z']
theorem rsw_next (l : List Int) (i : Int) (m m' : Nat) (w wq : World) (hl : l.length ≤ 65536) (h0 : 0 < i) (h1 : i < (l.length : Int)) (ha : Arr wq w.heap.size (fun x => ((l.drop i.toNat).count x : Nat))) (hb : Below w.heap.size w wq)
    (hm : m' = nsw (l.drop (i.toNat - 1))) {n' : Int} (hn' : n' = (m' : Int)) :
    (∃ (i1 : Int) (m1 : Nat), Value.int IntKind.i64 n' = .int .i64 (m1 : Int) ∧ Value.int IntKind.i64 (wrap64 (i - 1)) = .int .i64 i1 ∧ Aside0 (-1 ≤ i1 ∧ i1 < (l.length : Int)) ∧ Aside0 (m1 = nsw (l.drop i1.toNat)) ∧ Aside0 (Arr wq w.heap.size (fun x => ((l.drop (i1.toNat + 1)).count x : Nat))) ∧ Aside0 (Below w.heap.size w wq)) ∧
    (intOf (.int .i64 (wrap64 (i - 1))) + 1).toNat < (intOf (.int .i64 i) + 1).toNat := by
  have e : wrap64 (i - 1) = i - 1 := wrId (by omega) (by omega)
  have e2 : (i - 1).toNat = i.toNat - 1 := by omega
  rw [e]
  refine ⟨⟨i - 1, m', by rw [hn'], rfl, ⟨by omega⟩, ⟨by rw [e2]; exact hm⟩, ⟨ha.congr fun x _ => by rw [e2, show i.toNat - 1 + 1 = i.toNat by omega]⟩, ⟨hb⟩⟩, by simp only [intOf]; omega⟩
theorem rsw_m (l : List Int) (i : Int) (m : Nat) (hl : l.length ≤ 65536) (h : m = nsw (l.drop i.toNat)) : wrap64 ((m : Int) + 1) = ((m + 1 : Nat) : Int) := by
  have := nsw_le (l.drop i.toNat)
  rw [List.length_drop] at this
  rw [wrId (by omega) (by omega)]; omega
set_option maxRecDepth 100000 in
set_option maxHeartbeats 4000000 in
theorem rsw_good (A0 : Option Addr) (c0 : Nat) (l : List Int) (w : World) (hr0 : Kd.C (Kd.int .i64) w A0 l.length l) (hc0 : l.length ≤ c0) (hl : Aside0 (l.length ≤ 65536)) (hgood : Aside0 (∀ x ∈ l, Hnum x)) :
    Calls Try.prog 63 #[.slice A0 l.length c0] w fun e w' => e = .returned (.tuple #[.int .i64 (nsw l : Nat), .int .i64 0]) ∧ Below w.heap.size w w' := by
  have HR0 := Aside0.mk hr0
  have hnum := larderref07_numbers.calls (l.length + 1) A0 c0 l true w hr0 hc0 (by rw [hnumbers_spec l _ (by have := hl.out; omega) (Nat.le_refl _), decide_eq_true hgood.out])
  obtain ⟨R, hR⟩ : ∃ R : Int, ((nsw l : Nat) : Int) = R := ⟨_, rfl⟩
  rw [hR]
  have HRR := Aside0.mk hR
  clear hr0 hc0 hR
  have hbb : decide (65536 < (l.length : Int)) = false := decide_eq_false (by have := hl.out; omega)
  have hw0 : wrap64 ((l.length : Int) - 1) = (l.length : Int) - 1 := wrId (by omega) (by have := hl.out; omega)
  go_enter Try.func63, Try.ntmps63
  go_wp2_with (go_at_call 89; refine hnum.mono ?_; rintro e w1 ⟨rfl, ⟨m1, rfl⟩⟩)
  clear hnum
  have HB0 := Arr.new (w.drewN m1) _ arr16
  have HB0 := Aside0.mk HB0
  go_loopw [4, 6] (fun n p wr => ∃ (i : Int) (m : Nat), n = .int .i64 (m : Int) ∧ p = .int .i64 i ∧ Aside0 (-1 ≤ i ∧ i < (l.length : Int)) ∧ Aside0 (m = nsw (l.drop i.toNat)) ∧ Aside0 (Arr wr w.heap.size (fun x => ((l.drop (i.toNat + 1)).count x : Nat))) ∧ Aside0 (Below w.heap.size w wr)) (fun _ p _ => (intOf p + 1).toNat)
  case atStart =>
    refine ⟨(l.length : Int) - 1, 0, rfl, by rw [hw0], ⟨by omega⟩, ⟨(nsw_last l _ (by omega)).symm⟩, ⟨?_⟩, ⟨(pw_below_drewN (Below.refl _ _) m1).alloc (Nat.le_refl _) _⟩⟩
    exact HB0.out.congr fun x _ => by rw [List.drop_of_length_le (by omega)]; simp
  case round =>
    obtain ⟨i, m, rfl, rfl, Hi, HM, HA, HB⟩ := hrel
    by_cases hlt : 0 < i
    · have p0 : 0 ≤ i := by omega
      have hlen : i < (l.length : Int) := Hi.out.2
      have hC := Kd.C_below HR0.out HB.out
      obtain ⟨ad, rfl, hxc⟩ := Kd.at_int hC i p0 hlen
      have hjm : 0 ≤ i - 1 := by omega
      have hjm2 : i - 1 < (l.length : Int) := by omega
      obtain ⟨ad2, e2, hyc⟩ := Kd.at_int hC (i - 1) hjm hjm2
      obtain rfl : ad = ad2 := by injection e2
      have hw1 : wrap64 (i - 1) = i - 1 := wrId (by omega) (by have := hl.out; omega)
      have HNx := Aside0.mk (rd_num l hgood.out i p0 hlen)
      have HNy := Aside0.mk (rd_num l hgood.out (i - 1) hjm hjm2)
      obtain ⟨x, hx⟩ : ∃ x, rd l i = x := ⟨_, rfl⟩
      obtain ⟨y, hy⟩ : ∃ y, rd l (i - 1) = y := ⟨_, rfl⟩
      rw [hx] at hxc HNx
      rw [hy] at hyc HNy
      rw [show (i - 1).toNat = i.toNat - 1 by omega] at hyc
      have HX := Aside0.mk hx
      have HY := Aside0.mk hy
      obtain ⟨cx, hcx⟩ : ∃ cx : Int, (((l.drop (i.toNat + 1)).count x : Nat) : Int) = cx := ⟨_, rfl⟩
      obtain ⟨hcell, hfroz⟩ := HA.out.at HNx.out hcx
      have HCX := Aside0.mk hcx
      have hltb : decide (0 < i) = true := decide_eq_true hlt
      have HL := Aside0.mk hlt
      clear hx hy hcx e2 hC
      replace p0 := eq_true p0
      replace hlen := eq_true hlen
      have q1 := eq_true (show 1 ≤ i by omega)
      replace hjm := eq_true hjm
      replace hjm2 := eq_true hjm2
      clear hlt
      have px0 : 0 ≤ x := HNx.out.1
      have px1 : x < 16 := HNx.out.2
      go_wp2
      have HS := Aside0.mk (rsw_set l i x cx wr w.heap.size hl.out (of_eq_true p0) (of_eq_true hlen) HX.out HNx.out HCX.out HA.out)
      have HB2 := Aside0.mk (HB.out.setCell (p := ⟨w.heap.size, x.toNat, none⟩) (Nat.le_refl _) (.int .i64 (wrap64 (cx + 1))))
      have hC := Kd.C_below HR0.out HB2.out
      obtain ⟨ad3, e3, hxc2⟩ := Kd.at_int hC i (of_eq_true p0) (of_eq_true hlen)
      obtain rfl : ad = ad3 := by injection e3
      obtain ⟨ad4, e4, hyc2⟩ := Kd.at_int hC (i - 1) (of_eq_true hjm) (of_eq_true hjm2)
      obtain rfl : ad = ad4 := by injection e4
      rw [HX.out] at hxc2
      rw [HY.out, show (i - 1).toNat = i.toNat - 1 by have := HL.out; omega] at hyc2
      clear hxc hyc hcell hfroz hC e3 e4
      revert HS HB2 hxc2 hyc2
      generalize wr.setCell ⟨w.heap.size, x.toNat, none⟩ (.int .i64 (wrap64 (cx + 1))) = wq
      intro HS HB2 hxc2 hyc2
      by_cases hxy : x = y
      · have hb1 : (x != y) = false := bne_eq_false_iff_eq.2 hxy
        have HXY := Aside0.mk hxy
        clear hxy
        go_quiet (fail)
        go_wp2
        exact rsw_next l i m m w _ hl.out HL.out (of_eq_true hlen) (HS.out.drew _) (pw_below_drewN HB2.out _) (by have h1 := HM.out; have h2 := sw_drop l i y x (by have := HL.out; omega) (of_eq_true hlen) HY.out HX.out; rw [if_neg (fun z => z.1 HXY.out.symm)] at h2; omega) rfl
      · have hb1 : (x != y) = true := bne_iff_ne.2 hxy
        have HXY := Aside0.mk hxy
        obtain ⟨cy, hcy⟩ : ∃ cy : Int, (((l.drop i.toNat).count y : Nat) : Int) = cy := ⟨_, rfl⟩
        obtain ⟨hcelly, hfrozy⟩ := HS.out.at HNy.out hcy
        have HCY := Aside0.mk hcy
        clear hcy hxy
        have py0 : 0 ≤ y := HNy.out.1
        have py1 : y < 16 := HNy.out.2
        by_cases hc : 0 < cy
        · have hcb : decide (0 < cy) = true := decide_eq_true hc
          have HC := Aside0.mk hc
          clear hc
          go_quiet (fail)
          go_wp2
          exact rsw_next l i m (m + 1) w _ hl.out HL.out (of_eq_true hlen) (HS.out.drew _) (pw_below_drewN HB2.out _) (by have h1 := HM.out; have h2 := sw_drop l i y x (by have := HL.out; omega) (of_eq_true hlen) HY.out HX.out; rw [if_pos ⟨fun z => HXY.out z.symm, by have h3 := HCY.out; have h4 := HC.out; omega⟩] at h2; omega) (rsw_m l i m hl.out HM.out)
        · have hcb : decide (0 < cy) = false := decide_eq_false hc
          have HC := Aside0.mk hc
          clear hc
          go_quiet (fail)
          go_wp2
          exact rsw_next l i m m w _ hl.out HL.out (of_eq_true hlen) (HS.out.drew _) (pw_below_drewN HB2.out _) (by have h1 := HM.out; have h2 := sw_drop l i y x (by have := HL.out; omega) (of_eq_true hlen) HY.out HX.out; rw [if_neg (fun z => by have h3 := HCY.out; have h4 := HC.out; have := z.2; omega)] at h2; omega) rfl
    · have hltb : decide (0 < i) = false := decide_eq_false hlt
      have hm : R = (m : Int) := by
        have h1 := HM.out
        have h2 : i.toNat = 0 := by omega
        rw [h2, List.drop_zero] at h1
        rw [← HRR.out, h1]
      subst hm
      clear hlt
      go_wp2
      go_ret2
      exact ⟨rfl, HB.out⟩
end Go.Proofs.Ytfcjfjmjcmanaaa.X
