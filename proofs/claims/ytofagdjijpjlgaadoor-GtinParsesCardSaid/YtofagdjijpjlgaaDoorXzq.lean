/- GtinDays and GtinAmounts: the plain part. -/
import Derived.Test.YtofagdjijpjlgaaDoorXyq
import Derived.Test.YtofagdjijpjlgaaDoorGd
set_option linter.unusedVariables false
set_option linter.unusedSimpArgs false
namespace Go.Proofs.YtofagdjijpjlgaaDoor.X
open Go.RowKit Go.Proofs.YtofagdjijpjlgaaDoorW.PrintWords Go.Proofs.YtofagdjijpjlgaaDoorW.PrintLast Go.Proofs.YtofagdjijpjlgaaDoor.PBase Go.Proofs.YtofagdjijpjlgaaDoor.PDays

theorem isD_iff (c : Int) : isD c = true ↔ (48 ≤ c ∧ c ≤ 57) := by unfold isD; simp
theorem rIsDigit (c : Int) : larderref02_isDigit.f c = some (isD c) := by
  unfold larderref02_isDigit.f isD
  by_cases h : c ≥ 48
  · rw [if_pos h]; congr 1; rw [decide_eq_decide]; omega
  · rw [if_neg h]; congr 1; symm; rw [decide_eq_false_iff_not]; omega
theorem bt_sub (s : ByteArray) (n m : Nat) (i : Nat) (h : n + i < m) (hm : m ≤ s.size) : bt (s.extract n m) i = bt s ((n + i : Nat) : Int) := by
  rw [bs_rd, bs_rd, bs_extract, Int.toNat_natCast, Int.toNat_natCast, List.getD_eq_getElem?_getD, List.getD_eq_getElem?_getD, List.getElem?_drop, List.getElem?_take, if_pos h]
theorem rtwo_sub (s : ByteArray) (n m : Nat) (h : n + 2 ≤ m) (hm : m ≤ s.size) : larderref02_two.f (s.extract n m) = some (tw s n) := by
  have h0 := bt_sub s n m 0 (by omega) hm
  have h1 := bt_sub s n m 1 (by omega) hm
  have hz : (s.extract n m).size = m - n := by rw [ByteArray.size_extract]; omega
  unfold larderref02_two.f tw
  rw [if_pos (by omega), if_pos (by omega)]
  simp only [Nat.add_zero, Int.natCast_add] at h0 h1
  rw [show bt (s.extract n m) 0 = bt s n from h0, show bt (s.extract n m) 1 = bt s ((n : Int) + 1) from h1]
  congr 1; omega
set_option maxHeartbeats 4000000 in
theorem risDay (s : ByteArray) (h : s.size = 6) (k : Nat) (hk : 2 ≤ k) : larderref02_isDay.f k s = some (isDayB (tw s 0) (tw s 2) (tw s 4)) := by
  obtain ⟨k, rfl⟩ : ∃ m, k = m + 1 := ⟨k - 1, by omega⟩
  have e2 : larderref02_two.f (s.extract 2 4) = some (tw s 2) := rtwo_sub s 2 4 (by omega) (by omega)
  have e0 : larderref02_two.f (s.extract 0 2) = some (tw s 0) := rtwo_sub s 0 2 (by omega) (by omega)
  have e4 : larderref02_two.f (s.extract 4 s.size) = some (tw s 4) := rtwo_sub s 4 s.size (by omega) (by omega)
  have r0 := tw_range s 0
  unfold larderref02_isDay.f
  rw [if_pos (by omega), if_pos (by omega), e2]
  simp only [Option.bind_some]
  obtain ⟨m, hm⟩ : ∃ m, tw s 2 = m := ⟨_, rfl⟩
  obtain ⟨d, hd⟩ : ∃ m, tw s 4 = m := ⟨_, rfl⟩
  obtain ⟨y, hy⟩ : ∃ m, tw s 0 = m := ⟨_, rfl⟩
  rw [hm] at e2 ⊢
  rw [hd] at e4 ⊢
  rw [hy] at e0 r0 ⊢
  have s0 : (0 : Int) ≤ 2 := by omega
  have s4 : (4 : Int) ≤ s.size := by omega
  have s2 : (2 : Int) ≤ s.size := by omega
  have htrue : ∀ b : Bool, b = true → (m = 4 ∨ m = 6 ∨ m = 9 ∨ m = 11) → larderref02_isDay.j0 (k + 1) s m 31 m b = some (isDayB y m d) := by
    intro b hb hm4
    simp only [larderref02_isDay.j0]
    rw [if_pos hb, if_pos (by omega), if_pos (by omega), if_pos s4, e4]
    simp only [Option.bind_some]
    congr 1
    unfold isDayB monthDays
    rw [if_neg (show ¬ m < 1 by omega), if_neg (show ¬ m > 12 by omega), if_neg (show ¬ m = 2 by omega), if_pos hm4, if_neg (show ¬ (m = 2 ∧ y % 4 = 0) from fun z => by omega)]
    rfl
  by_cases h4 : m = 4
  · rw [if_pos h4]; exact htrue _ (by simp [h4]) (by omega)
  · rw [if_neg h4]
    by_cases h6 : m = 6
    · rw [if_pos h6]; exact htrue _ (by simp [h6]) (by omega)
    · rw [if_neg h6]
      by_cases h9 : m = 9
      · rw [if_pos h9]; exact htrue _ (by simp [h9]) (by omega)
      · rw [if_neg h9]
        by_cases h11 : m = 11
        · exact htrue _ (by simp [h11]) (by omega)
        · have hb : (m == 11) = false := beq_eq_false_iff_ne.2 h11
          rw [hb]
          simp only [larderref02_isDay.j0]
          rw [if_neg (by simp)]
          have et : Int.tmod y 4 = y % 4 := Int.tmod_eq_emod_of_nonneg r0.1
          by_cases h2 : m = 2
          · rw [if_pos h2, if_pos (by decide), if_pos s2, e0]
            simp only [Option.bind_some]
            rw [et]
            by_cases hq : y % 4 = 0
            · rw [if_pos hq, if_pos (show m ≥ 1 by omega), if_pos (show m ≤ 12 by omega), if_pos s4, e4]
              simp only [Option.bind_some]
              congr 1
              unfold isDayB monthDays
              rw [if_neg (show ¬ m < 1 by omega), if_neg (show ¬ m > 12 by omega), if_pos h2, if_pos ⟨h2, hq⟩]; rfl
            · rw [if_neg hq, if_pos (show m ≥ 1 by omega), if_pos (show m ≤ 12 by omega), if_pos s4, e4]
              simp only [Option.bind_some]
              congr 1
              unfold isDayB monthDays
              rw [if_neg (show ¬ m < 1 by omega), if_neg (show ¬ m > 12 by omega), if_pos h2, if_neg (fun z => hq z.2)]; rfl
          · rw [if_neg h2]
            unfold isDayB monthDays
            by_cases c1 : m ≥ 1
            · rw [if_pos c1, if_neg (show ¬ m < 1 by omega)]
              by_cases c2 : m ≤ 12
              · rw [if_pos c2, if_neg (show ¬ m > 12 by omega), if_pos s4, e4]
                simp only [Option.bind_some]
                congr 1
                rw [if_neg h2, if_neg (show ¬ (m = 4 ∨ m = 6 ∨ m = 9 ∨ m = 11) by omega), if_neg (show ¬ (m = 2 ∧ y % 4 = 0) from fun z => h2 z.1)]; rfl
              · rw [if_neg c2, if_pos (show m > 12 by omega)]
            · rw [if_neg c1, if_pos (show m < 1 by omega)]
theorem day_rows : ∀ r ∈ rws, r.kind = 1 → r.least = 6 ∧ r.most = 6 := by decide +kernel
end Go.Proofs.YtofagdjijpjlgaaDoor.X
