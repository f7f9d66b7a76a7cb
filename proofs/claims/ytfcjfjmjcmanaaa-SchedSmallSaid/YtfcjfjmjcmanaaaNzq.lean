/- SchedLeast: the place of a swap: arithmetic. -/
import Derived.Test.YtfcjfjmjcmanaaaNdq
set_option linter.unusedVariables false
namespace Go.Proofs.Ytfcjfjmjcmanaaa.X
open Go.RowKit Go.Proofs.YtfcjfjmjcmanaaaW.PrintWords
theorem swap_place (n : Nat) (hn : 1 < n) (hn5 : n ≤ 512) (z : Int) : ∃ n1 k0 : Int, wrap64 ((n : Int) - 1) = n1 ∧ (n1 == 0) = false ∧ Int.tmod z n1 = k0 ∧ wrap64 k0 = k0 ∧
    (k0 < 0 → wrap64 (k0 + (n : Int)) = k0 + (n : Int) ∧ ∃ kn : Nat, wrap64 (k0 + (n : Int) - 1) = (kn : Int) ∧ kn + 1 < n) ∧ (¬ k0 < 0 → ∃ kn : Nat, k0 = (kn : Int) ∧ kn + 1 < n) := by
  have g1 := Int.tmod_lt_of_pos z (show (0 : Int) < (n : Int) - 1 by omega)
  have g2 := Int.lt_tmod_of_pos z (show (0 : Int) < (n : Int) - 1 by omega)
  refine ⟨(n : Int) - 1, Int.tmod z ((n : Int) - 1), hwrId (by omega) (by omega), by simp; omega, rfl, ?_⟩
  generalize Int.tmod z ((n : Int) - 1) = k0 at g1 g2
  refine ⟨hwrId (by omega) (by omega), fun h => ⟨hwrId (by omega) (by omega), (k0 + (n : Int) - 1).toNat, ?_, by omega⟩, fun h => ⟨k0.toNat, by omega, by omega⟩⟩
  rw [hwrId (by omega) (by omega)]; omega
theorem swap_next (n kn : Nat) (hn5 : n ≤ 512) (h : kn + 1 < n) : wrap64 ((kn : Int) + 1) = ((kn + 1 : Nat) : Int) ∧ ((0 : Int) ≤ (kn : Int)) = True ∧ ((kn : Int) < (n : Int)) = True ∧ ((0 : Int) ≤ ((kn + 1 : Nat) : Int)) = True ∧ (((kn + 1 : Nat) : Int) < (n : Int)) = True :=
  ⟨by rw [hwrId (by omega) (by omega)]; omega, eq_true (by omega), eq_true (by omega), eq_true (by omega), eq_true (by omega)⟩
theorem swap_lst {t : Int → Int → Bool} (ht : Ap t) (O : List Int) (n kn k2 : Nat) (x y : Int) (M : List Int) (hl : O.length = n) (hk : kn + 1 = k2) (h2 : k2 < n) (hx : rd O (kn : Int) = x) (hy : rd O (k2 : Int) = y) (hab : t x y = true) (he : lst t n O = M) :
    lst t n ((O.set kn y).set k2 x) = M ∧ ((O.set kn y).set k2 x).length = n ∧ ∀ z ∈ (O.set kn y).set k2 x, z ∈ O := by
  subst hk hl
  have e1 : O[kn]'(by omega) = x := by rw [← hx]; unfold rd; rw [Int.toNat_natCast, List.getD_eq_getElem?_getD, List.getElem?_eq_getElem (by omega)]; rfl
  have e2 : O[kn + 1] = y := by rw [← hy]; unfold rd; rw [Int.toNat_natCast, List.getD_eq_getElem?_getD, List.getElem?_eq_getElem (by omega)]; rfl
  refine ⟨?_, by simp, fun z hz => ?_⟩
  · have := lst_swapped ht O kn h2 (by rw [e1, e2]; exact hab)
    rw [e1, e2] at this
    rw [this, he]
  · rcases List.mem_or_eq_of_mem_set hz with h | h
    · rcases List.mem_or_eq_of_mem_set h with h | h
      · exact h
      · rw [h, ← e2]; exact List.getElem_mem _
    · rw [h, ← e1]; exact List.getElem_mem _
end Go.Proofs.Ytfcjfjmjcmanaaa.X
