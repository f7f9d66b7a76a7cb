/- LentInts and KeptInts: the plain part. -/
import Derived.Test.YtfcjfjmjcmanaaaXg
import Derived.Test.YtfcjfjmjcmanaaaXd
set_option linter.unusedVariables false
namespace Go.Proofs.Ytfcjfjmjcmanaaa.X
open Go.RowKit Go.Proofs.YtfcjfjmjcmanaaaW.PrintWords Go.Proofs.YtfcjfjmjcmanaaaW.PrintLast Go.Proofs.Ytfcjfjmjcmanaaa.PSchedFairs

def nine (i e : Nat) : List Int := (List.range' i e).map fun j : Nat => 7700 + (j : Int)
theorem lent_loop (l : List Int) (e : Nat) : ∀ (i k : Nat) (y : List Int), i + e = 9 → e < k → l.length ≤ y.length → y.length + e < 17592186044416 → lent.l0 k l y (i : Int) = some (y ++ nine i e) := by
  induction e with
  | zero =>
    intro i k y h1 h2 h3 h4
    obtain ⟨k, rfl⟩ : ∃ m, k = m + 1 := ⟨k - 1, by omega⟩
    simp only [lent.l0]
    rw [if_neg (by omega), if_pos (by omega), if_pos (by omega)]
    simp [nine]
  | succ e ih =>
    intro i k y h1 h2 h3 h4
    obtain ⟨k, rfl⟩ : ∃ m, k = m + 1 := ⟨k - 1, by omega⟩
    simp only [lent.l0]
    rw [if_pos (by omega), if_pos (by omega), wsucc (by omega), show wrap64 (7700 + (i : Int)) = 7700 + (i : Int) from wid (by omega) (by omega), ih (i + 1) k _ (by omega) (by omega) (by rw [List.length_append]; omega) (by rw [List.length_append, List.length_singleton]; omega)]
    simp [nine, List.range'_succ]
theorem lent_eq (l : List Int) (hl : l.length ≤ 17592186043904) : lent.f 20 l = some (l ++ nine 0 9) := by
  unfold lent.f
  rw [if_pos (by simp; omega)]
  have := lent_loop l 9 0 20 ([] ++ l) (by omega) (by omega) (by simp) (by simp; omega)
  simpa using this
theorem nine_get (j : Nat) (h : j < 9) : (nine 0 9)[j]? = some (7700 + (j : Int)) := by
  unfold nine
  rw [List.getElem?_map, List.getElem?_range' (by omega)]
  simp
theorem kept_loop (l : List Int) (hl : l.length ≤ 17592186043904) (e : Nat) : ∀ (i k : Nat), i + e = l.length + 9 → e < k → kept.l0 k l (l ++ nine 0 9) (i : Int) = some true := by
  have hlen : (l ++ nine 0 9).length = l.length + 9 := by simp [nine]
  induction e with
  | zero =>
    intro i k h1 h2
    obtain ⟨k, rfl⟩ : ∃ m, k = m + 1 := ⟨k - 1, by omega⟩
    simp only [kept.l0]
    rw [if_neg (by omega)]
  | succ e ih =>
    intro i k h1 h2
    obtain ⟨k, rfl⟩ : ∃ m, k = m + 1 := ⟨k - 1, by omega⟩
    have hw : wrap64 ((i : Int) + 1) = ((i + 1 : Nat) : Int) := by rw [wid (by omega) (by omega)]; omega
    simp only [kept.l0]
    rw [if_pos (by omega), hw, ih (i + 1) k (by omega) (by omega)]
    by_cases c : i < l.length
    · have hr : rd (l ++ nine 0 9) (i : Int) = rd l (i : Int) := by rw [rd_nat, rd_nat, List.getD_eq_getElem?_getD, List.getD_eq_getElem?_getD, List.getElem?_append_left c]
      rw [if_pos (by omega), if_pos (by omega), if_pos hr, if_neg (by omega)]
    · have hr : rd (l ++ nine 0 9) (i : Int) = 7700 + ((i - l.length : Nat) : Int) := by
        rw [rd_nat, List.getD_eq_getElem?_getD, List.getElem?_append_right (by omega), nine_get _ (by omega)]; rfl
      have hv : wrap64 (wrap64 (7700 + (i : Int)) - (l.length : Int)) = 7700 + ((i - l.length : Nat) : Int) := by
        rw [wid (x := 7700 + (i : Int)) (by omega) (by omega), wid (by omega) (by omega)]; omega
      rw [if_neg (by omega), if_pos (by omega), if_pos (by omega), hr, hv, if_pos rfl]
end Go.Proofs.Ytfcjfjmjcmanaaa.X
