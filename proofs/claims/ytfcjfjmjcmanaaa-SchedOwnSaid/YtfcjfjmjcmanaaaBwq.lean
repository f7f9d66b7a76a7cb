/- below: plain. -/
import Derived.Test.YtfcjfjmjcmanaaaGo
import Derived.Test.YtfcjfjmjcmanaaaLzq
set_option linter.unusedVariables false
namespace Go.Proofs.Ytfcjfjmjcmanaaa.X
open Go.RowKit Go.Proofs.Ytfcjfjmjcmanaaa.PBase Go.Proofs.Ytfcjfjmjcmanaaa.POnly Go.Proofs.YtfcjfjmjcmanaaaW.PrintWords Go.Proofs.YtfcjfjmjcmanaaaW.PrintLast Go.Proofs.YtfcjfjmjcmanaaaW.PrintMore
theorem rd_get (L : List Int) (i : Nat) (hi : i < L.length) : rd L (i : Int) = L[i] := by
  unfold rd; rw [Int.toNat_natCast, List.getD_eq_getElem?_getD, List.getElem?_eq_getElem hi]; rfl
/-- Does a list come ahead of another? -/
def blw : List Int → List Int → Bool
  | x :: r, y :: s => if x = y then blw r s else decide (x < y)
  | _, _ => false
theorem below_l0 (l m : List Int) (hl : l.length ≤ 1000000) (hm : l.length = m.length) (e : Nat) : ∀ (i k : Nat), i + e = l.length → 2 * e + 1 < k → larderlaw07_below.l0 k l m (i : Int) = some (blw (l.drop i) (m.drop i)) := by
  induction e with
  | zero =>
    intro i k h hk
    obtain ⟨k, rfl⟩ : ∃ m, k = m + 2 := ⟨k - 2, by omega⟩
    simp only [larderlaw07_below.l0, larderlaw07_below.j1]
    rw [if_neg (by omega), if_neg (by simp), List.drop_of_length_le (by omega), List.drop_of_length_le (by omega)]
    rfl
  | succ e ih =>
    intro i k h hk
    obtain ⟨k, rfl⟩ : ∃ m, k = m + 2 := ⟨k - 2, by omega⟩
    have h1 : i < l.length := by omega
    have h2 : i < m.length := by omega
    have hw : wrap64 ((i : Int) + 1) = ((i + 1 : Nat) : Int) := by rw [hwrId (by omega) (by omega)]; omega
    have ih' := ih (i + 1) k (by omega) (by omega)
    clear ih
    obtain ⟨k', hk'⟩ : ∃ k', k = k' := ⟨_, rfl⟩
    rw [hk'] at ih' ⊢
    have s1 : larderlaw07_below.l0 (k' + 2) l m (i : Int) = larderlaw07_below.j1 (k' + 1) l m (i : Int) (decide ((i : Int) < (m.length : Int))) := by
      simp only [larderlaw07_below.l0]
      rw [if_pos (by omega)]
    have s2 : larderlaw07_below.j1 (k' + 1) l m (i : Int) true = if (rd l (i : Int)) = (rd m (i : Int)) then larderlaw07_below.l0 k' l m (wrap64 ((i : Int) + 1)) else some (decide ((rd l (i : Int)) < (rd m (i : Int)))) := by
      simp only [larderlaw07_below.j1]
      rw [if_pos trivial, if_pos (by omega), if_pos (by omega), if_pos (by omega)]
    rw [s1, decide_eq_true (by omega), s2, hw, ih', rd_get l i h1, rd_get m i h2, List.drop_eq_getElem_cons h1, List.drop_eq_getElem_cons h2]
    show _ = some (if l[i] = m[i] then blw (l.drop (i + 1)) (m.drop (i + 1)) else decide (l[i] < m[i]))
    split <;> rfl
theorem below_spec (l m : List Int) (hl : l.length ≤ 1000000) (hm : l.length = m.length) : larderlaw07_below.f (2 * l.length + 3) l m = some (blw l m) := by
  unfold larderlaw07_below.f
  have := below_l0 l m hl hm l.length 0 (2 * l.length + 3) (by omega) (by omega)
  simpa using this
end Go.Proofs.Ytfcjfjmjcmanaaa.X
