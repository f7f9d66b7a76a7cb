/- The light base of the texts of Least: words on numbers; the same as in the texts Mf, Mg, Xc, Xe, Xh, Xp under other names, without what those import. -/
import Derived.Test.YtfcjfjmjcmanaaaXd
import Derived.Test.YtfcjfjmjcmanaaaPBasex
import Derived.Test.YtfcjfjmjcmanaaaPNumsx
import Derived.Test.YtfcjfjmjcmanaaaXl
import Derived.RangeFuncNested
set_option linter.unusedVariables false
namespace Go.Proofs.Ytfcjfjmjcmanaaa.X
open Go.RowKit Go.Proofs.Ytfcjfjmjcmanaaa.PBase Go.Proofs.Ytfcjfjmjcmanaaa.PNums Go.Proofs.YtfcjfjmjcmanaaaW.PrintWords Go.Proofs.YtfcjfjmjcmanaaaW.PrintLast Go.Proofs.YtfcjfjmjcmanaaaW.PrintMore
theorem hwrId {x : Int} (h0 : -9223372036854775808 ≤ x) (h1 : x < 9223372036854775808) : wrap64 x = x := by unfold wrap64; omega
theorem hwsucc {i : Nat} (h : i ≤ 65536) : wrap64 ((i : Int) + 1) = ((i + 1 : Nat) : Int) := by rw [hwrId (by omega) (by omega)]; omega
theorem hrd_nat (l : List Int) (i : Nat) : rd l (i : Int) = l.getD i 0 := by unfold rd; rw [Int.toNat_natCast]
abbrev Hnum (x : Int) : Prop := 0 ≤ x ∧ x < 16
theorem hrd_mid (pre : List Int) (x : Int) (rest : List Int) : rd (pre ++ x :: rest) (pre.length : Int) = x := by
  unfold rd
  rw [Int.toNat_natCast, List.getD_eq_getElem?_getD, List.getElem?_append_right (Nat.le_refl _)]; simp
theorem hnumbers_l0 : ∀ (rest pre : List Int) (k : Nat), pre.length + rest.length ≤ 1000000000000000000 → rest.length + 1 ≤ k →
    larderref07_numbers.l0 k (pre ++ rest) (pre.length : Int) = some (decide (∀ x ∈ rest, Hnum x)) := by
  intro rest
  induction rest with
  | nil =>
    intro pre k h hk
    obtain ⟨k, rfl⟩ : ∃ m, k = m + 1 := ⟨k - 1, by omega⟩
    simp only [larderref07_numbers.l0]
    rw [if_neg (by simp)]
    simp
  | cons x rest ih =>
    intro pre k h hk
    simp only [List.length_cons] at h hk
    obtain ⟨k, rfl⟩ : ∃ m, k = m + 1 := ⟨k - 1, by omega⟩
    simp only [larderref07_numbers.l0]
    rw [if_pos (by simp; omega), if_pos (by omega), hrd_mid]
    by_cases h0 : x < 0
    · rw [if_pos h0, decide_eq_false (fun z => by have := (z x (by simp)).1; omega)]
    · rw [if_neg h0]
      by_cases h1 : x ≥ 16
      · rw [if_pos h1, decide_eq_false (fun z => by have := (z x (by simp)).2; omega)]
      · rw [if_neg h1]
        have := ih (pre ++ [x]) k (by simp; omega) (by omega)
        rw [List.append_assoc, List.singleton_append, show (pre ++ [x]).length = pre.length + 1 by simp] at this
        rw [show wrap64 ((pre.length : Int) + 1) = ((pre.length + 1 : Nat) : Int) by rw [hwrId (by omega) (by omega)]; omega, this]
        refine congrArg some (decide_eq_decide.2 ?_)
        constructor
        · intro z y hy
          rcases List.mem_cons.1 hy with rfl | hy
          · exact ⟨by omega, by omega⟩
          · exact z y hy
        · intro z y hy
          exact z y (List.mem_cons_of_mem _ hy)
theorem hnumbers_spec (l : List Int) (k : Nat) (hl : l.length ≤ 1000000000000000000) (hk : l.length + 1 ≤ k) : larderref07_numbers.f k l = some (decide (∀ x ∈ l, Hnum x)) := by
  have := hnumbers_l0 l [] k (by simpa using hl) hk
  rw [List.nil_append] at this
  exact this
theorem htake_next (l : List Int) (i : Int) (h0 : 0 ≤ i) (h1 : i < (l.length : Int)) : l.take (i.toNat + 1) = l.take i.toNat ++ [rd l i] := by
  have hi2 : i.toNat < l.length := by omega
  rw [List.take_add_one]; unfold rd
  rw [List.getD_eq_getElem?_getD, List.getElem?_eq_getElem hi2]; rfl
theorem hrd_num (l : List Int) (h : ∀ x ∈ l, Hnum x) (i : Int) (h0 : 0 ≤ i) (h1 : i < (l.length : Int)) : Hnum (rd l i) := by
  have hi2 : i.toNat < l.length := by omega
  unfold rd
  rw [List.getD_eq_getElem?_getD, List.getElem?_eq_getElem hi2]
  exact h _ (List.getElem_mem hi2)
theorem hsame_l0_self (L : List Int) (hL : L.length ≤ 70000) (e : Nat) : ∀ (k i : Nat), i + e = L.length → e < k → larderlaw07_same.l0 k L L (i : Int) = some true := by
  induction e with
  | zero =>
    intro k i h hk
    obtain ⟨k, rfl⟩ : ∃ m, k = m + 1 := ⟨k - 1, by omega⟩
    simp only [larderlaw07_same.l0]
    rw [if_neg (by omega)]
  | succ e ih =>
    intro k i h hk
    obtain ⟨k, rfl⟩ : ∃ m, k = m + 1 := ⟨k - 1, by omega⟩
    simp only [larderlaw07_same.l0]
    rw [if_pos (by omega), if_pos (by omega), if_pos (by omega), if_pos trivial, show wrap64 ((i : Int) + 1) = ((i + 1 : Nat) : Int) from by rw [hwrId (by omega) (by omega)]; omega]
    exact ih k (i + 1) (by omega) (by omega)
theorem hsame_self (L : List Int) (hL : L.length ≤ 70000) : larderlaw07_same.f (L.length + 2) L L = some true := by
  unfold larderlaw07_same.f
  rw [if_pos rfl]
  exact hsame_l0_self L hL L.length _ 0 (by omega) (by omega)
def hnine (i e : Nat) : List Int := (List.range' i e).map fun j : Nat => 7700 + (j : Int)
theorem hlent_loop (l : List Int) (e : Nat) : ∀ (i k : Nat) (y : List Int), i + e = 9 → e < k → l.length ≤ y.length → y.length + e < 17592186044416 → lent.l0 k l y (i : Int) = some (y ++ hnine i e) := by
  induction e with
  | zero =>
    intro i k y h1 h2 h3 h4
    obtain ⟨k, rfl⟩ : ∃ m, k = m + 1 := ⟨k - 1, by omega⟩
    simp only [lent.l0]
    rw [if_neg (by omega), if_pos (by omega), if_pos (by omega)]
    simp [hnine]
  | succ e ih =>
    intro i k y h1 h2 h3 h4
    obtain ⟨k, rfl⟩ : ∃ m, k = m + 1 := ⟨k - 1, by omega⟩
    simp only [lent.l0]
    rw [if_pos (by omega), if_pos (by omega), hwsucc (by omega), show wrap64 (7700 + (i : Int)) = 7700 + (i : Int) from hwrId (by omega) (by omega), ih (i + 1) k _ (by omega) (by omega) (by rw [List.length_append]; omega) (by rw [List.length_append, List.length_singleton]; omega)]
    simp [hnine, List.range'_succ]
theorem hlent_eq (l : List Int) (hl : l.length ≤ 17592186043904) : lent.f 20 l = some (l ++ hnine 0 9) := by
  unfold lent.f
  rw [if_pos (by simp; omega)]
  have := hlent_loop l 9 0 20 ([] ++ l) (by omega) (by omega) (by simp) (by simp; omega)
  simpa using this
theorem hnine_get (j : Nat) (h : j < 9) : (hnine 0 9)[j]? = some (7700 + (j : Int)) := by
  unfold hnine
  rw [List.getElem?_map, List.getElem?_range' (by omega)]
  simp
theorem hkept_loop (l : List Int) (hl : l.length ≤ 17592186043904) (e : Nat) : ∀ (i k : Nat), i + e = l.length + 9 → e < k → kept.l0 k l (l ++ hnine 0 9) (i : Int) = some true := by
  have hlen : (l ++ hnine 0 9).length = l.length + 9 := by simp [hnine]
  induction e with
  | zero =>
    intro i k h1 h2
    obtain ⟨k, rfl⟩ : ∃ m, k = m + 1 := ⟨k - 1, by omega⟩
    simp only [kept.l0]
    rw [if_neg (by omega)]
  | succ e ih =>
    intro i k h1 h2
    obtain ⟨k, rfl⟩ : ∃ m, k = m + 1 := ⟨k - 1, by omega⟩
    have hw : wrap64 ((i : Int) + 1) = ((i + 1 : Nat) : Int) := by rw [hwrId (by omega) (by omega)]; omega
    simp only [kept.l0]
    rw [if_pos (by omega), hw, ih (i + 1) k (by omega) (by omega)]
    by_cases c : i < l.length
    · have hr : rd (l ++ hnine 0 9) (i : Int) = rd l (i : Int) := by rw [hrd_nat, hrd_nat, List.getD_eq_getElem?_getD, List.getD_eq_getElem?_getD, List.getElem?_append_left c]
      rw [if_pos (by omega), if_pos (by omega), if_pos hr, if_neg (by omega)]
    · have hr : rd (l ++ hnine 0 9) (i : Int) = 7700 + ((i - l.length : Nat) : Int) := by
        rw [hrd_nat, List.getD_eq_getElem?_getD, List.getElem?_append_right (by omega), hnine_get _ (by omega)]; rfl
      have hv : wrap64 (wrap64 (7700 + (i : Int)) - (l.length : Int)) = 7700 + ((i - l.length : Nat) : Int) := by
        rw [hwrId (x := 7700 + (i : Int)) (by omega) (by omega), hwrId (by omega) (by omega)]; omega
      rw [if_neg (by omega), if_pos (by omega), if_pos (by omega), hr, hv, if_pos rfl]
end Go.Proofs.Ytfcjfjmjcmanaaa.X
