/- GtinAmounts: the plain part. -/
import Derived.Test.YtofagdjijpjlgaaDoorXz
set_option linter.unusedVariables false
namespace Go.Proofs.YtofagdjijpjlgaaDoor.X
open Go.RowKit Go.Proofs.YtofagdjijpjlgaaDoorW.PrintWords Go.Proofs.YtofagdjijpjlgaaDoorW.PrintLast Go.Proofs.YtofagdjijpjlgaaDoor.PBase Go.Proofs.YtofagdjijpjlgaaDoor.PDays

theorem amount_rows2 : ∀ r ∈ rws, amountAi r.ai = true → r.kind = 2 ∧ 0 ≤ r.least ∧ r.most ≤ 100 := by decide +kernel
theorem grj0 (k : Nat) (a v : ByteArray) : gtin_Amount.j0 (k + 1) true a v = some (0, 0, false) := by simp only [gtin_Amount.j0]; rw [if_pos trivial]
theorem arj0 (k : Nat) (a v : ByteArray) : larderref02_Amount.j0 (k + 1) true a v = some (0, 0, false) := by simp only [larderref02_Amount.j0]; rw [if_pos trivial]
/-- The two loops over good digits answer alike. -/
theorem aloop_ok (a v : ByteArray) (ha : a.size = 4) (hd : ∀ j : Nat, j < v.size → isD (bt v j) = true) (hv : v.size ≤ 140737488351232) (e : Nat) : ∀ (k i : Nat) (x : Int), i + e = v.size → e < k →
    ∃ r, gtin_Amount.l0 k x v.size i a v = some r ∧ larderref02_Amount.l0 k x i a v = some r := by
  induction e with
  | zero =>
    intro k i x h hk
    obtain ⟨k, rfl⟩ : ∃ m, k = m + 1 := ⟨k - 1, by omega⟩
    simp only [gtin_Amount.l0, larderref02_Amount.l0]
    rw [if_neg (show ¬ (i : Int) < v.size by omega), if_pos (show (3 : Int) < a.size by omega)]
    exact ⟨_, rfl, by rw [if_neg (show ¬ (i : Int) < v.size by omega)]⟩
  | succ e ih =>
    intro k i x h hk
    obtain ⟨k, rfl⟩ : ∃ m, k = m + 1 := ⟨k - 1, by omega⟩
    simp only [gtin_Amount.l0, larderref02_Amount.l0]
    have hi : (i : Int) < v.size := by omega
    have h0 : (0 : Int) ≤ i := by omega
    have w : wrap64 ((i : Int) + 1) = ((i + 1 : Nat) : Int) := by rw [wrap_id (by omega) (by omega)]; omega
    simp only [if_pos hi, if_pos h0, rIsDigit, hd i (by omega), Option.bind_some, if_true, w, Int.mul_comm 10 x]
    exact ih k (i + 1) _ (by omega) (by omega)
theorem aloop_bad (a v : ByteArray) (hd : ¬ ∀ j : Nat, j < v.size → isD (bt v j) = true) (hv : v.size ≤ 140737488351232) (e : Nat) : ∀ (k i : Nat) (x : Int), i + e = v.size → e < k → (∀ j : Nat, j < i → isD (bt v j) = true) →
    larderref02_Amount.l0 k x i a v = some (0, 0, false) := by
  induction e with
  | zero => intro k i x h hk hp; exact absurd (fun j hj => hp j (by omega)) hd
  | succ e ih =>
    intro k i x h hk hp
    obtain ⟨k, rfl⟩ : ∃ m, k = m + 1 := ⟨k - 1, by omega⟩
    simp only [larderref02_Amount.l0]
    have hi : (i : Int) < v.size := by omega
    have h0 : (0 : Int) ≤ i := by omega
    have w : wrap64 ((i : Int) + 1) = ((i + 1 : Nat) : Int) := by rw [wrap_id (by omega) (by omega)]; omega
    simp only [if_pos hi, if_pos h0, rIsDigit, Option.bind_some, w]
    by_cases hb : isD (bt v i) = true
    · rw [if_pos hb]
      exact ih k (i + 1) _ (by omega) (by omega) (fun j hj => by
        rcases Nat.lt_or_ge j i with h1 | h1
        · exact hp j h1
        · obtain rfl : j = i := by omega
          exact hb)
    · rw [if_neg hb]
theorem take3 (a : ByteArray) : (a.extract 0 3).toList = a.toList.take 3 := by
  rw [Go.ByteArray.toList_eq, Go.ByteArray.toList_eq, ByteArray.data_extract, Array.toList_extract]
  simp [List.extract]
theorem amount_body (a v : ByteArray) (r : Row5) (hr : r ∈ rws) (hai : r.ai = a.toList) (h4 : a.size = 4) (hm : amountAi r.ai = true) (hv : v.size ≤ 140737488351232) : 
    ∃ x, ((gtin_fits.f 200 (S r) r.least r.most r.kind r.plain v).bind fun t => (gtin_Amount.j0 200 (t != 0) a v)) = some x ∧ 
      (if (v.size : Int) < r.least then (larderref02_Amount.j0 200 true a v) else (larderref02_Amount.j0 200 (decide ((v.size : Int) > r.most)) a v)) = some x := by
  obtain ⟨hk, hl, hm⟩ := amount_rows2 r hr hm
  unfold gtin_fits.f
  rw [if_pos hv, hk]
  by_cases h1 : (v.size : Int) < r.least
  · rw [if_pos h1, if_pos h1, arj0 199]
    exact ⟨_, grj0 199 a v, rfl⟩
  · rw [if_neg h1, if_neg h1]
    by_cases h2 : r.most < (v.size : Int)
    · rw [if_pos h2, decide_eq_true h2, arj0 199]
      exact ⟨_, grj0 199 a v, rfl⟩
    · rw [if_neg h2, decide_eq_false h2]
      have hs : v.size ≤ 100 := by omega
      have href : larderref02_Amount.j0 200 false a v = larderref02_Amount.l0 199 0 ((0 : Nat) : Int) a v := rfl
      have hgt : gtin_Amount.j0 200 false a v = gtin_Amount.l0 199 0 v.size ((0 : Nat) : Int) a v := rfl
      rw [if_neg (show ¬ (2 : Int) = 0 by decide), if_neg (show ¬ (2 : Int) = 1 by decide), if_pos rfl, href]
      simp only [Option.bind_some]
      by_cases ha : allFrom isD v v.size 0 = true
      · rw [if_pos ha]
        have hd : ∀ j : Nat, j < v.size → isD (bt v j) = true := fun j hj => (allFrom_iff isD v v.size 0 (by omega)).1 ha j (by omega) hj
        rw [show ((0 : Int) != 0) = false from rfl, hgt]
        exact aloop_ok a v h4 hd hv v.size 199 0 0 (by omega) (by omega)
      · rw [if_neg ha]
        have hd : ¬ ∀ j : Nat, j < v.size → isD (bt v j) = true := fun hh => ha ((allFrom_iff isD v v.size 0 (by omega)).2 fun j _ hj => hh j hj)
        rw [aloop_bad a v hd hv v.size 199 0 0 (by omega) (by omega) (fun j hj => by omega)]
        exact ⟨_, grj0 199 a v, rfl⟩
theorem amount_both (a v : ByteArray) (hv : v.size ≤ 140737488351232) : ∃ r, gtin_Amount.f 200 a v = some r ∧ larderref02_Amount.f 200 a v = some r := by
  unfold gtin_Amount.f larderref02_Amount.f
  rcases find_spec a with ⟨r, hr, hai, hf⟩ | ⟨hn, hf⟩
  · rw [hf, kind_some r hr a hai.symm 191]
    simp only [Option.bind_some, if_true]
    have hlen : a.toList.length = a.size := by rw [Go.ByteArray.toList_eq, Array.length_toList]; rfl
    by_cases h4 : a.size = 4
    · rw [if_pos (show (a.size : Int) = 4 by omega), if_pos (by decide), if_pos (show (3 : Int) ≤ a.size by omega), take3, ← hai]
      by_cases hm : amountAi r.ai = true
      · rw [if_pos hm]
        obtain ⟨x, h1, h2⟩ := amount_body a v r hr hai h4 hm hv
        refine ⟨x, ?_, h2⟩
        by_cases c1 : r.ai.take 3 = [51, 49, 48]
        · rw [if_pos c1]; exact h1
        · rw [if_neg c1]
          by_cases c2 : r.ai.take 3 = [51, 57, 50]
          · rw [if_pos c2]; exact h1
          · exfalso; unfold amountAi at hm; simp [c1, c2] at hm
      · rw [if_neg hm, arj0 199]
        have hl4 : r.ai.length = 4 := by rw [hai, hlen, h4]
        have c1 : ¬ r.ai.take 3 = [51, 49, 48] := fun z => hm (by unfold amountAi; simp [hl4, z])
        have c2 : ¬ r.ai.take 3 = [51, 57, 50] := fun z => hm (by unfold amountAi; simp [hl4, z])
        rw [if_neg c1, if_neg c2, grj0 199]
        exact ⟨_, rfl, rfl⟩
    · have hm : ¬ amountAi r.ai = true := fun z => by
        unfold amountAi at z
        simp only [Bool.and_eq_true, decide_eq_true_eq] at z
        exact h4 (by rw [← hlen, ← hai]; exact z.1)
      rw [if_neg (show ¬ (a.size : Int) = 4 by omega), if_neg hm, grj0 199, arj0 199]
      exact ⟨_, rfl, rfl⟩
  · rw [hf, kind_none a hn 191]
    simp only [Option.bind_some]
    rw [if_neg (by simp), if_neg (by simp), grj0 199, arj0 199]; exact ⟨_, rfl, rfl⟩
theorem GtinAmounts_pure (a v : ByteArray) (hv : v.size ≤ 140737488351232) : larderlaw02_GtinAmounts.f 200 a v = some true := by
  obtain ⟨r, h1, h2⟩ := amount_both a v hv
  unfold larderlaw02_GtinAmounts.f
  rw [h1, h2]
  simp
end Go.Proofs.YtofagdjijpjlgaaDoor.X
