/- Plain: fits, the program's against the reference's. -/
import Derived.Test.YtofagdjijpjlgaaDoorSaq
set_option linter.unusedVariables false
set_option linter.unusedSimpArgs false
namespace Go.Proofs.YtofagdjijpjlgaaDoor.X
open Go.RowKit Go.Proofs.YtofagdjijpjlgaaDoorW.PrintWords Go.Proofs.YtofagdjijpjlgaaDoorW.PrintLast Go.Proofs.YtofagdjijpjlgaaDoor.PBase Go.Proofs.YtofagdjijpjlgaaDoor.PDays Go.Proofs.YtofagdjijpjlgaaDoor.PElem

theorem df_all (s : ByteArray) (h : ∀ j : Nat, j < s.size → isD (bt s j) = true) : ∀ (f pos : Nat), Lib.idxFuncFrom notDigit true s f pos = -1
  | 0, pos => rfl
  | f + 1, pos => by
    unfold Lib.idxFuncFrom
    by_cases hp : pos < s.size
    · rw [if_pos hp]
      have hb : bt s pos = ((s[pos]'hp).toNat : Int) := by have := bt_at s pos (by simpa using hp); simpa using this.symm
      have hd := (isD_iff _).1 (h pos hp)
      rw [decode_ascii s pos hp (by omega)]
      have hn : notDigit (s[pos]'hp).toNat = false := by unfold notDigit; simp; omega
      rw [if_neg (by simp [hn])]
      exact df_all s h f (pos + 1)
    · rw [if_neg hp]
/-- sound, of a code of 13, 14 or 18 digits. -/
theorem sound_is (v : ByteArray) (hs : v.size = 13 ∨ v.size = 14 ∨ v.size = 18) (h : ∀ j : Nat, j < v.size → isD (bt v j) = true) (k : Nat) (hk : 30 ≤ k) : gtin_sound.f k v = some (decide (Int.tmod (sumOf v) 10 = 0)) := by
  obtain ⟨k, rfl⟩ : ∃ m, k = m + 1 := ⟨k - 1, by omega⟩
  unfold gtin_sound.f gtin_Check.f
  rw [if_neg (by omega)]
  have hd : gtin_digitFault.f v = some (-1) := by unfold gtin_digitFault.f Lib.idxFunc; rw [df_all v h]
  rw [hd]
  simp only [Option.bind_some]
  rw [if_neg (by omega), if_neg (by omega), if_neg (by omega)]
  have key : gtin_Check.j0 (k + 1) v true = if Int.tmod (sumOf v) 10 = 0 then some (0, 0) else some (22, wrap64 ((v.size : Int) - 1)) := by
    simp only [gtin_Check.j0]
    rw [if_pos trivial, gsum v (by omega) k (by omega)]
    rfl
  rcases hs with h | h | h
  · rw [if_pos (by omega), show ((v.size : Int) == 13) = true from beq_iff_eq.2 (by omega), key]
    by_cases e : Int.tmod (sumOf v) 10 = 0
    · rw [if_pos e, decide_eq_true e]; rfl
    · rw [if_neg e, decide_eq_false e]; rfl
  · rw [if_neg (by omega), if_pos (by omega), show ((v.size : Int) == 14) = true from beq_iff_eq.2 (by omega), key]
    by_cases e : Int.tmod (sumOf v) 10 = 0
    · rw [if_pos e, decide_eq_true e]; rfl
    · rw [if_neg e, decide_eq_false e]; rfl
  · rw [if_neg (by omega), if_neg (by omega), show ((v.size : Int) == 18) = true from beq_iff_eq.2 (by omega), key]
    by_cases e : Int.tmod (sumOf v) 10 = 0
    · rw [if_pos e, decide_eq_true e]; rfl
    · rw [if_neg e, decide_eq_false e]; rfl
theorem code_rows : ∀ r ∈ rws, r.kind = 0 → r.least = r.most ∧ (r.least = 13 ∨ r.least = 14 ∨ r.least = 18) := by decide +kernel
theorem rows_most : ∀ r ∈ rws, 1 ≤ r.least ∧ r.most ≤ 90 ∧ r.ai ≠ [] ∧ r.ai.length ≤ 4 ∧ (r.kind = 0 ∨ r.kind = 1 ∨ r.kind = 2 ∨ r.kind = 3) := by decide +kernel
theorem isC_of_isD {c : Int} (h : isD c = true) : isC c = true := by unfold isC; rw [h]; rfl
theorem bt_byte (v : ByteArray) (i : Nat) : 0 ≤ bt v (i : Int) ∧ bt v (i : Int) < 256 := by
  rw [bs_rd, Int.toNat_natCast, List.getD_eq_getElem?_getD]
  by_cases h : i < (bytesOf v).length
  · rw [List.getElem?_eq_getElem h]; exact bs_range v _ (List.getElem_mem h)
  · rw [List.getElem?_eq_none (by omega)]; decide
/-- The value's own tests. -/
def tailR (v : ByteArray) (cd dy : Bool) : Int := if cd = true ∧ Int.tmod (sumOf v) 10 ≠ 0 then 22 else if dy = true then (if isDayB (tw v 0) (tw v 2) (tw v 4) = true then 0 else 28) else 0
end Go.Proofs.YtofagdjijpjlgaaDoor.X
