/- Plain: the reference's char, sum, held, beside, lonely. -/
import Derived.Test.YtofagdjijpjlgaaDoorXzq
import Derived.Test.YtofagdjijpjlgaaDoorGe
import Derived.Test.YtofagdjijpjlgaaDoorBbq
set_option linter.unusedVariables false
set_option linter.unusedSimpArgs false
namespace Go.Proofs.YtofagdjijpjlgaaDoor.X
open Go.RowKit Go.Proofs.YtofagdjijpjlgaaDoorW.PrintWords Go.Proofs.YtofagdjijpjlgaaDoorW.PrintLast Go.Proofs.YtofagdjijpjlgaaDoor.PBase Go.Proofs.YtofagdjijpjlgaaDoor.PDays Go.Proofs.YtofagdjijpjlgaaDoor.PElem

theorem leO_le {α : Type} {f : Nat → Option α} (h : ∀ k, LeO (f k) (f (k + 1))) {a b : Nat} (hab : a ≤ b) {r : α} (hr : f a = some r) : f b = some r := by
  induction hab with
  | refl => exact hr
  | step _ ih => exact h _ r ih
theorem char_all : ∀ c : Fin 256, larderref02_char.f 30 ((c.val : Nat) : Int) = some (isC ((c.val : Nat) : Int)) := by decide +kernel
theorem rchar (c : Int) (h0 : 0 ≤ c) (h1 : c < 256) (k : Nat) (hk : 30 ≤ k) : larderref02_char.f k c = some (isC c) := by
  have h := char_all ⟨c.toNat, by omega⟩
  rw [show ((c.toNat : Nat) : Int) = c from by omega] at h
  exact leO_le (fun k => larderref02_char.mono c k) hk h
theorem rsum_eq (v : ByteArray) : ∀ (k : Nat) (x i : Int), larderref02_sum.l0 k v x i = gtin_sum.l0 k v x (v.size : Int) i
  | 0, x, i => rfl
  | k + 1, x, i => by
    simp only [larderref02_sum.l0, gtin_sum.l0]
    rw [rsum_eq v k, rsum_eq v k, Int.mul_comm 3]
theorem sum_some (v : ByteArray) (hv : v.size ≤ 140737488351232) (e : Nat) : ∀ (k i : Nat) (x : Int), i + e = v.size → e < k → ∃ r, gtin_sum.l0 k v x (v.size : Int) (i : Int) = some r := by
  induction e with
  | zero =>
    intro k i x h hk
    obtain ⟨k, rfl⟩ : ∃ m, k = m + 1 := ⟨k - 1, by omega⟩
    simp only [gtin_sum.l0]
    rw [if_neg (by omega)]
    exact ⟨_, rfl⟩
  | succ e ih =>
    intro k i x h hk
    obtain ⟨k, rfl⟩ : ∃ m, k = m + 1 := ⟨k - 1, by omega⟩
    simp only [gtin_sum.l0]
    have w1 : wrap64 ((v.size : Int) - 1) = (v.size : Int) - 1 := wrap_id (by omega) (by omega)
    have w2 : wrap64 ((v.size : Int) - 1 - i) = (v.size : Int) - 1 - i := wrap_id (by omega) (by omega)
    have w3 : wrap64 ((i : Int) + 1) = ((i + 1 : Nat) : Int) := by rw [wrap_id (by omega) (by omega)]; omega
    rw [if_pos (by omega), w1, w2, if_pos (by omega), if_pos (by omega), w3]
    split
    · exact ih k (i + 1) _ (by omega) (by omega)
    · exact ih k (i + 1) _ (by omega) (by omega)
/-- The sum of a code's digits, weighed. -/
def sumOf (v : ByteArray) : Int := ((gtin_sum.f (v.size + 1) v).getD 0)
theorem gsum (v : ByteArray) (hv : v.size ≤ 140737488351232) (k : Nat) (hk : v.size < k) : gtin_sum.f k v = some (sumOf v) := by
  obtain ⟨r, hr⟩ := sum_some v hv v.size (v.size + 1) 0 0 (by omega) (by omega)
  have h1 : gtin_sum.f (v.size + 1) v = some r := hr
  have h2 : sumOf v = r := by unfold sumOf; rw [h1]; rfl
  rw [h2]
  exact leO_le (fun k => gtin_sum.mono v k) (show v.size + 1 ≤ k by omega) h1
theorem rsum (v : ByteArray) (hv : v.size ≤ 140737488351232) (k : Nat) (hk : v.size < k) : larderref02_sum.f k v = some (sumOf v) := by
  rw [← gsum v hv k hk]
  exact rsum_eq v k 0 0
def heldL (l : List S23) (a : List UInt8) : Bool := l.any (fun x => x.f0.toList == a)
theorem rheld (a : ByteArray) (e : Nat) : ∀ (l : List S23) (k i : Nat), l.length ≤ 4611686018427387904 → i + e = l.length → e < k → larderref02_held.l0 k l a (i : Int) = some (heldL (l.drop i) a.toList) := by
  induction e with
  | zero =>
    intro l k i hl h hk
    obtain ⟨k, rfl⟩ : ∃ m, k = m + 1 := ⟨k - 1, by omega⟩
    simp only [larderref02_held.l0]
    rw [if_neg (by omega), List.drop_eq_nil_of_le (by omega)]
    rfl
  | succ e ih =>
    intro l k i hl h hk
    obtain ⟨k, rfl⟩ : ∃ m, k = m + 1 := ⟨k - 1, by omega⟩
    simp only [larderref02_held.l0]
    have hi : i < l.length := by omega
    have hg : rd_T23 l (i : Int) = l[i] := by unfold rd_T23; rw [Int.toNat_natCast, List.getD_eq_getElem?_getD, List.getElem?_eq_getElem hi]; rfl
    rw [if_pos (by omega), if_pos (by omega), hg, List.drop_eq_getElem_cons hi]
    have w3 : wrap64 ((i : Int) + 1) = ((i + 1 : Nat) : Int) := by rw [wrap_id (by omega) (by omega)]; omega
    rw [w3, ih l k (i + 1) hl (by omega) (by omega)]
    unfold heldL
    rw [List.any_cons]
    by_cases hc : l[i].f0.toList = a.toList
    · rw [if_pos hc]; simp [hc]
    · rw [if_neg hc]
      have : (l[i].f0.toList == a.toList) = false := beq_eq_false_iff_ne.2 hc
      rw [this, Bool.false_or]
theorem rheld_f (l : List S23) (a : ByteArray) (hl : l.length ≤ 4611686018427387904) (k : Nat) (hk : l.length < k) : larderref02_held.f k l a = some (heldL l a.toList) := rheld a l.length l k 0 hl (by omega) hk
def besE (l : List S23) (a : List UInt8) : Int := if heldL l a = true then 24 else if a = [48, 49] then (if heldL l [48, 50] = true then 25 else 0) else if a = [48, 50] then (if heldL l [48, 49] = true then 25 else 0) else 0
theorem rbeside (l : List S23) (a : ByteArray) (hl : l.length ≤ 4611686018427387904) (k : Nat) (hk : l.length < k) : larderref02_beside.f k l a = some (besE l a.toList) := by
  unfold larderref02_beside.f
  rw [rheld_f l a hl k hk, rheld_f l _ hl k hk, rheld_f l _ hl k hk]
  simp only [Option.bind_some]
  rw [show (⟨#[48, 49]⟩ : ByteArray).toList = [48, 49] by rw [ByteArray.toList_eq], show (⟨#[48, 50]⟩ : ByteArray).toList = [48, 50] by rw [ByteArray.toList_eq]]
  unfold besE
  by_cases h1 : heldL l a.toList = true
  · rw [if_pos h1, if_pos h1]
  · rw [if_neg h1, if_neg h1]
    by_cases h2 : a.toList = [48, 49]
    · rw [if_pos h2, if_pos h2]
      by_cases h3 : heldL l [48, 50] = true
      · rw [if_pos h3, if_pos h3]
      · rw [if_neg h3, if_neg h3, if_neg (by rw [h2]; decide)]
    · rw [if_neg h2, if_neg h2]
      by_cases h4 : a.toList = [48, 50]
      · rw [if_pos h4, if_pos h4]
        by_cases h3 : heldL l [48, 49] = true
        · rw [if_pos h3, if_pos h3]
        · rw [if_neg h3, if_neg h3]
      · rw [if_neg h4, if_neg h4]
/-- The first element that stands alone. -/
def lonL (a b : Bool) : List S23 → Int → Int
  | [], _ => -1
  | x :: r, i => if x.f0.toList = [48, 50] ∧ b = false then i else if x.f0.toList = [51, 55] ∧ a = false then i else lonL a b r (i + 1)
theorem lonL_cons (a b : Bool) (x : S23) (r : List S23) (i : Int) : lonL a b (x :: r) i = if x.f0.toList = [48, 50] ∧ b = false then i else if x.f0.toList = [51, 55] ∧ a = false then i else lonL a b r (i + 1) := rfl
theorem rlonely (a b : Bool) (e : Nat) : ∀ (l : List S23) (k i : Nat), l.length ≤ 4611686018427387904 → i + e = l.length → e < k → larderref02_lonely.l0 k l a b (i : Int) = some (lonL a b (l.drop i) i) := by
  induction e with
  | zero =>
    intro l k i hl h hk
    obtain ⟨k, rfl⟩ : ∃ m, k = m + 1 := ⟨k - 1, by omega⟩
    simp only [larderref02_lonely.l0]
    rw [if_neg (by omega), List.drop_eq_nil_of_le (by omega)]
    rfl
  | succ e ih =>
    intro l k i hl h hk
    obtain ⟨k, rfl⟩ : ∃ m, k = m + 1 := ⟨k - 1, by omega⟩
    simp only [larderref02_lonely.l0]
    have hi : i < l.length := by omega
    have hg : rd_T23 l (i : Int) = l[i] := by unfold rd_T23; rw [Int.toNat_natCast, List.getD_eq_getElem?_getD, List.getElem?_eq_getElem hi]; rfl
    rw [if_pos (by omega), if_pos (by omega), hg, List.drop_eq_getElem_cons hi]
    have w3 : wrap64 ((i : Int) + 1) = ((i + 1 : Nat) : Int) := by rw [wrap_id (by omega) (by omega)]; omega
    rw [w3, ih l k (i + 1) hl (by omega) (by omega)]
    rw [lonL_cons, show ((i + 1 : Nat) : Int) = (i : Int) + 1 by omega]
    generalize lonL a b (l.drop (i + 1)) ((i : Int) + 1) = Z
    by_cases h2 : l[i].f0.toList = [48, 50]
    · have h7 : ¬ l[i].f0.toList = [51, 55] := fun z => by rw [h2] at z; revert z; decide
      cases b
      · simp [h2]
      · simp [h2]
    · by_cases h7 : l[i].f0.toList = [51, 55]
      · cases a
        · simp [h7]
        · simp [h7]
      · simp [h2, h7]
theorem rlonely_f (l : List S23) (hl : l.length ≤ 4611686018427387904) (k : Nat) (hk : l.length < k) : larderref02_lonely.f k l = some (lonL (heldL l [48, 50]) (heldL l [51, 55]) l 0) := by
  unfold larderref02_lonely.f
  rw [rheld_f l _ hl k hk, rheld_f l _ hl k hk]
  simp only [Option.bind_some]
  rw [show (⟨#[48, 50]⟩ : ByteArray).toList = [48, 50] by rw [ByteArray.toList_eq], show (⟨#[51, 55]⟩ : ByteArray).toList = [51, 55] by rw [ByteArray.toList_eq]]
  exact rlonely _ _ l.length l k 0 hl (by omega) hk
/-- What was seen, out of the elements. -/
def snL : List S23 → Int → Sn
  | [], _ => []
  | x :: r, i => (x.f0.data.toList, i) :: snL r (i + 1)
theorem heldL_cons (y : S23) (r : List S23) (a : List UInt8) : heldL (y :: r) a = ((y.f0.data.toList == a) || heldL r a) := by
  unfold heldL; rw [List.any_cons, ByteArray.toList_eq]
theorem lon_tt : ∀ (l : List S23) (i : Int), lonL true true l i = -1
  | [], i => rfl
  | y :: r, i => by rw [lonL_cons, lon_tt r]; simp
theorem lon_ff : ∀ (l : List S23) (i : Int), heldL l [48, 50] = false → heldL l [51, 55] = false → lonL false false l i = -1
  | [], i, _, _ => rfl
  | y :: r, i, h, h' => by
    rw [heldL_cons] at h h'
    obtain ⟨a1, a2⟩ := Bool.or_eq_false_iff.1 h
    obtain ⟨b1, b2⟩ := Bool.or_eq_false_iff.1 h'
    rw [lonL_cons, lon_ff r (i + 1) a2 b2, ByteArray.toList_eq]
    have c1 : ¬ y.f0.data.toList = [48, 50] := beq_eq_false_iff_ne.1 a1
    have c2 : ¬ y.f0.data.toList = [51, 55] := beq_eq_false_iff_ne.1 b1
    simp [c1, c2]
end Go.Proofs.YtofagdjijpjlgaaDoor.X
