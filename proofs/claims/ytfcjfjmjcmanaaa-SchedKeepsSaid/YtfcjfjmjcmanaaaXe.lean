/- SchedFairs: the plain part: Fair and the document's Fair answer alike. -/
import Derived.Test.YtfcjfjmjcmanaaaPSchedFairsx1
import Derived.Test.YtfcjfjmjcmanaaaPSchedFairsx2
set_option linter.unusedVariables false
namespace Go.Proofs.Ytfcjfjmjcmanaaa.X
open Go.RowKit Go.Proofs.YtfcjfjmjcmanaaaW.PrintWords Go.Proofs.YtfcjfjmjcmanaaaW.PrintLast Go.Proofs.Ytfcjfjmjcmanaaa.PSchedFairs

theorem wid {x : Int} (h1 : -9223372036854775808 ≤ x) (h2 : x < 9223372036854775808) : wrap64 x = x := by unfold wrap64; omega
theorem wsucc {i : Nat} (h : i ≤ 65536) : wrap64 ((i : Int) + 1) = ((i + 1 : Nat) : Int) := by rw [wid (by omega) (by omega)]; omega
theorem rd_nat (l : List Int) (i : Nat) : rd l (i : Int) = l.getD i 0 := by unfold rd; rw [Int.toNat_natCast]

/-- How often h comes in the picks from..i-1. -/
def win (l : List Int) (a i : Nat) (h : Int) : Nat := ((l.take i).drop a).count h
theorem win_succ (l : List Int) {a i : Nat} (ha : a ≤ i) (hi : i < l.length) (h : Int) : win l a (i + 1) h = win l a i h + (if l.getD i 0 = h then 1 else 0) := by
  unfold win
  rw [List.take_add_one, List.getElem?_eq_getElem hi, Option.toList_some, List.drop_append_of_le_length (by rw [List.length_take]; omega), List.count_append, List.getD_eq_getElem?_getD, List.getElem?_eq_getElem hi]
  congr 1
  simp [List.count_cons, List.count_nil]
theorem win_drop (l : List Int) {a i : Nat} (ha : a < i) (hi : i ≤ l.length) (h : Int) : win l a i h = win l (a + 1) i h + (if l.getD a 0 = h then 1 else 0) := by
  unfold win
  rw [List.drop_eq_getElem_cons (by rw [List.length_take]; omega), List.count_cons, List.getD_eq_getElem?_getD, List.getElem?_eq_getElem (show a < l.length by omega), List.getElem_take]
  simp
theorem win_zero (l : List Int) {a i : Nat} (hi : i ≤ l.length) (h : Int) : win l a i h = 0 ↔ ∀ j, a ≤ j → j < i → l.getD j 0 ≠ h := by
  unfold win
  rw [List.count_eq_zero]
  constructor
  · intro hn j h1 h2 he
    apply hn
    rw [List.mem_iff_getElem?]
    refine ⟨j - a, ?_⟩
    rw [List.getElem?_drop, List.getElem?_take, if_pos (by omega), show a + (j - a) = j by omega, List.getElem?_eq_getElem (by omega), ← he, List.getD_eq_getElem?_getD, List.getElem?_eq_getElem (by omega)]
    rfl
  · intro hn hm
    obtain ⟨j, hj⟩ := List.mem_iff_getElem?.1 hm
    rw [List.getElem?_drop, List.getElem?_take] at hj
    by_cases c : a + j < i
    · rw [if_pos c] at hj
      exact hn (a + j) (by omega) c (by rw [List.getD_eq_getElem?_getD, hj]; rfl)
    · rw [if_neg c] at hj; cases hj

/-- The state of the counts. -/
def CountIs (l : List Int) (n a i : Nat) (c : List Int) (m : Int) : Prop :=
  c.length = n ∧ (∀ h : Nat, h < n → c.getD h 0 = (win l a i (h : Int) : Int)) ∧ m = (c.count 0 : Int)
/-- The state of the last places. -/
def LastIs (l : List Int) (n i : Nat) (c : List Int) : Prop :=
  c.length = n ∧ ∀ h : Nat, h < n → ∀ f : Nat, (c.getD h 0 ≤ (f : Int) ↔ ∀ j, f ≤ j → j < i → l.getD j 0 ≠ (h : Int))
theorem getD_set (c : List Int) (p : Nat) (v : Int) (hp : p < c.length) (h : Nat) : (c.set p v).getD h 0 = if p = h then v else c.getD h 0 := by
  rw [List.getD_eq_getElem?_getD, List.getElem?_set]
  by_cases e : p = h
  · subst e; simp [hp]
  · rw [if_neg e, if_neg e, List.getD_eq_getElem?_getD]
theorem count_set (c : List Int) (p : Nat) (v : Int) (hp : p < c.length) : ((c.set p v).count 0 : Int) = (c.count 0 : Int) - (if c.getD p 0 = 0 then 1 else 0) + (if v = 0 then 1 else 0) := by
  induction c generalizing p with
  | nil => simp at hp
  | cons x xs ih =>
    cases p with
    | zero => simp only [List.set_cons_zero, List.count_cons, List.getD_cons_zero, beq_iff_eq]; split <;> split <;> omega
    | succ p =>
      have := ih p (by simpa using hp)
      simp only [List.set_cons_succ, List.count_cons, List.getD_cons_succ, Int.natCast_add] at this ⊢
      omega
theorem CountIs.missing {l : List Int} {n a i : Nat} {c : List Int} {m : Int} (h : CountIs l n a i c m) (hi : i ≤ l.length) : m > 0 ↔ ∃ p : Nat, p < n ∧ ∀ j, a ≤ j → j < i → l.getD j 0 ≠ (p : Int) := by
  obtain ⟨h1, h2, rfl⟩ := h
  constructor
  · intro hm
    have : 0 < c.count 0 := by omega
    obtain ⟨p, hp⟩ := List.mem_iff_getElem?.1 (List.count_pos_iff.1 this)
    have hpl : p < n := by rw [← h1]; exact (List.getElem?_eq_some_iff.1 hp).1
    have := h2 p hpl
    rw [List.getD_eq_getElem?_getD, hp] at this
    exact ⟨p, hpl, (win_zero l hi _).1 (by simp at this; omega)⟩
  · rintro ⟨p, hp, hq⟩
    have := h2 p hp
    rw [(win_zero l hi _).2 hq] at this
    have hm : (0 : Int) ∈ c := by
      rw [List.mem_iff_getElem?]
      refine ⟨p, ?_⟩
      rw [List.getD_eq_getElem?_getD, List.getElem?_eq_getElem (by omega)] at this
      rw [List.getElem?_eq_getElem (by omega)]; simpa using this
    have := List.count_pos_iff.2 hm
    omega
/-- A pick comes in. -/
theorem CountIs.push {l : List Int} {n a i : Nat} {c : List Int} {m : Int} (h : CountIs l n a i c m) (ha : a ≤ i) (hi : i < l.length) {p : Nat} (hp : l.getD i 0 = (p : Int)) (hpn : p < n) :
    CountIs l n a (i + 1) (c.set p (c.getD p 0 + 1)) (if c.getD p 0 + 1 = 1 then m - 1 else m) := by
  obtain ⟨h1, h2, rfl⟩ := h
  have hc := h2 p hpn
  refine ⟨by rw [List.length_set]; exact h1, fun q hq => ?_, ?_⟩
  · rw [getD_set c p _ (by omega), win_succ l ha hi, hp]
    by_cases e : p = q
    · subst e; rw [if_pos rfl, if_pos rfl, hc]; omega
    · rw [if_neg e, if_neg (by omega), h2 q hq]; omega
  · rw [count_set c p _ (by omega)]
    have hv : 0 ≤ c.getD p 0 := by rw [hc]; omega
    generalize c.getD p 0 = v at hv ⊢
    repeat' split
    all_goals omega
/-- A pick goes out. -/
theorem CountIs.pop {l : List Int} {n a i : Nat} {c : List Int} {m : Int} (h : CountIs l n a i c m) (ha : a < i) (hi : i ≤ l.length) {p : Nat} (hp : l.getD a 0 = (p : Int)) (hpn : p < n) :
    CountIs l n (a + 1) i (c.set p (c.getD p 0 - 1)) (if c.getD p 0 = 1 then m + 1 else m) := by
  obtain ⟨h1, h2, rfl⟩ := h
  have hc := h2 p hpn
  have hw := win_drop l ha hi (p : Int)
  rw [hp, if_pos rfl] at hw
  refine ⟨by rw [List.length_set]; exact h1, fun q hq => ?_, ?_⟩
  · rw [getD_set c p _ (by omega)]
    by_cases e : p = q
    · subst e; rw [if_pos rfl, hc, hw]; omega
    · have hw2 := win_drop l ha hi (q : Int)
      rw [hp, if_neg (by omega)] at hw2
      rw [if_neg e, h2 q hq, hw2]; omega
  · rw [count_set c p _ (by omega)]
    have hv : 1 ≤ c.getD p 0 := by rw [hc, hw]; omega
    generalize c.getD p 0 = v at hv ⊢
    repeat' split
    all_goals omega
theorem LastIs.push {l : List Int} {n i : Nat} {c : List Int} (h : LastIs l n i c) {p : Nat} (hp : l.getD i 0 = (p : Int)) (hpn : p < n) : LastIs l n (i + 1) (c.set p ((i + 1 : Nat) : Int)) := by
  obtain ⟨h1, h2⟩ := h
  refine ⟨by rw [List.length_set]; exact h1, fun q hq f => ?_⟩
  rw [getD_set c p _ (by omega)]
  by_cases e : p = q
  · subst e
    rw [if_pos rfl]
    constructor
    · intro hf j h3 h4; omega
    · intro hf
      apply Classical.byContradiction
      intro hn
      exact hf i (by omega) (by omega) hp
  · rw [if_neg e, h2 q hq f]
    constructor
    · intro hf j h3 h4
      rcases Nat.lt_or_ge j i with h5 | h5
      · exact hf j h3 h5
      · obtain rfl : j = i := by omega
        rw [hp]; omega
    · intro hf j h3 h4; exact hf j h3 (by omega)
end Go.Proofs.Ytfcjfjmjcmanaaa.X
