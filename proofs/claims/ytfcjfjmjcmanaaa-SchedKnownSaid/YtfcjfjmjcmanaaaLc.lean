/- Least: what it answers, in plain words. -/
import Derived.Test.YtfcjfjmjcmanaaaLb
set_option linter.unusedVariables false
namespace Go.Proofs.Ytfcjfjmjcmanaaa.X
open Go.RowKit Go.Proofs.YtfcjfjmjcmanaaaW.PrintWords Go.Proofs.YtfcjfjmjcmanaaaW.PrintLast Go.Proofs.YtfcjfjmjcmanaaaW.PrintMore
/-- May the pick at i come to the front? -/
def front (t : Int → Int → Bool) (L : List Int) (i : Nat) : Bool := (L.take i).all fun h => t h (rd L i)
/-- The best of the first i, as the document looks for it. -/
def rb (t : Int → Int → Bool) (L : List Int) : Nat → Int
  | 0 => -1
  | i + 1 => if front t L i = true ∧ (rb t L i < 0 ∨ rd L i < rd L (rb t L i)) then (i : Int) else rb t L i
/-- The same, as the program does. -/
def pb (t : Int → Int → Bool) (L : List Int) : Nat → Int
  | 0 => 0
  | i + 1 => if front t L i = true ∧ rd L i < rd L (pb t L i) then (i : Int) else pb t L i
theorem rb_range (t : Int → Int → Bool) (L : List Int) : ∀ i, -1 ≤ rb t L i ∧ rb t L i < (i : Int) ∧ (0 < i → 0 ≤ rb t L i)
  | 0 => by simp [rb]
  | i + 1 => by
    have ih := rb_range t L i
    unfold rb
    split
    · omega
    · rename_i h
      refine ⟨ih.1, by omega, fun _ => ?_⟩
      by_cases hi : 0 < i
      · exact ih.2.2 hi
      · exfalso
        obtain rfl : i = 0 := by omega
        exact h ⟨by simp [front], by simp [rb]⟩
theorem pb_eq (t : Int → Int → Bool) (L : List Int) : ∀ i, pb t L (i + 1) = rb t L (i + 1)
  | 0 => by
    unfold pb rb
    rw [if_neg (by simp [pb]), if_pos (by simp [front, rb])]
    simp [pb]
  | i + 1 => by
    have h := rb_range t L (i + 1)
    have e : (front t L (i + 1) = true ∧ (rb t L (i + 1) < 0 ∨ rd L ((i + 1 : Nat) : Int) < rd L (rb t L (i + 1)))) ↔ (front t L (i + 1) = true ∧ rd L ((i + 1 : Nat) : Int) < rd L (rb t L (i + 1))) := by
      constructor
      · rintro ⟨h1, h2⟩; exact ⟨h1, by rcases h2 with h2 | h2; exact absurd h2 (by omega); exact h2⟩
      · rintro ⟨h1, h2⟩; exact ⟨h1, .inr h2⟩
    show (if front t L (i + 1) = true ∧ rd L ((i + 1 : Nat) : Int) < rd L (pb t L (i + 1)) then ((i + 1 : Nat) : Int) else pb t L (i + 1)) = (if front t L (i + 1) = true ∧ (rb t L (i + 1) < 0 ∨ rd L ((i + 1 : Nat) : Int) < rd L (rb t L (i + 1))) then ((i + 1 : Nat) : Int) else rb t L (i + 1))
    rw [pb_eq t L i]
    simp only [e]
theorem pb_range (t : Int → Int → Bool) (L : List Int) (i : Nat) : 0 ≤ pb t L i ∧ (0 < i → pb t L i < (i : Int)) := by
  cases i with
  | zero => simp [pb]
  | succ i =>
    rw [pb_eq]
    have := rb_range t L (i + 1)
    exact ⟨this.2.2 (by omega), fun _ => this.2.1⟩
/-- The picks in their least order. -/
def lst (t : Int → Int → Bool) : Nat → List Int → List Int
  | 0, _ => []
  | n + 1, L => rd L (rb t L L.length) :: lst t n (L.eraseIdx (rb t L L.length).toNat)
theorem lst_step (t : Int → Int → Bool) (L : List Int) (h : 0 < L.length) (b : Int) (hb : b = rb t L L.length) : lst t L.length L = rd L b :: lst t (L.take b.toNat ++ L.drop (b.toNat + 1)).length (L.take b.toNat ++ L.drop (b.toNat + 1)) ∧ (L.take b.toNat ++ L.drop (b.toNat + 1)).length + 1 = L.length := by
  have hr := rb_range t L L.length
  rw [← hb] at hr
  have h0 := hr.2.2 h
  have e : L.eraseIdx b.toNat = L.take b.toNat ++ L.drop (b.toNat + 1) := List.eraseIdx_eq_take_drop_succ L b.toNat
  have hl : (L.take b.toNat ++ L.drop (b.toNat + 1)).length + 1 = L.length := by
    rw [List.length_append, List.length_take, List.length_drop]; omega
  refine ⟨?_, hl⟩
  obtain ⟨n, hn⟩ : ∃ n, L.length = n + 1 := ⟨L.length - 1, by omega⟩
  have hn2 : (L.take b.toNat ++ L.drop (b.toNat + 1)).length = n := by omega
  rw [hn2, ← e]
  conv => lhs; rw [hn]
  show rd L (rb t L L.length) :: lst t n (L.eraseIdx (rb t L L.length).toNat) = _
  rw [← hb]
theorem lst_length (t : Int → Int → Bool) : ∀ n (L : List Int), (lst t n L).length = n
  | 0, _ => rfl
  | n + 1, L => by show (lst t n _).length + 1 = n + 1; rw [lst_length t n]
theorem add_add (ad : Addr) (i j : Nat) : (ad.add i).add j = ad.add (i + j) := by
  unfold Addr.add
  by_cases h1 : i = 0
  · subst h1; simp
  · by_cases h2 : j = 0
    · subst h2; simp
    · rw [if_neg h1, if_neg h2, if_neg (by omega)]; simp; omega
theorem C_from {W : World} {A : Option Addr} {L : List Int} {c : Nat} (h : Kd.C (Kd.int .i64) W A L.length L) (hc : L.length ≤ c) (j : Nat) (hj : j ≤ L.length) :
    Kd.C (Kd.int .i64) W (if c = j then A else A.map (·.add (j * 1))) (L.length - j) (L.drop j) := by
  obtain ⟨h1, h2, h3⟩ := h
  refine ⟨by rw [List.length_drop], by omega, fun hn => ?_⟩
  obtain ⟨ad, rfl, hcell⟩ := h3 (by omega)
  rw [if_neg (by omega)]
  refine ⟨ad.add j, by simp, fun i p hp => ?_⟩
  rw [List.getElem?_drop] at hp
  obtain ⟨cs, hl, hk, hu⟩ := hcell (j + i) p hp
  refine ⟨cs, hl, hk, fun q u hq => ?_⟩
  have := hu q u hq
  rw [add_add]
  have e : (Kd.int .i64).sz = 1 := rfl
  rw [e] at this ⊢
  rw [show j + (i * 1 + q) = (j + i) * 1 + q by omega]
  exact this
theorem R_ok {W : World} {base : Nat} {ok ok' : Nat → Prop} {v : Value} {xs : List Int} (h : Kd.R (Kd.int .i64) 3 W base ok v xs) (hk : ∀ k, v.ownBlock = some k → ok' k) : Kd.R (Kd.int .i64) 3 W base ok' v xs :=
  Kd.R_of_own (Kd.own_of_R h) hk
theorem front_take (t : Int → Int → Bool) (L : List Int) (x : Int) (j : Nat) (hj : j < L.length) : (L.take (j + 1)).all (fun h => t h x) = ((L.take j).all (fun h => t h x) && t (rd L (j : Int)) x) := by
  rw [List.take_add_one, List.all_append, List.getElem?_eq_getElem hj]
  have : rd L (j : Int) = L[j] := by unfold rd; rw [Int.toNat_natCast, List.getD_eq_getElem?_getD, List.getElem?_eq_getElem hj]; rfl
  rw [this]
  simp
end Go.Proofs.Ytfcjfjmjcmanaaa.X
