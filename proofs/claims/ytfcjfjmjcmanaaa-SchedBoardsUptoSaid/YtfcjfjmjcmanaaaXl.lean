/- Contracts of library functions in the printer's form: bits.Mul64, bits.LeadingZeros64, slices.Clone. -/
import Derived.Test.YtfcjfjmjcmanaaaXshelf
import Derived.Test.YtfcjfjmjcmanaaaWLast
import Derived.Test.YtfcjfjmjcmanaaaWMore
set_option linter.unusedVariables false
namespace Go.Proofs.Ytfcjfjmjcmanaaa.X
open Go.RowKit Go.Proofs.YtfcjfjmjcmanaaaW.PrintWords Go.Proofs.YtfcjfjmjcmanaaaW.PrintLast Go.Proofs.YtfcjfjmjcmanaaaW.PrintMore

def bits_Mul64.f (a0 a1 : Int) : Option (Int × Int) :=
  if 0 ≤ a0 ∧ a0 < 18446744073709551616 ∧ 0 ≤ a1 ∧ a1 < 18446744073709551616 then some (a0 * a1 / 18446744073709551616, a0 * a1 % 18446744073709551616) else none
theorem bits_Mul64.calls (a0 a1 r1 r2 : Int) (w : World) (h : bits_Mul64.f a0 a1 = some (r1, r2)) :
    Calls Try.prog 131 #[.int .u64 a0, .int .u64 a1] w fun e w' => e = .returned (.tuple #[.int .u64 r1, .int .u64 r2]) ∧ Drawn0 w w' := by
  unfold bits_Mul64.f at h
  by_cases h0 : 0 ≤ a0 ∧ a0 < 18446744073709551616 ∧ 0 ≤ a1 ∧ a1 < 18446744073709551616
  · rw [if_pos h0] at h
    obtain ⟨g1, g2, g3, g4⟩ := h0
    obtain ⟨x, rfl⟩ := Int.eq_ofNat_of_zero_le g1
    obtain ⟨y, rfl⟩ := Int.eq_ofNat_of_zero_le g3
    have h := Option.some.inj h
    obtain ⟨rfl, rfl⟩ := Prod.mk.inj h
    refine (Try.bits_Mul64 x y (by omega) (by omega) w).mono ?_
    rintro e w' ⟨rfl, rfl⟩
    refine ⟨?_, Drawn0.refl _⟩
    have e1 : ((x * y / 18446744073709551616 : Nat) : Int) = (x : Int) * (y : Int) / 18446744073709551616 := by rw [Int.natCast_ediv, Int.natCast_mul]; rfl
    have e2 : ((x * y % 18446744073709551616 : Nat) : Int) = (x : Int) * (y : Int) % 18446744073709551616 := by rw [Int.natCast_emod, Int.natCast_mul]; rfl
    rw [e1, e2]
  · rw [if_neg h0] at h; cases h

def bits_LeadingZeros64.f (a0 : Int) : Option Int :=
  if 0 ≤ a0 ∧ a0 ≤ 18446744073709551615 then some (64 - (Lib.bitLen a0.toNat : Int)) else none
theorem bits_LeadingZeros64.calls (a0 r : Int) (w : World) (h : bits_LeadingZeros64.f a0 = some r) :
    Calls Try.prog 134 #[.int .u64 a0] w fun e w' => e = .returned (.int .i64 r) ∧ Drawn0 w w' := by
  unfold bits_LeadingZeros64.f at h
  by_cases h0 : 0 ≤ a0 ∧ a0 ≤ 18446744073709551615
  · rw [if_pos h0] at h
    obtain rfl := Option.some.inj h
    refine (Try.bits_LeadingZeros64 a0 w h0.1 h0.2).mono ?_
    rintro e w' ⟨rfl, rfl⟩
    exact ⟨rfl, Drawn0.refl _⟩
  · rw [if_neg h0] at h; cases h

theorem R_of_ints {W : World} {b : Nat} {v : Value} {L : List Int} (h : W.ownsRow b 3 1 v L.length (L.map (Value.int .i64))) : Kd.R (Kd.int .i64) 3 W b (fun _ => True) v L :=
  Kd.R_of_own (h1 := fun _ => rfl) h (fun _ _ => trivial)

def slices_Clone.f (l0 : List Int) : Option (List Int) := if l0.length < 17592186044416 then some l0 else none
theorem slices_Clone.calls (A0 : Option Addr) (c0 : Nat) (l0 : List Int) (r : List Int) (w : World) (hr0 : Kd.C (Kd.int .i64) w A0 l0.length l0) (hc0 : l0.length ≤ c0) (h : slices_Clone.f l0 = some r) :
    Calls Try.prog 85 #[.slice A0 l0.length c0] w fun e w' => ∃ v0_ : Value, e = .returned v0_ ∧ Kd.R (Kd.int .i64) 3 w' w.heap.size (fun _ => True) v0_ r ∧ Below w.heap.size w w' := by
  unfold slices_Clone.f at h
  by_cases hb : l0.length < 17592186044416
  · rw [if_pos hb] at h
    obtain rfl := Option.some.inj h
    cases l0 with
    | nil =>
      cases A0 with
      | none =>
        refine (Try.slices_Clone_int_nil _ _ w).mono ?_
        rintro e w' ⟨rfl, rfl⟩
        exact ⟨_, rfl, Kd.R_nil _ _ _ _ _, Below.refl _ _⟩
      | some a =>
        refine (Try.slices_Clone_int_zero a c0 w).mono ?_
        rintro e w' ⟨v, rfl, ho, _, hB⟩
        exact ⟨v, rfl, R_of_ints ho, hB⟩
    | cons x l =>
      obtain ⟨_, _, hR⟩ := Kd.reads_of_C (d := (0 : Int)) hr0
      obtain ⟨ad, rfl, hc⟩ := hR (by simp)
      have hs : ad.spot = none := by
        have := hc 0 (by simp)
        rcases ad with ⟨b, o, s⟩
        cases s with
        | none => rfl
        | some s => simp [Addr.add, World.cell?] at this; split at this <;> simp at this
      rcases ad with ⟨b, o, s⟩
      obtain rfl : s = none := hs
      refine (Try.slices_Clone_int b o (x :: l).length c0 (x :: l) w (Nat.le_refl _) (by omega) (fun j hj => by
        have := hc j hj
        by_cases hj0 : j = 0
        · subst hj0; simpa [Addr.add] using this
        · simpa [Addr.add, hj0] using this)).mono ?_
      rintro e w' ⟨v, rfl, ho, _, hB⟩
      rw [List.take_length] at ho
      exact ⟨v, rfl, R_of_ints ho, hB⟩
  · rw [if_neg hb] at h; cases h
end Go.Proofs.Ytfcjfjmjcmanaaa.X
