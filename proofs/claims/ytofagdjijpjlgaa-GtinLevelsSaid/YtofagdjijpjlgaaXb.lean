/- The contract of strings.Repeat in the printer's form. -/
import Derived.Test.YtofagdjijpjlgaaXsh
import Derived.Test.YtofagdjijpjlgaaXs
namespace Go.Proofs.Ytofagdjijpjlgaa.X
open Go.RowKit Go.Lib Go.Proofs.YtofagdjijpjlgaaW.PrintWords

def strings_Repeat.f (a0 : ByteArray) (a1 : Int) : Option ByteArray :=
  if 0 ≤ a1 then if a1 ≤ 9223372036854775807 then if a0.size * a1.toNat ≤ 140737488355328 then some ⟨(repeatL a0.data.toList a1.toNat).toArray⟩ else none else none else none
theorem strings_Repeat.calls (a0 : ByteArray) (a1 : Int) (r : ByteArray) (w : World) (h : strings_Repeat.f a0 a1 = some r) :
    Calls Try.prog 39 #[.string a0, .int .i64 a1] w fun e w' => e = .returned (.string r) ∧ Below w.heap.size w w' := by
  unfold strings_Repeat.f at h
  by_cases h0 : 0 ≤ a1
  · rw [if_pos h0] at h
    by_cases h1 : a1 ≤ 9223372036854775807
    · rw [if_pos h1] at h
      by_cases h2 : a0.size * a1.toNat ≤ 140737488355328
      · rw [if_pos h2] at h
        obtain ⟨n, rfl⟩ := Int.eq_ofNat_of_zero_le h0
        rw [Int.toNat_natCast] at h h2
        obtain rfl := Option.some.inj h
        exact Try.strings_Repeat a0 n w (by omega) h2
      · rw [if_neg h2] at h; cases h
    · rw [if_neg h1] at h; cases h
  · rw [if_neg h0] at h; cases h
end Go.Proofs.Ytofagdjijpjlgaa.X
