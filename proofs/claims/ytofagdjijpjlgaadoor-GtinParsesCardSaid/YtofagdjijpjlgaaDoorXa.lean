/- The contracts of gtin.digitFault and strings.IndexByte, by the shelf's contracts. -/
import Derived.Test.YtofagdjijpjlgaaDoorXsh
import Derived.Test.YtofagdjijpjlgaaDoorXs
namespace Go.Proofs
open Go.Shelf
namespace YtofagdjijpjlgaaDoor.X
open Go.RowKit Go.Lib Go.Proofs.YtofagdjijpjlgaaDoorW.PrintWords

def notDigit (r : Nat) : Bool := decide (r < 48) || decide (57 < r)
theorem pred71 (w : World) : PredAt Tryd.prog 71 #[] encR notDigit w := fun W r _ => by
  unfold FnGives
  by_cases h1 : r < 48 <;> by_cases h2 : 57 < r
  all_goals
    have z1 : (r : Int) < 48 ↔ r < 48 := by omega
    have z2 : (57 : Int) < (r : Int) ↔ 57 < r := by omega
    go_enter Tryd.func71, Tryd.ntmps71
    go_wp2
    all_goals first | (exfalso; omega) | (go_ret; exact ⟨by simp [notDigit, h1, h2], 0, rfl⟩)

def gtin_digitFault.f (a0 : ByteArray) : Option Int := some (idxFunc notDigit true a0)
set_option maxHeartbeats 1000000 in
theorem gtin_digitFault.calls (a0 : ByteArray) (r : Int) (w : World) (h : gtin_digitFault.f a0 = some r) :
    Calls Tryd.prog 59 #[.string a0] w fun e w' => e = .returned (.int .i64 r) ∧ Below w.heap.size w w' := by
  have hC := fun W => Tryd.strings_IndexFunc 71 #[] (enters_of Tryd.func71 (by kernel_rfl) rfl) notDigit a0 W (pred71 W)
  simp only [gtin_digitFault.f, Option.some.injEq] at h
  subst h
  go_enter Tryd.func59, Tryd.ntmps59
  go_wp2_with (go_at_call 70; refine (hC _).mono ?_; rintro e w' ⟨rfl, hb⟩)
  go_ret
  exact ⟨rfl, hb⟩

def strings_IndexByte.f (a0 : ByteArray) (a1 : Int) : Option Int := some (Lib.indexByte a0.data.toList a1.toNat.toUInt8)
theorem strings_IndexByte.calls (a0 : ByteArray) (a1 r : Int) (w : World) (h : strings_IndexByte.f a0 a1 = some r) :
    Calls Tryd.prog 31 #[.string a0, .int .u8 a1] w fun e w' => e = .returned (.int .i64 r) ∧ Drawn0 w w' := by
  obtain rfl := Option.some.inj h
  exact (Tryd.strings_IndexByte a0 a1 w).mono fun e w' ⟨he, hw⟩ => ⟨he, by rw [hw]; exact Drawn0.refl _⟩
end YtofagdjijpjlgaaDoor.X
end Go.Proofs
