/- The contract of gtin.digitFault: strings.IndexFunc by the shelf's contract, laid at this dump in plain words. -/
import Derived.Shelf.LaysM
import Derived.Ground.GgwProg
import Derived.Shelf.GgClosure.StringsIndexFuncTop
import Derived.Test.YtofagdjijpjlgaaXs
import Derived.Test.YtofagdjijpjlgaaProg
namespace Go.Proofs
open Go.Shelf
def Try.laysGw15_ren : Go.Shelf.Ren := ⟨fun | 15 => 41 | 20 => 52 | n => n, fun | 9 => 9 | 23 => 55 | 3 => 3 | 4 => 4 | 0 => 0 | 21 => 21 | n => n, fun | n => n⟩
theorem Try.laysGw15 : Go.Proofs.LaysGw.n15 Try.prog Try.laysGw15_ren := {
  mixed := by kernel_rfl
  f15 := Try.func41.trans (congrArg some (by kernel_rfl))
  f20 := Try.func52.trans (congrArg some (by kernel_rfl))
  t0 := Try.underlying0
  a0 := Try.isAgg0
  z0 := Try.sizeOf0
  v0 := Try.zeroValue0
  i0 := by kernel_rfl
  t3 := Try.underlying3
  a3 := Try.isAgg3
  z3 := Try.sizeOf3
  v3 := Try.zeroValue3
  i3 := by kernel_rfl
  t4 := Try.underlying4
  a4 := Try.isAgg4
  z4 := Try.sizeOf4
  v4 := Try.zeroValue4
  i4 := by kernel_rfl
  t9 := Try.underlying9
  a9 := Try.isAgg9
  z9 := Try.sizeOf9
  v9 := Try.zeroValue9
  i9 := by kernel_rfl
  t21 := Try.underlying21
  a21 := Try.isAgg21
  z21 := Try.sizeOf21
  v21 := Try.zeroValue21
  i21 := by kernel_rfl
  t23 := Try.underlying55
  a23 := Try.isAgg55
  z23 := Try.sizeOf55
  v23 := Try.zeroValue55
  i23 := by kernel_rfl }
open Go.RowKit Go.Lib in
theorem Try.strings_IndexFunc (g : Nat) (lb : Array Value) (eg : ∀ args w, (callFunc g args).run Try.prog w = .ok (.enter g args) w) (p : Nat → Bool) (s : ByteArray) (w : World) (hp : PredAt Try.prog g lb encR p w) :
    Calls Try.prog 41 #[.string s, .func (.func g) #[] lb] w fun e w' => e = .returned (.int .i64 (Lib.idxFunc p true s)) ∧ Below w.heap.size w w' := Any.strings_IndexFunc Try.laysGw15 g lb eg p s w hp
namespace Ytofagdjijpjlgaa.X
open Go.RowKit Go.Lib Go.Proofs.YtofagdjijpjlgaaW.PrintWords

def notDigit (r : Nat) : Bool := decide (r < 48) || decide (57 < r)
theorem pred42 (w : World) : PredAt Try.prog 42 #[] encR notDigit w := fun W r _ => by
  unfold FnGives
  by_cases h1 : r < 48 <;> by_cases h2 : 57 < r
  all_goals
    have z1 : (r : Int) < 48 ↔ r < 48 := by omega
    have z2 : (57 : Int) < (r : Int) ↔ 57 < r := by omega
    go_enter Try.func42, Try.ntmps42
    go_wp2
    all_goals first | (exfalso; omega) | (go_ret; exact ⟨by simp [notDigit, h1, h2], 0, rfl⟩)

def gtin_digitFault.f (a0 : ByteArray) : Option Int := some (idxFunc notDigit true a0)
set_option maxHeartbeats 1000000 in
theorem gtin_digitFault.calls (a0 : ByteArray) (r : Int) (w : World) (h : gtin_digitFault.f a0 = some r) :
    Calls Try.prog 32 #[.string a0] w fun e w' => e = .returned (.int .i64 r) ∧ Below w.heap.size w w' := by
  have hC := fun W => Try.strings_IndexFunc 42 #[] (enters_of Try.func42 (by kernel_rfl) rfl) notDigit a0 W (pred42 W)
  simp only [gtin_digitFault.f, Option.some.injEq] at h
  subst h
  go_enter Try.func32, Try.ntmps32
  go_wp2_with (go_at_call 41; refine (hC _).mono ?_; rintro e w' ⟨rfl, hb⟩)
  go_ret
  exact ⟨rfl, hb⟩
end Ytofagdjijpjlgaa.X
end Go.Proofs
