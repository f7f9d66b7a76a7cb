/- The contracts of row.form and row.fits. -/
import Derived.Test.YtofagdjijpjlgaaDoorXvq
import Derived.Laws.EntriesVeiled
set_option linter.unusedVariables false
set_option linter.unusedSimpArgs false
namespace Go.Proofs.YtofagdjijpjlgaaDoor.X
open Go.RowKit Go.Proofs.YtofagdjijpjlgaaDoorW.PrintWords Go.Proofs.YtofagdjijpjlgaaDoorW.PrintLast Go.Proofs.YtofagdjijpjlgaaDoorW.PrintMore Go.Proofs.YtofagdjijpjlgaaDoor.PBase

set_option maxHeartbeats 2000000 in
set_option maxRecDepth 100000 in
theorem form_codes (ai : ByteArray) (l m kd : Int) (p : Bool) (w : World) (h0 : (kd == 0) = true) :
    Calls Tryd.prog 51 #[.agg #[.string ai, .int .i64 l, .int .i64 m, .int .i64 kd, .bool p]] w fun e w' => e = .returned (.agg #[.func (.func 62) #[] #[], .int .i64 20, .func (.func 63) #[] #[], .int .i64 22, .bool true]) ∧ Below w.heap.size w w' := by
  go_enter Tryd.func51, Tryd.ntmps51
  go_wp2
  refine bodyPost_ret (v := .agg #[.func (.func 62) #[] #[], .int .i64 20, .func (.func 63) #[] #[], .int .i64 22, .bool true]) (by simp [results, Tryd.results51, go_sem]) rfl ⟨rfl, ?_⟩
  repeat (first | exact Below.refl _ _ | refine Below.alloc ?_ (by simp) _ | refine Below.setCell ?_ (by simp) _)
set_option maxHeartbeats 2000000 in
set_option maxRecDepth 100000 in
theorem form_days (ai : ByteArray) (l m kd : Int) (p : Bool) (w : World) (h0 : (kd == 0) = false) (h1 : (kd == 1) = true) :
    Calls Tryd.prog 51 #[.agg #[.string ai, .int .i64 l, .int .i64 m, .int .i64 kd, .bool p]] w fun e w' => e = .returned (.agg #[.func (.func 62) #[] #[], .int .i64 20, .func (.func 64) #[] #[], .int .i64 28, .bool false]) ∧ Below w.heap.size w w' := by
  go_enter Tryd.func51, Tryd.ntmps51
  go_wp2
  refine bodyPost_ret (v := .agg #[.func (.func 62) #[] #[], .int .i64 20, .func (.func 64) #[] #[], .int .i64 28, .bool false]) (by simp [results, Tryd.results51, go_sem]) rfl ⟨rfl, ?_⟩
  repeat (first | exact Below.refl _ _ | refine Below.alloc ?_ (by simp) _ | refine Below.setCell ?_ (by simp) _)
set_option maxHeartbeats 2000000 in
set_option maxRecDepth 100000 in
theorem form_digits (ai : ByteArray) (l m kd : Int) (p : Bool) (w : World) (h0 : (kd == 0) = false) (h1 : (kd == 1) = false) (h2 : (kd == 2) = true) :
    Calls Tryd.prog 51 #[.agg #[.string ai, .int .i64 l, .int .i64 m, .int .i64 kd, .bool p]] w fun e w' => e = .returned (.agg #[.func (.func 62) #[] #[], .int .i64 20, .func (.func 65) #[] #[], .int .i64 0, .bool false]) ∧ Below w.heap.size w w' := by
  go_enter Tryd.func51, Tryd.ntmps51
  go_wp2
  refine bodyPost_ret (v := .agg #[.func (.func 62) #[] #[], .int .i64 20, .func (.func 65) #[] #[], .int .i64 0, .bool false]) (by simp [results, Tryd.results51, go_sem]) rfl ⟨rfl, ?_⟩
  repeat (first | exact Below.refl _ _ | refine Below.alloc ?_ (by simp) _ | refine Below.setCell ?_ (by simp) _)
set_option maxHeartbeats 2000000 in
set_option maxRecDepth 100000 in
theorem form_chars (ai : ByteArray) (l m kd : Int) (p : Bool) (w : World) (h0 : (kd == 0) = false) (h1 : (kd == 1) = false) (h2 : (kd == 2) = false) :
    Calls Tryd.prog 51 #[.agg #[.string ai, .int .i64 l, .int .i64 m, .int .i64 kd, .bool p]] w fun e w' => e = .returned (.agg #[.func (.func 66) #[] #[], .int .i64 27, .func (.func 65) #[] #[], .int .i64 0, .bool false]) ∧ Below w.heap.size w w' := by
  go_enter Tryd.func51, Tryd.ntmps51
  go_wp2
  refine bodyPost_ret (v := .agg #[.func (.func 66) #[] #[], .int .i64 27, .func (.func 65) #[] #[], .int .i64 0, .bool false]) (by simp [results, Tryd.results51, go_sem]) rfl ⟨rfl, ?_⟩
  repeat (first | exact Below.refl _ _ | refine Below.alloc ?_ (by simp) _ | refine Below.setCell ?_ (by simp) _)
end Go.Proofs.YtofagdjijpjlgaaDoor.X
