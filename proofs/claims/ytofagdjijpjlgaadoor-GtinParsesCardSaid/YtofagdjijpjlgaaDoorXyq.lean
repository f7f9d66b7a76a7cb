/- Plain facts: the table against the reference's kinds; Day and Amount against the reference's. -/
import Derived.Test.YtofagdjijpjlgaaDoorXu
import Derived.Test.YtofagdjijpjlgaaDoorXxq
set_option linter.unusedVariables false
set_option linter.unusedSimpArgs false
namespace Go.Proofs.YtofagdjijpjlgaaDoor.X
open Go.RowKit Go.Proofs.YtofagdjijpjlgaaDoorW.PrintWords Go.Proofs.YtofagdjijpjlgaaDoorW.PrintLast Go.Proofs.YtofagdjijpjlgaaDoor.PBase

def amountAi (L : List UInt8) : Bool := decide (L.length = 4) && (decide (L.take 3 = [51, 49, 48]) || decide (L.take 3 = [51, 57, 50]))
set_option maxHeartbeats 4000000 in
theorem kind_some (r : Row5) (hr : r ∈ rws) (a : ByteArray) (ha : a.toList = r.ai) (k : Nat) :
    larderref02_kindOf.f (k + 9) a = some (r.plain, decide (r.kind ≠ 3), r.least, r.most, decide (r.kind = 0), decide (r.kind = 1), amountAi r.ai, true) := by
  simp only [rws, List.mem_cons, List.not_mem_nil, or_false] at hr
  rcases hr with rfl | rfl | rfl | rfl | rfl | rfl | rfl | rfl | rfl | rfl | rfl | rfl | rfl | rfl | rfl | rfl | rfl | rfl | rfl | rfl | rfl | rfl | rfl | rfl | rfl | rfl | rfl | rfl | rfl | rfl | rfl | rfl | rfl | rfl | rfl | rfl | rfl | rfl | rfl
  all_goals simp [larderref02_kindOf.f, larderref02_kindOf.j0, larderref02_kindOf.j1, larderref02_kindOf.j2, larderref02_kindOf.j3, larderref02_kindOf.j4, larderref02_kindOf.j5, larderref02_kindOf.j6, larderref02_kindOf.j7, ha, amountAi]
end Go.Proofs.YtofagdjijpjlgaaDoor.X
