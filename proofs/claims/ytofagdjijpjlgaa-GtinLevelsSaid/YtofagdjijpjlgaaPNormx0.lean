-- written by xprint.py (a program of this work's own, over the kit's printer) out of the translation
import Derived.Test.YtofagdjijpjlgaaProg
import Derived.Below
import Derived.Deep.Draws
import Derived.Deep.AppendLies
import Derived.Maps.AppendAt
import Derived.OwnWalk
import Derived.Laws.BytesArg
import Derived.Laws.MakeOwn
import Derived.Laws.OwnMore
import Derived.Deep.OwnRows
import Derived.Tactics
import Derived.Lib.ConvBytes
import Derived.Laws.Slices
import Derived.WalkKit
import Derived.KernelRfl
import Derived.RowKit3
import Derived.Deep.LoopGhost
import Derived.Deep.QuietTactic
import Derived.BigQuiet
import Derived.WideLaws
import Derived.Deep.DeepCutAuto
import Derived.Deep.CutBlock
import Derived.Deep.RegionHeld3
import Derived.Laws.Rows
import Derived.Lib.AppendStr
import Derived.ArgAppend
import Derived.Laws.IdiomCopy
import Derived.OrdersHeld
import Derived.Laws.BitsLemmas
import Derived.RowKit
import Derived.Test.YtofagdjijpjlgaaXa
import Derived.Test.YtofagdjijpjlgaaXw
import Derived.Test.YtofagdjijpjlgaaXb
import Derived.Test.YtofagdjijpjlgaaPCodesx
import Derived.Test.YtofagdjijpjlgaaWWords
import Derived.Test.YtofagdjijpjlgaaWLast
import Derived.Test.YtofagdjijpjlgaaWTab
import Derived.Test.YtofagdjijpjlgaaWFour
import Derived.Test.YtofagdjijpjlgaaWQPut
import Derived.Test.YtofagdjijpjlgaaWApart
import Derived.Test.YtofagdjijpjlgaaWArr
import Derived.Test.YtofagdjijpjlgaaWZeros
import Derived.Test.YtofagdjijpjlgaaWFoot
import Derived.Test.YtofagdjijpjlgaaWKept
import Derived.Test.YtofagdjijpjlgaaWShare
import Derived.Test.YtofagdjijpjlgaaWN
import Derived.Test.YtofagdjijpjlgaaWFootNe
import Derived.Test.YtofagdjijpjlgaaWAt
import Derived.Test.YtofagdjijpjlgaaWEqStruct
import Derived.Test.YtofagdjijpjlgaaWRepsOne
import Derived.Test.YtofagdjijpjlgaaWInv
import Derived.Test.YtofagdjijpjlgaaWInvWords
import Derived.Test.YtofagdjijpjlgaaWGuard
import Derived.Test.YtofagdjijpjlgaaWNEv
import Derived.Test.YtofagdjijpjlgaaWMore
namespace Go.Proofs.Ytofagdjijpjlgaa.PNorm
open Go.RowKit Go.Proofs.YtofagdjijpjlgaaW.PrintWords Go.Proofs.YtofagdjijpjlgaaW.PrintLast Go.Proofs.YtofagdjijpjlgaaW.PrintMore Go.Proofs.Ytofagdjijpjlgaa.X Go.Proofs.Ytofagdjijpjlgaa.PCodes
attribute [local go_sem] max2_int min2_int max_two min_two max_three min_three max_four min_four   -- for this text's walks alone
set_option linter.unusedVariables false
set_option linter.unusedSimpArgs false



def errW : Option Int → Value
  | none => .nilIface
  | some c => .iface 0 (.int .i64 c)
theorem errW_none : errW none = .nilIface := rfl
theorem errW_some (c : Int) : errW (some c) = .iface 0 (.int .i64 c) := rfl

theorem info5 : (Try.prog.info? 5).map (fun i => (i.zero, i.size, i.bytes)) = some (some (.int .u8 0), 1, 1) := by kernel_rfl
-- the values' own types

end Go.Proofs.Ytofagdjijpjlgaa.PNorm
