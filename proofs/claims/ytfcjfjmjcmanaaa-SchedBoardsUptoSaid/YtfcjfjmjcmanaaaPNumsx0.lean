-- written by xprint.py (a program of this work's own, over the kit's printer) out of the translation
import Derived.Test.YtfcjfjmjcmanaaaProg
import Derived.Below
import Derived.Deep.Draws
import Derived.Deep.AppendLies
import Derived.Maps.AppendAt
import Derived.OwnWalk
import Derived.Laws.BytesArg
import Derived.Laws.MakeOwn
import Derived.Laws.OwnMore
import Derived.Deep.OwnRows
import Derived.Tactics
import Derived.Lib.ConvBytes
import Derived.Laws.Slices
import Derived.WalkKit
import Derived.KernelRfl
import Derived.RowKit3
import Derived.Deep.LoopGhost
import Derived.Deep.QuietTactic
import Derived.BigQuiet
import Derived.WideLaws
import Derived.Deep.DeepCutAuto
import Derived.Deep.CutBlock
import Derived.Deep.RegionHeld3
import Derived.Laws.Rows
import Derived.Lib.AppendStr
import Derived.ArgAppend
import Derived.Laws.IdiomCopy
import Derived.OrdersHeld
import Derived.Laws.BitsLemmas
import Derived.RowKit
import Derived.Test.YtfcjfjmjcmanaaaPBasex
import Derived.Test.YtfcjfjmjcmanaaaWWords
import Derived.Test.YtfcjfjmjcmanaaaWLast
import Derived.Test.YtfcjfjmjcmanaaaWTab
import Derived.Test.YtfcjfjmjcmanaaaWFour
import Derived.Test.YtfcjfjmjcmanaaaWQPut
import Derived.Test.YtfcjfjmjcmanaaaWApart
import Derived.Test.YtfcjfjmjcmanaaaWArr
import Derived.Test.YtfcjfjmjcmanaaaWZeros
import Derived.Test.YtfcjfjmjcmanaaaWFoot
import Derived.Test.YtfcjfjmjcmanaaaWKept
import Derived.Test.YtfcjfjmjcmanaaaWShare
import Derived.Test.YtfcjfjmjcmanaaaWN
import Derived.Test.YtfcjfjmjcmanaaaWFootNe
import Derived.Test.YtfcjfjmjcmanaaaWAt
import Derived.Test.YtfcjfjmjcmanaaaWEqStruct
import Derived.Test.YtfcjfjmjcmanaaaWRepsOne
import Derived.Test.YtfcjfjmjcmanaaaWInv
import Derived.Test.YtfcjfjmjcmanaaaWInvWords
import Derived.Test.YtfcjfjmjcmanaaaWGuard
import Derived.Test.YtfcjfjmjcmanaaaWNEv
import Derived.Test.YtfcjfjmjcmanaaaWMore
namespace Go.Proofs.Ytfcjfjmjcmanaaa.PNums
open Go.RowKit Go.Proofs.YtfcjfjmjcmanaaaW.PrintWords Go.Proofs.YtfcjfjmjcmanaaaW.PrintLast Go.Proofs.YtfcjfjmjcmanaaaW.PrintMore Go.Proofs.Ytfcjfjmjcmanaaa.PBase
attribute [local go_sem] max2_int min2_int max_two min_two max_three min_three max_four min_four   -- for this text's walks alone
set_option linter.unusedVariables false
set_option linter.unusedSimpArgs false



def errW : Option Int → Value
  | none => .nilIface
  | some c => .iface 0 (.int .i64 c)
theorem errW_none : errW none = .nilIface := rfl
theorem errW_some (c : Int) : errW (some c) = .iface 0 (.int .i64 c) := rfl

-- the values' own types

end Go.Proofs.Ytfcjfjmjcmanaaa.PNums
