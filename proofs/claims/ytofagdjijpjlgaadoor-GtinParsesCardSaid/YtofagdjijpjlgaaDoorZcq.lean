/- gtin: the scanner's row. -/
import Derived.Test.YtofagdjijpjlgaaDoorZbq
set_option linter.unusedVariables false
set_option linter.unusedSimpArgs false
namespace Go.Proofs.YtofagdjijpjlgaaDoor.X
open Go Go.RowKit Go.Proofs.YtofagdjijpjlgaaDoorW.PrintWords Go.Proofs.YtofagdjijpjlgaaDoorW.PrintLast Go.Proofs.YtofagdjijpjlgaaDoorW.PrintMore
/-- The first row from place i on whose Ai this text begins with. -/
def prefFrom (rest : List UInt8) : Nat → Nat → Option Row5
  | 0, _ => none
  | f + 1, i => if i < 39 then (if Lib.hasPrefix rest (rowAt i).ai = true then some (rowAt i) else prefFrom rest f (i + 1)) else none
variable {W W' : World} {z m N : Nat} {t : ByteArray} {p : Int}
set_option maxHeartbeats 4000000
set_option maxRecDepth 100000
end Go.Proofs.YtofagdjijpjlgaaDoor.X
