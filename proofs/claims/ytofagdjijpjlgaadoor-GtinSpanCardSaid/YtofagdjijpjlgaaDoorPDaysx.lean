-- written by xprint.py (a program of this work's own, over the kit's printer) out of the translation
import Derived.Test.YtofagdjijpjlgaaDoorPDaysx0
import Derived.Test.YtofagdjijpjlgaaDoorPDaysx1
import Derived.Test.YtofagdjijpjlgaaDoorPDaysx2
namespace Go.Proofs.YtofagdjijpjlgaaDoor.PDays
open Go.RowKit Go.Proofs.YtofagdjijpjlgaaDoorW.PrintWords Go.Proofs.YtofagdjijpjlgaaDoorW.PrintLast Go.Proofs.YtofagdjijpjlgaaDoorW.PrintMore Go.Proofs.YtofagdjijpjlgaaDoor.X Go.Proofs.YtofagdjijpjlgaaDoor.PBase
attribute [local go_sem] max2_int min2_int max_two min_two max_three min_three max_four min_four   -- for this text's walks alone
set_option linter.unusedVariables false
set_option linter.unusedSimpArgs false

end Go.Proofs.YtofagdjijpjlgaaDoor.PDays
