-- written by xprint.py (a program of this work's own, over the kit's printer) out of the translation
import Derived.Test.YtofagdjijpjlgaaPCodesx0
import Derived.Test.YtofagdjijpjlgaaPCodesx1
import Derived.Test.YtofagdjijpjlgaaPCodesx2
import Derived.Test.YtofagdjijpjlgaaPCodesx3
namespace Go.Proofs.Ytofagdjijpjlgaa.PCodes
open Go.RowKit Go.Proofs.YtofagdjijpjlgaaW.PrintWords Go.Proofs.YtofagdjijpjlgaaW.PrintLast Go.Proofs.YtofagdjijpjlgaaW.PrintMore Go.Proofs.Ytofagdjijpjlgaa.X
attribute [local go_sem] max2_int min2_int max_two min_two max_three min_three max_four min_four   -- for this text's walks alone
set_option linter.unusedVariables false
set_option linter.unusedSimpArgs false

end Go.Proofs.Ytofagdjijpjlgaa.PCodes
