-- written by xprint.py (a program of this work's own, over the kit's printer) out of the translation
import Derived.Test.YtfcjfjmjcmanaaaPBasex0
import Derived.Test.YtfcjfjmjcmanaaaPBasex1
namespace Go.Proofs.Ytfcjfjmjcmanaaa.PBase
open Go.RowKit Go.Proofs.YtfcjfjmjcmanaaaW.PrintWords Go.Proofs.YtfcjfjmjcmanaaaW.PrintLast Go.Proofs.YtfcjfjmjcmanaaaW.PrintMore
attribute [local go_sem] max2_int min2_int max_two min_two max_three min_three max_four min_four   -- for this text's walks alone
set_option linter.unusedVariables false
set_option linter.unusedSimpArgs false

end Go.Proofs.Ytfcjfjmjcmanaaa.PBase
