/- Functions of the program, each with its contract over this translation: written by a program of this work over the kit's print. -/
import Derived.Test.YtflchcdmgceecaaPAx0
import Derived.Test.YtflchcdmgceecaaPAx1
import Derived.Test.YtflchcdmgceecaaPAx2
namespace Go.Proofs.Ytflchcdmgceecaa.PA
open Go.RowKit Go.Proofs.Ytflchcdmgceecaa.H Go.Proofs.YtflchcdmgceecaaW.PrintWords Go.Proofs.YtflchcdmgceecaaW.PrintLast Go.Proofs.YtflchcdmgceecaaW.PrintMore
attribute [local go_sem] max2_int min2_int max_two min_two max_three min_three max_four min_four   -- for this text's walks alone
set_option linter.unusedVariables false
set_option linter.unusedSimpArgs false

end Go.Proofs.Ytflchcdmgceecaa.PA
