/- Functions of the program, each with its contract over this translation: written by a program of this work over the kit's print. -/
import Derived.Test.YtmmbbkdbebfhiaaPTx0
import Derived.Test.YtmmbbkdbebfhiaaPTx1
import Derived.Test.YtmmbbkdbebfhiaaPTx2
namespace Go.Proofs.Ytmmbbkdbebfhiaa.PT
open Go.RowKit Go.Proofs.Ytmmbbkdbebfhiaa.H Go.Proofs.YtmmbbkdbebfhiaaW.PrintWords Go.Proofs.YtmmbbkdbebfhiaaW.PrintLast Go.Proofs.YtmmbbkdbebfhiaaW.PrintMore
attribute [local go_sem] max2_int min2_int max_two min_two max_three min_three max_four min_four   -- for this text's walks alone
set_option linter.unusedVariables false
set_option linter.unusedSimpArgs false

end Go.Proofs.Ytmmbbkdbebfhiaa.PT
