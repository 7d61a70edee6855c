/- Functions of the program, each with its contract over this translation: written by a program of this work over the kit's print. -/
import Derived.Test.YtincnnmojgphmaaProg
import Derived.Below
import Derived.Deep.Draws
import Derived.Deep.AppendLies
import Derived.Maps.AppendAt
import Derived.OwnWalk
import Derived.Laws.BytesArg
import Derived.Laws.MakeOwn
import Derived.Laws.OwnMore
import Derived.Deep.OwnRows
import Derived.Tactics
import Derived.Lib.ConvBytes
import Derived.Laws.Slices
import Derived.WalkKit
import Derived.KernelRfl
import Derived.RowKit3
import Derived.Deep.LoopGhost
import Derived.Deep.QuietTactic
import Derived.BigQuiet
import Derived.WideLaws
import Derived.Deep.DeepCutAuto
import Derived.Deep.CutBlock
import Derived.Deep.RegionHeld3
import Derived.Laws.Rows
import Derived.Lib.AppendStr
import Derived.ArgAppend
import Derived.Laws.IdiomCopy
import Derived.OrdersHeld
import Derived.Laws.BitsLemmas
import Derived.RowKit
import Derived.Test.YtincnnmojgphmaaWWords
import Derived.Test.YtincnnmojgphmaaWLast
import Derived.Test.YtincnnmojgphmaaWTab
import Derived.Test.YtincnnmojgphmaaWFour
import Derived.Test.YtincnnmojgphmaaWQPut
import Derived.Test.YtincnnmojgphmaaWApart
import Derived.Test.YtincnnmojgphmaaWArr
import Derived.Test.YtincnnmojgphmaaWZeros
import Derived.Test.YtincnnmojgphmaaWFoot
import Derived.Test.YtincnnmojgphmaaWKept
import Derived.Test.YtincnnmojgphmaaWShare
import Derived.Test.YtincnnmojgphmaaWN
import Derived.Test.YtincnnmojgphmaaWFootNe
import Derived.Test.YtincnnmojgphmaaWAt
import Derived.Test.YtincnnmojgphmaaWEqStruct
import Derived.Test.YtincnnmojgphmaaWRepsOne
import Derived.Test.YtincnnmojgphmaaWInv
import Derived.Test.YtincnnmojgphmaaWInvWords
import Derived.Test.YtincnnmojgphmaaWGuard
import Derived.Test.YtincnnmojgphmaaWNEv
import Derived.Test.YtincnnmojgphmaaWMore
namespace Go.Proofs.Ytincnnmojgphmaa.PX
open Go.RowKit Go.Proofs.YtincnnmojgphmaaW.PrintWords Go.Proofs.YtincnnmojgphmaaW.PrintLast Go.Proofs.YtincnnmojgphmaaW.PrintMore
attribute [local go_sem] max2_int min2_int max_two min_two max_three min_three max_four min_four   -- for this text's walks alone
set_option linter.unusedVariables false
set_option linter.unusedSimpArgs false



def errW : Option Int → Value
  | none => .nilIface
  | some c => .iface 0 (.int .i64 c)
theorem errW_none : errW none = .nilIface := rfl
theorem errW_some (c : Int) : errW (some c) = .iface 0 (.int .i64 c) := rfl

-- the values' own types

end Go.Proofs.Ytincnnmojgphmaa.PX
