/- Functions of the program, each with its contract over this translation: written by a program of this work over the kit's print. -/
import Derived.Test.YtflchcdmgceecaaProg
import Derived.Below
import Derived.Deep.Draws
import Derived.Deep.AppendLies
import Derived.Maps.AppendAt
import Derived.OwnWalk
import Derived.Laws.BytesArg
import Derived.Laws.MakeOwn
import Derived.Laws.OwnMore
import Derived.Deep.OwnRows
import Derived.Tactics
import Derived.Lib.ConvBytes
import Derived.Laws.Slices
import Derived.WalkKit
import Derived.KernelRfl
import Derived.RowKit3
import Derived.Deep.LoopGhost
import Derived.Deep.QuietTactic
import Derived.BigQuiet
import Derived.WideLaws
import Derived.Deep.DeepCutAuto
import Derived.Deep.CutBlock
import Derived.Deep.RegionHeld3
import Derived.Laws.Rows
import Derived.Lib.AppendStr
import Derived.ArgAppend
import Derived.Laws.IdiomCopy
import Derived.OrdersHeld
import Derived.Laws.BitsLemmas
import Derived.RowKit
import Derived.Test.YtflchcdmgceecaaHLib
import Derived.Test.YtflchcdmgceecaaPRx
import Derived.Test.YtflchcdmgceecaaWWords
import Derived.Test.YtflchcdmgceecaaWLast
import Derived.Test.YtflchcdmgceecaaWTab
import Derived.Test.YtflchcdmgceecaaWFour
import Derived.Test.YtflchcdmgceecaaWQPut
import Derived.Test.YtflchcdmgceecaaWApart
import Derived.Test.YtflchcdmgceecaaWArr
import Derived.Test.YtflchcdmgceecaaWZeros
import Derived.Test.YtflchcdmgceecaaWFoot
import Derived.Test.YtflchcdmgceecaaWKept
import Derived.Test.YtflchcdmgceecaaWShare
import Derived.Test.YtflchcdmgceecaaWN
import Derived.Test.YtflchcdmgceecaaWFootNe
import Derived.Test.YtflchcdmgceecaaWAt
import Derived.Test.YtflchcdmgceecaaWEqStruct
import Derived.Test.YtflchcdmgceecaaWRepsOne
import Derived.Test.YtflchcdmgceecaaWInv
import Derived.Test.YtflchcdmgceecaaWInvWords
import Derived.Test.YtflchcdmgceecaaWGuard
import Derived.Test.YtflchcdmgceecaaWNEv
import Derived.Test.YtflchcdmgceecaaWMore
namespace Go.Proofs.Ytflchcdmgceecaa.PM
open Go.RowKit Go.Proofs.Ytflchcdmgceecaa.H Go.Proofs.Ytflchcdmgceecaa.PR Go.Proofs.YtflchcdmgceecaaW.PrintWords Go.Proofs.YtflchcdmgceecaaW.PrintLast Go.Proofs.YtflchcdmgceecaaW.PrintMore
attribute [local go_sem] max2_int min2_int max_two min_two max_three min_three max_four min_four   -- for this text's walks alone
set_option linter.unusedVariables false
set_option linter.unusedSimpArgs false



def errW : Option Int → Value
  | none => .nilIface
  | some c => .iface 0 (.int .i64 c)
theorem errW_none : errW none = .nilIface := rfl
theorem errW_some (c : Int) : errW (some c) = .iface 0 (.int .i64 c) := rfl

theorem info3 : (Try.prog.info? 3).map (fun i => (i.zero, i.size, i.bytes)) = some (some (.int .i64 0), 1, 8) := by kernel_rfl
theorem info93 : (Try.prog.info? 93).map (fun i => (i.zero, i.size, i.bytes)) = some (some (.int .u32 0), 1, 4) := by kernel_rfl
-- the values' own types

end Go.Proofs.Ytflchcdmgceecaa.PM
