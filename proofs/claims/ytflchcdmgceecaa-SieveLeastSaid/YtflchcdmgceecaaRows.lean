/-
  No cell of these rows narrows 'for every input' (looked for: loops, veiled, ifaces, maps, wideKeys, modest, calm, conditions, laid).
  DERIVED. THE GIVEN ROWS OF THIS SEAT. 12 by the template 'for every input the law returns true; each argument reads behind the call as it read before'; 0 by the template 'total and deterministic' (their statements: YtflchcdmgceecaaTotals.lean).
  GIVEN WITH THE SEED: the statements are not yours to turn. If you find one false, say at which input.
  Laid BY PROGRAM, IN A SANDBOX (cutbox-rows.mjs): the forced cells as the released guide's own fill.sh prints them over the translation 7c36123ca5970b63… (all of the seat's roots in one cut). By AI agents, Wed Nov 11 2026. No macro, syntax, notation, axiom, sorry.
-/
import Derived.Test.YtflchcdmgceecaaChecked
import GoSem.Claim
import GoSem.ClaimJoined
import GoSem.ClaimMapViews
import Derived.JoinedTies
import Derived.KernelRfl
namespace Go.Proofs.Ytflchcdmgceecaa
/- THE CELL 'sum', in the pinned program and in every row, IS THE sha256 OF THE DUMP (.gsa) THAT YtflchcdmgceecaaProg.lean LOADS. Nothing in Lean hashes anything: it is a label: what it is worth is what the hold of that sum in a sandbox is worth. -/
noncomputable def Try.pinned : Pinned := { name := "ytflchcdmgceecaa", sum := "7c36123ca5970b6364fbb6baed08566c6d484ca0be2b992d3ef36540db9c0fa0", checked := Try.checked }
namespace Rows
def none {H : Type} : Left H := { results := [], args := [] }

/-- 'sconcelaw03.NatOf': WHATEVER THE INPUT: true; the input reads as it did. -/
def natOfSpec : ChangeSpec := { name := "natOf", fn := fun _ => fun
  | [d1, d2] => { results := [.lit (.bool true)], args := [d1, d2] }
  | _ => none }
def natOfRow : OpenClaim := { program := "ytflchcdmgceecaa", sum := "7c36123ca5970b6364fbb6baed08566c6d484ca0be2b992d3ef36540db9c0fa0", func := "sconce/sconcelaw03.NatOf", spec := "natOf", unfollowed := true, recurses := true, apart := false }
def NatOfSaid : Prop := natOfRow.holds Try.pinned (OpenSpec.ofChange natOfSpec)

/-- ITS FALSE NEIGHBOUR: 'it returns false'. Refute it at one input. -/
def natOfWrong : ChangeSpec := { name := "natOf", fn := fun _ => fun
  | [d1, d2] => { results := [.lit (.bool false)], args := [d1, d2] }
  | _ => none }
def NatOfWrongFalsely : Prop := natOfRow.holds Try.pinned (OpenSpec.ofChange natOfWrong)

/-- 'sconcelaw03.NatBytes': WHATEVER THE INPUT: true; the input reads as it did. -/
def natBytesSpec : ChangeSpec := { name := "natBytes", fn := fun _ => fun
  | [d1, d2] => { results := [.lit (.bool true)], args := [d1, d2] }
  | _ => none }
def natBytesRow : OpenClaim := { program := "ytflchcdmgceecaa", sum := "7c36123ca5970b6364fbb6baed08566c6d484ca0be2b992d3ef36540db9c0fa0", func := "sconce/sconcelaw03.NatBytes", spec := "natBytes", unfollowed := true, recurses := true, apart := false }
def NatBytesSaid : Prop := natBytesRow.holds Try.pinned (OpenSpec.ofChange natBytesSpec)

/-- ITS FALSE NEIGHBOUR: 'it returns false'. Refute it at one input. -/
def natBytesWrong : ChangeSpec := { name := "natBytes", fn := fun _ => fun
  | [d1, d2] => { results := [.lit (.bool false)], args := [d1, d2] }
  | _ => none }
def NatBytesWrongFalsely : Prop := natBytesRow.holds Try.pinned (OpenSpec.ofChange natBytesWrong)

/-- 'sconcelaw03.NatOrders': WHATEVER THE INPUT: true; the input reads as it did. -/
def natOrdersSpec : ChangeSpec := { name := "natOrders", fn := fun _ => fun
  | [d1, d2, d3] => { results := [.lit (.bool true)], args := [d1, d2, d3] }
  | _ => none }
def natOrdersRow : OpenClaim := { program := "ytflchcdmgceecaa", sum := "7c36123ca5970b6364fbb6baed08566c6d484ca0be2b992d3ef36540db9c0fa0", func := "sconce/sconcelaw03.NatOrders", spec := "natOrders", unfollowed := true, recurses := true, apart := false }
def NatOrdersSaid : Prop := natOrdersRow.holds Try.pinned (OpenSpec.ofChange natOrdersSpec)

/-- ITS FALSE NEIGHBOUR: 'it returns false'. Refute it at one input. -/
def natOrdersWrong : ChangeSpec := { name := "natOrders", fn := fun _ => fun
  | [d1, d2, d3] => { results := [.lit (.bool false)], args := [d1, d2, d3] }
  | _ => none }
def NatOrdersWrongFalsely : Prop := natOrdersRow.holds Try.pinned (OpenSpec.ofChange natOrdersWrong)

/-- 'sconcelaw03.NatWords': WHATEVER THE INPUT: true; the input reads as it did. -/
def natWordsSpec : ChangeSpec := { name := "natWords", fn := fun _ => fun
  | [d1, d2, d3] => { results := [.lit (.bool true)], args := [d1, d2, d3] }
  | _ => none }
def natWordsRow : OpenClaim := { program := "ytflchcdmgceecaa", sum := "7c36123ca5970b6364fbb6baed08566c6d484ca0be2b992d3ef36540db9c0fa0", func := "sconce/sconcelaw03.NatWords", spec := "natWords", unfollowed := true, recurses := true, apart := false }
def NatWordsSaid : Prop := natWordsRow.holds Try.pinned (OpenSpec.ofChange natWordsSpec)

/-- ITS FALSE NEIGHBOUR: 'it returns false'. Refute it at one input. -/
def natWordsWrong : ChangeSpec := { name := "natWords", fn := fun _ => fun
  | [d1, d2, d3] => { results := [.lit (.bool false)], args := [d1, d2, d3] }
  | _ => none }
def NatWordsWrongFalsely : Prop := natWordsRow.holds Try.pinned (OpenSpec.ofChange natWordsWrong)

/-- 'sconcelaw03.NatTells': WHATEVER THE INPUT: true; the input reads as it did. -/
def natTellsSpec : ChangeSpec := { name := "natTells", fn := fun _ => fun
  | [d1, d2, d3] => { results := [.lit (.bool true)], args := [d1, d2, d3] }
  | _ => none }
def natTellsRow : OpenClaim := { program := "ytflchcdmgceecaa", sum := "7c36123ca5970b6364fbb6baed08566c6d484ca0be2b992d3ef36540db9c0fa0", func := "sconce/sconcelaw03.NatTells", spec := "natTells", unfollowed := true, recurses := true, apart := false }
def NatTellsSaid : Prop := natTellsRow.holds Try.pinned (OpenSpec.ofChange natTellsSpec)

/-- ITS FALSE NEIGHBOUR: 'it returns false'. Refute it at one input. -/
def natTellsWrong : ChangeSpec := { name := "natTells", fn := fun _ => fun
  | [d1, d2, d3] => { results := [.lit (.bool false)], args := [d1, d2, d3] }
  | _ => none }
def NatTellsWrongFalsely : Prop := natTellsRow.holds Try.pinned (OpenSpec.ofChange natTellsWrong)

/-- 'sconcelaw03.NatShows': WHATEVER THE INPUT: true; the input reads as it did. -/
def natShowsSpec : ChangeSpec := { name := "natShows", fn := fun _ => fun
  | [d1, d2] => { results := [.lit (.bool true)], args := [d1, d2] }
  | _ => none }
def natShowsRow : OpenClaim := { program := "ytflchcdmgceecaa", sum := "7c36123ca5970b6364fbb6baed08566c6d484ca0be2b992d3ef36540db9c0fa0", func := "sconce/sconcelaw03.NatShows", spec := "natShows", inPlace := ["internal/bytealg.IndexByteString"], unfollowed := true, recurses := true, apart := false }
def NatShowsSaid : Prop := natShowsRow.holds Try.pinned (OpenSpec.ofChange natShowsSpec)

/-- ITS FALSE NEIGHBOUR: 'it returns false'. Refute it at one input. -/
def natShowsWrong : ChangeSpec := { name := "natShows", fn := fun _ => fun
  | [d1, d2] => { results := [.lit (.bool false)], args := [d1, d2] }
  | _ => none }
def NatShowsWrongFalsely : Prop := natShowsRow.holds Try.pinned (OpenSpec.ofChange natShowsWrong)

/-- 'sconcelaw16.SievePrimes': WHATEVER THE INPUT: true; the input reads as it did. -/
def sievePrimesSpec : ChangeSpec := { name := "sievePrimes", fn := fun _ => fun
  | [d] => { results := [.lit (.bool true)], args := [d] }
  | _ => none }
def sievePrimesRow : OpenClaim := { program := "ytflchcdmgceecaa", sum := "7c36123ca5970b6364fbb6baed08566c6d484ca0be2b992d3ef36540db9c0fa0", func := "sconce/sconcelaw16.SievePrimes", spec := "sievePrimes", unfollowed := true, recurses := true, named := ["math/bits.divideError", "math/bits.overflowError"], apart := false }
def SievePrimesSaid : Prop := sievePrimesRow.holds Try.pinned (OpenSpec.ofChange sievePrimesSpec)

/-- ITS FALSE NEIGHBOUR: 'it returns false'. Refute it at one input. -/
def sievePrimesWrong : ChangeSpec := { name := "sievePrimes", fn := fun _ => fun
  | [d] => { results := [.lit (.bool false)], args := [d] }
  | _ => none }
def SievePrimesWrongFalsely : Prop := sievePrimesRow.holds Try.pinned (OpenSpec.ofChange sievePrimesWrong)

/-- 'sconcelaw16.SieveFactors': WHATEVER THE INPUT: true; the input reads as it did. -/
def sieveFactorsSpec : ChangeSpec := { name := "sieveFactors", fn := fun _ => fun
  | [d1, d2] => { results := [.lit (.bool true)], args := [d1, d2] }
  | _ => none }
def sieveFactorsRow : OpenClaim := { program := "ytflchcdmgceecaa", sum := "7c36123ca5970b6364fbb6baed08566c6d484ca0be2b992d3ef36540db9c0fa0", func := "sconce/sconcelaw16.SieveFactors", spec := "sieveFactors", unfollowed := true, recurses := true, named := ["math/bits.divideError", "math/bits.overflowError"], apart := false }
def SieveFactorsSaid : Prop := sieveFactorsRow.holds Try.pinned (OpenSpec.ofChange sieveFactorsSpec)

/-- ITS FALSE NEIGHBOUR: 'it returns false'. Refute it at one input. -/
def sieveFactorsWrong : ChangeSpec := { name := "sieveFactors", fn := fun _ => fun
  | [d1, d2] => { results := [.lit (.bool false)], args := [d1, d2] }
  | _ => none }
def SieveFactorsWrongFalsely : Prop := sieveFactorsRow.holds Try.pinned (OpenSpec.ofChange sieveFactorsWrong)

/-- 'sconcelaw16.SievePasses': WHATEVER THE INPUT: true; the input reads as it did. -/
def sievePassesSpec : ChangeSpec := { name := "sievePasses", fn := fun _ => fun
  | [d] => { results := [.lit (.bool true)], args := [d] }
  | _ => none }
def sievePassesRow : OpenClaim := { program := "ytflchcdmgceecaa", sum := "7c36123ca5970b6364fbb6baed08566c6d484ca0be2b992d3ef36540db9c0fa0", func := "sconce/sconcelaw16.SievePasses", spec := "sievePasses", unfollowed := true, recurses := true, named := ["math/bits.divideError", "math/bits.overflowError"], apart := false }
def SievePassesSaid : Prop := sievePassesRow.holds Try.pinned (OpenSpec.ofChange sievePassesSpec)

/-- ITS FALSE NEIGHBOUR: 'it returns false'. Refute it at one input. -/
def sievePassesWrong : ChangeSpec := { name := "sievePasses", fn := fun _ => fun
  | [d] => { results := [.lit (.bool false)], args := [d] }
  | _ => none }
def SievePassesWrongFalsely : Prop := sievePassesRow.holds Try.pinned (OpenSpec.ofChange sievePassesWrong)

/-- 'sconcelaw16.SieveLeast': WHATEVER THE INPUT: true; the input reads as it did. -/
def sieveLeastSpec : ChangeSpec := { name := "sieveLeast", fn := fun _ => fun
  | [d1, d2] => { results := [.lit (.bool true)], args := [d1, d2] }
  | _ => none }
def sieveLeastRow : OpenClaim := { program := "ytflchcdmgceecaa", sum := "7c36123ca5970b6364fbb6baed08566c6d484ca0be2b992d3ef36540db9c0fa0", func := "sconce/sconcelaw16.SieveLeast", spec := "sieveLeast", unfollowed := true, recurses := true, named := ["math/bits.divideError", "math/bits.overflowError"], apart := false }
def SieveLeastSaid : Prop := sieveLeastRow.holds Try.pinned (OpenSpec.ofChange sieveLeastSpec)

/-- ITS FALSE NEIGHBOUR: 'it returns false'. Refute it at one input. -/
def sieveLeastWrong : ChangeSpec := { name := "sieveLeast", fn := fun _ => fun
  | [d1, d2] => { results := [.lit (.bool false)], args := [d1, d2] }
  | _ => none }
def SieveLeastWrongFalsely : Prop := sieveLeastRow.holds Try.pinned (OpenSpec.ofChange sieveLeastWrong)

/-- 'sconcelaw03.NatBack': WHATEVER THE INPUT: true; the input reads as it did. -/
def natBackSpec : ChangeSpec := { name := "natBack", fn := fun _ => fun
  | [d] => { results := [.lit (.bool true)], args := [d] }
  | _ => none }
def natBackRow : OpenClaim := { program := "ytflchcdmgceecaa", sum := "7c36123ca5970b6364fbb6baed08566c6d484ca0be2b992d3ef36540db9c0fa0", func := "sconce/sconcelaw03.NatBack", spec := "natBack", inPlace := ["internal/bytealg.IndexByteString"], unfollowed := true, recurses := true, apart := false }
def NatBackSaid : Prop := natBackRow.holds Try.pinned (OpenSpec.ofChange natBackSpec)

/-- ITS FALSE NEIGHBOUR: 'it returns false'. Refute it at one input. -/
def natBackWrong : ChangeSpec := { name := "natBack", fn := fun _ => fun
  | [d] => { results := [.lit (.bool false)], args := [d] }
  | _ => none }
def NatBackWrongFalsely : Prop := natBackRow.holds Try.pinned (OpenSpec.ofChange natBackWrong)

/-- 'sconcelaw15.ScriptNone': WHATEVER THE INPUT: true; the input reads as it did. -/
def scriptNoneSpec : ChangeSpec := { name := "scriptNone", fn := fun _ => fun
  | [d] => { results := [.lit (.bool true)], args := [d] }
  | _ => none }
def scriptNoneRow : OpenClaim := { program := "ytflchcdmgceecaa", sum := "7c36123ca5970b6364fbb6baed08566c6d484ca0be2b992d3ef36540db9c0fa0", func := "sconce/sconcelaw15.ScriptNone", spec := "scriptNone", unfollowed := true, recurses := true, apart := false }
def ScriptNoneSaid : Prop := scriptNoneRow.holds Try.pinned (OpenSpec.ofChange scriptNoneSpec)

/-- ITS FALSE NEIGHBOUR: 'it returns false'. Refute it at one input. -/
def scriptNoneWrong : ChangeSpec := { name := "scriptNone", fn := fun _ => fun
  | [d] => { results := [.lit (.bool false)], args := [d] }
  | _ => none }
def ScriptNoneWrongFalsely : Prop := scriptNoneRow.holds Try.pinned (OpenSpec.ofChange scriptNoneWrong)

/- THE SECOND FORM. 'bulk': how many values and letters a reading holds, each counted each time it is reached (what is shared counts as often as it is met; a slice's spare places count too). A statement '..UptoSaid' is the law's where the arguments, and the package variables that the reading takes, are together of bulk at most 1048576: NARROWER than '..Said'. Prove '..Said' where nothing that the law and all that it calls make is longer than what came in: it says more and counts as full. Else prove '..UptoSaid'. A law counts once. -/
mutual
def uptoBulk {H : Type} : DataW H → Nat
  | .lit (.string bytes) => bytes.length + 1
  | .lit _ => 1
  | .nil => 1
  | .ptr d => uptoBulk d + 1
  | .slice elems spare => uptoBulkAll elems + uptoBulkAll spare + 1
  | .agg parts => uptoBulkAll parts + 1
  | .iface _ d => uptoBulk d + 1
  | .map entries => uptoBulkEntries entries + 1
  | .held _ => 1
def uptoBulkAll {H : Type} : List (DataW H) → Nat
  | [] => 0
  | d :: r => uptoBulk d + uptoBulkAll r
def uptoBulkEntries {H : Type} : List (Lit × DataW H) → Nat
  | [] => 0
  | x :: r => uptoBulkEntry x + uptoBulkEntries r
def uptoBulkEntry {H : Type} : Lit × DataW H → Nat
  | (.string bytes, d) => bytes.length + uptoBulk d + 1
  | (_, d) => uptoBulk d + 1
 end
def uptoSmall : (H : Type) → List (DataW H) → Bool := fun _ ds => decide (uptoBulkAll ds ≤ 1048576)
def OpenSpec.upto (s : _root_.Go.ChangeSpec) : _root_.Go.OpenSpec := { _root_.Go.OpenSpec.ofChange s with cond := some uptoSmall }

/-- 'sconcelaw03.NatOf', WHERE WHAT IT READS IS OF BULK AT MOST 1048576: true; the input reads as it did. -/
def natOfUptoRow : OpenClaim := { program := "ytflchcdmgceecaa", sum := "7c36123ca5970b6364fbb6baed08566c6d484ca0be2b992d3ef36540db9c0fa0", func := "sconce/sconcelaw03.NatOf", spec := "natOf", unfollowed := true, recurses := true, apart := false, narrowed := true }
def NatOfUptoSaid : Prop := natOfUptoRow.holds Try.pinned (OpenSpec.upto natOfSpec)

/-- 'sconcelaw03.NatBytes', WHERE WHAT IT READS IS OF BULK AT MOST 1048576: true; the input reads as it did. -/
def natBytesUptoRow : OpenClaim := { program := "ytflchcdmgceecaa", sum := "7c36123ca5970b6364fbb6baed08566c6d484ca0be2b992d3ef36540db9c0fa0", func := "sconce/sconcelaw03.NatBytes", spec := "natBytes", unfollowed := true, recurses := true, apart := false, narrowed := true }
def NatBytesUptoSaid : Prop := natBytesUptoRow.holds Try.pinned (OpenSpec.upto natBytesSpec)

/-- 'sconcelaw03.NatOrders', WHERE WHAT IT READS IS OF BULK AT MOST 1048576: true; the input reads as it did. -/
def natOrdersUptoRow : OpenClaim := { program := "ytflchcdmgceecaa", sum := "7c36123ca5970b6364fbb6baed08566c6d484ca0be2b992d3ef36540db9c0fa0", func := "sconce/sconcelaw03.NatOrders", spec := "natOrders", unfollowed := true, recurses := true, apart := false, narrowed := true }
def NatOrdersUptoSaid : Prop := natOrdersUptoRow.holds Try.pinned (OpenSpec.upto natOrdersSpec)

/-- 'sconcelaw03.NatWords', WHERE WHAT IT READS IS OF BULK AT MOST 1048576: true; the input reads as it did. -/
def natWordsUptoRow : OpenClaim := { program := "ytflchcdmgceecaa", sum := "7c36123ca5970b6364fbb6baed08566c6d484ca0be2b992d3ef36540db9c0fa0", func := "sconce/sconcelaw03.NatWords", spec := "natWords", unfollowed := true, recurses := true, apart := false, narrowed := true }
def NatWordsUptoSaid : Prop := natWordsUptoRow.holds Try.pinned (OpenSpec.upto natWordsSpec)

/-- 'sconcelaw03.NatTells', WHERE WHAT IT READS IS OF BULK AT MOST 1048576: true; the input reads as it did. -/
def natTellsUptoRow : OpenClaim := { program := "ytflchcdmgceecaa", sum := "7c36123ca5970b6364fbb6baed08566c6d484ca0be2b992d3ef36540db9c0fa0", func := "sconce/sconcelaw03.NatTells", spec := "natTells", unfollowed := true, recurses := true, apart := false, narrowed := true }
def NatTellsUptoSaid : Prop := natTellsUptoRow.holds Try.pinned (OpenSpec.upto natTellsSpec)

/-- 'sconcelaw03.NatShows', WHERE WHAT IT READS IS OF BULK AT MOST 1048576: true; the input reads as it did. -/
def natShowsUptoRow : OpenClaim := { program := "ytflchcdmgceecaa", sum := "7c36123ca5970b6364fbb6baed08566c6d484ca0be2b992d3ef36540db9c0fa0", func := "sconce/sconcelaw03.NatShows", spec := "natShows", inPlace := ["internal/bytealg.IndexByteString"], unfollowed := true, recurses := true, apart := false, narrowed := true }
def NatShowsUptoSaid : Prop := natShowsUptoRow.holds Try.pinned (OpenSpec.upto natShowsSpec)

/-- 'sconcelaw16.SievePrimes', WHERE WHAT IT READS IS OF BULK AT MOST 1048576: true; the input reads as it did. -/
def sievePrimesUptoRow : OpenClaim := { program := "ytflchcdmgceecaa", sum := "7c36123ca5970b6364fbb6baed08566c6d484ca0be2b992d3ef36540db9c0fa0", func := "sconce/sconcelaw16.SievePrimes", spec := "sievePrimes", unfollowed := true, recurses := true, named := ["math/bits.divideError", "math/bits.overflowError"], apart := false, narrowed := true }
def SievePrimesUptoSaid : Prop := sievePrimesUptoRow.holds Try.pinned (OpenSpec.upto sievePrimesSpec)

/-- 'sconcelaw16.SieveFactors', WHERE WHAT IT READS IS OF BULK AT MOST 1048576: true; the input reads as it did. -/
def sieveFactorsUptoRow : OpenClaim := { program := "ytflchcdmgceecaa", sum := "7c36123ca5970b6364fbb6baed08566c6d484ca0be2b992d3ef36540db9c0fa0", func := "sconce/sconcelaw16.SieveFactors", spec := "sieveFactors", unfollowed := true, recurses := true, named := ["math/bits.divideError", "math/bits.overflowError"], apart := false, narrowed := true }
def SieveFactorsUptoSaid : Prop := sieveFactorsUptoRow.holds Try.pinned (OpenSpec.upto sieveFactorsSpec)

/-- 'sconcelaw16.SievePasses', WHERE WHAT IT READS IS OF BULK AT MOST 1048576: true; the input reads as it did. -/
def sievePassesUptoRow : OpenClaim := { program := "ytflchcdmgceecaa", sum := "7c36123ca5970b6364fbb6baed08566c6d484ca0be2b992d3ef36540db9c0fa0", func := "sconce/sconcelaw16.SievePasses", spec := "sievePasses", unfollowed := true, recurses := true, named := ["math/bits.divideError", "math/bits.overflowError"], apart := false, narrowed := true }
def SievePassesUptoSaid : Prop := sievePassesUptoRow.holds Try.pinned (OpenSpec.upto sievePassesSpec)

/-- 'sconcelaw16.SieveLeast', WHERE WHAT IT READS IS OF BULK AT MOST 1048576: true; the input reads as it did. -/
def sieveLeastUptoRow : OpenClaim := { program := "ytflchcdmgceecaa", sum := "7c36123ca5970b6364fbb6baed08566c6d484ca0be2b992d3ef36540db9c0fa0", func := "sconce/sconcelaw16.SieveLeast", spec := "sieveLeast", unfollowed := true, recurses := true, named := ["math/bits.divideError", "math/bits.overflowError"], apart := false, narrowed := true }
def SieveLeastUptoSaid : Prop := sieveLeastUptoRow.holds Try.pinned (OpenSpec.upto sieveLeastSpec)

/-- 'sconcelaw03.NatBack', WHERE WHAT IT READS IS OF BULK AT MOST 1048576: true; the input reads as it did. -/
def natBackUptoRow : OpenClaim := { program := "ytflchcdmgceecaa", sum := "7c36123ca5970b6364fbb6baed08566c6d484ca0be2b992d3ef36540db9c0fa0", func := "sconce/sconcelaw03.NatBack", spec := "natBack", inPlace := ["internal/bytealg.IndexByteString"], unfollowed := true, recurses := true, apart := false, narrowed := true }
def NatBackUptoSaid : Prop := natBackUptoRow.holds Try.pinned (OpenSpec.upto natBackSpec)

/-- 'sconcelaw15.ScriptNone', WHERE WHAT IT READS IS OF BULK AT MOST 1048576: true; the input reads as it did. -/
def scriptNoneUptoRow : OpenClaim := { program := "ytflchcdmgceecaa", sum := "7c36123ca5970b6364fbb6baed08566c6d484ca0be2b992d3ef36540db9c0fa0", func := "sconce/sconcelaw15.ScriptNone", spec := "scriptNone", unfollowed := true, recurses := true, apart := false, narrowed := true }
def ScriptNoneUptoSaid : Prop := scriptNoneUptoRow.holds Try.pinned (OpenSpec.upto scriptNoneSpec)

end Rows
end Go.Proofs.Ytflchcdmgceecaa
