/-
  No cell of these rows narrows 'for every input' (looked for: loops, veiled, ifaces, maps, wideKeys, modest, calm, conditions, laid).
  DERIVED. THE GIVEN ROWS OF THIS SEAT. 12 by the template 'for every input the law returns true; each argument reads behind the call as it read before'; 0 by the template 'total and deterministic' (their statements: YtmmbbkdbebfhiaaTotals.lean).
  GIVEN WITH THE SEED: the statements are not yours to turn. If you find one false, say at which input.
  Laid BY PROGRAM, IN A SANDBOX (cutbox-rows.mjs): the forced cells as the released guide's own fill.sh prints them over the translation d290a991f001c474… (all of the seat's roots in one cut). By AI agents, Wed Nov 11 2026. No macro, syntax, notation, axiom, sorry.
-/
import Derived.Test.YtmmbbkdbebfhiaaChecked
import GoSem.Claim
import GoSem.ClaimJoined
import GoSem.ClaimMapViews
import Derived.JoinedTies
import Derived.KernelRfl
namespace Go.Proofs.Ytmmbbkdbebfhiaa
/- THE CELL 'sum', in the pinned program and in every row, IS THE sha256 OF THE DUMP (.gsa) THAT YtmmbbkdbebfhiaaProg.lean LOADS. Nothing in Lean hashes anything: it is a label: what it is worth is what the hold of that sum in a sandbox is worth. -/
noncomputable def Try.pinned : Pinned := { name := "ytmmbbkdbebfhiaa", sum := "d290a991f001c474ae532e6903226436001bc0c3cdf32c15fbdf2fde32e0e8e1", checked := Try.checked }
namespace Rows
def none {H : Type} : Left H := { results := [], args := [] }

/-- 'sconcelaw13.HashPrefixes': WHATEVER THE INPUT: true; the input reads as it did. -/
def hashPrefixesSpec : ChangeSpec := { name := "hashPrefixes", fn := fun _ => fun
  | [d] => { results := [.lit (.bool true)], args := [d] }
  | _ => none }
def hashPrefixesRow : OpenClaim := { program := "ytmmbbkdbebfhiaa", sum := "d290a991f001c474ae532e6903226436001bc0c3cdf32c15fbdf2fde32e0e8e1", func := "sconce/sconcelaw13.HashPrefixes", spec := "hashPrefixes", apart := false }
def HashPrefixesSaid : Prop := hashPrefixesRow.holds Try.pinned (OpenSpec.ofChange hashPrefixesSpec)

/-- ITS FALSE NEIGHBOUR: 'it returns false'. Refute it at one input. -/
def hashPrefixesWrong : ChangeSpec := { name := "hashPrefixes", fn := fun _ => fun
  | [d] => { results := [.lit (.bool false)], args := [d] }
  | _ => none }
def HashPrefixesWrongFalsely : Prop := hashPrefixesRow.holds Try.pinned (OpenSpec.ofChange hashPrefixesWrong)

/-- 'sconcelaw13.HashNames': WHATEVER THE INPUT: true; the input reads as it did. -/
def hashNamesSpec : ChangeSpec := { name := "hashNames", fn := fun _ => fun
  | [d1, d2] => { results := [.lit (.bool true)], args := [d1, d2] }
  | _ => none }
def hashNamesRow : OpenClaim := { program := "ytmmbbkdbebfhiaa", sum := "d290a991f001c474ae532e6903226436001bc0c3cdf32c15fbdf2fde32e0e8e1", func := "sconce/sconcelaw13.HashNames", spec := "hashNames", apart := false }
def HashNamesSaid : Prop := hashNamesRow.holds Try.pinned (OpenSpec.ofChange hashNamesSpec)

/-- ITS FALSE NEIGHBOUR: 'it returns false'. Refute it at one input. -/
def hashNamesWrong : ChangeSpec := { name := "hashNames", fn := fun _ => fun
  | [d1, d2] => { results := [.lit (.bool false)], args := [d1, d2] }
  | _ => none }
def HashNamesWrongFalsely : Prop := hashNamesRow.holds Try.pinned (OpenSpec.ofChange hashNamesWrong)

/-- 'sconcelaw12.Sha512Sums': WHATEVER THE INPUT: true; the input reads as it did. -/
def sha512SumsSpec : ChangeSpec := { name := "sha512Sums", fn := fun _ => fun
  | [d] => { results := [.lit (.bool true)], args := [d] }
  | _ => none }
def sha512SumsRow : OpenClaim := { program := "ytmmbbkdbebfhiaa", sum := "d290a991f001c474ae532e6903226436001bc0c3cdf32c15fbdf2fde32e0e8e1", func := "sconce/sconcelaw12.Sha512Sums", spec := "sha512Sums", apart := false }
def Sha512SumsSaid : Prop := sha512SumsRow.holds Try.pinned (OpenSpec.ofChange sha512SumsSpec)

/-- ITS FALSE NEIGHBOUR: 'it returns false'. Refute it at one input. -/
def sha512SumsWrong : ChangeSpec := { name := "sha512Sums", fn := fun _ => fun
  | [d] => { results := [.lit (.bool false)], args := [d] }
  | _ => none }
def Sha512SumsWrongFalsely : Prop := sha512SumsRow.holds Try.pinned (OpenSpec.ofChange sha512SumsWrong)

/-- 'sconcelaw12.Sha512Blocks': WHATEVER THE INPUT: true; the input reads as it did. -/
def sha512BlocksSpec : ChangeSpec := { name := "sha512Blocks", fn := fun _ => fun
  | [d1, d2] => { results := [.lit (.bool true)], args := [d1, d2] }
  | _ => none }
def sha512BlocksRow : OpenClaim := { program := "ytmmbbkdbebfhiaa", sum := "d290a991f001c474ae532e6903226436001bc0c3cdf32c15fbdf2fde32e0e8e1", func := "sconce/sconcelaw12.Sha512Blocks", spec := "sha512Blocks", apart := false }
def Sha512BlocksSaid : Prop := sha512BlocksRow.holds Try.pinned (OpenSpec.ofChange sha512BlocksSpec)

/-- ITS FALSE NEIGHBOUR: 'it returns false'. Refute it at one input. -/
def sha512BlocksWrong : ChangeSpec := { name := "sha512Blocks", fn := fun _ => fun
  | [d1, d2] => { results := [.lit (.bool false)], args := [d1, d2] }
  | _ => none }
def Sha512BlocksWrongFalsely : Prop := sha512BlocksRow.holds Try.pinned (OpenSpec.ofChange sha512BlocksWrong)

/-- 'sconcelaw12.Sha512Pads': WHATEVER THE INPUT: true; the input reads as it did. -/
def sha512PadsSpec : ChangeSpec := { name := "sha512Pads", fn := fun _ => fun
  | [d1, d2] => { results := [.lit (.bool true)], args := [d1, d2] }
  | _ => none }
def sha512PadsRow : OpenClaim := { program := "ytmmbbkdbebfhiaa", sum := "d290a991f001c474ae532e6903226436001bc0c3cdf32c15fbdf2fde32e0e8e1", func := "sconce/sconcelaw12.Sha512Pads", spec := "sha512Pads", apart := false }
def Sha512PadsSaid : Prop := sha512PadsRow.holds Try.pinned (OpenSpec.ofChange sha512PadsSpec)

/-- ITS FALSE NEIGHBOUR: 'it returns false'. Refute it at one input. -/
def sha512PadsWrong : ChangeSpec := { name := "sha512Pads", fn := fun _ => fun
  | [d1, d2] => { results := [.lit (.bool false)], args := [d1, d2] }
  | _ => none }
def Sha512PadsWrongFalsely : Prop := sha512PadsRow.holds Try.pinned (OpenSpec.ofChange sha512PadsWrong)

/-- 'sconcelaw12.Sha512Parts': WHATEVER THE INPUT: true; the input reads as it did. -/
def sha512PartsSpec : ChangeSpec := { name := "sha512Parts", fn := fun _ => fun
  | [d1, d2] => { results := [.lit (.bool true)], args := [d1, d2] }
  | _ => none }
def sha512PartsRow : OpenClaim := { program := "ytmmbbkdbebfhiaa", sum := "d290a991f001c474ae532e6903226436001bc0c3cdf32c15fbdf2fde32e0e8e1", func := "sconce/sconcelaw12.Sha512Parts", spec := "sha512Parts", apart := false }
def Sha512PartsSaid : Prop := sha512PartsRow.holds Try.pinned (OpenSpec.ofChange sha512PartsSpec)

/-- ITS FALSE NEIGHBOUR: 'it returns false'. Refute it at one input. -/
def sha512PartsWrong : ChangeSpec := { name := "sha512Parts", fn := fun _ => fun
  | [d1, d2] => { results := [.lit (.bool false)], args := [d1, d2] }
  | _ => none }
def Sha512PartsWrongFalsely : Prop := sha512PartsRow.holds Try.pinned (OpenSpec.ofChange sha512PartsWrong)

/-- 'sconcelaw13.HashSums': WHATEVER THE INPUT: true; the input reads as it did. -/
def hashSumsSpec : ChangeSpec := { name := "hashSums", fn := fun _ => fun
  | [d1, d2] => { results := [.lit (.bool true)], args := [d1, d2] }
  | _ => none }
def hashSumsRow : OpenClaim := { program := "ytmmbbkdbebfhiaa", sum := "d290a991f001c474ae532e6903226436001bc0c3cdf32c15fbdf2fde32e0e8e1", func := "sconce/sconcelaw13.HashSums", spec := "hashSums", unfollowed := true, recurses := true, apart := false }
def HashSumsSaid : Prop := hashSumsRow.holds Try.pinned (OpenSpec.ofChange hashSumsSpec)

/-- ITS FALSE NEIGHBOUR: 'it returns false'. Refute it at one input. -/
def hashSumsWrong : ChangeSpec := { name := "hashSums", fn := fun _ => fun
  | [d1, d2] => { results := [.lit (.bool false)], args := [d1, d2] }
  | _ => none }
def HashSumsWrongFalsely : Prop := hashSumsRow.holds Try.pinned (OpenSpec.ofChange hashSumsWrong)

/-- 'sconcelaw14.MgfMasks': WHATEVER THE INPUT: true; the input reads as it did. -/
def mgfMasksSpec : ChangeSpec := { name := "mgfMasks", fn := fun _ => fun
  | [d1, d2, d3] => { results := [.lit (.bool true)], args := [d1, d2, d3] }
  | _ => none }
def mgfMasksRow : OpenClaim := { program := "ytmmbbkdbebfhiaa", sum := "d290a991f001c474ae532e6903226436001bc0c3cdf32c15fbdf2fde32e0e8e1", func := "sconce/sconcelaw14.MgfMasks", spec := "mgfMasks", unfollowed := true, recurses := true, apart := false }
def MgfMasksSaid : Prop := mgfMasksRow.holds Try.pinned (OpenSpec.ofChange mgfMasksSpec)

/-- ITS FALSE NEIGHBOUR: 'it returns false'. Refute it at one input. -/
def mgfMasksWrong : ChangeSpec := { name := "mgfMasks", fn := fun _ => fun
  | [d1, d2, d3] => { results := [.lit (.bool false)], args := [d1, d2, d3] }
  | _ => none }
def MgfMasksWrongFalsely : Prop := mgfMasksRow.holds Try.pinned (OpenSpec.ofChange mgfMasksWrong)

/-- 'sconcelaw14.MgfBegins': WHATEVER THE INPUT: true; the input reads as it did. -/
def mgfBeginsSpec : ChangeSpec := { name := "mgfBegins", fn := fun _ => fun
  | [d1, d2, d3, d4] => { results := [.lit (.bool true)], args := [d1, d2, d3, d4] }
  | _ => none }
def mgfBeginsRow : OpenClaim := { program := "ytmmbbkdbebfhiaa", sum := "d290a991f001c474ae532e6903226436001bc0c3cdf32c15fbdf2fde32e0e8e1", func := "sconce/sconcelaw14.MgfBegins", spec := "mgfBegins", unfollowed := true, recurses := true, apart := false }
def MgfBeginsSaid : Prop := mgfBeginsRow.holds Try.pinned (OpenSpec.ofChange mgfBeginsSpec)

/-- ITS FALSE NEIGHBOUR: 'it returns false'. Refute it at one input. -/
def mgfBeginsWrong : ChangeSpec := { name := "mgfBegins", fn := fun _ => fun
  | [d1, d2, d3, d4] => { results := [.lit (.bool false)], args := [d1, d2, d3, d4] }
  | _ => none }
def MgfBeginsWrongFalsely : Prop := mgfBeginsRow.holds Try.pinned (OpenSpec.ofChange mgfBeginsWrong)

/-- 'sconcelaw14.MgfXors': WHATEVER THE INPUT: true; the input reads as it did. -/
def mgfXorsSpec : ChangeSpec := { name := "mgfXors", fn := fun _ => fun
  | [d1, d2] => { results := [.lit (.bool true)], args := [d1, d2] }
  | _ => none }
def mgfXorsRow : OpenClaim := { program := "ytmmbbkdbebfhiaa", sum := "d290a991f001c474ae532e6903226436001bc0c3cdf32c15fbdf2fde32e0e8e1", func := "sconce/sconcelaw14.MgfXors", spec := "mgfXors", unfollowed := true, recurses := true, apart := false }
def MgfXorsSaid : Prop := mgfXorsRow.holds Try.pinned (OpenSpec.ofChange mgfXorsSpec)

/-- ITS FALSE NEIGHBOUR: 'it returns false'. Refute it at one input. -/
def mgfXorsWrong : ChangeSpec := { name := "mgfXors", fn := fun _ => fun
  | [d1, d2] => { results := [.lit (.bool false)], args := [d1, d2] }
  | _ => none }
def MgfXorsWrongFalsely : Prop := mgfXorsRow.holds Try.pinned (OpenSpec.ofChange mgfXorsWrong)

/-- 'sconcelaw25.SignEncodes': WHATEVER THE INPUT: true; the input reads as it did. -/
def signEncodesSpec : ChangeSpec := { name := "signEncodes", fn := fun _ => fun
  | [d1, d2, d3] => { results := [.lit (.bool true)], args := [d1, d2, d3] }
  | _ => none }
def signEncodesRow : OpenClaim := { program := "ytmmbbkdbebfhiaa", sum := "d290a991f001c474ae532e6903226436001bc0c3cdf32c15fbdf2fde32e0e8e1", func := "sconce/sconcelaw25.SignEncodes", spec := "signEncodes", inPlace := ["internal/bytealg.MakeNoZero"], unfollowed := true, recurses := true, apart := false }
def SignEncodesSaid : Prop := signEncodesRow.holds Try.pinned (OpenSpec.ofChange signEncodesSpec)

/-- ITS FALSE NEIGHBOUR: 'it returns false'. Refute it at one input. -/
def signEncodesWrong : ChangeSpec := { name := "signEncodes", fn := fun _ => fun
  | [d1, d2, d3] => { results := [.lit (.bool false)], args := [d1, d2, d3] }
  | _ => none }
def SignEncodesWrongFalsely : Prop := signEncodesRow.holds Try.pinned (OpenSpec.ofChange signEncodesWrong)

/-- 'sconcelaw25.SignOnly': WHATEVER THE INPUT: true; the input reads as it did. -/
def signOnlySpec : ChangeSpec := { name := "signOnly", fn := fun _ => fun
  | [d1, d2, d3, d4, d5] => { results := [.lit (.bool true)], args := [d1, d2, d3, d4, d5] }
  | _ => none }
def signOnlyRow : OpenClaim := { program := "ytmmbbkdbebfhiaa", sum := "d290a991f001c474ae532e6903226436001bc0c3cdf32c15fbdf2fde32e0e8e1", func := "sconce/sconcelaw25.SignOnly", spec := "signOnly", inPlace := ["internal/bytealg.MakeNoZero"], unfollowed := true, recurses := true, apart := false }
def SignOnlySaid : Prop := signOnlyRow.holds Try.pinned (OpenSpec.ofChange signOnlySpec)

/-- ITS FALSE NEIGHBOUR: 'it returns false'. Refute it at one input. -/
def signOnlyWrong : ChangeSpec := { name := "signOnly", fn := fun _ => fun
  | [d1, d2, d3, d4, d5] => { results := [.lit (.bool false)], args := [d1, d2, d3, d4, d5] }
  | _ => none }
def SignOnlyWrongFalsely : Prop := signOnlyRow.holds Try.pinned (OpenSpec.ofChange signOnlyWrong)

/- THE SECOND FORM. 'bulk': how many values and letters a reading holds, each counted each time it is reached (what is shared counts as often as it is met; a slice's spare places count too). A statement '..UptoSaid' is the law's where the arguments, and the package variables that the reading takes, are together of bulk at most 1048576: NARROWER than '..Said'. Prove '..Said' where nothing that the law and all that it calls make is longer than what came in: it says more and counts as full. Else prove '..UptoSaid'. A law counts once. -/
mutual
def uptoBulk {H : Type} : DataW H → Nat
  | .lit (.string bytes) => bytes.length + 1
  | .lit _ => 1
  | .nil => 1
  | .ptr d => uptoBulk d + 1
  | .slice elems spare => uptoBulkAll elems + uptoBulkAll spare + 1
  | .agg parts => uptoBulkAll parts + 1
  | .iface _ d => uptoBulk d + 1
  | .map entries => uptoBulkEntries entries + 1
  | .held _ => 1
def uptoBulkAll {H : Type} : List (DataW H) → Nat
  | [] => 0
  | d :: r => uptoBulk d + uptoBulkAll r
def uptoBulkEntries {H : Type} : List (Lit × DataW H) → Nat
  | [] => 0
  | x :: r => uptoBulkEntry x + uptoBulkEntries r
def uptoBulkEntry {H : Type} : Lit × DataW H → Nat
  | (.string bytes, d) => bytes.length + uptoBulk d + 1
  | (_, d) => uptoBulk d + 1
 end
def uptoSmall : (H : Type) → List (DataW H) → Bool := fun _ ds => decide (uptoBulkAll ds ≤ 1048576)
def OpenSpec.upto (s : _root_.Go.ChangeSpec) : _root_.Go.OpenSpec := { _root_.Go.OpenSpec.ofChange s with cond := some uptoSmall }

/-- 'sconcelaw13.HashPrefixes', WHERE WHAT IT READS IS OF BULK AT MOST 1048576: true; the input reads as it did. -/
def hashPrefixesUptoRow : OpenClaim := { program := "ytmmbbkdbebfhiaa", sum := "d290a991f001c474ae532e6903226436001bc0c3cdf32c15fbdf2fde32e0e8e1", func := "sconce/sconcelaw13.HashPrefixes", spec := "hashPrefixes", apart := false, narrowed := true }
def HashPrefixesUptoSaid : Prop := hashPrefixesUptoRow.holds Try.pinned (OpenSpec.upto hashPrefixesSpec)

/-- 'sconcelaw13.HashNames', WHERE WHAT IT READS IS OF BULK AT MOST 1048576: true; the input reads as it did. -/
def hashNamesUptoRow : OpenClaim := { program := "ytmmbbkdbebfhiaa", sum := "d290a991f001c474ae532e6903226436001bc0c3cdf32c15fbdf2fde32e0e8e1", func := "sconce/sconcelaw13.HashNames", spec := "hashNames", apart := false, narrowed := true }
def HashNamesUptoSaid : Prop := hashNamesUptoRow.holds Try.pinned (OpenSpec.upto hashNamesSpec)

/-- 'sconcelaw12.Sha512Sums', WHERE WHAT IT READS IS OF BULK AT MOST 1048576: true; the input reads as it did. -/
def sha512SumsUptoRow : OpenClaim := { program := "ytmmbbkdbebfhiaa", sum := "d290a991f001c474ae532e6903226436001bc0c3cdf32c15fbdf2fde32e0e8e1", func := "sconce/sconcelaw12.Sha512Sums", spec := "sha512Sums", apart := false, narrowed := true }
def Sha512SumsUptoSaid : Prop := sha512SumsUptoRow.holds Try.pinned (OpenSpec.upto sha512SumsSpec)

/-- 'sconcelaw12.Sha512Blocks', WHERE WHAT IT READS IS OF BULK AT MOST 1048576: true; the input reads as it did. -/
def sha512BlocksUptoRow : OpenClaim := { program := "ytmmbbkdbebfhiaa", sum := "d290a991f001c474ae532e6903226436001bc0c3cdf32c15fbdf2fde32e0e8e1", func := "sconce/sconcelaw12.Sha512Blocks", spec := "sha512Blocks", apart := false, narrowed := true }
def Sha512BlocksUptoSaid : Prop := sha512BlocksUptoRow.holds Try.pinned (OpenSpec.upto sha512BlocksSpec)

/-- 'sconcelaw12.Sha512Pads', WHERE WHAT IT READS IS OF BULK AT MOST 1048576: true; the input reads as it did. -/
def sha512PadsUptoRow : OpenClaim := { program := "ytmmbbkdbebfhiaa", sum := "d290a991f001c474ae532e6903226436001bc0c3cdf32c15fbdf2fde32e0e8e1", func := "sconce/sconcelaw12.Sha512Pads", spec := "sha512Pads", apart := false, narrowed := true }
def Sha512PadsUptoSaid : Prop := sha512PadsUptoRow.holds Try.pinned (OpenSpec.upto sha512PadsSpec)

/-- 'sconcelaw12.Sha512Parts', WHERE WHAT IT READS IS OF BULK AT MOST 1048576: true; the input reads as it did. -/
def sha512PartsUptoRow : OpenClaim := { program := "ytmmbbkdbebfhiaa", sum := "d290a991f001c474ae532e6903226436001bc0c3cdf32c15fbdf2fde32e0e8e1", func := "sconce/sconcelaw12.Sha512Parts", spec := "sha512Parts", apart := false, narrowed := true }
def Sha512PartsUptoSaid : Prop := sha512PartsUptoRow.holds Try.pinned (OpenSpec.upto sha512PartsSpec)

/-- 'sconcelaw13.HashSums', WHERE WHAT IT READS IS OF BULK AT MOST 1048576: true; the input reads as it did. -/
def hashSumsUptoRow : OpenClaim := { program := "ytmmbbkdbebfhiaa", sum := "d290a991f001c474ae532e6903226436001bc0c3cdf32c15fbdf2fde32e0e8e1", func := "sconce/sconcelaw13.HashSums", spec := "hashSums", unfollowed := true, recurses := true, apart := false, narrowed := true }
def HashSumsUptoSaid : Prop := hashSumsUptoRow.holds Try.pinned (OpenSpec.upto hashSumsSpec)

/-- 'sconcelaw14.MgfMasks', WHERE WHAT IT READS IS OF BULK AT MOST 1048576: true; the input reads as it did. -/
def mgfMasksUptoRow : OpenClaim := { program := "ytmmbbkdbebfhiaa", sum := "d290a991f001c474ae532e6903226436001bc0c3cdf32c15fbdf2fde32e0e8e1", func := "sconce/sconcelaw14.MgfMasks", spec := "mgfMasks", unfollowed := true, recurses := true, apart := false, narrowed := true }
def MgfMasksUptoSaid : Prop := mgfMasksUptoRow.holds Try.pinned (OpenSpec.upto mgfMasksSpec)

/-- 'sconcelaw14.MgfBegins', WHERE WHAT IT READS IS OF BULK AT MOST 1048576: true; the input reads as it did. -/
def mgfBeginsUptoRow : OpenClaim := { program := "ytmmbbkdbebfhiaa", sum := "d290a991f001c474ae532e6903226436001bc0c3cdf32c15fbdf2fde32e0e8e1", func := "sconce/sconcelaw14.MgfBegins", spec := "mgfBegins", unfollowed := true, recurses := true, apart := false, narrowed := true }
def MgfBeginsUptoSaid : Prop := mgfBeginsUptoRow.holds Try.pinned (OpenSpec.upto mgfBeginsSpec)

/-- 'sconcelaw14.MgfXors', WHERE WHAT IT READS IS OF BULK AT MOST 1048576: true; the input reads as it did. -/
def mgfXorsUptoRow : OpenClaim := { program := "ytmmbbkdbebfhiaa", sum := "d290a991f001c474ae532e6903226436001bc0c3cdf32c15fbdf2fde32e0e8e1", func := "sconce/sconcelaw14.MgfXors", spec := "mgfXors", unfollowed := true, recurses := true, apart := false, narrowed := true }
def MgfXorsUptoSaid : Prop := mgfXorsUptoRow.holds Try.pinned (OpenSpec.upto mgfXorsSpec)

/-- 'sconcelaw25.SignEncodes', WHERE WHAT IT READS IS OF BULK AT MOST 1048576: true; the input reads as it did. -/
def signEncodesUptoRow : OpenClaim := { program := "ytmmbbkdbebfhiaa", sum := "d290a991f001c474ae532e6903226436001bc0c3cdf32c15fbdf2fde32e0e8e1", func := "sconce/sconcelaw25.SignEncodes", spec := "signEncodes", inPlace := ["internal/bytealg.MakeNoZero"], unfollowed := true, recurses := true, apart := false, narrowed := true }
def SignEncodesUptoSaid : Prop := signEncodesUptoRow.holds Try.pinned (OpenSpec.upto signEncodesSpec)

/-- 'sconcelaw25.SignOnly', WHERE WHAT IT READS IS OF BULK AT MOST 1048576: true; the input reads as it did. -/
def signOnlyUptoRow : OpenClaim := { program := "ytmmbbkdbebfhiaa", sum := "d290a991f001c474ae532e6903226436001bc0c3cdf32c15fbdf2fde32e0e8e1", func := "sconce/sconcelaw25.SignOnly", spec := "signOnly", inPlace := ["internal/bytealg.MakeNoZero"], unfollowed := true, recurses := true, apart := false, narrowed := true }
def SignOnlyUptoSaid : Prop := signOnlyUptoRow.holds Try.pinned (OpenSpec.upto signOnlySpec)

end Rows
end Go.Proofs.Ytmmbbkdbebfhiaa
