/-
  No cell of these rows narrows 'for every input' (looked for: loops, veiled, ifaces, maps, wideKeys, modest, calm, conditions, laid).
  DERIVED. THE GIVEN ROWS OF THIS SEAT. 8 by the template 'for every input the law returns true; each argument reads behind the call as it read before'; 0 by the template 'total and deterministic' (their statements: YtincnnmojgphmaaTotals.lean).
  GIVEN WITH THE SEED: the statements are not yours to turn. If you find one false, say at which input.
  Laid BY PROGRAM, IN A SANDBOX (cutbox-rows.mjs): the forced cells as the released guide's own fill.sh prints them over the translation 45a079deaefa3eae… (all of the seat's roots in one cut). By AI agents, Wed Nov 11 2026. No macro, syntax, notation, axiom, sorry.
-/
import Derived.Test.YtincnnmojgphmaaChecked
import GoSem.Claim
import GoSem.ClaimJoined
import GoSem.ClaimMapViews
import Derived.JoinedTies
import Derived.KernelRfl
namespace Go.Proofs.Ytincnnmojgphmaa
/- THE CELL 'sum', in the pinned program and in every row, IS THE sha256 OF THE DUMP (.gsa) THAT YtincnnmojgphmaaProg.lean LOADS. Nothing in Lean hashes anything: it is a label: what it is worth is what the hold of that sum in a sandbox is worth. -/
noncomputable def Try.pinned : Pinned := { name := "ytincnnmojgphmaa", sum := "45a079deaefa3eaeed790b66e28d19a508bafa2fb7c9ea179ab6d3ac122672ff", checked := Try.checked }
namespace Rows
def none {H : Type} : Left H := { results := [], args := [] }

/-- 'sconcelaw26.PssEncodes': WHATEVER THE INPUT: true; the input reads as it did. -/
def pssEncodesSpec : ChangeSpec := { name := "pssEncodes", fn := fun _ => fun
  | [d1, d2, d3, d4] => { results := [.lit (.bool true)], args := [d1, d2, d3, d4] }
  | _ => none }
def pssEncodesRow : OpenClaim := { program := "ytincnnmojgphmaa", sum := "45a079deaefa3eaeed790b66e28d19a508bafa2fb7c9ea179ab6d3ac122672ff", func := "sconce/sconcelaw26.PssEncodes", spec := "pssEncodes", unfollowed := true, recurses := true, apart := false }
def PssEncodesSaid : Prop := pssEncodesRow.holds Try.pinned (OpenSpec.ofChange pssEncodesSpec)

/-- ITS FALSE NEIGHBOUR: 'it returns false'. Refute it at one input. -/
def pssEncodesWrong : ChangeSpec := { name := "pssEncodes", fn := fun _ => fun
  | [d1, d2, d3, d4] => { results := [.lit (.bool false)], args := [d1, d2, d3, d4] }
  | _ => none }
def PssEncodesWrongFalsely : Prop := pssEncodesRow.holds Try.pinned (OpenSpec.ofChange pssEncodesWrong)

/-- 'sconcelaw26.PssVerifies': WHATEVER THE INPUT: true; the input reads as it did. -/
def pssVerifiesSpec : ChangeSpec := { name := "pssVerifies", fn := fun _ => fun
  | [d1, d2, d3, d4, d5] => { results := [.lit (.bool true)], args := [d1, d2, d3, d4, d5] }
  | _ => none }
def pssVerifiesRow : OpenClaim := { program := "ytincnnmojgphmaa", sum := "45a079deaefa3eaeed790b66e28d19a508bafa2fb7c9ea179ab6d3ac122672ff", func := "sconce/sconcelaw26.PssVerifies", spec := "pssVerifies", unfollowed := true, recurses := true, apart := false }
def PssVerifiesSaid : Prop := pssVerifiesRow.holds Try.pinned (OpenSpec.ofChange pssVerifiesSpec)

/-- ITS FALSE NEIGHBOUR: 'it returns false'. Refute it at one input. -/
def pssVerifiesWrong : ChangeSpec := { name := "pssVerifies", fn := fun _ => fun
  | [d1, d2, d3, d4, d5] => { results := [.lit (.bool false)], args := [d1, d2, d3, d4, d5] }
  | _ => none }
def PssVerifiesWrongFalsely : Prop := pssVerifiesRow.holds Try.pinned (OpenSpec.ofChange pssVerifiesWrong)

/-- 'sconcelaw26.PssOwn': WHATEVER THE INPUT: true; the input reads as it did. -/
def pssOwnSpec : ChangeSpec := { name := "pssOwn", fn := fun _ => fun
  | [d1, d2, d3, d4, d5] => { results := [.lit (.bool true)], args := [d1, d2, d3, d4, d5] }
  | _ => none }
def pssOwnRow : OpenClaim := { program := "ytincnnmojgphmaa", sum := "45a079deaefa3eaeed790b66e28d19a508bafa2fb7c9ea179ab6d3ac122672ff", func := "sconce/sconcelaw26.PssOwn", spec := "pssOwn", unfollowed := true, recurses := true, apart := false }
def PssOwnSaid : Prop := pssOwnRow.holds Try.pinned (OpenSpec.ofChange pssOwnSpec)

/-- ITS FALSE NEIGHBOUR: 'it returns false'. Refute it at one input. -/
def pssOwnWrong : ChangeSpec := { name := "pssOwn", fn := fun _ => fun
  | [d1, d2, d3, d4, d5] => { results := [.lit (.bool false)], args := [d1, d2, d3, d4, d5] }
  | _ => none }
def PssOwnWrongFalsely : Prop := pssOwnRow.holds Try.pinned (OpenSpec.ofChange pssOwnWrong)

/-- 'sconcelaw26.PssShape': WHATEVER THE INPUT: true; the input reads as it did. -/
def pssShapeSpec : ChangeSpec := { name := "pssShape", fn := fun _ => fun
  | [d1, d2, d3, d4] => { results := [.lit (.bool true)], args := [d1, d2, d3, d4] }
  | _ => none }
def pssShapeRow : OpenClaim := { program := "ytincnnmojgphmaa", sum := "45a079deaefa3eaeed790b66e28d19a508bafa2fb7c9ea179ab6d3ac122672ff", func := "sconce/sconcelaw26.PssShape", spec := "pssShape", unfollowed := true, recurses := true, apart := false }
def PssShapeSaid : Prop := pssShapeRow.holds Try.pinned (OpenSpec.ofChange pssShapeSpec)

/-- ITS FALSE NEIGHBOUR: 'it returns false'. Refute it at one input. -/
def pssShapeWrong : ChangeSpec := { name := "pssShape", fn := fun _ => fun
  | [d1, d2, d3, d4] => { results := [.lit (.bool false)], args := [d1, d2, d3, d4] }
  | _ => none }
def PssShapeWrongFalsely : Prop := pssShapeRow.holds Try.pinned (OpenSpec.ofChange pssShapeWrong)

/-- 'sconcelaw24.OaepDecodes': WHATEVER THE INPUT: true; the input reads as it did. -/
def oaepDecodesSpec : ChangeSpec := { name := "oaepDecodes", fn := fun _ => fun
  | [d1, d2, d3] => { results := [.lit (.bool true)], args := [d1, d2, d3] }
  | _ => none }
def oaepDecodesRow : OpenClaim := { program := "ytincnnmojgphmaa", sum := "45a079deaefa3eaeed790b66e28d19a508bafa2fb7c9ea179ab6d3ac122672ff", func := "sconce/sconcelaw24.OaepDecodes", spec := "oaepDecodes", unfollowed := true, recurses := true, apart := false }
def OaepDecodesSaid : Prop := oaepDecodesRow.holds Try.pinned (OpenSpec.ofChange oaepDecodesSpec)

/-- ITS FALSE NEIGHBOUR: 'it returns false'. Refute it at one input. -/
def oaepDecodesWrong : ChangeSpec := { name := "oaepDecodes", fn := fun _ => fun
  | [d1, d2, d3] => { results := [.lit (.bool false)], args := [d1, d2, d3] }
  | _ => none }
def OaepDecodesWrongFalsely : Prop := oaepDecodesRow.holds Try.pinned (OpenSpec.ofChange oaepDecodesWrong)

/-- 'sconcelaw24.OaepRooms': WHATEVER THE INPUT: true; the input reads as it did. -/
def oaepRoomsSpec : ChangeSpec := { name := "oaepRooms", fn := fun _ => fun
  | [d1, d2] => { results := [.lit (.bool true)], args := [d1, d2] }
  | _ => none }
def oaepRoomsRow : OpenClaim := { program := "ytincnnmojgphmaa", sum := "45a079deaefa3eaeed790b66e28d19a508bafa2fb7c9ea179ab6d3ac122672ff", func := "sconce/sconcelaw24.OaepRooms", spec := "oaepRooms", unfollowed := true, recurses := true, apart := false }
def OaepRoomsSaid : Prop := oaepRoomsRow.holds Try.pinned (OpenSpec.ofChange oaepRoomsSpec)

/-- ITS FALSE NEIGHBOUR: 'it returns false'. Refute it at one input. -/
def oaepRoomsWrong : ChangeSpec := { name := "oaepRooms", fn := fun _ => fun
  | [d1, d2] => { results := [.lit (.bool false)], args := [d1, d2] }
  | _ => none }
def OaepRoomsWrongFalsely : Prop := oaepRoomsRow.holds Try.pinned (OpenSpec.ofChange oaepRoomsWrong)

/-- 'sconcelaw24.OaepBack': WHATEVER THE INPUT: true; the input reads as it did. -/
def oaepBackSpec : ChangeSpec := { name := "oaepBack", fn := fun _ => fun
  | [d1, d2, d3, d4, d5, d6] => { results := [.lit (.bool true)], args := [d1, d2, d3, d4, d5, d6] }
  | _ => none }
def oaepBackRow : OpenClaim := { program := "ytincnnmojgphmaa", sum := "45a079deaefa3eaeed790b66e28d19a508bafa2fb7c9ea179ab6d3ac122672ff", func := "sconce/sconcelaw24.OaepBack", spec := "oaepBack", unfollowed := true, recurses := true, apart := false }
def OaepBackSaid : Prop := oaepBackRow.holds Try.pinned (OpenSpec.ofChange oaepBackSpec)

/-- ITS FALSE NEIGHBOUR: 'it returns false'. Refute it at one input. -/
def oaepBackWrong : ChangeSpec := { name := "oaepBack", fn := fun _ => fun
  | [d1, d2, d3, d4, d5, d6] => { results := [.lit (.bool false)], args := [d1, d2, d3, d4, d5, d6] }
  | _ => none }
def OaepBackWrongFalsely : Prop := oaepBackRow.holds Try.pinned (OpenSpec.ofChange oaepBackWrong)

/-- 'sconcelaw24.OaepSeen': WHATEVER THE INPUT: true; the input reads as it did. -/
def oaepSeenSpec : ChangeSpec := { name := "oaepSeen", fn := fun _ => fun
  | [d1, d2, d3, d4, d5] => { results := [.lit (.bool true)], args := [d1, d2, d3, d4, d5] }
  | _ => none }
def oaepSeenRow : OpenClaim := { program := "ytincnnmojgphmaa", sum := "45a079deaefa3eaeed790b66e28d19a508bafa2fb7c9ea179ab6d3ac122672ff", func := "sconce/sconcelaw24.OaepSeen", spec := "oaepSeen", unfollowed := true, recurses := true, apart := false }
def OaepSeenSaid : Prop := oaepSeenRow.holds Try.pinned (OpenSpec.ofChange oaepSeenSpec)

/-- ITS FALSE NEIGHBOUR: 'it returns false'. Refute it at one input. -/
def oaepSeenWrong : ChangeSpec := { name := "oaepSeen", fn := fun _ => fun
  | [d1, d2, d3, d4, d5] => { results := [.lit (.bool false)], args := [d1, d2, d3, d4, d5] }
  | _ => none }
def OaepSeenWrongFalsely : Prop := oaepSeenRow.holds Try.pinned (OpenSpec.ofChange oaepSeenWrong)

/- THE SECOND FORM. 'bulk': how many values and letters a reading holds, each counted each time it is reached (what is shared counts as often as it is met; a slice's spare places count too). A statement '..UptoSaid' is the law's where the arguments, and the package variables that the reading takes, are together of bulk at most 1048576: NARROWER than '..Said'. Prove '..Said' where nothing that the law and all that it calls make is longer than what came in: it says more and counts as full. Else prove '..UptoSaid'. A law counts once. -/
mutual
def uptoBulk {H : Type} : DataW H → Nat
  | .lit (.string bytes) => bytes.length + 1
  | .lit _ => 1
  | .nil => 1
  | .ptr d => uptoBulk d + 1
  | .slice elems spare => uptoBulkAll elems + uptoBulkAll spare + 1
  | .agg parts => uptoBulkAll parts + 1
  | .iface _ d => uptoBulk d + 1
  | .map entries => uptoBulkEntries entries + 1
  | .held _ => 1
def uptoBulkAll {H : Type} : List (DataW H) → Nat
  | [] => 0
  | d :: r => uptoBulk d + uptoBulkAll r
def uptoBulkEntries {H : Type} : List (Lit × DataW H) → Nat
  | [] => 0
  | x :: r => uptoBulkEntry x + uptoBulkEntries r
def uptoBulkEntry {H : Type} : Lit × DataW H → Nat
  | (.string bytes, d) => bytes.length + uptoBulk d + 1
  | (_, d) => uptoBulk d + 1
 end
def uptoSmall : (H : Type) → List (DataW H) → Bool := fun _ ds => decide (uptoBulkAll ds ≤ 1048576)
def OpenSpec.upto (s : _root_.Go.ChangeSpec) : _root_.Go.OpenSpec := { _root_.Go.OpenSpec.ofChange s with cond := some uptoSmall }

/-- 'sconcelaw26.PssEncodes', WHERE WHAT IT READS IS OF BULK AT MOST 1048576: true; the input reads as it did. -/
def pssEncodesUptoRow : OpenClaim := { program := "ytincnnmojgphmaa", sum := "45a079deaefa3eaeed790b66e28d19a508bafa2fb7c9ea179ab6d3ac122672ff", func := "sconce/sconcelaw26.PssEncodes", spec := "pssEncodes", unfollowed := true, recurses := true, apart := false, narrowed := true }
def PssEncodesUptoSaid : Prop := pssEncodesUptoRow.holds Try.pinned (OpenSpec.upto pssEncodesSpec)

/-- 'sconcelaw26.PssVerifies', WHERE WHAT IT READS IS OF BULK AT MOST 1048576: true; the input reads as it did. -/
def pssVerifiesUptoRow : OpenClaim := { program := "ytincnnmojgphmaa", sum := "45a079deaefa3eaeed790b66e28d19a508bafa2fb7c9ea179ab6d3ac122672ff", func := "sconce/sconcelaw26.PssVerifies", spec := "pssVerifies", unfollowed := true, recurses := true, apart := false, narrowed := true }
def PssVerifiesUptoSaid : Prop := pssVerifiesUptoRow.holds Try.pinned (OpenSpec.upto pssVerifiesSpec)

/-- 'sconcelaw26.PssOwn', WHERE WHAT IT READS IS OF BULK AT MOST 1048576: true; the input reads as it did. -/
def pssOwnUptoRow : OpenClaim := { program := "ytincnnmojgphmaa", sum := "45a079deaefa3eaeed790b66e28d19a508bafa2fb7c9ea179ab6d3ac122672ff", func := "sconce/sconcelaw26.PssOwn", spec := "pssOwn", unfollowed := true, recurses := true, apart := false, narrowed := true }
def PssOwnUptoSaid : Prop := pssOwnUptoRow.holds Try.pinned (OpenSpec.upto pssOwnSpec)

/-- 'sconcelaw26.PssShape', WHERE WHAT IT READS IS OF BULK AT MOST 1048576: true; the input reads as it did. -/
def pssShapeUptoRow : OpenClaim := { program := "ytincnnmojgphmaa", sum := "45a079deaefa3eaeed790b66e28d19a508bafa2fb7c9ea179ab6d3ac122672ff", func := "sconce/sconcelaw26.PssShape", spec := "pssShape", unfollowed := true, recurses := true, apart := false, narrowed := true }
def PssShapeUptoSaid : Prop := pssShapeUptoRow.holds Try.pinned (OpenSpec.upto pssShapeSpec)

/-- 'sconcelaw24.OaepDecodes', WHERE WHAT IT READS IS OF BULK AT MOST 1048576: true; the input reads as it did. -/
def oaepDecodesUptoRow : OpenClaim := { program := "ytincnnmojgphmaa", sum := "45a079deaefa3eaeed790b66e28d19a508bafa2fb7c9ea179ab6d3ac122672ff", func := "sconce/sconcelaw24.OaepDecodes", spec := "oaepDecodes", unfollowed := true, recurses := true, apart := false, narrowed := true }
def OaepDecodesUptoSaid : Prop := oaepDecodesUptoRow.holds Try.pinned (OpenSpec.upto oaepDecodesSpec)

/-- 'sconcelaw24.OaepRooms', WHERE WHAT IT READS IS OF BULK AT MOST 1048576: true; the input reads as it did. -/
def oaepRoomsUptoRow : OpenClaim := { program := "ytincnnmojgphmaa", sum := "45a079deaefa3eaeed790b66e28d19a508bafa2fb7c9ea179ab6d3ac122672ff", func := "sconce/sconcelaw24.OaepRooms", spec := "oaepRooms", unfollowed := true, recurses := true, apart := false, narrowed := true }
def OaepRoomsUptoSaid : Prop := oaepRoomsUptoRow.holds Try.pinned (OpenSpec.upto oaepRoomsSpec)

/-- 'sconcelaw24.OaepBack', WHERE WHAT IT READS IS OF BULK AT MOST 1048576: true; the input reads as it did. -/
def oaepBackUptoRow : OpenClaim := { program := "ytincnnmojgphmaa", sum := "45a079deaefa3eaeed790b66e28d19a508bafa2fb7c9ea179ab6d3ac122672ff", func := "sconce/sconcelaw24.OaepBack", spec := "oaepBack", unfollowed := true, recurses := true, apart := false, narrowed := true }
def OaepBackUptoSaid : Prop := oaepBackUptoRow.holds Try.pinned (OpenSpec.upto oaepBackSpec)

/-- 'sconcelaw24.OaepSeen', WHERE WHAT IT READS IS OF BULK AT MOST 1048576: true; the input reads as it did. -/
def oaepSeenUptoRow : OpenClaim := { program := "ytincnnmojgphmaa", sum := "45a079deaefa3eaeed790b66e28d19a508bafa2fb7c9ea179ab6d3ac122672ff", func := "sconce/sconcelaw24.OaepSeen", spec := "oaepSeen", unfollowed := true, recurses := true, apart := false, narrowed := true }
def OaepSeenUptoSaid : Prop := oaepSeenUptoRow.holds Try.pinned (OpenSpec.upto oaepSeenSpec)

end Rows
end Go.Proofs.Ytincnnmojgphmaa
