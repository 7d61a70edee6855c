/- The functions that the law Sha512Blocks reaches, each with its contract over this translation: written by a program of this work over the kit's print. -/
import Derived.Test.YtmmbbkdbebfhiaaPSha512Blocksx0
namespace Go.Proofs.Ytmmbbkdbebfhiaa.PSha512Blocks
open Go.RowKit Go.Proofs.Ytmmbbkdbebfhiaa.H Go.Proofs.YtmmbbkdbebfhiaaW.PrintWords Go.Proofs.YtmmbbkdbebfhiaaW.PrintLast Go.Proofs.YtmmbbkdbebfhiaaW.PrintMore
attribute [local go_sem] max2_int min2_int max_two min_two max_three min_three max_four min_four   -- for this text's walks alone
set_option linter.unusedVariables false
set_option linter.unusedSimpArgs false

-- sconcelaw12_Sha512Blocks: by hand, in HBlocks12

/-- THE ONE PURE STATEMENT of sconcelaw12_Sha512Blocks. -/
def sconcelaw12_Sha512Blocks.Pure : Prop := ∀ (a0 : List Int) (l1 : List Int), (a0.length = 8 ∧ ∀ x ∈ a0, (Lit.int .u64 x).wf = true) → l1.length ≤ maxLen → l1.length * 1 ≤ 140737488351232 → (∀ x ∈ l1, (Lit.int .u8 x).wf = true) → sconcelaw12_Sha512Blocks.f a0 l1 = some true
theorem sconcelaw12_Sha512Blocks.walk (P : sconcelaw12_Sha512Blocks.Pure) (a0 : List Int) (a1 : Option Addr) (len1 cap1 : Nat) (z1 : List Int) (w : World) (w0 : a0.length = 8 ∧ ∀ x ∈ a0, (Lit.int .u64 x).wf = true) (w1 : (a1 = none ∧ len1 = 0 ∧ cap1 = 0 ∧ z1 = []) ∨ ∃ x, a1 = some x ∧ len1 ≤ cap1 ∧ cap1 ≤ maxLen ∧ z1.length = cap1 ∧ (∀ i, i < z1.length → w.cell? (x.add i) = some (.int .u8 (z1.getD i 0))) ∧ ∀ n ∈ z1, (Lit.int .u8 n).wf = true) (y1 : len1 * 1 ≤ 140737488351232) :
    Calls Try.prog 6 #[.agg (nums .u64 a0).toArray, .slice a1 len1 cap1] w fun e w' => e = .returned (.bool true) ∧ Below w.heap.size w w' := by
  obtain ⟨l1, rfl, hr1, hm1, hw1, hc1⟩ := ReadsInt.ofRowC w1
  have h := P a0 l1 w0 hm1 y1 hw1
  refine (sconcelaw12_Sha512Blocks.calls a0 _ _ l1 true w (Kd.C_of_reads (d := (0 : Int)) (h1 := fun _ => rfl) hr1) hc1 h).mono ?_
  rintro e w' ⟨rfl, hd⟩
  exact ⟨rfl, hd⟩

end Go.Proofs.Ytmmbbkdbebfhiaa.PSha512Blocks
