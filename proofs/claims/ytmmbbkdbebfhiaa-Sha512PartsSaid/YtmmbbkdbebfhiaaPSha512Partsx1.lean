/- The functions that the law Sha512Parts reaches, each with its contract over this translation: written by a program of this work over the kit's print. -/
import Derived.Test.YtmmbbkdbebfhiaaPSha512Partsx0
namespace Go.Proofs.Ytmmbbkdbebfhiaa.PSha512Parts
open Go.RowKit Go.Proofs.Ytmmbbkdbebfhiaa.H Go.Proofs.YtmmbbkdbebfhiaaW.PrintWords Go.Proofs.YtmmbbkdbebfhiaaW.PrintLast Go.Proofs.YtmmbbkdbebfhiaaW.PrintMore
attribute [local go_sem] max2_int min2_int max_two min_two max_three min_three max_four min_four   -- for this text's walks alone
set_option linter.unusedVariables false
set_option linter.unusedSimpArgs false

-- sconcelaw12_Sha512Parts: by hand, in HParts12

/-- THE ONE PURE STATEMENT of sconcelaw12_Sha512Parts. -/
def sconcelaw12_Sha512Parts.Pure : Prop := ∀ (l0 : List Int) (a1 : Bool), l0.length ≤ maxLen → l0.length * 1 ≤ 140737488351232 → (∀ x ∈ l0, (Lit.int .u8 x).wf = true) → sconcelaw12_Sha512Parts.f l0 a1 = some true
theorem sconcelaw12_Sha512Parts.walk (P : sconcelaw12_Sha512Parts.Pure) (a0 : Option Addr) (len0 cap0 : Nat) (z0 : List Int) (a1 : Bool) (w : World) (w0 : (a0 = none ∧ len0 = 0 ∧ cap0 = 0 ∧ z0 = []) ∨ ∃ x, a0 = some x ∧ len0 ≤ cap0 ∧ cap0 ≤ maxLen ∧ z0.length = cap0 ∧ (∀ i, i < z0.length → w.cell? (x.add i) = some (.int .u8 (z0.getD i 0))) ∧ ∀ n ∈ z0, (Lit.int .u8 n).wf = true) (y0 : len0 * 1 ≤ 140737488351232) :
    Calls Try.prog 8 #[.slice a0 len0 cap0, .bool a1] w fun e w' => e = .returned (.bool true) ∧ Below w.heap.size w w' := by
  obtain ⟨l0, rfl, hr0, hm0, hw0, hc0⟩ := ReadsInt.ofRowC w0
  have h := P l0 a1 hm0 y0 hw0
  refine (sconcelaw12_Sha512Parts.calls _ _ l0 a1 true w (Kd.C_of_reads (d := (0 : Int)) (h1 := fun _ => rfl) hr0) hc0 h).mono ?_
  rintro e w' ⟨rfl, hd⟩
  exact ⟨rfl, hd⟩

end Go.Proofs.Ytmmbbkdbebfhiaa.PSha512Parts
