/- The law Sha512Sums over the printed functions: both hashes of any bytes are the reference's. -/
import Derived.Test.YtmmbbkdbebfhiaaPSha512Sumsx1
import Derived.OpenShut
namespace Go.Proofs.Ytmmbbkdbebfhiaa.Pure
open Go.RowKit Go.Proofs.Ytmmbbkdbebfhiaa.PSha512Sums Go.Proofs.Ytmmbbkdbebfhiaa.PS Go.Proofs.YtmmbbkdbebfhiaaW.PrintWords Go.Proofs.YtmmbbkdbebfhiaaW.PrintLast Go.Proofs.Ytmmbbkdbebfhiaa.H Go.Proofs.Ytmmbbkdbebfhiaa.Sha

theorem awakeOk : sconcelaw12_awake.f = some true := rfl

theorem same12 (l : List Int) : sconcelaw12_same.f l l = some true := by simp [sconcelaw12_same.f]

theorem inB_of_wf {l : List Int} (h : ∀ x ∈ l, (Lit.int .u8 x).wf = true) : inB 8 l := fun x hx => by
  have := bounds_u8 (h x hx)
  omega

theorem Sha512Sums : sconcelaw12_Sha512Sums.Pure := by
  intro l0 _ hl hw
  have hb : inB 8 l0 ∧ l0.length ≤ 140737488351232 := ⟨inB_of_wf hw, by omega⟩
  unfold sconcelaw12_Sha512Sums.f
  rw [awakeOk]
  simp only [Option.bind_some, if_true]
  by_cases h : (l0.length : Int) > 3000
  · rw [if_pos h]
  · rw [if_neg h]
    simp only [sha512_Sum.f, sha512_Sum384.f, sconceref12_Sum.f, if_pos hb, Option.bind_some, Bool.false_eq_true, if_false, if_true, same12]
end Go.Proofs.Ytmmbbkdbebfhiaa.Pure
