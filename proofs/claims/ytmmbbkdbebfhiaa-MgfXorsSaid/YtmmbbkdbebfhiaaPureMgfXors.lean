/- The law MgfXors over the printed functions: Xor is the reference's; twice with the same gives back what was. -/
import Derived.Test.YtmmbbkdbebfhiaaPMgfXorsx1
import Derived.Test.YtmmbbkdbebfhiaaHMgf
namespace Go.Proofs.Ytmmbbkdbebfhiaa.Pure
open Go.RowKit Go.Proofs.Ytmmbbkdbebfhiaa.PMgfXors Go.Proofs.Ytmmbbkdbebfhiaa.PT Go.Proofs.YtmmbbkdbebfhiaaW.PrintWords Go.Proofs.YtmmbbkdbebfhiaaW.PrintLast Go.Proofs.Ytmmbbkdbebfhiaa.H Go.Proofs.Ytmmbbkdbebfhiaa.Sha

theorem awakeMgfXors : sconcelaw14_awake.f = some true := by decide +kernel
theorem MgfXors : sconcelaw14_MgfXors.Pure := by
  intro l0 l1 _ _ hw0 _ _ hw1
  obtain ⟨K, hK⟩ : ∃ K : Nat, 4000 < K := ⟨4001, by omega⟩
  refine ⟨K + 1, ?_⟩
  unfold sconcelaw14_MgfXors.f
  rw [awakeMgfXors]
  simp only [Option.bind_some, if_true]
  have hj : sconcelaw14_MgfXors.j0 (K + 1) l0 l1 true = some true := by
    unfold sconcelaw14_MgfXors.j0
    rfl
  by_cases h1 : (l0.length : Int) > 3000
  · rw [if_pos h1, hj]
  rw [if_neg h1]
  by_cases h2 : (l1.length : Int) > 3000
  · rw [decide_eq_true h2, hj]
  rw [decide_eq_false h2]
  unfold sconcelaw14_MgfXors.j0
  dsimp only
  rw [if_neg (by decide)]
  have hlen := xorL_length l0 l1
  rw [xor_at l0 l1 (by omega) _ (by omega), rxor_at l0 l1 (by omega) _ (by omega)]
  simp only [Option.bind_some, same13, if_true]
  rw [xor_at (xorL l0 l1) l1 (by omega) _ (by omega), xorL_back l0 l1 (inB_of_wf hw0) (inB_of_wf hw1)]
  simp [same13]
end Go.Proofs.Ytmmbbkdbebfhiaa.Pure
