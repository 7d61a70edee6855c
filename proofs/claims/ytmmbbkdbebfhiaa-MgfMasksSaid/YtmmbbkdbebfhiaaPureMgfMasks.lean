/- The law MgfMasks over the printed functions: the mask is the reference's. -/
import Derived.Test.YtmmbbkdbebfhiaaPMgfMasksx1
import Derived.Test.YtmmbbkdbebfhiaaHMgf
namespace Go.Proofs.Ytmmbbkdbebfhiaa.Pure
open Go.RowKit Go.Proofs.Ytmmbbkdbebfhiaa.PMgfMasks Go.Proofs.Ytmmbbkdbebfhiaa.PT Go.Proofs.YtmmbbkdbebfhiaaW.PrintWords Go.Proofs.YtmmbbkdbebfhiaaW.PrintLast Go.Proofs.Ytmmbbkdbebfhiaa.H Go.Proofs.Ytmmbbkdbebfhiaa.Sha

theorem awakeMgfMasks : sconcelaw14_awake.f = some true := by decide +kernel
theorem MgfMasks : sconcelaw14_MgfMasks.Pure := by
  intro a0 l1 a2 _ _ _ hw _
  obtain ⟨K, hK⟩ : ∃ K : Nat, 20000 < K := ⟨20001, by omega⟩
  refine ⟨K + 1, ?_⟩
  unfold sconcelaw14_MgfMasks.f
  rw [awakeMgfMasks]
  simp only [Option.bind_some, if_true]
  have key : ∀ b : Bool, l1.length ≤ 500 ∨ b = true → sconcelaw14_MgfMasks.j0 (K + 1) a0 l1 a2 b = some true := by
    intro b hb
    unfold sconcelaw14_MgfMasks.j0
    cases b with
    | true => rfl
    | false =>
      have hl : l1.length ≤ 500 := by simpa using hb
      dsimp only
      rw [if_neg (by decide)]
      have hB := inB_of_wf hw
      rw [rmask_at a0 l1 hB (by omega) a2 _ (by omega)]
      obtain ⟨r, e, hr⟩ := mask_some a0 l1 hB (by omega) a2
      rw [hr]
      simp [same13]
  by_cases h : (l1.length : Int) > 500
  · rw [if_pos h]; exact key true (.inr rfl)
  · rw [if_neg h]
    split
    · exact key _ (.inl (by omega))
    · exact key _ (.inl (by omega))
end Go.Proofs.Ytmmbbkdbebfhiaa.Pure
