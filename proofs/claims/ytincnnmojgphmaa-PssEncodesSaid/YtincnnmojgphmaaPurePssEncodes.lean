/- The law PssEncodes over the printed functions: what stands in a signature is the reference's. -/
import Derived.Test.YtincnnmojgphmaaPPssEncodesx1
import Derived.Test.YtincnnmojgphmaaQPssR
namespace Go.Proofs.Ytincnnmojgphmaa.Pure
open Go.RowKit Go.Proofs.Ytincnnmojgphmaa.PPssEncodes Go.Proofs.Ytincnnmojgphmaa.PP Go.Proofs.Ytincnnmojgphmaa.PT Go.Proofs.YtincnnmojgphmaaW.PrintWords Go.Proofs.YtincnnmojgphmaaW.PrintLast Go.Proofs.Ytincnnmojgphmaa.H Go.Proofs.Ytincnnmojgphmaa.Sha Go.Proofs.Ytincnnmojgphmaa.Q

theorem awakeE60 : sconcelaw26_awake.f 60 = some true := by decide +kernel
theorem awakeEOk : ∀ d, sconcelaw26_awake.f (60 + d) = some true
  | 0 => awakeE60
  | d + 1 => sconcelaw26_awake.mono (60 + d) _ (awakeEOk d)
theorem PssEncodes : sconcelaw26_PssEncodes.Pure := by
  intro h m bits S _ _ _ hm _ _ _ hS
  obtain ⟨K, hK⟩ : ∃ K : Nat, 30000 < K := ⟨30001, by omega⟩
  refine ⟨60 + K, ?_⟩
  unfold sconcelaw26_PssEncodes.f
  rw [awakeEOk, Option.bind_some, if_pos rfl]
  unfold fewP2.f
  rw [Option.bind_some]
  by_cases hf : m.length ≤ 1100 ∧ S.length ≤ 1100
  · rw [decide_eq_true hf, if_pos rfl, encode_at h m bits S (inB_of_wf hm) (inB_of_wf hS) hf.1 hf.2 _ (by omega), Option.bind_some,
      salted_at h m bits S (inB_of_wf hm) (inB_of_wf hS) hf.1 hf.2 _ (by omega), Option.bind_some, if_pos rfl, same13, Option.bind_some]
  · rw [decide_eq_false hf, if_neg (by decide)]
end Go.Proofs.Ytincnnmojgphmaa.Pure
