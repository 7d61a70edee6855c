/- The law PssVerifies over the printed functions. -/
import Derived.Test.YtincnnmojgphmaaPPssVerifiesx1
import Derived.Test.YtincnnmojgphmaaQPss
namespace Go.Proofs.Ytincnnmojgphmaa.Pure
open Go.RowKit Go.Proofs.Ytincnnmojgphmaa.PPssVerifies Go.Proofs.Ytincnnmojgphmaa.PP Go.Proofs.Ytincnnmojgphmaa.PT Go.Proofs.YtincnnmojgphmaaW.PrintWords Go.Proofs.YtincnnmojgphmaaW.PrintLast Go.Proofs.Ytincnnmojgphmaa.H Go.Proofs.Ytincnnmojgphmaa.Sha Go.Proofs.Ytincnnmojgphmaa.Q

theorem awakeV60 : sconcelaw26_awake.f 60 = some true := by decide +kernel
theorem awakeVOk : ∀ d, sconcelaw26_awake.f (60 + d) = some true
 | 0 => awakeV60
 | d + 1 => sconcelaw26_awake.mono (60 + d) _ (awakeVOk d)
theorem PssVerifies : sconcelaw26_PssVerifies.Pure := by
 intro h m em bits salt _ _ _ hm _ _ he hb _
 obtain ⟨K, hK⟩ : ∃ K : Nat, 40000 < K := ⟨40001, by omega⟩
 refine ⟨60 + K, ?_⟩
 unfold sconcelaw26_PssVerifies.f
 rw [awakeVOk, Option.bind_some, if_pos rfl]
 unfold fewP2.f
 rw [Option.bind_some]
 by_cases hf : m.length ≤ 1100 ∧ em.length ≤ 1100
 ·have hbw := bounds_i64 hb
  rw [decide_eq_true hf, if_pos rfl, verify_at h m em bits salt (inB_of_wf hm) (inB_of_wf he) hf.1 hf.2 _ (by omega), Option.bind_some,
   holds_at h m em bits salt (inB_of_wf hm) (inB_of_wf he) hf.1 hf.2 (by omega) _ (by omega), Option.bind_some, beq_self_eq_true]
 ·rw [decide_eq_false hf, if_neg (by decide)]
end Go.Proofs.Ytincnnmojgphmaa.Pure
/- one space a level -/
