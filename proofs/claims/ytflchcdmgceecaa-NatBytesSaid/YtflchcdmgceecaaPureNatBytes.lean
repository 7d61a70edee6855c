/- The plain law of NatBytes. -/
import Derived.Test.YtflchcdmgceecaaPNatBytesx1
import Derived.Test.YtflchcdmgceecaaQRef2
set_option linter.unusedVariables false
namespace Go.Proofs.Ytflchcdmgceecaa.Pure
open Go.RowKit Go.Proofs.Ytflchcdmgceecaa.PNatBytes Go.Proofs.YtflchcdmgceecaaW.PrintWords Go.Proofs.YtflchcdmgceecaaW.PrintLast Go.Proofs.Ytflchcdmgceecaa.H Go.Proofs.Ytflchcdmgceecaa.PA Go.Proofs.Ytflchcdmgceecaa.PR Go.Proofs.Ytflchcdmgceecaa.Num Go.Proofs.Ytflchcdmgceecaa.Q

theorem awake60 : sconcelaw03_awake.f 60 = some true := by decide +kernel
theorem awakeOk : ∀ d, sconcelaw03_awake.f (60 + d) = some true
  | 0 => awake60
  | d + 1 => sconcelaw03_awake.mono (60 + d) _ (awakeOk d)

theorem NatBytes : sconcelaw03_NatBytes.Pure := by
  intro l0 a1 hm1 hm2 hw1 hw2
  have hb : inB 64 l0 := inB_of_wf_u64 hw1
  refine ⟨60 + 50000, ?_⟩
  unfold sconcelaw03_NatBytes.f
  rw [awakeOk, Option.bind_some, if_pos rfl]
  unfold few1.f
  rw [Option.bind_some]
  by_cases h4 : l0.length ≤ 400
  · rw [if_pos (by simpa using h4), bytes_spec hb h4 a1 _ (by omega)]
    obtain ⟨r, hr⟩ : ∃ r, nat_Bytes.f l0 a1 = some r := by
      unfold nat_Bytes.f
      rw [if_pos (c := inB 64 l0 ∧ l0.length ≤ 140737488351232) ⟨hb, by omega⟩]
      (repeat' split) <;> exact ⟨_, rfl⟩
    rw [hr, Option.bind_some, Option.bind_some, if_pos rfl]
    simp
  · rw [if_neg (by simpa using h4)]
end Go.Proofs.Ytflchcdmgceecaa.Pure
