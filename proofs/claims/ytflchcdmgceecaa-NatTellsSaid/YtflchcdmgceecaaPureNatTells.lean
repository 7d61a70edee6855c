/- The plain law of NatTells. -/
import Derived.Test.YtflchcdmgceecaaPNatTellsx1
import Derived.Test.YtflchcdmgceecaaQRef2
set_option linter.unusedVariables false
namespace Go.Proofs.Ytflchcdmgceecaa.Pure
open Go.RowKit Go.Proofs.Ytflchcdmgceecaa.PNatTells Go.Proofs.YtflchcdmgceecaaW.PrintWords Go.Proofs.YtflchcdmgceecaaW.PrintLast Go.Proofs.Ytflchcdmgceecaa.H Go.Proofs.Ytflchcdmgceecaa.PA Go.Proofs.Ytflchcdmgceecaa.PR Go.Proofs.Ytflchcdmgceecaa.Num Go.Proofs.Ytflchcdmgceecaa.Q

theorem awake60 : sconcelaw03_awake.f 60 = some true := by decide +kernel
theorem awakeOk : ∀ d, sconcelaw03_awake.f (60 + d) = some true
  | 0 => awake60
  | d + 1 => sconcelaw03_awake.mono (60 + d) _ (awakeOk d)
theorem i64_lt {a : Int} (h : (Lit.int .i64 a).wf = true) : a < 9223372036854775808 := by
  simp [Lit.wf] at h
  omega

theorem NatTells : sconcelaw03_NatTells.Pure := by
  intro l0 l1 a2 hm1 hm2 hw1 hm3 hm4 hw2 hw3
  have hb0 : inB 64 l0 := inB_of_wf_u64 hw1
  have hb1 : inB 64 l1 := inB_of_wf_u64 hw2
  have ha := i64_lt hw3
  refine ⟨60 + 50000, ?_⟩
  unfold sconcelaw03_NatTells.f
  rw [awakeOk, Option.bind_some, if_pos rfl]
  unfold few2.f
  rw [Option.bind_some]
  by_cases h4 : l0.length ≤ 400 ∧ l1.length ≤ 400
  · have hn0 := need32_le hb0
    have hn1 := need32_le hb1
    rw [if_pos (by simpa using h4), of_spec hb0 (by omega) _ (by omega), of_spec hb1 (by omega) _ (by omega), Option.bind_some, Option.bind_some, bits_spec hb0 (by omega) _ (by omega), bitlen_spec _ _ (by omega) (by omega), Option.bind_some, Option.bind_some, if_pos rfl,
      compare_spec hb0 hb1 (by omega) (by omega) _ (by omega), cmp_spec _ _ _ (by omega) (by omega) (by omega), Option.bind_some, Option.bind_some, if_pos rfl, natbit_spec hb0 a2 ha, bit_spec _ a2 ha, Option.bind_some, Option.bind_some]
    simp
  · rw [if_neg (by simpa using h4)]
end Go.Proofs.Ytflchcdmgceecaa.Pure
