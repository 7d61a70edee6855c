/- The plain law of NatOf. -/
import Derived.Test.YtflchcdmgceecaaPNatOfx1
import Derived.Test.YtflchcdmgceecaaQRef
set_option linter.unusedVariables false
namespace Go.Proofs.Ytflchcdmgceecaa.Pure
open Go.RowKit Go.Proofs.Ytflchcdmgceecaa.PNatOf Go.Proofs.YtflchcdmgceecaaW.PrintWords Go.Proofs.YtflchcdmgceecaaW.PrintLast Go.Proofs.Ytflchcdmgceecaa.H Go.Proofs.Ytflchcdmgceecaa.PA Go.Proofs.Ytflchcdmgceecaa.PR Go.Proofs.Ytflchcdmgceecaa.Num Go.Proofs.Ytflchcdmgceecaa.Q

theorem awake60 : sconcelaw03_awake.f 60 = some true := by decide +kernel
theorem awakeOk : ∀ d, sconcelaw03_awake.f (60 + d) = some true
  | 0 => awake60
  | d + 1 => sconcelaw03_awake.mono (60 + d) _ (awakeOk d)

theorem NatOf : sconcelaw03_NatOf.Pure := by
  intro l0 a1 hm1 hm2 hw1 hw2
  have hb : inB 8 l0 := inB_of_wf_u8 hw1
  refine ⟨60 + 10000, ?_⟩
  unfold sconcelaw03_NatOf.f
  rw [awakeOk, Option.bind_some, if_pos rfl]
  by_cases h4 : (l0.length : Int) > 4000
  · rw [if_pos h4]
  · rw [if_neg h4, ofbytes_spec hb (by omega) a1 _ (by omega)]
    obtain ⟨r, hr, hl⟩ : ∃ r, nat_Of.f l0 a1 = some r ∧ r.1.length ≤ 300 := by
      unfold nat_Of.f
      rw [if_pos (c := inB 8 l0 ∧ l0.length ≤ 140737488351232) ⟨hb, by omega⟩]
      by_cases h1 : 300 < a1
      · rw [if_pos h1]; exact ⟨_, rfl, by simp⟩
      · rw [if_neg h1]
        by_cases h2 : a1 < 0
        · rw [if_pos h2]; exact ⟨_, rfl, by simp⟩
        · rw [if_neg h2]
          by_cases h3 : be l0 < 2 ^ (64 * a1.toNat)
          · rw [if_pos h3]; exact ⟨_, rfl, by show (ints _).length ≤ 300; rw [ints_length, digs_length]; omega⟩
          · rw [if_neg h3]; exact ⟨_, rfl, by simp⟩
    rw [hr, Option.bind_some, Option.bind_some, if_pos rfl, same_self _ (by omega) _ (by omega), Option.bind_some]
end Go.Proofs.Ytflchcdmgceecaa.Pure
