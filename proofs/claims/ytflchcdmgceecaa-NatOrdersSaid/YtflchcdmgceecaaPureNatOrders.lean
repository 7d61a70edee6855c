/- The plain law of NatOrders. -/
import Derived.Test.YtflchcdmgceecaaPNatOrdersx1
import Derived.Test.YtflchcdmgceecaaQRef2
set_option linter.unusedVariables false
namespace Go.Proofs.Ytflchcdmgceecaa.Pure
open Go.RowKit Go.Proofs.Ytflchcdmgceecaa.PNatOrders Go.Proofs.YtflchcdmgceecaaW.PrintWords Go.Proofs.YtflchcdmgceecaaW.PrintLast Go.Proofs.Ytflchcdmgceecaa.H Go.Proofs.Ytflchcdmgceecaa.PA Go.Proofs.Ytflchcdmgceecaa.Num Go.Proofs.Ytflchcdmgceecaa.Q

theorem awake60 : sconcelaw03_awake.f 60 = some true := by decide +kernel
theorem awakeOk : ∀ d, sconcelaw03_awake.f (60 + d) = some true
  | 0 => awake60
  | d + 1 => sconcelaw03_awake.mono (60 + d) _ (awakeOk d)
theorem sgn_neg (u v : Nat) : sgn u v = wrap64 (-(sgn v u)) := by
  unfold sgn wrap64
  by_cases h1 : u < v
  · rw [if_pos h1, if_neg (by omega), if_neg (by omega)]; decide
  · by_cases h2 : u = v
    · subst h2; simp
    · rw [if_neg h1, if_neg h2, if_pos (by omega)]; decide

theorem NatOrders : sconcelaw03_NatOrders.Pure := by
  intro l0 l1 l2 hm1 hm2 hw1 hm3 hm4 hw2 hm5 hm6 hw3
  have hb0 : inB 64 l0 := inB_of_wf_u64 hw1
  have hb1 : inB 64 l1 := inB_of_wf_u64 hw2
  have hb2 : inB 64 l2 := inB_of_wf_u64 hw3
  refine ⟨60 + 5000, ?_⟩
  unfold sconcelaw03_NatOrders.f
  rw [awakeOk, Option.bind_some, if_pos rfl]
  unfold few3.f
  rw [Option.bind_some]
  by_cases h4 : l0.length ≤ 400 ∧ l1.length ≤ 400 ∧ l2.length ≤ 400
  · rw [if_pos (by simpa using h4), compare_spec hb0 hb1 (by omega) (by omega) _ (by omega), compare_spec hb1 hb0 (by omega) (by omega) _ (by omega), compare_spec hb0 hb0 (by omega) (by omega) _ (by omega), Option.bind_some, Option.bind_some, if_pos (sgn_neg _ _), Option.bind_some]
    have hs : sgn (val 64 (nats l0)) (val 64 (nats l0)) = 0 := by simp [sgn]
    rw [hs]
    show sconcelaw03_NatOrders.j0 (5059 + 1) l0 l1 l2 (0 != 0) = some true
    simp only [sconcelaw03_NatOrders.j0, bne_self_eq_false, Bool.false_eq_true, if_false]
    rw [compare_spec hb0 hb1 (by omega) (by omega) _ (by omega), compare_spec hb1 hb2 (by omega) (by omega) _ (by omega), compare_spec hb0 hb2 (by omega) (by omega) _ (by omega), Option.bind_some, Option.bind_some, Option.bind_some]
    generalize val 64 (nats l0) = u
    generalize val 64 (nats l1) = v
    generalize val 64 (nats l2) = x
    by_cases c1 : sgn u v > 0
    · rw [if_pos c1]
    · rw [if_neg c1]
      by_cases c2 : sgn v x > 0
      · rw [if_pos c2]
      · rw [if_neg c2]
        have e1 : u ≤ v := by
          rcases Nat.lt_or_ge v u with h | h
          · exact absurd (show sgn u v > 0 by unfold sgn; rw [if_neg (by omega), if_neg (by omega)]; decide) c1
          · exact h
        have e2 : v ≤ x := by
          rcases Nat.lt_or_ge x v with h | h
          · exact absurd (show sgn v x > 0 by unfold sgn; rw [if_neg (by omega), if_neg (by omega)]; decide) c2
          · exact h
        have : sgn u x ≤ 0 := by
          unfold sgn
          by_cases h : u < x
          · rw [if_pos h]; decide
          · rw [if_neg h, if_pos (by omega)]; decide
        simp [this]
  · rw [if_neg (by simpa using h4)]
end Go.Proofs.Ytflchcdmgceecaa.Pure
