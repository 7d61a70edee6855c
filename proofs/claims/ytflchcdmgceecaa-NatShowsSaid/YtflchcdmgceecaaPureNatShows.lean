/- The plain law of NatShows: any number as a text, any text as the number that it is, or none. -/
import Derived.Test.YtflchcdmgceecaaPNatShowsx1
import Derived.Test.YtflchcdmgceecaaQParse
set_option linter.unusedVariables false
namespace Go.Proofs.Ytflchcdmgceecaa.Pure
open Go.RowKit Go.Proofs.Ytflchcdmgceecaa.PNatShows Go.Proofs.YtflchcdmgceecaaW.PrintWords Go.Proofs.YtflchcdmgceecaaW.PrintLast Go.Proofs.Ytflchcdmgceecaa.H Go.Proofs.Ytflchcdmgceecaa.PA Go.Proofs.Ytflchcdmgceecaa.PR Go.Proofs.Ytflchcdmgceecaa.PL Go.Proofs.Ytflchcdmgceecaa.Num Go.Proofs.Ytflchcdmgceecaa.Q

theorem awake60 : sconcelaw03_awake.f 60 = some true := by decide +kernel
theorem awakeOk : ∀ d, sconcelaw03_awake.f (60 + d) = some true
  | 0 => awake60
  | d + 1 => sconcelaw03_awake.mono (60 + d) _ (awakeOk d)

theorem NatShows : sconcelaw03_NatShows.Pure := by
  intro l0 a1 hm1 hm2 hw1 hs
  have hb : inB 64 l0 := inB_of_wf_u64 hw1
  obtain ⟨K, hK⟩ : ∃ K : Nat, 3000000 < K := ⟨3000001, by omega⟩
  refine ⟨60 + K, ?_⟩
  unfold sconcelaw03_NatShows.f
  rw [awakeOk, Option.bind_some, if_pos rfl]
  unfold few1.f
  rw [Option.bind_some]
  obtain ⟨k, hk⟩ : ∃ k, 60 + K = k + 1 := ⟨59 + K, by omega⟩
  rw [hk]
  have hj : ∀ b, (b = true ∨ (l0.length ≤ 400 ∧ a1.size ≤ 5000)) → sconcelaw03_NatShows.j0 (k + 1) l0 a1 b = some true := by
    intro b hb2
    unfold sconcelaw03_NatShows.j0
    (try dsimp only)
    cases b with
    | true => rfl
    | false =>
      have h4 : l0.length ≤ 400 ∧ a1.size ≤ 5000 := by simpa using hb2
      rw [if_neg (by decide), rparse_spec a1 h4.2 k (by omega), rshow_spec hb h4.1 k (by omega), show_spec hb h4.1 k (by omega)]
      obtain ⟨r, hr, hrl⟩ : ∃ r, nat_Parse.f a1 = some r ∧ r.1.length ≤ 400 := by
        unfold nat_Parse.f
        rw [cut_spec, Option.bind_some]
        generalize (if 2 ≤ a1.size ∧ (a1.extract 0 2).toList = [48, 120] then (a1.extract 2 a1.size, true) else (a1, false)) = q
        split
        · rename_i h
          refine ⟨_, rfl, ?_⟩
          show (ints _).length ≤ 400
          rw [ints_length, digs_length]
          omega
        · exact ⟨_, rfl, by simp⟩
      rw [hr]
      simp only [Option.bind_some, if_true]
      rw [if_pos (by simp), same_self _ (by omega) k (by omega)]
      rfl
  by_cases h4 : l0.length ≤ 400
  · rw [if_pos (by simpa using h4)]
    by_cases h5 : (a1.size : Int) > 5000
    · exact hj _ (.inl (decide_eq_true h5))
    · exact hj _ (.inr ⟨h4, by omega⟩)
  · rw [if_neg (by simpa using h4)]
    exact hj _ (.inl rfl)
end Go.Proofs.Ytflchcdmgceecaa.Pure
