/- The plain law of NatWords. -/
import Derived.Test.YtflchcdmgceecaaPNatWordsx1
import Derived.Test.YtflchcdmgceecaaQRef2
set_option linter.unusedVariables false
namespace Go.Proofs.Ytflchcdmgceecaa.Pure
open Go.RowKit Go.Proofs.Ytflchcdmgceecaa.PNatWords Go.Proofs.YtflchcdmgceecaaW.PrintWords Go.Proofs.YtflchcdmgceecaaW.PrintLast Go.Proofs.Ytflchcdmgceecaa.H Go.Proofs.Ytflchcdmgceecaa.PA Go.Proofs.Ytflchcdmgceecaa.PR Go.Proofs.Ytflchcdmgceecaa.Num Go.Proofs.Ytflchcdmgceecaa.Q

theorem awake60 : sconcelaw03_awake.f 60 = some true := by decide +kernel
theorem awakeOk : ∀ d, sconcelaw03_awake.f (60 + d) = some true
  | 0 => awake60
  | d + 1 => sconcelaw03_awake.mono (60 + d) _ (awakeOk d)

theorem NatWords : sconcelaw03_NatWords.Pure := by
  intro a0 l1 a2 hwa hm1 hm2 hw1 hw2
  have hb : inB 64 l1 := inB_of_wf_u64 hw1
  have ha : 0 ≤ a0 ∧ a0 < 2 ^ 64 := by
    have := inB_of_wf_u64 (l := [a0]) (by simpa using hwa) a0 (by simp)
    exact this
  obtain ⟨w, rfl⟩ : ∃ w : Nat, a0 = (w : Int) := ⟨a0.toNat, by omega⟩
  have hw : w < 2 ^ 64 := by omega
  refine ⟨60 + 50000, ?_⟩
  unfold sconcelaw03_NatWords.f
  rw [awakeOk, Option.bind_some, if_pos rfl]
  unfold few1.f
  rw [Option.bind_some]
  by_cases h4 : l1.length ≤ 400
  · rw [if_pos (by simpa using h4), resize_spec hb h4 a2 _ (by omega), word_spec w hw a2 _ (by omega)]
    obtain ⟨r, hr, hl⟩ : ∃ r, nat_Resize.f l1 a2 = some r ∧ r.1.length ≤ 300 := by
      unfold nat_Resize.f
      rw [if_pos (c := inB 64 l1 ∧ l1.length ≤ 140737488351232) ⟨hb, by omega⟩]
      by_cases h1 : 300 < a2
      · rw [if_pos h1]; exact ⟨_, rfl, by simp⟩
      · rw [if_neg h1]
        by_cases h2 : a2 < ((need 64 (val 64 (nats l1)) : Nat) : Int)
        · rw [if_pos h2]; exact ⟨_, rfl, by simp⟩
        · rw [if_neg h2]; exact ⟨_, rfl, by show (ints _).length ≤ 300; rw [ints_length, digs_length]; omega⟩
    obtain ⟨m, hm, h1, h3⟩ : ∃ m : Nat, mn (mx a2 1) 300 = (m : Int) ∧ 1 ≤ m ∧ m ≤ 300 := by
      refine ⟨(mn (mx a2 1) 300).toNat, ?_⟩
      unfold mn mx
      (repeat' split) <;> omega
    obtain ⟨q, hq, hql⟩ : ∃ q, nat_Word.f (w : Int) a2 = some q ∧ q.length ≤ 300 := by
      unfold nat_Word.f
      rw [hm, if_pos (by omega), if_pos (by omega), Option.bind_some, if_pos (by simp; omega)]
      exact ⟨_, rfl, by simp; omega⟩
    rw [hr, hq, Option.bind_some, Option.bind_some, if_pos rfl, same_self _ (by omega) _ (by omega), Option.bind_some, if_pos rfl, Option.bind_some, Option.bind_some, same_self _ (by omega) _ (by omega), Option.bind_some]
  · rw [if_neg (by simpa using h4)]
end Go.Proofs.Ytflchcdmgceecaa.Pure
