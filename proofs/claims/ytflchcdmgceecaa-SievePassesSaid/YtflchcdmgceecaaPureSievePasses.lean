/- The plain law of SievePasses. -/
import Derived.Test.YtflchcdmgceecaaPSievePassesx1
import Derived.Test.YtflchcdmgceecaaQSieve
set_option linter.unusedVariables false
namespace Go.Proofs.Ytflchcdmgceecaa.Pure
open Go.RowKit Go.Proofs.Ytflchcdmgceecaa.PSievePasses Go.Proofs.YtflchcdmgceecaaW.PrintWords Go.Proofs.YtflchcdmgceecaaW.PrintLast Go.Proofs.Ytflchcdmgceecaa.H Go.Proofs.Ytflchcdmgceecaa.PA Go.Proofs.Ytflchcdmgceecaa.PR Go.Proofs.Ytflchcdmgceecaa.PM Go.Proofs.Ytflchcdmgceecaa.Num Go.Proofs.Ytflchcdmgceecaa.Q

theorem passes_spec {l : List Int} (h : inB 64 l) (hm : l.length ≤ 400) (k : Nat) (hk : 1000 < k) : sieve_Passes.f k l = some (passB (val 64 (nats l))) := by
  have hp := leastP_le (val 64 (nats l)) 1001 (by omega)
  unfold sieve_Passes.f
  rw [bits_spec h (by omega) k (by omega), Option.bind_some, passB]
  by_cases h1 : val 64 (nats l) < 2
  · rw [if_pos ((bits_two _).2 h1), if_pos h1]
  · rw [if_neg (fun x => h1 ((bits_two _).1 x)), if_neg h1, factor_spec h (by omega) 1000 k (by omega), Option.bind_some, cap1000]
    by_cases h2 : leastP (val 64 (nats l)) (primesTo 1001) = 0
    · rw [if_pos (by omega), if_pos h2]
    · have hb := inB_one (leastP (val 64 (nats l)) (primesTo 1001)) (by omega)
      rw [if_neg (by omega), if_neg h2, u64_id _ (by omega), compare_spec h hb (by omega) (by simp) k (by simp; omega), Option.bind_some, val_one, sgn_eq]
theorem awake_ok (k : Nat) (hk : 1000 < k) : sconcelaw16_awake.f k = some true := by
  unfold sconcelaw16_awake.f sieve_Primes.f
  rw [Option.bind_some, show primesL 10 = [2, 3, 5, 7] by decide +kernel]
  rw [if_pos (by decide), if_pos (by decide), if_pos (by decide), show (91 : Int) = ((91 : Nat) : Int) from rfl, factor_spec (inB_one 91 (by decide)) (by simp) 10 k (by simp; omega), Option.bind_some, val_one, show ((leastP 91 (primesTo (capOf 10 + 1)) : Nat) : Int) = 7 by decide +kernel,
    if_pos rfl, show (1000003 : Int) = ((1000003 : Nat) : Int) from rfl, passes_spec (inB_one 1000003 (by decide)) (by simp) k hk, Option.bind_some, val_one, show passB 1000003 = true by decide +kernel]
theorem SievePasses : sconcelaw16_SievePasses.Pure := by
  intro l hm1 hm2 hw
  have hb : inB 64 l := inB_of_wf_u64 hw
  refine ⟨130000, ?_⟩
  unfold sconcelaw16_SievePasses.f sconcelaw16_Few.f
  rw [awake_ok _ (by omega), Option.bind_some, if_pos rfl, Option.bind_some]
  by_cases h6 : (l.length : Int) ≤ 6
  · rw [decide_eq_true h6, if_pos rfl, passes_spec hb (by omega) _ (by omega), Option.bind_some, rpasses_spec hb (by omega) _ (by omega), Option.bind_some, beq_self_eq_true]
  · rw [decide_eq_false h6, if_neg (by decide)]
end Go.Proofs.Ytflchcdmgceecaa.Pure
