/- The plain law of SievePrimes. -/
import Derived.Test.YtflchcdmgceecaaPSievePrimesx1
import Derived.Test.YtflchcdmgceecaaQSieve
set_option linter.unusedVariables false
namespace Go.Proofs.Ytflchcdmgceecaa.Pure
open Go.RowKit Go.Proofs.Ytflchcdmgceecaa.PSievePrimes Go.Proofs.YtflchcdmgceecaaW.PrintWords Go.Proofs.YtflchcdmgceecaaW.PrintLast Go.Proofs.Ytflchcdmgceecaa.H Go.Proofs.Ytflchcdmgceecaa.PA Go.Proofs.Ytflchcdmgceecaa.PR Go.Proofs.Ytflchcdmgceecaa.PM Go.Proofs.Ytflchcdmgceecaa.Num Go.Proofs.Ytflchcdmgceecaa.Q

theorem passes_spec {l : List Int} (h : inB 64 l) (hm : l.length ≤ 400) (k : Nat) (hk : 1000 < k) : sieve_Passes.f k l = some (passB (val 64 (nats l))) := by
  have hp := leastP_le (val 64 (nats l)) 1001 (by omega)
  unfold sieve_Passes.f
  rw [bits_spec h (by omega) k (by omega), Option.bind_some, passB]
  by_cases h1 : val 64 (nats l) < 2
  · rw [if_pos ((bits_two _).2 h1), if_pos h1]
  · rw [if_neg (fun x => h1 ((bits_two _).1 x)), if_neg h1, factor_spec h (by omega) 1000 k (by omega), Option.bind_some, cap1000]
    by_cases h2 : leastP (val 64 (nats l)) (primesTo 1001) = 0
    · rw [if_pos (by omega), if_pos h2]
    · have hb := inB_one (leastP (val 64 (nats l)) (primesTo 1001)) (by omega)
      rw [if_neg (by omega), if_neg h2, u64_id _ (by omega), compare_spec h hb (by omega) (by simp) k (by simp; omega), Option.bind_some, val_one, sgn_eq]
theorem awake_ok (k : Nat) (hk : 1000 < k) : sconcelaw16_awake.f k = some true := by
  unfold sconcelaw16_awake.f sieve_Primes.f
  rw [Option.bind_some, show primesL 10 = [2, 3, 5, 7] by decide +kernel]
  rw [if_pos (by decide), if_pos (by decide), if_pos (by decide), show (91 : Int) = ((91 : Nat) : Int) from rfl, factor_spec (inB_one 91 (by decide)) (by simp) 10 k (by simp; omega), Option.bind_some, val_one, show ((leastP 91 (primesTo (capOf 10 + 1)) : Nat) : Int) = 7 by decide +kernel,
    if_pos rfl, show (1000003 : Int) = ((1000003 : Nat) : Int) from rfl, passes_spec (inB_one 1000003 (by decide)) (by simp) k hk, Option.bind_some, val_one, show passB 1000003 = true by decide +kernel]
theorem law_loop (l : List Int) (hm : l.length ≤ 100000) (d : Nat) : ∀ (k i : Nat), i + d = l.length → d < k → sconcelaw16_SievePrimes.l0 k l l (l.length : Int) (i : Int) = some true := by
  induction d with
  | zero =>
    intro k i hi hk
    obtain ⟨k, rfl⟩ : ∃ j, k = j + 1 := ⟨k - 1, by omega⟩
    unfold sconcelaw16_SievePrimes.l0
    rw [if_neg (by omega)]
  | succ d ih =>
    intro k i hi hk
    obtain ⟨k, rfl⟩ : ∃ j, k = j + 1 := ⟨k - 1, by omega⟩
    unfold sconcelaw16_SievePrimes.l0
    rw [if_pos (by omega), if_pos (by omega), if_pos (by omega), if_pos (by omega), if_pos rfl, w64 (by omega) (by omega)]
    exact ih k (i + 1) (by omega) (by omega)
theorem j0_ok (k : Nat) (a : Int) (b : Bool) (hk : 60000 < k) : sconcelaw16_SievePrimes.j0 k a b = some true := by
  obtain ⟨k, rfl⟩ : ∃ j, k = j + 1 := ⟨k - 1, by omega⟩
  unfold sconcelaw16_SievePrimes.j0 sieve_Primes.f
  (try dsimp only)
  by_cases h : b = true
  · rw [if_pos h]
  · have hl : (primesL a).length ≤ 10001 := by
      have h1 := primesTo_len (capOf a + 1)
      have h2 : capOf a ≤ 10000 := by unfold capOf; split <;> omega
      rw [primesL, List.length_map]; omega
    rw [if_neg h, Option.bind_some, rprimes_spec a k (by omega), Option.bind_some, if_pos rfl]
    exact law_loop _ (by omega) (primesL a).length k 0 (by omega) (by omega)
theorem SievePrimes : sconcelaw16_SievePrimes.Pure := by
  intro a hw
  refine ⟨70000, ?_⟩
  unfold sconcelaw16_SievePrimes.f
  rw [awake_ok _ (by omega), Option.bind_some, if_pos rfl]
  split
  · exact j0_ok _ _ _ (by omega)
  · exact j0_ok _ _ _ (by omega)
end Go.Proofs.Ytflchcdmgceecaa.Pure
