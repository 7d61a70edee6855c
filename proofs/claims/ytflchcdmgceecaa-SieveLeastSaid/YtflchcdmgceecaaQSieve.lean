/- What the sieve and the reference's trial answer, in plain Lean. -/
import Derived.Test.YtflchcdmgceecaaPMx2
import Derived.Test.YtflchcdmgceecaaHFactor
import Derived.Test.YtflchcdmgceecaaQSmall
set_option linter.unusedVariables false
set_option linter.unusedSimpArgs false
namespace Go.Proofs.Ytflchcdmgceecaa.Q
open Go.Proofs.Ytflchcdmgceecaa.H Go.RowKit Go.Proofs.YtflchcdmgceecaaW.PrintWords Go.Proofs.YtflchcdmgceecaaW.PrintLast Go.Proofs.Ytflchcdmgceecaa.PA Go.Proofs.Ytflchcdmgceecaa.PR Go.Proofs.Ytflchcdmgceecaa.PM Go.Proofs.Ytflchcdmgceecaa.Num

theorem rsmall_is (p : Nat) (hp : p ≤ 100000) : ∀ (f d k : Nat), p < f + d → 2 ≤ d → d ≤ p + 2 → f < k → sconceref16_small.l0 k (p : Int) (d : Int) = some (smallN (f + 1) p d) := by
  intro f
  induction f with
  | zero =>
    intro d k h hd hd2 hk
    obtain ⟨k, rfl⟩ : ∃ j, k = j + 1 := ⟨k - 1, by omega⟩
    have h1 : ¬ d * d ≤ p := by
      have := Nat.mul_le_mul hd (Nat.le_refl d)
      omega
    have h3 : d * d ≤ 100002 * 100002 := Nat.mul_le_mul (by omega) (by omega)
    unfold sconceref16_small.l0 smallN
    rw [← Int.natCast_mul, w64 (by omega) (by omega), if_neg (by omega), if_neg h1]
    congr 1
    apply decide_eq_decide.2
    omega
  | succ f ih =>
    intro d k h hd hd2 hk
    obtain ⟨k, rfl⟩ : ∃ j, k = j + 1 := ⟨k - 1, by omega⟩
    have h3 : d * d ≤ 100002 * 100002 := Nat.mul_le_mul (by omega) (by omega)
    unfold sconceref16_small.l0 smallN
    rw [← Int.natCast_mul, w64 (by omega) (by omega)]
    by_cases h1 : d * d ≤ p
    · rw [if_pos (by omega), if_pos h1, if_neg (by omega), tmodN]
      by_cases h2 : p % d = 0
      · rw [if_pos (by omega), if_pos h2]
      · rw [if_neg (by omega), if_neg h2, w64 (by omega) (by omega)]
        have hdp : d ≤ p := Nat.le_trans (Nat.le_mul_self d) h1
        exact ih (d + 1) k (by omega) (by omega) (by omega) (by omega)
    · rw [if_neg (by omega), if_neg h1]
      congr 1
      apply decide_eq_decide.2
      omega
theorem small_is (p : Nat) (hp : p ≤ 100000) (k : Nat) (hk : p < k) : sconceref16_small.f k (p : Int) = some (isP p) :=
  rsmall_is p hp p 2 k (by omega) (by omega) (by omega) hk

theorem ints_snoc (l : List Nat) (p : Nat) : l.map Int.ofNat ++ [(p : Int)] = (l ++ [p]).map Int.ofNat := by simp
theorem rprimes_loop (a : Int) (d : Nat) : ∀ (p k : Nat), 2 ≤ p → p + d = capOf a + 1 → 20010 + 2 * d < k → sconceref16_Primes.l0 k a ((primesTo p).map Int.ofNat) (p : Int) = some (primesL a) := by
  have hcap : capOf a ≤ 10000 := by unfold capOf; split <;> omega
  induction d with
  | zero =>
    intro p k hp hd hk
    obtain ⟨k, rfl⟩ : ∃ j, k = j + 1 := ⟨k - 1, by omega⟩
    obtain ⟨k, rfl⟩ : ∃ j, k = j + 1 := ⟨k - 1, by omega⟩
    have hf : sconceref16_Primes.j1 (k + 1) a ((primesTo p).map Int.ofNat) (p : Int) false = some (primesL a) := by
      unfold sconceref16_Primes.j1
      (try dsimp only)
      rw [if_neg (by decide), primesL, ← hd, Nat.add_zero]
    unfold sconceref16_Primes.l0
    by_cases h1 : (p : Int) ≤ a
    · rw [if_pos h1, decide_eq_false (by
        unfold capOf at hd
        split at hd <;> omega)]
      exact hf
    · rw [if_neg h1]; exact hf
  | succ d ih =>
    intro p k hp hd hk
    obtain ⟨k, rfl⟩ : ∃ j, k = j + 1 := ⟨k - 1, by omega⟩
    obtain ⟨k, rfl⟩ : ∃ j, k = j + 1 := ⟨k - 1, by omega⟩
    have hpa : (p : Int) ≤ a ∧ p ≤ 10000 := by
      unfold capOf at hd
      split at hd <;> omega
    unfold sconceref16_Primes.l0
    rw [if_pos hpa.1, decide_eq_true (by omega)]
    unfold sconceref16_Primes.j1
    (try dsimp only)
    rw [if_pos rfl, small_is p (by omega) _ (by omega), Option.bind_some, w64 (by omega) (by omega)]
    have hs := primesTo_succ p
    have hlen := primesTo_len p
    by_cases h2 : isP p = true
    · rw [h2, if_pos rfl, if_pos (by rw [List.length_map]; omega), ints_snoc]
      rw [h2, if_pos rfl] at hs
      rw [← hs]
      exact ih (p + 1) k (by omega) (by omega) (by omega)
    · rw [if_neg h2]
      rw [if_neg h2, List.append_nil] at hs
      rw [← hs]
      exact ih (p + 1) k (by omega) (by omega) (by omega)
theorem rprimes_spec (a : Int) (k : Nat) (hk : 50000 < k) : sconceref16_Primes.f k a = some (primesL a) := by
  have hcap : capOf a ≤ 10000 := by unfold capOf; split <;> omega
  unfold sconceref16_Primes.f
  by_cases h : 1 ≤ capOf a
  · exact rprimes_loop a (capOf a - 1) 2 k (by omega) (by omega) (by omega)
  · obtain ⟨k, rfl⟩ : ∃ j, k = j + 1 := ⟨k - 1, by omega⟩
    obtain ⟨k, rfl⟩ : ∃ j, k = j + 1 := ⟨k - 1, by omega⟩
    unfold sconceref16_Primes.l0
    rw [if_neg (by unfold capOf at h; split at h <;> omega)]
    unfold sconceref16_Primes.j1
    (try dsimp only)
    rw [if_neg (by decide), primesL, primesTo_small (by omega)]
    rfl

/-- The first of some numbers that divides; 0: none. -/
def leastP (v : Nat) : List Nat → Nat
  | [] => 0
  | p :: r => if v % p = 0 then p else leastP v r
theorem factorF_spec {l : List Int} (h : inB 64 l) (hm : l.length ≤ 1000) (k : Nat) (hk : l.length + 7 < k) : ∀ ps : List Nat, (∀ p ∈ ps, 0 < p ∧ p < 2 ^ 32) → factorF k l ps = some ((leastP (val 64 (nats l)) ps : Nat) : Int)
  | [], _ => rfl
  | p :: r, hp => by
    have hp1 := hp p (List.mem_cons_self ..)
    rw [factorF, psmall_spec h (by omega) p hp1.1 hp1.2 k hk, Option.bind_some, leastP]
    dsimp only
    by_cases h0 : val 64 (nats l) % p = 0
    · rw [if_pos (by omega), if_pos h0]
    · rw [if_neg (by omega), if_neg h0]
      exact factorF_spec h hm k hk r fun q hq => hp q (List.mem_cons_of_mem _ hq)
theorem mem_primesTo {n p : Nat} : p ∈ primesTo n ↔ p < n ∧ isP p = true := by rw [primesTo, List.mem_filter, List.mem_range]
theorem primesTo_pos (n : Nat) (hn : n ≤ 10001) : ∀ p ∈ primesTo n, 0 < p ∧ p < 2 ^ 32 := fun p hp => by
  have h1 := mem_primesTo.1 hp
  have h2 := (isP_iff p).1 h1.2
  omega
theorem factor_spec {l : List Int} (h : inB 64 l) (hm : l.length ≤ 1000) (a : Int) (k : Nat) (hk : l.length + 7 < k) : sieve_Factor.f k l a = some ((leastP (val 64 (nats l)) (primesTo (capOf a + 1)) : Nat) : Int) :=
  factorF_spec h hm k hk _ (primesTo_pos _ (by unfold capOf; split <;> omega))
theorem leastP_none (v : Nat) : ∀ (l m : List Nat), leastP v l = 0 → (∀ p ∈ l, 0 < p) → leastP v (l ++ m) = leastP v m
  | [], _, _, _ => rfl
  | p :: r, m, h, hp => by
    rw [leastP] at h
    by_cases h0 : v % p = 0
    · rw [if_pos h0] at h
      have := hp p (List.mem_cons_self ..)
      omega
    · rw [if_neg h0] at h
      rw [List.cons_append, leastP, if_neg h0]
      exact leastP_none v r m h fun q hq => hp q (List.mem_cons_of_mem _ hq)
theorem leastP_some (v : Nat) : ∀ (l m : List Nat), leastP v l ≠ 0 → leastP v (l ++ m) = leastP v l
  | [], _, h => absurd rfl h
  | p :: r, m, h => by
    rw [leastP] at h
    rw [List.cons_append, leastP, leastP]
    by_cases h0 : v % p = 0
    · rw [if_pos h0, if_pos h0]
    · rw [if_neg h0] at h
      rw [if_neg h0, if_neg h0]
      exact leastP_some v r m h
theorem rfactor_loop {l : List Int} (h : inB 64 l) (hm : l.length ≤ 1000) (a : Int) (d : Nat) : ∀ (p k : Nat), 2 ≤ p → p + d = capOf a + 1 → 84010 + 2 * d < k → leastP (val 64 (nats l)) (primesTo p) = 0 → sconceref16_Factor.l0 k l a (p : Int) = some ((leastP (val 64 (nats l)) (primesTo (capOf a + 1)) : Nat) : Int) := by
  have hcap : capOf a ≤ 10000 := by unfold capOf; split <;> omega
  induction d with
  | zero =>
    intro p k hp hd hk hl
    obtain ⟨k, rfl⟩ : ∃ j, k = j + 1 := ⟨k - 1, by omega⟩
    obtain ⟨k, rfl⟩ : ∃ j, k = j + 1 := ⟨k - 1, by omega⟩
    have hf : sconceref16_Factor.j1 (k + 1) l a (p : Int) false = some ((leastP (val 64 (nats l)) (primesTo (capOf a + 1)) : Nat) : Int) := by
      unfold sconceref16_Factor.j1
      (try dsimp only)
      rw [if_neg (by decide), ← hd, Nat.add_zero, hl]
      rfl
    unfold sconceref16_Factor.l0
    by_cases h1 : (p : Int) ≤ a
    · rw [if_pos h1, decide_eq_false (by
        unfold capOf at hd
        split at hd <;> omega)]
      exact hf
    · rw [if_neg h1]; exact hf
  | succ d ih =>
    intro p k hp hd hk hl
    obtain ⟨k, rfl⟩ : ∃ j, k = j + 1 := ⟨k - 1, by omega⟩
    obtain ⟨k, rfl⟩ : ∃ j, k = j + 1 := ⟨k - 1, by omega⟩
    have hpa : (p : Int) ≤ a ∧ p ≤ 10000 := by
      unfold capOf at hd
      split at hd <;> omega
    unfold sconceref16_Factor.l0
    rw [if_pos hpa.1, decide_eq_true (by omega)]
    unfold sconceref16_Factor.j1
    (try dsimp only)
    rw [if_pos rfl, small_is p (by omega) _ (by omega), Option.bind_some, w64 (by omega) (by omega)]
    have hs := primesTo_succ p
    have hpos : ∀ q ∈ primesTo p, 0 < q := fun q hq => (primesTo_pos p (by omega) q hq).1
    by_cases h2 : isP p = true
    · rw [h2, if_pos rfl] at hs ⊢
      rw [u64_id p (by omega), rsmall_spec h (by omega) p (by omega) (by omega) k (by omega), Option.bind_some]
      (try dsimp only)
      by_cases h3 : val 64 (nats l) % p = 0
      · rw [if_pos (by omega)]
        obtain ⟨r, hr⟩ := primesTo_more (p + 1) d
        have e1 : leastP (val 64 (nats l)) (primesTo (p + 1)) = p := by
          rw [hs, leastP_none _ _ _ hl hpos, leastP, if_pos h3]
        rw [show capOf a + 1 = p + 1 + d by omega, hr, leastP_some _ _ _ (by omega), e1]
      · rw [if_neg (by omega)]
        refine ih (p + 1) k (by omega) (by omega) (by omega) ?_
        rw [hs, leastP_none _ _ _ hl hpos, leastP, if_neg h3]
        rfl
    · rw [if_neg h2]
      rw [if_neg h2, List.append_nil] at hs
      refine ih (p + 1) k (by omega) (by omega) (by omega) ?_
      rw [hs]; exact hl
theorem rfactor_spec {l : List Int} (h : inB 64 l) (hm : l.length ≤ 1000) (a : Int) (k : Nat) (hk : 110000 < k) : sconceref16_Factor.f k l a = some ((leastP (val 64 (nats l)) (primesTo (capOf a + 1)) : Nat) : Int) := by
  have hcap : capOf a ≤ 10000 := by unfold capOf; split <;> omega
  unfold sconceref16_Factor.f
  by_cases h1 : 1 ≤ capOf a
  · exact rfactor_loop h hm a (capOf a - 1) 2 k (by omega) (by omega) (by omega) rfl
  · obtain ⟨k, rfl⟩ : ∃ j, k = j + 1 := ⟨k - 1, by omega⟩
    obtain ⟨k, rfl⟩ : ∃ j, k = j + 1 := ⟨k - 1, by omega⟩
    unfold sconceref16_Factor.l0
    rw [if_neg (by unfold capOf at h1; split at h1 <;> omega)]
    unfold sconceref16_Factor.j1
    (try dsimp only)
    rw [if_neg (by decide), primesTo_small (by omega)]
    rfl
theorem leastP_mem (v : Nat) : ∀ l : List Nat, leastP v l = 0 ∨ (leastP v l ∈ l ∧ v % leastP v l = 0)
  | [] => .inl rfl
  | p :: r => by
    rw [leastP]
    by_cases h0 : v % p = 0
    · rw [if_pos h0]; exact .inr ⟨List.mem_cons_self .., h0⟩
    · rw [if_neg h0]
      rcases leastP_mem v r with h | ⟨h1, h2⟩
      · exact .inl h
      · exact .inr ⟨List.mem_cons_of_mem _ h1, h2⟩
theorem leastP_le (v n : Nat) (hn : n ≤ 10001) : leastP v (primesTo n) < n ∨ leastP v (primesTo n) = 0 := by
  rcases leastP_mem v (primesTo n) with h | ⟨h, _⟩
  · exact .inr h
  · exact .inl (mem_primesTo.1 h).1
def passB (v : Nat) : Bool := if v < 2 then false else if leastP v (primesTo 1001) = 0 then true else decide (v = leastP v (primesTo 1001))
theorem cap1000 : capOf 1000 + 1 = 1001 := rfl
theorem sgn_eq (u v : Nat) : (sgn u v == 0) = decide (u = v) := by
  unfold sgn
  by_cases h1 : u < v
  · rw [if_pos h1, decide_eq_false (by omega)]; rfl
  · rw [if_neg h1]
    by_cases h2 : u = v
    · rw [if_pos h2, decide_eq_true h2]; rfl
    · rw [if_neg h2, decide_eq_false h2]; rfl
theorem sgn_neg_iff (u v : Nat) : sgn u v < 0 ↔ u < v := by
  unfold sgn
  by_cases h1 : u < v
  · rw [if_pos h1]; exact ⟨fun _ => h1, fun _ => by decide⟩
  · rw [if_neg h1]
    by_cases h2 : u = v
    · rw [if_pos h2]; constructor <;> intro h <;> omega
    · rw [if_neg h2]; constructor <;> intro h <;> omega
theorem rpasses_spec {l : List Int} (h : inB 64 l) (hm : l.length ≤ 400) (k : Nat) (hk : 110000 < k) : sconceref16_Passes.f k l = some (passB (val 64 (nats l))) := by
  have hn := need32_le h
  have hp := leastP_le (val 64 (nats l)) 1001 (by omega)
  unfold sconceref16_Passes.f
  rw [of_spec h (by omega) k (by omega), Option.bind_some, show (2 : Int) = ((2 : Nat) : Int) from rfl, small_spec 2 (by decide) k (by omega), Option.bind_some, cmp_spec _ _ k (by omega) (Nat.le_trans (show need 32 2 ≤ 1 by decide) (by omega)) (by omega), Option.bind_some, passB]
  by_cases h1 : val 64 (nats l) < 2
  · rw [if_pos ((sgn_neg_iff _ _).2 h1), if_pos h1]
  · rw [if_neg (fun x => h1 ((sgn_neg_iff _ _).1 x)), if_neg h1, rfactor_spec h (by omega) 1000 k (by omega), Option.bind_some, cap1000]
    by_cases h2 : leastP (val 64 (nats l)) (primesTo 1001) = 0
    · rw [if_pos (by omega), if_pos h2]
    · rw [if_neg (by omega), if_neg h2, u64_id _ (by omega), small_spec _ (by omega) k (by omega), Option.bind_some, cmp_spec _ _ k (by omega) (Nat.le_trans (need_le (by decide) (show leastP (val 64 (nats l)) (primesTo 1001) < 2 ^ (32 * 1) by omega)) (by omega)) (by omega), Option.bind_some, sgn_eq]
theorem bits_two (v : Nat) : ((bitlen v : Nat) : Int) < 2 ↔ v < 2 := by
  have := lt_pow_iff v 1
  omega
theorem inB_one (p : Nat) (h : p < 2 ^ 64) : inB 64 [(p : Int)] := fun x hx => by
  rw [List.mem_singleton] at hx
  subst hx
  omega
theorem val_one (p : Nat) : val 64 (nats [(p : Int)]) = p := by
  show Int.toNat (p : Int) + 2 ^ 64 * 0 = p
  omega
end Go.Proofs.Ytflchcdmgceecaa.Q
