/- The plain law of SieveLeast. -/
import Derived.Test.YtflchcdmgceecaaPSieveLeastx1
import Derived.Test.YtflchcdmgceecaaPMx1
import Derived.Test.YtflchcdmgceecaaQSieve
set_option linter.unusedVariables false
set_option linter.unusedSimpArgs false
namespace Go.Proofs.Ytflchcdmgceecaa.Q
open Go.Proofs.Ytflchcdmgceecaa.H Go.RowKit Go.Proofs.YtflchcdmgceecaaW.PrintWords Go.Proofs.YtflchcdmgceecaaW.PrintLast Go.Proofs.Ytflchcdmgceecaa.PA Go.Proofs.Ytflchcdmgceecaa.PR Go.Proofs.Ytflchcdmgceecaa.PM Go.Proofs.Ytflchcdmgceecaa.Num

theorem mod_step' (v i : Nat) : v % 2 ^ (32 * (i + 1)) = v % 2 ^ (32 * i) + 2 ^ (32 * i) * (v / 2 ^ (32 * i) % 2 ^ 32) := by
  rw [show 32 * (i + 1) = 32 * i + 32 by omega, Nat.pow_add, Nat.mod_mul]
theorem mul_fits {c a y o : Nat} (hc : c < 2 ^ 32) (ha : a < 2 ^ 32) (hy : y < 2 ^ 32) (ho : o < 2 ^ 32) : c + (a * y + o) < 18446744073709551616 := by
  have h1 : a * y ≤ 4294967295 * 4294967295 := Nat.mul_le_mul (by omega) (by omega)
  omega
theorem mul_wraps {c a y o : Nat} (hc : c < 2 ^ 32) (ha : a < 2 ^ 32) (hy : y < 2 ^ 32) (ho : o < 2 ^ 32) :
    IntKind.u64.wrap ((c : Int) + IntKind.u64.wrap (IntKind.u64.wrap (IntKind.u64.wrap (a : Int) * IntKind.u64.wrap (y : Int)) + IntKind.u64.wrap (o : Int))) = ((c + (a * y + o) : Nat) : Int) := by
  have h0 := mul_fits hc ha hy ho
  rw [wz (a : Int) (by omega) (by omega), wz (y : Int) (by omega) (by omega), wz (o : Int) (by omega) (by omega), ← Int.natCast_mul]
  generalize a * y = M at h0 ⊢
  rw [wz (M : Int) (by omega) (by omega), wz ((M : Int) + (o : Int)) (by omega) (by omega), wz ((c : Int) + ((M : Int) + (o : Int))) (by omega) (by omega)]
  omega
theorem mul_arith (V P c M o Y C X : Nat) (hX : V + c * P = X) (ht : c + (M + o) = C * 2 ^ 32 + Y) (V' : Nat) (hset : V' + o * P = V + Y * P) : V' + C * (P * 2 ^ 32) = X + M * P := by
  have h1 : (c + (M + o)) * P = (C * 2 ^ 32 + Y) * P := by rw [ht]
  have h2 : C * 2 ^ 32 * P = C * (P * 2 ^ 32) := by rw [Nat.mul_assoc, Nat.mul_comm (2 ^ 32)]
  rw [Nat.add_mul, Nat.add_mul, Nat.add_mul, h2] at h1
  omega
theorem mul_inner (u v : Nat) (hu : need 32 u ≤ 1000000) (hv : need 32 v ≤ 1000000) (i : Nat) (hi : i < need 32 u) (R : Option (List Int)) (K : Nat)
    (hnext : ∀ (k : Nat) (out : List Nat), K < k → ok 32 out → out.length = need 32 u + need 32 v → val 32 out = u % 2 ^ (32 * (i + 1)) * v →
      sconceref03_Mul.l0 k (B v) (ints out) (B u) ((B u).length : Int) ((i + 1 : Nat) : Int) = R) (d : Nat) :
    ∀ (k j c : Nat) (out : List Nat), j + d = need 32 v → K + d + 1 < k → ok 32 out → out.length = need 32 u + need 32 v → c < 2 ^ 32 → out.getD (i + need 32 v) 0 = 0 →
      val 32 out + c * 2 ^ (32 * (i + j)) = u % 2 ^ (32 * i) * v + (u / 2 ^ (32 * i) % 2 ^ 32 * (v % 2 ^ (32 * j))) * 2 ^ (32 * i) →
      sconceref03_Mul.l1 k (B v) (ints out) (i : Int) ((u / 2 ^ (32 * i) % 2 ^ 32 : Nat) : Int) (c : Int) (B u) ((B u).length : Int) (i : Int) (B v) ((B v).length : Int) (j : Int) = R := by
  induction d with
  | zero =>
    intro k j c out hj hk hok hl hc h0 hval
    obtain ⟨k, rfl⟩ : ∃ m, k = m + 1 := ⟨k - 1, by omega⟩
    unfold sconceref03_Mul.l1
    rw [if_neg (by rw [B_length]; omega), B_length, w64 (x := (i : Int) + ((need 32 v : Nat) : Int)) (by omega) (by omega), if_pos (by omega), if_pos (by rw [ints_length]; omega), w64 (x := (i : Int) + 1) (by omega) (by omega)]
    have e1 : (ints out).set ((i : Int) + ((need 32 v : Nat) : Int)).toNat ((c : Int) % 4294967296) = ints (out.set (i + need 32 v) c) := by
      rw [show ((i : Int) + ((need 32 v : Nat) : Int)).toNat = i + need 32 v by omega, show (c : Int) % 4294967296 = Int.ofNat c by
        show (c : Int) % 4294967296 = (c : Int)
        omega]
      simp [ints, List.map_set]
    rw [e1]
    refine hnext k _ (by omega) (ok_set hok _ _ hc) (by rw [List.length_set]; exact hl) ?_
    have hs := val_set 32 out (i + need 32 v) c (by omega)
    rw [h0, Nat.zero_mul, Nat.add_zero] at hs
    rw [hs, show i + need 32 v = i + j by omega, hval, mod_step', Nat.mod_eq_of_lt (a := v) (by rw [show j = need 32 v by omega]; exact lt_need (by decide) v), Nat.add_mul]
    congr 1
    ac_rfl
  | succ d ih =>
    intro k j c out hj hk hok hl hc h0 hval
    obtain ⟨k, rfl⟩ : ∃ m, k = m + 1 := ⟨k - 1, by omega⟩
    unfold sconceref03_Mul.l1
    rw [if_pos (by rw [B_length]; omega), if_pos (by omega), if_pos (by rw [B_length]; omega), w64 (x := (i : Int) + (j : Int)) (by omega) (by omega), if_pos (by omega), if_pos (by rw [ints_length]; omega), w64 (x := (j : Int) + 1) (by omega) (by omega)]
    have ho : out.getD (i + j) 0 < 2 ^ 32 := ok_getD hok _
    have ha : u / 2 ^ (32 * i) % 2 ^ 32 < 2 ^ 32 := Nat.mod_lt _ (by decide)
    have hy : v / 2 ^ (32 * j) % 2 ^ 32 < 2 ^ 32 := Nat.mod_lt _ (by decide)
    have hro : rd (ints out) ((i : Int) + (j : Int)) = ((out.getD (i + j) 0 : Nat) : Int) := by rw [rd_ints]; congr 2
    have hms := mod_step' v j
    have hs := val_set 32 out (i + j)
    rw [rd_B, hro, mul_wraps hc ha hy ho]
    have hfit := mul_fits hc ha hy ho
    generalize u / 2 ^ (32 * i) % 2 ^ 32 = a at ha hval hfit hnext ih ⊢
    generalize v / 2 ^ (32 * j) % 2 ^ 32 = y at hy hms hfit ⊢
    generalize out.getD (i + j) 0 = o at ho hs hfit ⊢
    obtain ⟨t, ht⟩ : ∃ t, t = c + (a * y + o) := ⟨_, rfl⟩
    rw [← ht] at hfit ⊢
    have e1 : (ints out).set ((i : Int) + (j : Int)).toNat ((t : Int) % 4294967296) = ints (out.set (i + j) (t % 2 ^ 32)) := by
      rw [show ((i : Int) + (j : Int)).toNat = i + j by omega, show (t : Int) % 4294967296 = Int.ofNat (t % 2 ^ 32) by
        show (t : Int) % 4294967296 = ((t % 2 ^ 32 : Nat) : Int)
        omega]
      simp [ints, List.map_set]
    have e2 : (t : Int) / 4294967296 = ((t / 2 ^ 32 : Nat) : Int) := by omega
    have e3 : (j : Int) + 1 = ((j + 1 : Nat) : Int) := by omega
    rw [e1, e2, e3]
    refine ih k (j + 1) _ _ (by omega) (by omega) (ok_set hok _ _ (Nat.mod_lt _ (by decide))) (by rw [List.length_set]; exact hl) (by omega) ?_ ?_
    · rw [List.getD_eq_getElem?_getD, List.getElem?_set_ne (by omega), ← List.getD_eq_getElem?_getD]; exact h0
    · have hs1 := hs (t % 2 ^ 32) (by omega)
      have hdm : c + (a * y + o) = t / 2 ^ 32 * 2 ^ 32 + t % 2 ^ 32 := by rw [← ht]; exact (Nat.div_add_mod' _ _).symm
      have h3 := mul_arith _ _ c (a * y) o (t % 2 ^ 32) (t / 2 ^ 32) _ hval hdm _ hs1
      have hP : 2 ^ (32 * (i + j)) = 2 ^ (32 * i) * 2 ^ (32 * j) := by rw [← Nat.pow_add]; congr 1; omega
      rw [show 2 ^ (32 * (i + (j + 1))) = 2 ^ (32 * (i + j)) * 2 ^ 32 by rw [← Nat.pow_add]; congr 1, h3, hms, hP]
      generalize 2 ^ (32 * i) = A
      generalize 2 ^ (32 * j) = B
      generalize u % A * v = X
      rw [Nat.mul_add a, Nat.add_mul, Nat.add_assoc]
      congr 2
      ac_rfl
theorem mul_outer (u v : Nat) (hu : need 32 u ≤ 1000000) (hv : need 32 v ≤ 1000000) (d : Nat) : ∀ (k i : Nat) (out : List Nat), i + d = need 32 u → (d + 1) * (need 32 v + 3) + need 32 u + need 32 v + 5 < k → ok 32 out → out.length = need 32 u + need 32 v → val 32 out = u % 2 ^ (32 * i) * v →
    sconceref03_Mul.l0 k (B v) (ints out) (B u) ((B u).length : Int) (i : Int) = some (B (u * v)) := by
  induction d with
  | zero =>
    intro k i out hi hk hok hl hval
    obtain ⟨k, rfl⟩ : ∃ m, k = m + 1 := ⟨k - 1, by omega⟩
    unfold sconceref03_Mul.l0
    rw [if_neg (by rw [B_length]; omega), trim_spec out k hok (by omega) (by omega), Option.bind_some, hval, Nat.mod_eq_of_lt]
    rw [show i = need 32 u by omega]
    exact lt_need (by decide) u
  | succ d ih =>
    intro k i out hi hk hok hl hval
    obtain ⟨k, rfl⟩ : ∃ m, k = m + 1 := ⟨k - 1, by omega⟩
    rw [Nat.add_mul (d + 1) 1] at hk
    unfold sconceref03_Mul.l0
    rw [if_pos (by rw [B_length]; omega), if_pos (by omega), if_pos (by rw [B_length]; omega), rd_B]
    refine mul_inner u v hu hv i (by omega) _ ((d + 1) * (need 32 v + 3) + need 32 u + need 32 v + 5) (fun k' out' hk' hok' hl' hval' => ih k' (i + 1) out' (by omega) hk' hok' hl' hval') (need 32 v) k 0 0 out (by omega) (by omega) hok hl (by decide) ?_ ?_
    · rw [getD_val hok, hval]
      have h1 : u % 2 ^ (32 * i) * v < 2 ^ (32 * i) * 2 ^ (32 * need 32 v) := Nat.mul_lt_mul_of_lt_of_lt (Nat.mod_lt _ (Nat.pow_pos (by decide))) (lt_need (by decide) v)
      rw [← Nat.pow_add, show 32 * i + 32 * need 32 v = 32 * (i + need 32 v) by omega] at h1
      rw [Nat.div_eq_of_lt h1]
    · rw [hval, Nat.zero_mul, Nat.mul_zero, Nat.pow_zero, Nat.mod_one, Nat.mul_zero, Nat.zero_mul]
theorem mul_spec (u v k : Nat) (hu : need 32 u ≤ 1000000) (hv : need 32 v ≤ 1000000) (hk : (need 32 u + 1) * (need 32 v + 3) + need 32 u + need 32 v + 5 < k) : sconceref03_Mul.f k (B u) (B v) = some (B (u * v)) := by
  unfold sconceref03_Mul.f
  rw [B_length, B_length, w64 (by omega) (by omega), if_pos (by omega), if_pos (by omega), show (((need 32 u : Nat) : Int) + ((need 32 v : Nat) : Int)).toNat = need 32 u + need 32 v by omega]
  have h1 := mul_outer u v hu hv (need 32 u) k 0 (List.replicate (need 32 u + need 32 v) 0) (by omega) hk (fun x hx => by rw [List.eq_of_mem_replicate hx]; decide) (by simp) (by rw [val_zeros, Nat.mul_zero, Nat.pow_zero, Nat.mod_one, Nat.zero_mul])
  rw [B_length] at h1
  have e1 : ints (List.replicate (need 32 u + need 32 v) 0) = List.replicate (need 32 u + need 32 v) 0 := by simp [ints]
  rw [e1] at h1
  exact h1
end Go.Proofs.Ytflchcdmgceecaa.Q

namespace Go.Proofs.Ytflchcdmgceecaa.Pure
open Go.RowKit Go.Proofs.Ytflchcdmgceecaa.PSieveLeast Go.Proofs.YtflchcdmgceecaaW.PrintWords Go.Proofs.YtflchcdmgceecaaW.PrintLast Go.Proofs.Ytflchcdmgceecaa.H Go.Proofs.Ytflchcdmgceecaa.PA Go.Proofs.Ytflchcdmgceecaa.PR Go.Proofs.Ytflchcdmgceecaa.PM Go.Proofs.Ytflchcdmgceecaa.Num Go.Proofs.Ytflchcdmgceecaa.Q

theorem passes_spec {l : List Int} (h : inB 64 l) (hm : l.length ≤ 400) (k : Nat) (hk : 1000 < k) : sieve_Passes.f k l = some (passB (val 64 (nats l))) := by
  have hp := leastP_le (val 64 (nats l)) 1001 (by omega)
  unfold sieve_Passes.f
  rw [bits_spec h (by omega) k (by omega), Option.bind_some, passB]
  by_cases h1 : val 64 (nats l) < 2
  · rw [if_pos ((bits_two _).2 h1), if_pos h1]
  · rw [if_neg (fun x => h1 ((bits_two _).1 x)), if_neg h1, factor_spec h (by omega) 1000 k (by omega), Option.bind_some, cap1000]
    by_cases h2 : leastP (val 64 (nats l)) (primesTo 1001) = 0
    · rw [if_pos (by omega), if_pos h2]
    · have hb := inB_one (leastP (val 64 (nats l)) (primesTo 1001)) (by omega)
      rw [if_neg (by omega), if_neg h2, u64_id _ (by omega), compare_spec h hb (by omega) (by simp) k (by simp; omega), Option.bind_some, val_one, sgn_eq]
theorem awake_ok (k : Nat) (hk : 1000 < k) : sconcelaw16_awake.f k = some true := by
  unfold sconcelaw16_awake.f sieve_Primes.f
  rw [Option.bind_some, show primesL 10 = [2, 3, 5, 7] by decide +kernel]
  rw [if_pos (by decide), if_pos (by decide), if_pos (by decide), show (91 : Int) = ((91 : Nat) : Int) from rfl, factor_spec (inB_one 91 (by decide)) (by simp) 10 k (by simp; omega), Option.bind_some, val_one, show ((leastP 91 (primesTo (capOf 10 + 1)) : Nat) : Int) = 7 by decide +kernel,
    if_pos rfl, show (1000003 : Int) = ((1000003 : Nat) : Int) from rfl, passes_spec (inB_one 1000003 (by decide)) (by simp) k hk, Option.bind_some, val_one, show passB 1000003 = true by decide +kernel]
theorem least_spec' (v k : Nat) (h : need 32 v ≤ 1000000) (hk : 1000000 < k) : sconceref03_Least.f k (B v) = some (ints (digs 64 (max (need 64 v) 1) v)) := by
  unfold sconceref03_Least.f
  have h64 : need 64 v ≤ 1000000 := by rw [← words_need]; omega
  rw [words_spec v (by omega), Option.bind_some]
  have : mx ((need 64 v : Nat) : Int) 1 = ((max (need 64 v) 1 : Nat) : Int) := by unfold mx; split <;> omega
  rw [this, nat_spec v _ (by omega) k (by omega)]
  rfl
theorem isP_dvd {p e : Nat} (hp : isP p = true) (he : e ∣ p) : e = 1 ∨ e = p := by
  have h := (isP_iff p).1 hp
  obtain ⟨c, rfl⟩ := he
  by_cases h1 : e ≤ 1
  · have : e ≠ 0 := by rintro rfl; rw [Nat.zero_mul] at h; omega
    exact .inl (by omega)
  by_cases hc1 : c ≤ 1
  · have hc0 : c ≠ 0 := by rintro rfl; rw [Nat.mul_zero] at h; omega
    exact .inr (by rw [show c = 1 by omega, Nat.mul_one])
  rcases Nat.le_total e c with hle | hle
  · exact absurd (Nat.mul_mod_right e c) (h.2 e (by omega) (Nat.mul_le_mul_left e hle))
  · exact absurd (Nat.mul_mod_left e c) (h.2 c (by omega) (Nat.mul_le_mul_right c hle))
theorem prime_mul {p q v : Nat} (hp : isP p = true) (hq : isP q = true) (hne : q ≠ p) (hv : v % q ≠ 0) : v * p % q ≠ 0 := by
  intro h
  have hd : q ∣ v * p := Nat.dvd_of_mod_eq_zero h
  have h1 : q ≠ 1 := by have := (isP_iff q).1 hq; omega
  have hc : Nat.Coprime q v := by
    rcases isP_dvd hq (Nat.gcd_dvd_left q v) with h2 | h2
    · exact h2
    · exact absurd (Nat.mod_eq_zero_of_dvd (h2 ▸ Nat.gcd_dvd_right q v)) hv
  rcases isP_dvd hp (hc.dvd_of_dvd_mul_left hd) with h2 | h2
  · exact h1 h2
  · exact hne h2
theorem leastP_mul (v p : Nat) (hp : isP p = true) : ∀ l : List Nat, (∀ q ∈ l, isP q = true) → leastP v l = p → leastP (v * p) l = p
  | [], _, h => h
  | q :: r, hq, h => by
    rw [leastP] at h ⊢
    by_cases h0 : v % q = 0
    · rw [if_pos h0] at h
      rw [if_pos (by rw [Nat.mul_mod, h0, Nat.zero_mul, Nat.zero_mod]), h]
    · rw [if_neg h0] at h
      by_cases hne : q = p
      · subst hne
        rw [if_pos (Nat.mul_mod_left _ _)]
      · rw [if_neg (prime_mul hp (hq q (List.mem_cons_self ..)) hne h0)]
        exact leastP_mul v p hp r (fun x hx => hq x (List.mem_cons_of_mem _ hx)) h
theorem leastP_min (v : Nat) (n : Nat) (hn : n ≤ 10001) (q : Nat) (hq : isP q = true) (hqn : q < n) (hv : v % q = 0) : leastP v (primesTo n) ≠ 0 ∧ leastP v (primesTo n) ≤ q := by
  obtain ⟨d, rfl⟩ : ∃ d, n = q + 1 + d := ⟨n - (q + 1), by omega⟩
  obtain ⟨r, hr⟩ := primesTo_more (q + 1) d
  have hs := primesTo_succ q
  rw [hq, if_pos rfl] at hs
  have hq2 := (isP_iff q).1 hq
  by_cases h0 : leastP v (primesTo q) = 0
  · have e1 : leastP v (primesTo (q + 1)) = q := by
      rw [hs, leastP_none _ _ _ h0 (fun p hp => (primesTo_pos q (by omega) p hp).1), leastP, if_pos hv]
    rw [hr, leastP_some _ _ _ (by omega), e1]
    omega
  · rw [hr, leastP_some _ _ _ (by rw [hs, leastP_some _ _ _ h0]; exact h0), hs, leastP_some _ _ _ h0]
    rcases leastP_le v q (by omega) with h | h
    · exact ⟨h0, by omega⟩
    · exact absurd h h0
theorem rest_ne (v n d : Nat) (hn : n ≤ 10001) (h2 : 2 ≤ d) (hd : d < n) (h : leastP v (primesTo n) = 0 ∨ d < leastP v (primesTo n)) : v % d ≠ 0 := by
  intro hv
  obtain ⟨q, hq, hqd, hdq, _⟩ := least_factor d d h2 (Nat.le_refl _) (Nat.mod_self d)
  have hvq : v % q = 0 := Nat.mod_eq_zero_of_dvd (Nat.dvd_trans (Nat.dvd_of_mod_eq_zero hdq) (Nat.dvd_of_mod_eq_zero hv))
  have := leastP_min v n hn q hq (by omega) hvq
  omega
theorem pow_step (v a b : Nat) (h : v < 2 ^ a) (hab : a ≤ b) : v < 2 ^ b := Nat.lt_of_lt_of_le h (Nat.pow_le_pow_right (by decide) hab)
theorem mul_pow (v p a b : Nat) (hv : v < 2 ^ a) (hp : p < 2 ^ b) : v * p < 2 ^ (a + b) := by
  rw [Nat.pow_add]
  exact Nat.mul_lt_mul_of_lt_of_lt hv hp
theorem mul_need (v p a b c : Nat) (hv : v < 2 ^ a) (hp : p < 2 ^ b) (h : a + b ≤ 32 * c) : need 32 (v * p) ≤ c := need_le (by decide) (pow_step _ _ _ (mul_pow _ _ _ _ hv hp) h)
theorem law_loop {l : List Int} (hb : inB 64 l) (hl : l.length ≤ 6) (a : Int) (ha : a ≤ 1500) (p : Nat) (hp : p = leastP (val 64 (nats l)) (primesTo (capOf a + 1))) (e : Nat) :
    ∀ (k d : Nat), 2 ≤ d → d + e = 1501 → 2000010 + 2 * e < k → sconcelaw16_SieveLeast.l0 k l a (p : Int) (d : Int) = some true := by
  have hcap : capOf a ≤ 1500 := by unfold capOf; split <;> omega
  have hlt : leastP (val 64 (nats l)) (primesTo (capOf a + 1)) < capOf a + 1 ∨ leastP (val 64 (nats l)) (primesTo (capOf a + 1)) = 0 := leastP_le _ _ (by omega)
  have hend : ∀ (k d : Nat), 2000000 ≤ k → sconcelaw16_SieveLeast.j2 (k + 1) l a (p : Int) (d : Int) false = some true := by
    intro k d hk
    unfold sconcelaw16_SieveLeast.j2
    (try dsimp only)
    rw [if_neg (by decide)]
    by_cases h0 : p = 0
    · rw [if_pos (by omega)]
    · rcases leastP_mem (val 64 (nats l)) (primesTo (capOf a + 1)) with h1 | ⟨h1, h2⟩
      · exact absurd (hp.trans h1) h0
      rw [← hp] at h1 h2 hlt
      have h3 := mem_primesTo.1 h1
      have h4 := (isP_iff p).1 h3.2
      have hpos : ∀ q ∈ primesTo (capOf a + 1), isP q = true := fun q hq => (mem_primesTo.1 hq).2
      have hn := need32_le hb
      have hnp : need 32 p ≤ 1 := need_le (by decide) (by omega)
      have hvl := val_lt (ok_nats hb)
      rw [nats_length] at hvl
      have hmul : need 32 (val 64 (nats l) * p) ≤ 13 := mul_need _ _ (64 * l.length) 11 13 hvl (Nat.lt_of_lt_of_le (show p < 1502 by omega) (show 1502 ≤ 2 ^ 11 by decide)) (by omega)
      clear hvl
      have hw : need 64 (val 64 (nats l) * p) ≤ 7 := by rw [← words_need]; omega
      have hy : inB 64 (ints (digs 64 (max (need 64 (val 64 (nats l) * p)) 1) (val 64 (nats l) * p))) := inB_ints (digs_ok _ _ _)
      have hyv : val 64 (nats (ints (digs 64 (max (need 64 (val 64 (nats l) * p)) 1) (val 64 (nats l) * p)))) = val 64 (nats l) * p := by
        rw [nats_ints, val_digs_lt]
        refine Nat.lt_of_lt_of_le (lt_need (b := 64) (by decide) _) (Nat.pow_le_pow_right (by decide) (by omega))
      have hk1 : (need 32 (val 64 (nats l)) + 1) * (need 32 p + 3) ≤ 13 * 4 := Nat.mul_le_mul (by omega) (by omega)
      rw [if_neg (by omega), u64_id p (by omega), rsmall_spec hb (by omega) p (by omega) (by omega) k (by omega), Option.bind_some, of_spec hb (by omega) k (by omega), Option.bind_some, small_spec p (by omega) k (by omega), Option.bind_some,
        mul_spec _ _ k (by omega) (by omega) (by omega), Option.bind_some, least_spec' _ k (by omega) (by omega), Option.bind_some]
      have hpa : (p : Int) ≤ a := by
        have h5 := h3.1
        unfold capOf at h5
        split at h5 <;> omega
      rw [if_pos (show ((val 64 (nats l) % p : Nat) : Int) = 0 by rw [h2]; rfl), if_pos (by omega), if_pos hpa, factor_spec hy (by rw [ints_length, digs_length]; omega) a k (by rw [ints_length, digs_length]; omega), hyv, Option.bind_some,
        leastP_mul _ p h3.2 _ hpos hp.symm, beq_self_eq_true]
  induction e with
  | zero =>
    intro k d hd he hk
    obtain ⟨k, rfl⟩ : ∃ j, k = j + 1 := ⟨k - 1, by omega⟩
    obtain ⟨k, rfl⟩ : ∃ j, k = j + 1 := ⟨k - 1, by omega⟩
    unfold sconcelaw16_SieveLeast.l0
    rw [if_neg (by omega)]
    exact hend k d (by omega)
  | succ e ih =>
    intro k d hd he hk
    obtain ⟨k, rfl⟩ : ∃ j, k = j + 1 := ⟨k - 1, by omega⟩
    obtain ⟨k, rfl⟩ : ∃ j, k = j + 1 := ⟨k - 1, by omega⟩
    have hon : (d : Int) ≤ a → (p = 0 ∨ d < p) → sconcelaw16_SieveLeast.j2 (k + 1) l a (p : Int) (d : Int) true = some true := by
      intro hda hdp
      have hne : val 64 (nats l) % d ≠ 0 := rest_ne _ (capOf a + 1) d (by omega) hd (by unfold capOf; split <;> omega) (by rw [← hp]; exact hdp)
      unfold sconcelaw16_SieveLeast.j2
      (try dsimp only)
      rw [if_pos rfl, u64_id d (by omega), rsmall_spec hb (by omega) d (by omega) (by omega) k (by omega), Option.bind_some]
      (try dsimp only)
      rw [if_neg (by omega), w64 (by omega) (by omega)]
      exact ih k (d + 1) (by omega) (by omega) (by omega)
    unfold sconcelaw16_SieveLeast.l0
    by_cases hda : (d : Int) ≤ a
    · rw [if_pos hda]
      by_cases h0 : (p : Int) = 0
      · rw [if_pos h0]; exact hon hda (.inl (by omega))
      · rw [if_neg h0]
        by_cases h1 : (d : Int) < (p : Int)
        · rw [decide_eq_true h1]; exact hon hda (.inr (by omega))
        · rw [decide_eq_false h1]; exact hend k d (by omega)
    · rw [if_neg hda]; exact hend k d (by omega)
theorem j0_ok (k : Nat) {l : List Int} (hb : inB 64 l) (a : Int) (b : Bool) (hk : 2100000 < k) (h : b = true ∨ (l.length ≤ 6 ∧ a ≤ 1500)) : sconcelaw16_SieveLeast.j0 k l a b = some true := by
  obtain ⟨k, rfl⟩ : ∃ j, k = j + 1 := ⟨k - 1, by omega⟩
  unfold sconcelaw16_SieveLeast.j0
  (try dsimp only)
  by_cases h0 : b = true
  · rw [if_pos h0]
  · have hl : l.length ≤ 6 ∧ a ≤ 1500 := by
      rcases h with h | h
      · exact absurd h h0
      · exact h
    rw [if_neg h0, factor_spec hb (by omega) a k (by omega), Option.bind_some]
    exact law_loop hb hl.1 a hl.2 _ rfl 1499 k 2 (by omega) (by omega) (by omega)
theorem SieveLeast : sconcelaw16_SieveLeast.Pure := by
  intro l a hm1 hm2 hw hw2
  have hb : inB 64 l := inB_of_wf_u64 hw
  refine ⟨2200000, ?_⟩
  unfold sconcelaw16_SieveLeast.f sconcelaw16_Few.f
  rw [awake_ok _ (by omega), Option.bind_some, if_pos rfl, Option.bind_some]
  by_cases h6 : (l.length : Int) ≤ 6
  · rw [decide_eq_true h6, if_pos rfl]
    by_cases h7 : a > 1500
    · rw [decide_eq_true h7]; exact j0_ok _ hb _ _ (by omega) (.inl rfl)
    · exact j0_ok _ hb _ _ (by omega) (.inr ⟨by omega, by omega⟩)
  · rw [decide_eq_false h6, if_neg (by decide)]
    exact j0_ok _ hb _ _ (by omega) (.inl rfl)
end Go.Proofs.Ytflchcdmgceecaa.Pure
