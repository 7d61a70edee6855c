/- The primes up to a bound, in plain Lean: by trial, in order, and what a sieve strikes. -/
import Derived.Test.YtflchcdmgceecaaHBase
set_option linter.unusedVariables false
set_option linter.unusedSimpArgs false
namespace Go.Proofs.Ytflchcdmgceecaa.Q
open Go.RowKit

def smallN : Nat → Nat → Nat → Bool
  | 0, _, _ => false
  | f + 1, p, d => if d * d ≤ p then (if p % d = 0 then false else smallN f p (d + 1)) else decide (1 < p)
def isP (p : Nat) : Bool := smallN (p + 1) p 2
theorem smallN_iff : ∀ (f p d : Nat), p ≤ f + d → 2 ≤ d → (smallN (f + 1) p d = true ↔ (1 < p ∧ ∀ e, d ≤ e → e * e ≤ p → p % e ≠ 0)) := by
  intro f
  induction f with
  | zero =>
    intro p d hf hd
    have h1 : ¬ d * d ≤ p := by
      have := Nat.mul_le_mul hd (Nat.le_refl d)
      omega
    unfold smallN
    rw [if_neg h1]
    constructor
    · intro h
      refine ⟨of_decide_eq_true h, fun e he hee => ?_⟩
      exact absurd (Nat.le_trans (Nat.mul_le_mul he he) hee) h1
    · rintro ⟨h, _⟩
      exact decide_eq_true h
  | succ f ih =>
    intro p d hf hd
    unfold smallN
    by_cases h1 : d * d ≤ p
    · rw [if_pos h1]
      by_cases h2 : p % d = 0
      · rw [if_pos h2]
        constructor
        · intro h; cases h
        · rintro ⟨_, h⟩
          exact absurd h2 (h d (Nat.le_refl _) h1)
      · rw [if_neg h2, ih p (d + 1) (by omega) (by omega)]
        constructor
        · rintro ⟨h3, h4⟩
          refine ⟨h3, fun e he hee => ?_⟩
          by_cases h5 : e = d
          · rw [h5]; exact h2
          · exact h4 e (by omega) hee
        · rintro ⟨h3, h4⟩
          exact ⟨h3, fun e he hee => h4 e (by omega) hee⟩
    · rw [if_neg h1]
      constructor
      · intro h
        refine ⟨of_decide_eq_true h, fun e he hee => ?_⟩
        exact absurd (Nat.le_trans (Nat.mul_le_mul he he) hee) h1
      · rintro ⟨h, _⟩
        exact decide_eq_true h
theorem isP_iff (p : Nat) : isP p = true ↔ (1 < p ∧ ∀ e, 2 ≤ e → e * e ≤ p → p % e ≠ 0) := smallN_iff p p 2 (by omega) (by omega)
/-- A number that is none has a prime factor whose square is at most it. -/
theorem least_factor : ∀ (p d : Nat), 2 ≤ d → d ≤ p → p % d = 0 → ∃ q, isP q = true ∧ q ≤ d ∧ p % q = 0 ∧ (∀ e, 2 ≤ e → e < q → p % e ≠ 0) := by
  intro p d
  induction d using Nat.strongRecOn with
  | ind d ih =>
    intro h2 hd hm
    by_cases hx : ∃ e, 2 ≤ e ∧ e < d ∧ p % e = 0
    · obtain ⟨e, he2, hed, hem⟩ := hx
      obtain ⟨q, h1, h3, h4⟩ := ih e hed he2 (by omega) hem
      exact ⟨q, h1, by omega, h4⟩
    · refine ⟨d, ?_, Nat.le_refl _, hm, fun e he hed hem => hx ⟨e, he, hed, hem⟩⟩
      rw [isP_iff]
      refine ⟨by omega, fun e he hee hem => hx ⟨e, he, ?_, ?_⟩⟩
      · have := Nat.mul_le_mul he (Nat.le_refl e)
        omega
      · exact Nat.mod_eq_zero_of_dvd (Nat.dvd_trans (Nat.dvd_of_mod_eq_zero hem) (Nat.dvd_of_mod_eq_zero hm))
theorem not_prime {p : Nat} (h2 : 2 ≤ p) : isP p = false ↔ ∃ q, isP q = true ∧ q < p ∧ q * q ≤ p ∧ p % q = 0 := by
  constructor
  · intro h
    have hn : ¬ (1 < p ∧ ∀ e, 2 ≤ e → e * e ≤ p → p % e ≠ 0) := fun x => by rw [(isP_iff p).2 x] at h; cases h
    have hx : ∃ e, 2 ≤ e ∧ e * e ≤ p ∧ p % e = 0 := Classical.byContradiction fun hc => hn ⟨by omega, fun e he hee hem => hc ⟨e, he, hee, hem⟩⟩
    obtain ⟨e, he, hee, hem⟩ := hx
    have hep : e ≤ p := Nat.le_trans (Nat.le_mul_of_pos_left e (by omega)) hee
    obtain ⟨q, hq, hqe, hqm, _⟩ := least_factor p e he hep hem
    refine ⟨q, hq, ?_, Nat.le_trans (Nat.mul_le_mul hqe hqe) hee, hqm⟩
    have := Nat.mul_le_mul he (Nat.le_refl e)
    omega
  · rintro ⟨q, hq, hqp, hqq, hqm⟩
    cases hp : isP p with
    | false => rfl
    | true =>
      have h1 := ((isP_iff q).1 hq).1
      exact absurd hqm (((isP_iff p).1 hp).2 q (by omega) hqq)

/-- The primes below a bound, in order. -/
def primesTo (n : Nat) : List Nat := (List.range n).filter isP
theorem primesTo_succ (n : Nat) : primesTo (n + 1) = primesTo n ++ (if isP n = true then [n] else []) := by
  unfold primesTo
  rw [List.range_succ, List.filter_append]
  by_cases h : isP n = true <;> simp [h]
theorem primesTo_more (n d : Nat) : ∃ r, primesTo (n + d) = primesTo n ++ r := by
  induction d with
  | zero => exact ⟨[], by simp⟩
  | succ d ih =>
    obtain ⟨r, hr⟩ := ih
    exact ⟨r ++ (if isP (n + d) = true then [n + d] else []), by rw [← Nat.add_assoc, primesTo_succ, hr, List.append_assoc]⟩
theorem primesTo_at {p n : Nat} (hp : isP p = true) (h : p ≤ n) : (primesTo (n + 1))[(primesTo p).length]? = some p := by
  obtain ⟨r, hr⟩ := primesTo_more (p + 1) (n - p)
  rw [show p + 1 + (n - p) = n + 1 by omega, primesTo_succ p, if_pos hp] at hr
  rw [hr, List.append_assoc, List.getElem?_append_right (Nat.le_refl _)]
  simp
theorem primesTo_lt {p n : Nat} (hp : isP p = true) (h : p ≤ n) : (primesTo p).length < (primesTo (n + 1)).length := by
  have := primesTo_at hp h
  exact (List.getElem?_eq_some_iff.1 this).1
theorem primesTo_le {p n : Nat} (h : p ≤ n) : (primesTo p).length ≤ (primesTo n).length := by
  obtain ⟨r, hr⟩ := primesTo_more p (n - p)
  rw [show p + (n - p) = n by omega] at hr
  rw [hr, List.length_append]; omega
theorem primesTo_two : primesTo 2 = [] := rfl
theorem primesTo_small {n : Nat} (h : n ≤ 1) : primesTo (n + 1) = [] := by
  match n, h with
  | 0, _ => rfl
  | 1, _ => rfl

/-- What is struck, when the numbers below p are done. -/
def St (n p m : Nat) : Prop := ∃ q, isP q = true ∧ q < p ∧ q * q ≤ m ∧ m % q = 0 ∧ m ≤ n
theorem st_self {n p : Nat} (h2 : 2 ≤ p) (hn : p ≤ n) : St n p p ↔ isP p = false := by
  rw [not_prime h2]
  exact ⟨fun ⟨q, a, b, c, d, _⟩ => ⟨q, a, b, c, d⟩, fun ⟨q, a, b, c, d⟩ => ⟨q, a, b, c, d, hn⟩⟩
theorem st_skip {n p : Nat} (hp : isP p = false) (m : Nat) : St n (p + 1) m ↔ St n p m := by
  constructor
  · rintro ⟨q, a, b, c⟩
    refine ⟨q, a, ?_, c⟩
    by_cases h : q = p
    · subst h; rw [hp] at a; cases a
    · omega
  · rintro ⟨q, a, b, c⟩
    exact ⟨q, a, by omega, c⟩
/-- .. and within the round of p: its multiples below k. -/
def StK (n p k m : Nat) : Prop := St n p m ∨ (p * p ≤ m ∧ m % p = 0 ∧ m ≤ n ∧ m < k)
theorem stK_start (n p m : Nat) : StK n p (p * p) m ↔ St n p m := ⟨fun h => h.elim id (fun x => by omega), .inl⟩
theorem stK_end {n p k : Nat} (hp : isP p = true) (hk : n < k) (m : Nat) : StK n p k m ↔ St n (p + 1) m := by
  constructor
  · rintro (⟨q, a, b, c⟩ | ⟨a, b, c, _⟩)
    · exact ⟨q, a, by omega, c⟩
    · exact ⟨p, hp, by omega, a, b, c⟩
  · rintro ⟨q, a, b, c, d, e⟩
    by_cases h : q = p
    · subst h; exact .inr ⟨c, d, e, by omega⟩
    · exact .inl ⟨q, a, by omega, c, d, e⟩
theorem stK_step {n p k : Nat} (h0 : 0 < p) (hk : k ≤ n) (hpk : p * p ≤ k) (hm : k % p = 0) (m : Nat) : StK n p (k + p) m ↔ (m = k ∨ StK n p k m) := by
  constructor
  · rintro (h | ⟨a, b, c, d⟩)
    · exact .inr (.inl h)
    · by_cases h : m < k
      · exact .inr (.inr ⟨a, b, c, h⟩)
      · left
        have h1 : (m - k) % p = 0 := by
          have := Nat.sub_mod_eq_zero_of_mod_eq (m := m) (n := k) (k := p) (by rw [b, hm])
          exact this
        have h2 : m - k < p := by omega
        rw [Nat.mod_eq_of_lt h2] at h1
        omega
  · rintro (rfl | h | ⟨a, b, c, d⟩)
    · exact .inr ⟨hpk, hm, hk, by omega⟩
    · exact .inl h
    · exact .inr ⟨a, b, c, by omega⟩
end Go.Proofs.Ytflchcdmgceecaa.Q
