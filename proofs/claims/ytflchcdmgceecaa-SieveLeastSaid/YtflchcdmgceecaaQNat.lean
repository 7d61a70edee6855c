/- What word.Get's printed text answers: the number of up to eight bytes. -/
import Derived.Test.YtflchcdmgceecaaPAx
import Derived.Test.YtflchcdmgceecaaNum2
set_option linter.unusedVariables false
set_option linter.unusedSimpArgs false
namespace Go.Proofs.Ytflchcdmgceecaa.Q
open Go.RowKit Go.Proofs.Ytflchcdmgceecaa.PA Go.Proofs.YtflchcdmgceecaaW.PrintWords Go.Proofs.YtflchcdmgceecaaW.PrintLast Go.Proofs.Ytflchcdmgceecaa.Num

theorem wrap64_small {x : Int} (h0 : 0 ≤ x) (h : x < 9223372036854775807) : wrap64 (x + 1) = x + 1 := by
  unfold wrap64
  omega

/-- One byte more behind. -/
theorem or_byte (A b : Nat) (hA : A < 72057594037927936) (hb : b < 256) : Go.bits .or .u64 (IntKind.u64.wrap ((A : Int) * 256)) (IntKind.u64.wrap (b : Int)) = ((b + 256 * A : Nat) : Int) := by
  have e1 : IntKind.u64.wrap ((A : Int) * 256) = ((A * 256 : Nat) : Int) := by rw [IntKind.wrap_u64, Int.natCast_mul]; omega
  have e2 : IntKind.u64.wrap (b : Int) = (b : Int) := by rw [IntKind.wrap_u64]; omega
  rw [e1, e2, u64_or_nat _ _ (by omega) (by omega), nat_join 8 (A * 256) b (by omega) (by omega)]
  congr 1
  omega

theorem get_loop (l : List Int) (h : inB 8 l) (hl : l.length ≤ 8) (d : Nat) : ∀ (k i : Nat), i + d = l.length → d < k → word_Get.l0 k l (be (l.take i) : Nat) l.length i = some ((be l : Nat) : Int) := by
  induction d with
  | zero =>
    intro k i hi hk
    obtain ⟨k, rfl⟩ : ∃ m, k = m + 1 := ⟨k - 1, by omega⟩
    simp only [word_Get.l0]
    rw [if_neg (by omega), List.take_of_length_le (by omega)]
  | succ d ih =>
    intro k i hi hk
    obtain ⟨k, rfl⟩ : ∃ m, k = m + 1 := ⟨k - 1, by omega⟩
    simp only [word_Get.l0]
    have hb := be_lt (inB_take h i)
    rw [List.length_take, Nat.min_eq_left (by omega)] at hb
    have hA : be (l.take i) < 72057594037927936 := Nat.lt_of_lt_of_le hb (Nat.le_trans (Nat.pow_le_pow_right (by decide) (show i ≤ 7 by omega)) (by decide))
    have hr := rd_inB h (i : Int)
    have hr2 : rd l (i : Int) = ((rd l (i : Int)).toNat : Int) := (Int.toNat_of_nonneg hr.1).symm
    rw [if_pos (by omega), if_pos (by omega), if_pos (by omega), hr2, or_byte _ _ hA (by omega), wrap64_small (by omega) (by omega)]
    have := ih k (i + 1) (by omega) (by omega)
    rw [be_take_succ l i (by omega)] at this
    exact this

theorem get_spec (l : List Int) (h : inB 8 l) (hl : l.length ≤ 8) (k : Nat) (hk : 8 < k) : word_Get.f k l = some ((be l : Nat) : Int) := by
  unfold word_Get.f
  rw [show mn (l.length : Int) 8 = (l.length : Int) by unfold mn; omega]
  exact get_loop l h hl l.length k 0 (by omega) (by omega)
end Go.Proofs.Ytflchcdmgceecaa.Q

set_option linter.unusedVariables false
set_option linter.unusedSimpArgs false
namespace Go.Proofs.Ytflchcdmgceecaa.Q
open Go.Proofs.Ytflchcdmgceecaa.H Go.RowKit Go.Proofs.YtflchcdmgceecaaW.PrintWords Go.Proofs.YtflchcdmgceecaaW.PrintLast Go.Proofs.Ytflchcdmgceecaa.PA Go.Proofs.Ytflchcdmgceecaa.Num

theorem w64 {x : Int} (h0 : -9223372036854775808 ≤ x) (h : x < 9223372036854775808) : wrap64 x = x := by
  unfold wrap64
  omega
theorem rdN {l : List Int} (h : inB 64 l) (n : Nat) : rd l (n : Int) = ((val 64 (nats l) / 2 ^ (64 * n) % 2 ^ 64 : Nat) : Int) := by
  rw [rd_nats h, Int.toNat_natCast, getD_val (ok_nats h)]

/-- How many words a number needs, as the program counts them. -/
theorem least_loop (l : List Int) (h : inB 64 l) (hm : l.length ≤ 140737488351232) : ∀ (n k : Nat), n ≤ l.length → need 64 (val 64 (nats l)) ≤ n → n < k → nat_least.l0 k l (n : Int) = some ((need 64 (val 64 (nats l)) : Nat) : Int) := by
  intro n
  induction n with
  | zero =>
    intro k _ hn hk
    obtain ⟨k, rfl⟩ : ∃ j, k = j + 1 := ⟨k - 1, by omega⟩
    simp [nat_least.l0, show need 64 (val 64 (nats l)) = 0 by omega]
  | succ n ih =>
    intro k hl hn hk
    obtain ⟨k, rfl⟩ : ∃ j, k = j + 1 := ⟨k - 1, by omega⟩
    have hw : wrap64 (((n + 1 : Nat) : Int) - 1) = (n : Int) := by rw [w64] <;> omega
    simp only [nat_least.l0, hw]
    rw [if_pos (by omega), if_pos (by omega), if_pos (by omega), rdN h]
    have hlt : val 64 (nats l) < 2 ^ (64 * (n + 1)) := (need_spec (by decide) _ _).1 hn
    have hq : val 64 (nats l) / 2 ^ (64 * n) < 2 ^ 64 := by
      rw [Nat.div_lt_iff_lt_mul (pow_pos' _), ← Nat.pow_add, show 64 + 64 * n = 64 * (n + 1) by omega]; exact hlt
    rw [Nat.mod_eq_of_lt hq]
    by_cases h0 : val 64 (nats l) < 2 ^ (64 * n)
    · rw [Nat.div_eq_of_lt h0, if_pos (by rfl)]
      exact ih k (by omega) (need_le (by decide) h0) (by omega)
    · have : 0 < val 64 (nats l) / 2 ^ (64 * n) := Nat.div_pos (by omega) (pow_pos' _)
      rw [if_neg (by omega)]
      have h1 : ¬ need 64 (val 64 (nats l)) ≤ n := fun hc => h0 ((need_spec (by decide) _ _).1 hc)
      congr 2
      omega
theorem need_len {l : List Int} (h : inB 64 l) : need 64 (val 64 (nats l)) ≤ l.length := need_le (by decide) (by rw [← nats_length l]; exact val_lt (ok_nats h))
theorem least_spec {l : List Int} (h : inB 64 l) (hm : l.length ≤ 140737488351232) (k : Nat) (hk : l.length < k) : nat_least.f k l = some ((need 64 (val 64 (nats l)) : Nat) : Int) :=
  least_loop l h hm l.length k (Nat.le_refl _) (need_len h) hk

theorem bitlen_half {v : Nat} (h : v ≠ 0) : bitlen v = 1 + bitlen (v / 2) := by
  have h2 := lt_bitlen (v / 2)
  by_cases h1 : v / 2 = 0
  · obtain rfl : v = 1 := by omega
    decide
  · have hp := bitlen_pos h1
    have h3 : 2 ^ (bitlen (v / 2) - 1) ≤ v / 2 := pow_le_of_bitlen (by omega)
    have e : 2 ^ bitlen (v / 2) = 2 ^ (bitlen (v / 2) - 1) * 2 := by rw [← Nat.pow_succ]; congr 1; omega
    have := bitlen_eq (v := v) (n := bitlen (v / 2)) (by omega) (by rw [Nat.pow_succ]; omega)
    omega
theorem bitLenAux_eq : ∀ (f v : Nat), v < 2 ^ f → Lib.bitLenAux f v = bitlen v
  | 0, v, h => by obtain rfl : v = 0 := by simpa using h
                  rfl
  | f + 1, v, h => by
    unfold Lib.bitLenAux
    split
    · rename_i h0; subst h0; rfl
    · rename_i h0
      rw [bitLenAux_eq f (v / 2) (by rw [Nat.pow_succ] at h; omega), bitlen_half h0]
theorem bitLen_eq {v : Nat} (h : v < 2 ^ 64) : Lib.bitLen v = bitlen v := bitLenAux_eq 64 v h
theorem bits_spec {l : List Int} (h : inB 64 l) (hm : l.length ≤ 140737488351232) (k : Nat) (hk : l.length < k) : nat_Bits.f k l = some ((bitlen (val 64 (nats l)) : Nat) : Int) := by
  unfold nat_Bits.f
  rw [least_spec h hm k hk, Option.bind_some]
  have hnl := need_len h
  by_cases h0 : val 64 (nats l) = 0
  · rw [h0]; simp [need_zero, bitlen]
  · have hp := need_pos (b := 64) (by decide) h0
    obtain ⟨n, hn⟩ : ∃ n, need 64 (val 64 (nats l)) = n + 1 := ⟨need 64 (val 64 (nats l)) - 1, by omega⟩
    have hge := pow_le_of_need (b := 64) (by decide) (v := val 64 (nats l)) (n := n) (by omega)
    have hlt := lt_need (b := 64) (by decide) (val 64 (nats l))
    rw [hn] at hlt hnl ⊢
    have hw : wrap64 (((n + 1 : Nat) : Int) - 1) = (n : Int) := by rw [w64] <;> omega
    rw [if_neg (by omega), hw, if_pos (by omega), if_pos (by omega), rdN h]
    have hq : val 64 (nats l) / 2 ^ (64 * n) < 2 ^ 64 := by
      rw [Nat.div_lt_iff_lt_mul (pow_pos' _), ← Nat.pow_add, show 64 + 64 * n = 64 * (n + 1) by omega]; exact hlt
    rw [Nat.mod_eq_of_lt hq]
    generalize val 64 (nats l) = v at *
    obtain ⟨t, ht⟩ : ∃ t, t = v / 2 ^ (64 * n) := ⟨_, rfl⟩
    rw [← ht] at hq ⊢
    have ht0 : 0 < t := by rw [ht]; exact Nat.div_pos hge (pow_pos' _)
    have hbl : bitlen t ≤ 64 := bitlen_le hq
    have hbp := bitlen_pos (v := t) (by omega)
    have hv : bitlen v = 64 * n + bitlen t := by
      have h1 : 2 ^ (bitlen t - 1) ≤ t := pow_le_of_bitlen (by omega)
      have h2 := lt_bitlen t
      have h3 : 2 ^ (64 * n + (bitlen t - 1)) ≤ v := by
        rw [Nat.pow_add, Nat.mul_comm]
        exact (Nat.le_div_iff_mul_le (pow_pos' _)).1 (by rw [← ht]; exact h1)
      have h4 : v < 2 ^ (64 * n + (bitlen t - 1) + 1) := by
        rw [show 64 * n + (bitlen t - 1) + 1 = bitlen t + 64 * n by omega, Nat.pow_add]
        exact (Nat.div_lt_iff_lt_mul (pow_pos' _)).1 (by rw [← ht]; exact h2)
      have := bitlen_eq h3 h4
      omega
    have hbf : bits_Len64.f (t : Int) = some ((bitlen t : Nat) : Int) := by
      unfold bits_Len64.f
      rw [if_pos ⟨by omega, by omega⟩, Int.toNat_natCast, bitLen_eq hq]
    rw [hbf, Option.bind_some, w64 (x := 64 * (n : Int)) (by omega) (by omega), w64 (by omega) (by omega), hv]
    simp
end Go.Proofs.Ytflchcdmgceecaa.Q
