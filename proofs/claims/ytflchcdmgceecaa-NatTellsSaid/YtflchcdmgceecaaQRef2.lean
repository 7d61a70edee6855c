/- What the reference's big numbers answer, continued: bits, bytes, lengths, the order. -/
import Derived.Test.YtflchcdmgceecaaQRef
set_option linter.unusedVariables false
set_option linter.unusedSimpArgs false
namespace Go.Proofs.Ytflchcdmgceecaa.Q
open Go.Proofs.Ytflchcdmgceecaa.H Go.RowKit Go.Proofs.YtflchcdmgceecaaW.PrintWords Go.Proofs.YtflchcdmgceecaaW.PrintLast Go.Proofs.Ytflchcdmgceecaa.PA Go.Proofs.Ytflchcdmgceecaa.PR Go.Proofs.Ytflchcdmgceecaa.Num

theorem and_one32 (x : Nat) (hx : x < 2 ^ 32) : Go.bits .and .u32 (x : Int) 1 = ((x % 2 : Nat) : Int) := by
  rw [show (1 : Int) = ((1 : Nat) : Int) from rfl, u32_and_nat _ _ hx (by decide), Nat.and_one_is_mod]
theorem and_one64 (x : Nat) (hx : x < 2 ^ 64) : Go.bits .and .u64 (x : Int) 1 = ((x % 2 : Nat) : Int) := by
  rw [show (1 : Int) = ((1 : Nat) : Int) from rfl, u64_and_nat _ _ hx (by decide), Nat.and_one_is_mod]
theorem u64_id (x : Nat) (hx : x < 2 ^ 64) : IntKind.u64.wrap (x : Int) = (x : Int) := by
  have := IntKind.wrap_u64 (x : Int)
  omega
theorem shr_nat32 (x s : Nat) (hs : s ≤ 32) : shr .u32 (x : Int) (s : Int) = ((x / 2 ^ s : Nat) : Int) := by
  unfold shr
  rw [Int.toNat_natCast, Nat.min_eq_left (by exact hs), Int.natCast_ediv, Int.natCast_pow]
  rfl
theorem shr_nat64 (x s : Nat) (hs : s ≤ 64) : shr .u64 (x : Int) (s : Int) = ((x / 2 ^ s : Nat) : Int) := by
  unfold shr
  rw [Int.toNat_natCast, Nat.min_eq_left (by exact hs), Int.natCast_ediv, Int.natCast_pow]
  rfl
theorem bit_of_digit (v i b : Nat) (hb : 0 < b) : v / 2 ^ (b * (i / b)) % 2 ^ b / 2 ^ (i % b) % 2 = v / 2 ^ i % 2 := by
  have h1 : i % b < b := Nat.mod_lt _ hb
  have h2 : i % b + b * (i / b) = i := Nat.mod_add_div i b
  have e : ∀ x : Nat, x % 2 = (x.testBit 0).toNat := by intro x; rw [Nat.testBit_zero]; rcases Nat.mod_two_eq_zero_or_one x with h | h <;> simp [h]
  rw [e, e (v / 2 ^ i)]
  congr 1
  simp only [Nat.testBit_mod_two_pow, Nat.testBit_div_two_pow, Nat.zero_add, h2, h1, decide_true, Bool.true_and]

theorem bit_nat (v i : Nat) (hi : i < 9223372036854775808) : sconceref03_Bit.f (B v) (i : Int) = some ((v / 2 ^ i % 2 : Nat) : Int) := by
  unfold sconceref03_Bit.f
  have e1 : wrap64 (Int.tdiv (i : Int) 32) = ((i / 32 : Nat) : Int) := by rw [tdivN' (b := 32) i 32 rfl, w64 (by omega) (by omega)]
  have e2 : IntKind.u64.wrap (Int.tmod (i : Int) 32) = ((i % 32 : Nat) : Int) := by rw [tmodN' (b := 32) i 32 rfl]; exact u64_id _ (by omega)
  rw [if_neg (by omega), e1, e2, B_length]
  by_cases h : ((i / 32 : Nat) : Int) ≥ (need 32 v : Int)
  · rw [if_pos h]
    have hlt : v < 2 ^ i := Nat.lt_of_lt_of_le (lt_need (b := 32) (by decide) v) (Nat.pow_le_pow_right (by decide) (by omega))
    rw [Nat.div_eq_of_lt hlt]
    rfl
  · have hd : v / 2 ^ (32 * (i / 32)) % 2 ^ 32 < 2 ^ 32 := Nat.mod_lt _ (by decide)
    have hd2 : v / 2 ^ (32 * (i / 32)) % 2 ^ 32 / 2 ^ (i % 32) < 2 ^ 32 := Nat.lt_of_le_of_lt (Nat.div_le_self _ _) hd
    rw [if_neg h, if_pos (by omega), if_pos (by omega), if_pos (by omega), rd_B, shr_nat32 _ _ (by omega), and_one32 _ hd2, bit_of_digit v i 32 (by decide), u64_id _ (by omega)]
theorem bit_spec (v : Nat) (i : Int) (hi : i < 9223372036854775808) : sconceref03_Bit.f (B v) i = some (if i < 0 then 0 else ((v / 2 ^ i.toNat % 2 : Nat) : Int)) := by
  by_cases h : i < 0
  · unfold sconceref03_Bit.f; rw [if_pos h, if_pos h]
  · obtain ⟨n, rfl⟩ : ∃ n : Nat, i = (n : Int) := ⟨i.toNat, by omega⟩
    rw [if_neg h, bit_nat v n (by omega), Int.toNat_natCast]

theorem bitlen_loop (v : Nat) : ∀ (n k : Nat), n < 4611686018427387904 → bitlen v ≤ n → n < k → sconceref03_BitLen.l0 k (B v) (n : Int) = some ((bitlen v : Nat) : Int) := by
  intro n
  induction n with
  | zero =>
    intro k _ hn hk
    obtain ⟨k, rfl⟩ : ∃ j, k = j + 1 := ⟨k - 1, by omega⟩
    simp [sconceref03_BitLen.l0, show bitlen v = 0 by omega]
  | succ n ih =>
    intro k hb hn hk
    obtain ⟨k, rfl⟩ : ∃ j, k = j + 1 := ⟨k - 1, by omega⟩
    have hw : wrap64 (((n + 1 : Nat) : Int) - 1) = (n : Int) := by rw [w64] <;> omega
    simp only [sconceref03_BitLen.l0, hw]
    rw [if_pos (by omega), bit_nat v n (by omega), Option.bind_some]
    by_cases h : bitlen v ≤ n
    · have hlt : v < 2 ^ n := (lt_pow_iff v n).2 h
      rw [Nat.div_eq_of_lt hlt, if_pos (by rfl)]
      exact ih k (by omega) h (by omega)
    · have hge := pow_le_of_bitlen (v := v) (n := n) (by omega)
      have hlt : v < 2 ^ (n + 1) := (lt_pow_iff v (n + 1)).2 hn
      have h1 : v / 2 ^ n = 1 := by
        have a1 : 1 ≤ v / 2 ^ n := (Nat.le_div_iff_mul_le (pow_pos' _)).2 (by simpa using hge)
        have a2 : v / 2 ^ n < 2 := (Nat.div_lt_iff_lt_mul (pow_pos' _)).2 (by rw [Nat.pow_succ] at hlt; omega)
        omega
      rw [h1, if_neg (by decide)]
      congr 2
      omega
theorem bitlen_need (v : Nat) : bitlen v ≤ 32 * need 32 v := bitlen_le (lt_need (by decide) v)
theorem bitlen_spec (v k : Nat) (h : need 32 v ≤ 1125899906842624) (hk : 32 * need 32 v < k) : sconceref03_BitLen.f k (B v) = some ((bitlen v : Nat) : Int) := by
  unfold sconceref03_BitLen.f
  have e : wrap64 (32 * ((B v).length : Int)) = ((32 * need 32 v : Nat) : Int) := by rw [B_length, w64 (by omega) (by omega)]; omega
  rw [e]
  exact bitlen_loop v _ k (by omega) (bitlen_need v) hk

theorem byte_of_digit (v e : Nat) : v / 2 ^ (32 * (e / 4)) % 2 ^ 32 / 2 ^ (8 * (e % 4)) % 2 ^ 8 = v / 2 ^ (8 * e) % 2 ^ 8 := by
  apply Nat.eq_of_testBit_eq
  intro i
  simp only [Nat.testBit_mod_two_pow, Nat.testBit_div_two_pow]
  by_cases hi : i < 8
  · have h1 : i + 8 * (e % 4) < 32 := by omega
    have h2 : i + 8 * (e % 4) + 32 * (e / 4) = i + 8 * e := by omega
    simp [hi, h1, h2]
  · simp [hi]

/-- So many bytes of a number, the highest ahead, the first i of them. -/
def topBytes (v n i : Nat) : List Int := (List.range n).map fun p => if p < i then ((v / 2 ^ (8 * (n - 1 - p)) % 2 ^ 8 : Nat) : Int) else 0
theorem topBytes_length (v n i : Nat) : (topBytes v n i).length = n := by simp [topBytes]
theorem topBytes_set (v n i : Nat) (h : i < n) : (topBytes v n i).set i ((v / 2 ^ (8 * (n - 1 - i)) % 2 ^ 8 : Nat) : Int) = topBytes v n (i + 1) := by
  apply List.ext_getElem
  · simp [topBytes]
  · intro j h1 h2
    rw [List.getElem_set]
    simp only [topBytes, List.getElem_map, List.getElem_range]
    by_cases hj : i = j
    · subst hj; simp
    · rw [if_neg hj]
      by_cases h3 : j < i
      · rw [if_pos h3, if_pos (by omega)]
      · rw [if_neg h3, if_neg (by omega)]
theorem topBytes_all (v n : Nat) : topBytes v n n = (ints (digs 8 n v)).reverse := by
  apply List.ext_getElem
  · simp [topBytes, ints_length, digs_length]
  · intro j h1 h2
    rw [topBytes_length] at h1
    have e := getD_digs 8 n v (n - 1 - j) (by omega)
    rw [List.getD_eq_getElem?_getD, List.getElem?_eq_getElem (by rw [digs_length]; omega), Option.getD_some] at e
    rw [List.getElem_reverse]
    simp only [topBytes, ints, List.getElem_map, List.getElem_range, List.length_map, digs_length]
    rw [if_pos h1, e]
    rfl
theorem tobytes_loop (v n : Nat) (hn : n ≤ 1099511627776) (d : Nat) : ∀ (k i : Nat), i + d = n → d < k → sconceref03_ToBytes.l0 k (B v) (topBytes v n i) (n : Int) (i : Int) = some (topBytes v n n) := by
  induction d with
  | zero =>
    intro k i hi hk
    obtain ⟨k, rfl⟩ : ∃ j, k = j + 1 := ⟨k - 1, by omega⟩
    simp only [sconceref03_ToBytes.l0]
    rw [if_neg (by omega)]
    obtain rfl : i = n := by omega
    rfl
  | succ d ih =>
    intro k i hi hk
    obtain ⟨k, rfl⟩ : ∃ j, k = j + 1 := ⟨k - 1, by omega⟩
    simp only [sconceref03_ToBytes.l0, topBytes_length]
    obtain ⟨t, ht⟩ : ∃ t, t = n - 1 - i := ⟨_, rfl⟩
    have e0 : wrap64 (wrap64 ((n : Int) - 1) - (i : Int)) = (t : Int) := by rw [w64 (x := (n : Int) - 1) (by omega) (by omega), w64 (by omega) (by omega)]; omega
    have e1 : wrap64 (Int.tdiv (t : Int) 4) = ((t / 4 : Nat) : Int) := by rw [tdivN' (b := 4) t 4 rfl, w64 (by omega) (by omega)]
    have e2 : Int.tmod (t : Int) 4 = ((t % 4 : Nat) : Int) := tmodN' (b := 4) t 4 rfl
    have e3 := shift8 (t % 4) (Nat.mod_lt _ (by decide))
    have hd : v / 2 ^ (32 * (t / 4)) % 2 ^ 32 < 2 ^ 32 := Nat.mod_lt _ (by decide)
    have e4 : shr .u32 ((v / 2 ^ (32 * (t / 4)) % 2 ^ 32 : Nat) : Int) ((8 * (t % 4) : Nat) : Int) % 256 = ((v / 2 ^ (8 * t) % 2 ^ 8 : Nat) : Int) := by
      rw [shr_nat32 _ _ (by omega), ← byte_of_digit v t, Int.natCast_emod]
      rfl
    have hp8 : (0 : Int) ≤ ((8 * (t % 4) : Nat) : Int) := Int.natCast_nonneg _
    rw [if_pos (by omega), e0, e1, e2, e3, digit_spec, Option.bind_some, e4, if_pos hp8, if_pos (by omega), if_pos (by omega), Int.toNat_natCast, ht, topBytes_set v n i (by omega), w64 (by omega) (by omega)]
    exact ih k (i + 1) (by omega) (by omega)
theorem tobytes_spec (v n : Nat) (hn : n ≤ 1099511627776) (k : Nat) (hk : n < k) : sconceref03_ToBytes.f k (B v) (n : Int) = some (ints (digs 8 n v)).reverse := by
  unfold sconceref03_ToBytes.f
  rw [mx_of (by omega), if_pos (by omega), if_pos (by omega), Option.bind_some, ← topBytes_all]
  have := tobytes_loop v n hn n k 0 (by omega) hk
  have e0 : topBytes v n 0 = List.replicate n 0 := by
    apply List.ext_getElem
    · simp [topBytes]
    · intro j h1 h2; simp [topBytes]
  rw [e0] at this
  simpa using this

theorem need32_le {l : List Int} (h : inB 64 l) : need 32 (val 64 (nats l)) ≤ 2 * l.length := need_le (by decide) (by
  have := val_lt (ok_nats h)
  rw [nats_length] at this
  rwa [show 32 * (2 * l.length) = 64 * l.length by omega])

theorem bytes_spec {l : List Int} (h : inB 64 l) (hm : l.length ≤ 400) (n : Int) (k : Nat) (hk : 40000 < k) : sconceref03_Bytes.f k l n = nat_Bytes.f l n := by
  unfold sconceref03_Bytes.f nat_Bytes.f
  rw [if_pos (c := inB 64 l ∧ l.length ≤ 140737488351232) ⟨h, by omega⟩]
  obtain ⟨k, rfl⟩ : ∃ j, k = j + 1 := ⟨k - 1, by omega⟩
  by_cases h1 : n > 2400
  · rw [if_pos h1, if_pos (.inl h1)]; simp [sconceref03_Bytes.j0]
  · rw [if_neg h1]
    by_cases h2 : (l.length : Int) > 300
    · rw [if_pos (.inr (by omega))]; simp [sconceref03_Bytes.j0, h2]
    · rw [if_neg (by omega)]
      have hn32 := need32_le h
      have hbl := bitlen_need (val 64 (nats l))
      have hd : decide ((l.length : Int) > 300) = false := by simpa using h2
      simp only [sconceref03_Bytes.j0, hd]
      rw [if_neg (by decide), of_spec h (by omega) k (by omega), Option.bind_some]
      by_cases h3 : n < 0
      · rw [if_pos h3, if_pos (.inl h3)]
      · obtain ⟨N, rfl⟩ : ∃ N : Nat, n = (N : Int) := ⟨n.toNat, by omega⟩
        have e1 : wrap64 (Int.tdiv (wrap64 (((bitlen (val 64 (nats l)) : Nat) : Int) + 7)) 8) = (((bitlen (val 64 (nats l)) + 7) / 8 : Nat) : Int) := by
          rw [w64 (x := ((bitlen (val 64 (nats l)) : Nat) : Int) + 7) (by omega) (by omega), show ((bitlen (val 64 (nats l)) : Nat) : Int) + 7 = ((bitlen (val 64 (nats l)) + 7 : Nat) : Int) from rfl, tdivN' (b := 8) _ 8 rfl, w64 (by omega) (by omega)]
        rw [if_neg h3, bitlen_spec _ k (by omega) (by omega), Option.bind_some, e1]
        by_cases h4 : (((bitlen (val 64 (nats l)) + 7) / 8 : Nat) : Int) > (N : Int)
        · rw [if_pos h4, if_pos (.inr h4)]
        · rw [if_neg h4, if_neg (by omega), tobytes_spec _ N (by omega) k (by omega), Option.bind_some, Int.toNat_natCast]

theorem resize_spec {l : List Int} (h : inB 64 l) (hm : l.length ≤ 400) (n : Int) (k : Nat) (hk : 40000 < k) : sconceref03_Resize.f k l n = nat_Resize.f l n := by
  unfold sconceref03_Resize.f nat_Resize.f
  rw [if_pos (c := inB 64 l ∧ l.length ≤ 140737488351232) ⟨h, by omega⟩]
  by_cases h1 : n > 300
  · rw [if_pos h1, if_pos (by omega)]
  · have hn32 := need32_le h
    rw [if_neg h1, if_neg (by omega), of_spec h (by omega) k (by omega), Option.bind_some]
    by_cases h2 : n < 0
    · rw [if_pos h2, if_pos (by omega)]
    · obtain ⟨N, rfl⟩ : ∃ N : Nat, n = (N : Int) := ⟨n.toNat, by omega⟩
      rw [if_neg h2, words_spec _ (by omega), Option.bind_some]
      by_cases h3 : ((need 64 (val 64 (nats l)) : Nat) : Int) > (N : Int)
      · rw [if_pos h3, if_pos h3]
      · rw [if_neg h3, if_neg (by omega), nat_spec _ N (by omega) k (by omega), Option.bind_some, Int.toNat_natCast]

theorem small_spec (w : Nat) (hw : w < 2 ^ 64) (k : Nat) (hk : 2 < k) : sconceref03_Small.f k (w : Int) = some (B w) := by
  unfold sconceref03_Small.f
  have e : ([(w : Int) % 4294967296, (w : Int) / 4294967296 % 4294967296] : List Int) = ints (digs 32 2 w) := by
    simp [ints, digs]
  rw [e, trim_spec _ k (digs_ok _ _ _) (by rw [digs_length]; decide) (by rw [digs_length]; exact hk), val_digs_lt (by simpa using hw), Option.bind_some]
theorem word_spec (w : Nat) (hw : w < 2 ^ 64) (n : Int) (k : Nat) (hk : 400 < k) : sconceref03_Word.f k (w : Int) n = nat_Word.f (w : Int) n := by
  unfold sconceref03_Word.f nat_Word.f
  obtain ⟨m, hm, h1, h3⟩ : ∃ m : Nat, mn (mx n 1) 300 = (m : Int) ∧ 1 ≤ m ∧ m ≤ 300 := by
    refine ⟨(mn (mx n 1) 300).toNat, ?_⟩
    unfold mn mx
    (repeat' split) <;> omega
  rw [small_spec w hw k (by omega), Option.bind_some, hm, nat_spec w m (by omega) k (by omega), Option.bind_some, if_pos (by omega), if_pos (by omega), Option.bind_some, if_pos (by simp; omega)]
  congr 1
  obtain ⟨j, rfl⟩ : ∃ j, m = j + 1 := ⟨m - 1, by omega⟩
  have hw0 : w / 2 ^ 64 = 0 := Nat.div_eq_of_lt hw
  simp [ints, digs, List.replicate_succ, Nat.mod_eq_of_lt hw, hw0, digs_zero]

/-! ### the order -/
def sgn (u v : Nat) : Int := if u < v then -1 else if u = v then 0 else 1
theorem sgn_low {u v b i : Nat} (hh : u / 2 ^ (b * (i + 1)) = v / 2 ^ (b * (i + 1))) (hl : u / 2 ^ (b * i) % 2 ^ b < v / 2 ^ (b * i) % 2 ^ b) : u < v := by
  have e : ∀ x : Nat, x / 2 ^ (b * i) = x / 2 ^ (b * (i + 1)) * 2 ^ b + x / 2 ^ (b * i) % 2 ^ b := by
    intro x
    have := Nat.div_add_mod (x / 2 ^ (b * i)) (2 ^ b)
    rw [Nat.div_div_eq_div_mul, ← Nat.pow_add, show b * i + b = b * (i + 1) by rw [Nat.mul_add, Nat.mul_one]] at this
    rw [Nat.mul_comm] at this
    exact this.symm
  have h1 : u / 2 ^ (b * i) < v / 2 ^ (b * i) := by rw [e u, e v, hh]; omega
  rcases Nat.lt_or_ge u v with h | h
  · exact h
  · exact absurd (Nat.div_le_div_right (c := 2 ^ (b * i)) h) (Nat.not_le.2 h1)
theorem high_step {u v b i : Nat} (hh : u / 2 ^ (b * (i + 1)) = v / 2 ^ (b * (i + 1))) (hl : u / 2 ^ (b * i) % 2 ^ b = v / 2 ^ (b * i) % 2 ^ b) : u / 2 ^ (b * i) = v / 2 ^ (b * i) := by
  have e : ∀ x : Nat, x / 2 ^ (b * i) = x / 2 ^ (b * (i + 1)) * 2 ^ b + x / 2 ^ (b * i) % 2 ^ b := by
    intro x
    have := Nat.div_add_mod (x / 2 ^ (b * i)) (2 ^ b)
    rw [Nat.div_div_eq_div_mul, ← Nat.pow_add, show b * i + b = b * (i + 1) by rw [Nat.mul_add, Nat.mul_one]] at this
    rw [Nat.mul_comm] at this
    exact this.symm
  rw [e u, e v, hh, hl]
theorem cmp_loop (u v : Nat) (hn : need 32 u = need 32 v) (hm : need 32 u ≤ 1125899906842624) : ∀ (n k : Nat), n ≤ need 32 u → n < k → u / 2 ^ (32 * n) = v / 2 ^ (32 * n) → sconceref03_Cmp.l0 k (B u) (B v) ((n : Int) - 1) = some (sgn u v) := by
  intro n
  induction n with
  | zero =>
    intro k _ hk hh
    obtain ⟨k, rfl⟩ : ∃ j, k = j + 1 := ⟨k - 1, by omega⟩
    have : u = v := by simpa using hh
    simp [sconceref03_Cmp.l0, sgn, this]
  | succ n ih =>
    intro k hl hk hh
    obtain ⟨k, rfl⟩ : ∃ j, k = j + 1 := ⟨k - 1, by omega⟩
    have e : ((n + 1 : Nat) : Int) - 1 = (n : Int) := by omega
    simp only [sconceref03_Cmp.l0, e]
    rw [if_pos (by omega), if_pos (by omega), if_pos (by rw [B_length]; omega), if_pos (by rw [B_length]; omega), rd_B, rd_B]
    by_cases he : u / 2 ^ (32 * n) % 2 ^ 32 = v / 2 ^ (32 * n) % 2 ^ 32
    · rw [if_pos (by rw [he]), w64 (by omega) (by omega)]
      exact ih k (by omega) (by omega) (high_step hh he)
    · rw [if_neg (by omega)]
      by_cases hlt : u / 2 ^ (32 * n) % 2 ^ 32 < v / 2 ^ (32 * n) % 2 ^ 32
      · rw [if_pos (by omega)]
        have := sgn_low hh hlt
        rw [sgn, if_pos this]
      · rw [if_neg (by omega)]
        have := sgn_low hh.symm (show v / 2 ^ (32 * n) % 2 ^ 32 < u / 2 ^ (32 * n) % 2 ^ 32 by omega)
        rw [sgn, if_neg (by omega), if_neg (by omega)]
theorem cmp_spec (u v k : Nat) (hm : need 32 u ≤ 1125899906842624) (hm2 : need 32 v ≤ 1125899906842624) (hk : need 32 u < k) : sconceref03_Cmp.f k (B u) (B v) = some (sgn u v) := by
  unfold sconceref03_Cmp.f
  rw [B_length, B_length]
  by_cases h : (need 32 u : Int) = (need 32 v : Int)
  · rw [if_pos h, w64 (by omega) (by omega)]
    refine cmp_loop u v (by omega) hm _ k (Nat.le_refl _) hk ?_
    rw [Nat.div_eq_of_lt (lt_need (by decide) u), Nat.div_eq_of_lt]
    rw [show need 32 u = need 32 v by omega]
    exact lt_need (by decide) v
  · rw [if_neg h]
    by_cases h2 : (need 32 u : Int) < (need 32 v : Int)
    · rw [if_pos h2]
      have a := lt_need (b := 32) (by decide) u
      have b := pow_le_of_need (b := 32) (by decide) (v := v) (n := need 32 u) (by omega)
      rw [sgn, if_pos (by omega)]
    · rw [if_neg h2]
      have a := lt_need (b := 32) (by decide) v
      have b := pow_le_of_need (b := 32) (by decide) (v := u) (n := need 32 v) (by omega)
      rw [sgn, if_neg (by omega), if_neg (by omega)]

theorem at_spec {l : List Int} (h : inB 64 l) (i : Nat) : nat_at.f l (i : Int) = some ((val 64 (nats l) / 2 ^ (64 * i) % 2 ^ 64 : Nat) : Int) := by
  unfold nat_at.f
  rw [if_neg (by omega)]
  by_cases hi : (i : Int) ≥ l.length
  · rw [if_pos hi]
    have := val_lt (ok_nats h)
    rw [nats_length] at this
    rw [Nat.div_eq_of_lt (Nat.lt_of_lt_of_le this (Nat.pow_le_pow_right (by decide) (by omega)))]
    rfl
  · rw [if_neg hi, if_pos (by omega), if_pos (by omega), rdN h]
theorem compare_loop {l m : List Int} (h1 : inB 64 l) (h2 : inB 64 m) : ∀ (n k : Nat), n ≤ 140737488351232 → n < k → val 64 (nats l) / 2 ^ (64 * n) = val 64 (nats m) / 2 ^ (64 * n) → nat_Compare.l0 k l m ((n : Int) - 1) = some (sgn (val 64 (nats l)) (val 64 (nats m))) := by
  intro n
  induction n with
  | zero =>
    intro k _ hk hh
    obtain ⟨k, rfl⟩ : ∃ j, k = j + 1 := ⟨k - 1, by omega⟩
    have : val 64 (nats l) = val 64 (nats m) := by simpa using hh
    simp [nat_Compare.l0, sgn, this]
  | succ n ih =>
    intro k hl hk hh
    obtain ⟨k, rfl⟩ : ∃ j, k = j + 1 := ⟨k - 1, by omega⟩
    have e : ((n + 1 : Nat) : Int) - 1 = (n : Int) := by omega
    simp only [nat_Compare.l0, e]
    rw [if_pos (by omega), at_spec h1, at_spec h2, Option.bind_some, Option.bind_some]
    generalize val 64 (nats l) = u at hh ih ⊢
    generalize val 64 (nats m) = v at hh ih ⊢
    by_cases hlt : u / 2 ^ (64 * n) % 2 ^ 64 < v / 2 ^ (64 * n) % 2 ^ 64
    · rw [if_pos (by omega)]
      have := sgn_low hh hlt
      rw [sgn, if_pos this]
    · rw [if_neg (by omega)]
      by_cases hgt : v / 2 ^ (64 * n) % 2 ^ 64 < u / 2 ^ (64 * n) % 2 ^ 64
      · rw [if_pos (by omega)]
        have := sgn_low hh.symm hgt
        rw [sgn, if_neg (by omega), if_neg (by omega)]
      · rw [if_neg (by omega), w64 (by omega) (by omega)]
        exact ih k (by omega) (by omega) (high_step hh (by omega))
theorem compare_spec {l m : List Int} (h1 : inB 64 l) (h2 : inB 64 m) (hl : l.length ≤ 140737488351232) (hm : m.length ≤ 140737488351232) (k : Nat) (hk : l.length + m.length < k) : nat_Compare.f k l m = some (sgn (val 64 (nats l)) (val 64 (nats m))) := by
  unfold nat_Compare.f
  obtain ⟨n, hn, hln, hmn, hle⟩ : ∃ n : Nat, mx (l.length : Int) (m.length : Int) = (n : Int) ∧ l.length ≤ n ∧ m.length ≤ n ∧ n ≤ l.length + m.length := by
    refine ⟨(mx (l.length : Int) (m.length : Int)).toNat, ?_⟩
    unfold mx
    split <;> omega
  have hn2 : n ≤ 140737488351232 := by
    have : (n : Int) = l.length ∨ (n : Int) = m.length := by rw [← hn]; unfold mx; split <;> simp
    omega
  rw [hn, w64 (by omega) (by omega)]
  refine compare_loop h1 h2 n k hn2 (by omega) ?_
  have a := val_lt (ok_nats h1)
  have b := val_lt (ok_nats h2)
  rw [nats_length] at a b
  rw [Nat.div_eq_of_lt (Nat.lt_of_lt_of_le a (Nat.pow_le_pow_right (by decide) (by omega))), Nat.div_eq_of_lt (Nat.lt_of_lt_of_le b (Nat.pow_le_pow_right (by decide) (by omega)))]
theorem natbit_spec {l : List Int} (h : inB 64 l) (i : Int) (hi : i < 9223372036854775808) : nat_Bit.f l i = some (if i < 0 then 0 else ((val 64 (nats l) / 2 ^ i.toNat % 2 : Nat) : Int)) := by
  unfold nat_Bit.f
  by_cases h0 : i < 0
  · rw [if_pos h0, if_pos h0]
  · obtain ⟨n, rfl⟩ : ∃ n : Nat, i = (n : Int) := ⟨i.toNat, by omega⟩
    have e1 : wrap64 (Int.tdiv (n : Int) 64) = ((n / 64 : Nat) : Int) := by rw [tdivN' (b := 64) n 64 rfl, w64 (by omega) (by omega)]
    have e2 : Int.tmod (n : Int) 64 = ((n % 64 : Nat) : Int) := tmodN' (b := 64) n 64 rfl
    have hd : val 64 (nats l) / 2 ^ (64 * (n / 64)) % 2 ^ 64 < 2 ^ 64 := Nat.mod_lt _ (by decide)
    have hd2 : val 64 (nats l) / 2 ^ (64 * (n / 64)) % 2 ^ 64 / 2 ^ (n % 64) < 2 ^ 64 := Nat.lt_of_le_of_lt (Nat.div_le_self _ _) hd
    rw [if_neg h0, if_neg h0, e1, e2, at_spec h, Option.bind_some, if_pos (by omega), shr_nat64 _ _ (by omega), and_one64 _ hd2, bit_of_digit _ n 64 (by decide), Int.toNat_natCast]
end Go.Proofs.Ytflchcdmgceecaa.Q
