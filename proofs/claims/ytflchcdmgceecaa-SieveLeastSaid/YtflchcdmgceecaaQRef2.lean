/- What the reference's big numbers answer: the plain laws of the printed functions. -/
import Derived.Test.YtflchcdmgceecaaPRx
import Derived.Test.YtflchcdmgceecaaNum2
import Derived.Test.YtflchcdmgceecaaQNat
import Derived.Test.YtflchcdmgceecaaHFew
set_option linter.unusedVariables false
set_option linter.unusedSimpArgs false
namespace Go.Proofs.Ytflchcdmgceecaa.Q
open Go.Proofs.Ytflchcdmgceecaa.H Go.RowKit Go.Proofs.YtflchcdmgceecaaW.PrintWords Go.Proofs.YtflchcdmgceecaaW.PrintLast Go.Proofs.Ytflchcdmgceecaa.PA Go.Proofs.Ytflchcdmgceecaa.PR Go.Proofs.Ytflchcdmgceecaa.Num

/-- A number as the reference holds it: digits of 32 bits, the lowest ahead, none above the highest that is not 0. -/
def B (v : Nat) : List Int := ints (own 32 v)
theorem B_length (v : Nat) : (B v).length = need 32 v := by rw [B, ints_length, own_length]
theorem inB_B (v : Nat) : inB 32 (B v) := inB_ints (own_ok 32 v)
theorem rd_B (v i : Nat) : rd (B v) (i : Int) = ((v / 2 ^ (32 * i) % 2 ^ 32 : Nat) : Int) := by
  rw [B, rd_ints, Int.toNat_natCast, getD_own (by decide)]
theorem B_zero : B 0 = [] := by rw [B, own_zero (by decide)]; rfl
theorem mx_of {a b : Int} (h : b ≤ a) : mx a b = a := by unfold mx; rw [if_neg (by omega)]
theorem mn_of {a b : Int} (h : a ≤ b) : mn a b = a := by unfold mn; rw [if_neg (by omega)]

theorem tdivN (a b : Nat) : Int.tdiv (a : Int) (b : Int) = ((a / b : Nat) : Int) := by
  rw [Int.tdiv_eq_ediv_of_nonneg (by omega), Int.natCast_ediv]
theorem tmodN (a b : Nat) : Int.tmod (a : Int) (b : Int) = ((a % b : Nat) : Int) := by
  rw [Int.tmod_eq_emod_of_nonneg (by omega), Int.natCast_emod]
theorem tdivN' (a : Nat) {b : Int} (c : Nat) (h : b = (c : Int)) : Int.tdiv (a : Int) b = ((a / c : Nat) : Int) := by subst h; exact tdivN a c
theorem tmodN' (a : Nat) {b : Int} (c : Nat) (h : b = (c : Int)) : Int.tmod (a : Int) b = ((a % c : Nat) : Int) := by subst h; exact tmodN a c

theorem trim_nats : ∀ (n : Nat) (m : List Nat) (k : Nat), m.length = n → ok 32 m → m.length ≤ 140737488351232 → n < k → sconceref03_trim.l0 k (ints m) = some (B (val 32 m)) := by
  intro n
  induction n with
  | zero =>
    intro m k hn _ _ hk
    obtain ⟨k, rfl⟩ : ∃ j, k = j + 1 := ⟨k - 1, by omega⟩
    obtain rfl : m = [] := List.eq_nil_of_length_eq_zero hn
    simp [sconceref03_trim.l0, ints, val_nil, B_zero]
  | succ n ih =>
    intro m k hn hok hm hk
    obtain ⟨k, rfl⟩ : ∃ j, k = j + 1 := ⟨k - 1, by omega⟩
    have hl : ((ints m).length : Int) = (n : Int) + 1 := by rw [ints_length, hn]; rfl
    have hw : wrap64 (((ints m).length : Int) - 1) = (n : Int) := by rw [hl, w64] <;> omega
    simp only [sconceref03_trim.l0, hw]
    rw [hl, if_pos (by omega), if_pos (by omega), if_pos (by omega), rd_ints, Int.toNat_natCast]
    have hgd := getD_val hok n
    have e : m = m.take n ++ [m.getD n 0] := by
      apply List.ext_getElem
      · simp; omega
      · intro j h1 h2
        by_cases hj : j < n
        · rw [List.getElem_append_left (by simp; omega), List.getElem_take]
        · obtain rfl : j = n := by omega
          rw [List.getElem_append_right (by simp; omega)]
          simp [List.getD_eq_getElem?_getD, List.getElem?_eq_getElem h1]
    by_cases h0 : m.getD n 0 = 0
    · rw [h0, if_pos (by rfl), if_pos (by omega)]
      have e2 : (ints m).take n = ints (m.take n) := by simp [ints, List.map_take]
      rw [e2, ih (m.take n) k (by simp; omega) (ok_take hok n) (by simp; omega) (by omega)]
      congr 2
      conv => rhs; rw [e, h0, val_append]
      simp [val_cons, val_nil]
    · rw [if_neg (by omega)]
      rw [B, own_val (by decide) hok (.inr (by rw [hn]; simpa using h0))]
theorem trim_spec (m : List Nat) (k : Nat) (hok : ok 32 m) (hm : m.length ≤ 140737488351232) (hk : m.length < k) : sconceref03_trim.f k (ints m) = some (B (val 32 m)) :=
  trim_nats m.length m k rfl hok hm hk

theorem split32 (v i : Nat) : v / 2 ^ (64 * i) % 2 ^ 64 % 4294967296 = v / 2 ^ (32 * (2 * i)) % 2 ^ 32 ∧ v / 2 ^ (64 * i) % 2 ^ 64 / 4294967296 % 4294967296 = v / 2 ^ (32 * (2 * i + 1)) % 2 ^ 32 := by
  have e1 : 32 * (2 * i) = 64 * i := by omega
  have e2 : 32 * (2 * i + 1) = 64 * i + 32 := by omega
  rw [e1, e2, Nat.pow_add, ← Nat.div_div_eq_div_mul]
  generalize v / 2 ^ (64 * i) = q
  constructor <;> omega

theorem of_loop {l : List Int} (h : inB 64 l) (hm : l.length ≤ 1099511627776) (d : Nat) : ∀ (k i : Nat), i + d = l.length → 2 * l.length + d + 1 < k → sconceref03_Of.l0 k (ints (digs 32 (2 * i) (val 64 (nats l)))) l (l.length : Int) (i : Int) = some (B (val 64 (nats l))) := by
  induction d with
  | zero =>
    intro k i hi hk
    obtain ⟨k, rfl⟩ : ∃ j, k = j + 1 := ⟨k - 1, by omega⟩
    simp only [sconceref03_Of.l0]
    rw [if_neg (by omega), trim_spec _ _ (digs_ok _ _ _) (by rw [digs_length]; omega) (by rw [digs_length]; omega), Option.bind_some, val_digs_lt]
    have := val_lt (ok_nats h)
    rw [nats_length] at this
    rwa [show 32 * (2 * i) = 64 * l.length by omega]
  | succ d ih =>
    intro k i hi hk
    obtain ⟨k, rfl⟩ : ∃ j, k = j + 1 := ⟨k - 1, by omega⟩
    simp only [sconceref03_Of.l0, Option.bind_some]
    have hs := split32 (val 64 (nats l)) i
    have e : (ints (digs 32 (2 * i) (val 64 (nats l))) ++ [rd l (i : Int) % 4294967296, rd l (i : Int) / 4294967296 % 4294967296]) = ints (digs 32 (2 * (i + 1)) (val 64 (nats l))) := by
      rw [show 2 * (i + 1) = 2 * i + 1 + 1 by omega, digs_snoc, digs_snoc, ← hs.1, ← hs.2, rdN h]
      simp [ints]
    rw [if_pos (by omega), if_pos (by omega), if_pos (by omega), e, if_pos (by rw [ints_length, digs_length]; simp; omega), w64 (by omega) (by omega)]
    have := ih k (i + 1) (by omega) (by omega)
    exact this
theorem of_spec {l : List Int} (h : inB 64 l) (hm : l.length ≤ 1099511627776) (k : Nat) (hk : 3 * l.length + 1 < k) : sconceref03_Of.f k l = some (B (val 64 (nats l))) :=
  of_loop h hm l.length k 0 (by omega) (by omega)

theorem words_need (v : Nat) : (need 32 v + 1) / 2 = need 64 v := by
  have h1 := (need_spec (b := 64) (by decide) v ((need 32 v + 1) / 2)).2 (by
    refine Nat.lt_of_lt_of_le (lt_need (b := 32) (by decide) v) (Nat.pow_le_pow_right (by decide) (by omega)))
  have h2 := (need_spec (b := 32) (by decide) v (2 * need 64 v)).2 (by
    have := lt_need (b := 64) (by decide) v
    rwa [show 32 * (2 * need 64 v) = 64 * need 64 v by omega])
  omega
theorem words_spec (v : Nat) (h : need 32 v ≤ 1125899906842624) : sconceref03_Words.f (B v) = some ((need 64 v : Nat) : Int) := by
  unfold sconceref03_Words.f
  rw [B_length, w64 (x := (need 32 v : Int) + 1) (by omega) (by omega), ← words_need]
  rw [show (((need 32 v : Nat) : Int) + 1) = ((need 32 v + 1 : Nat) : Int) from rfl, tdivN' (b := 2) _ 2 rfl, w64 (by omega) (by omega)]

theorem digit_spec (v i : Nat) : sconceref03_digit.f (B v) (i : Int) = some ((v / 2 ^ (32 * i) % 2 ^ 32 : Nat) : Int) := by
  unfold sconceref03_digit.f
  rw [B_length]
  by_cases h : (i : Int) < (need 32 v : Int)
  · rw [if_pos h, if_pos (by omega), rd_B]
  · rw [if_neg h, Nat.div_eq_of_lt (Nat.lt_of_lt_of_le (lt_need (b := 32) (by decide) v) (Nat.pow_le_pow_right (by decide) (by omega)))]
    rfl

theorem join32 (v i : Nat) : Go.bits .or .u64 (IntKind.u64.wrap ((v / 2 ^ (32 * (2 * i)) % 2 ^ 32 : Nat) : Int)) (IntKind.u64.wrap ((IntKind.u64.wrap ((v / 2 ^ (32 * (2 * i + 1)) % 2 ^ 32 : Nat) : Int)) * 4294967296)) = ((v / 2 ^ (64 * i) % 2 ^ 64 : Nat) : Int) := by
  have hs := split32 v i
  rw [← hs.1, ← hs.2]
  have hq0 : v / 2 ^ (64 * i) % 2 ^ 64 < 2 ^ 64 := Nat.mod_lt _ (by decide)
  generalize v / 2 ^ (64 * i) % 2 ^ 64 = q at hq0 ⊢
  have hq : q % 4294967296 < 4294967296 := Nat.mod_lt _ (by decide)
  have hq2 : q / 4294967296 % 4294967296 = q / 4294967296 := Nat.mod_eq_of_lt (by omega)
  rw [hq2]
  have e1 : IntKind.u64.wrap ((q % 4294967296 : Nat) : Int) = ((q % 4294967296 : Nat) : Int) := by rw [IntKind.wrap_u64]; omega
  have e2 : IntKind.u64.wrap ((q / 4294967296 : Nat) : Int) = ((q / 4294967296 : Nat) : Int) := by rw [IntKind.wrap_u64]; omega
  have e3 : IntKind.u64.wrap (((q / 4294967296 : Nat) : Int) * 4294967296) = ((q / 4294967296 * 4294967296 : Nat) : Int) := by rw [IntKind.wrap_u64]; omega
  rw [e1, e2, e3, u64_or_nat _ _ (by omega) (by omega), Nat.or_comm, nat_join 32 (q / 4294967296 * 4294967296) (q % 4294967296) (by omega) (by omega)]
  congr 1
  omega

theorem set_fill (b n i v : Nat) (h : i < n) : (ints (digs b i v ++ List.replicate (n - i) 0)).set i ((v / 2 ^ (b * i) % 2 ^ b : Nat) : Int) = ints (digs b (i + 1) v ++ List.replicate (n - (i + 1)) 0) := by
  rw [digs_snoc, show n - i = (n - (i + 1)) + 1 by omega, List.replicate_succ]
  have : (ints (digs b i v ++ 0 :: List.replicate (n - (i + 1)) 0)).set i ((v / 2 ^ (b * i) % 2 ^ b : Nat) : Int) = ints ((digs b i v ++ 0 :: List.replicate (n - (i + 1)) 0).set i (v / 2 ^ (b * i) % 2 ^ b)) := by
    simp [ints, List.map_set]
  rw [this, List.set_append_right _ _ (by rw [digs_length]; omega), digs_length, Nat.sub_self]
  simp

theorem nat_loop (v n : Nat) (hn : n ≤ 1099511627776) (d : Nat) : ∀ (k i : Nat), i + d = n → d < k → sconceref03_Nat.l0 k (B v) (ints (digs 64 i v ++ List.replicate (n - i) 0)) (n : Int) (i : Int) = some (ints (digs 64 n v)) := by
  induction d with
  | zero =>
    intro k i hi hk
    obtain ⟨k, rfl⟩ : ∃ j, k = j + 1 := ⟨k - 1, by omega⟩
    simp only [sconceref03_Nat.l0]
    rw [if_neg (by omega)]
    obtain rfl : i = n := by omega
    simp
  | succ d ih =>
    intro k i hi hk
    obtain ⟨k, rfl⟩ : ∃ j, k = j + 1 := ⟨k - 1, by omega⟩
    simp only [sconceref03_Nat.l0]
    have e1 : wrap64 (2 * (i : Int)) = ((2 * i : Nat) : Int) := by rw [w64] <;> omega
    have e2 : wrap64 (((2 * i : Nat) : Int) + 1) = ((2 * i + 1 : Nat) : Int) := by rw [w64] <;> omega
    rw [if_pos (by omega), e1, e2, digit_spec, digit_spec, Option.bind_some, Option.bind_some, if_pos (by omega), if_pos (by rw [ints_length]; simp [digs_length]; omega), join32, Int.toNat_natCast, set_fill 64 n i v (by omega), w64 (by omega) (by omega)]
    exact ih k (i + 1) (by omega) (by omega)
theorem nat_spec (v n : Nat) (hn : n ≤ 35184372088) (k : Nat) (hk : n < k) : sconceref03_Nat.f k (B v) (n : Int) = some (ints (digs 64 n v)) := by
  unfold sconceref03_Nat.f
  rw [mx_of (by omega), if_pos (by omega), if_pos (by omega), Option.bind_some]
  have := nat_loop v n (by omega) n k 0 (by omega) hk
  simpa [digs, ints] using this

theorem same_loop (l m : List Int) (hlm : l.length = m.length) (hm : l.length ≤ 140737488351232) (d : Nat) : ∀ (k i : Nat), i + d = l.length → d < k → l.take i = m.take i → sconceref03_Same.l0 k l m (l.length : Int) (i : Int) = some (decide (l = m)) := by
  induction d with
  | zero =>
    intro k i hi hk h
    obtain ⟨k, rfl⟩ : ∃ j, k = j + 1 := ⟨k - 1, by omega⟩
    simp only [sconceref03_Same.l0]
    rw [if_neg (by omega)]
    rw [List.take_of_length_le (by omega), List.take_of_length_le (by omega)] at h
    simp [h]
  | succ d ih =>
    intro k i hi hk h
    obtain ⟨k, rfl⟩ : ∃ j, k = j + 1 := ⟨k - 1, by omega⟩
    simp only [sconceref03_Same.l0]
    rw [if_pos (by omega), if_pos (by omega), if_pos (by omega), if_pos (by omega)]
    have r1 : rd l (i : Int) = l[i]'(by omega) := by simp [rd, List.getElem?_eq_getElem (show i < l.length by omega)]
    have r2 : rd m (i : Int) = m[i]'(by omega) := by simp [rd, List.getElem?_eq_getElem (show i < m.length by omega)]
    rw [r1, r2]
    by_cases he : l[i]'(by omega) = m[i]'(by omega)
    · rw [if_pos he, w64 (by omega) (by omega)]
      refine ih k (i + 1) (by omega) (by omega) ?_
      rw [List.take_add_one, List.take_add_one, h, List.getElem?_eq_getElem (show i < l.length by omega), List.getElem?_eq_getElem (show i < m.length by omega), he]
    · rw [if_neg he]
      congr 1
      symm
      rw [decide_eq_false_iff_not]
      rintro rfl
      exact he rfl
theorem same_spec (l m : List Int) (hm : l.length ≤ 140737488351232) (k : Nat) (hk : l.length < k) : sconceref03_Same.f k l m = some (decide (l = m)) := by
  unfold sconceref03_Same.f
  by_cases h : (l.length : Int) = (m.length : Int)
  · rw [if_pos h]
    exact same_loop l m (by omega) hm l.length k 0 (by omega) hk rfl
  · rw [if_neg h]
    congr 1
    symm
    rw [decide_eq_false_iff_not]
    rintro rfl
    exact h rfl
theorem same_self (l : List Int) (hm : l.length ≤ 140737488351232) (k : Nat) (hk : l.length < k) : sconceref03_Same.f k l l = some true := by
  rw [same_spec l l hm k hk]; simp

/-! ### bytes -/
theorem val_set (b : Nat) : ∀ (l : List Nat) (i y : Nat), i < l.length → val b (l.set i y) + l.getD i 0 * 2 ^ (b * i) = val b l + y * 2 ^ (b * i)
  | [], i, y, h => by simp at h
  | x :: l, 0, y, h => by simp [val_cons]; omega
  | x :: l, i + 1, y, h => by
    have := val_set b l i y (by simpa using h)
    simp only [List.set_cons_succ, val_cons, List.getD_cons_succ]
    rw [Nat.mul_add, Nat.pow_add, Nat.mul_one]
    have e : 2 ^ b * (val b (l.set i y) + l.getD i 0 * 2 ^ (b * i)) = 2 ^ b * (val b l + y * 2 ^ (b * i)) := by rw [this]
    rw [Nat.mul_add, Nat.mul_add] at e
    have c1 : l.getD i 0 * (2 ^ (b * i) * 2 ^ b) = 2 ^ b * (l.getD i 0 * 2 ^ (b * i)) := by ac_rfl
    have c2 : y * (2 ^ (b * i) * 2 ^ b) = 2 ^ b * (y * 2 ^ (b * i)) := by ac_rfl
    omega

theorem be_take_step {l : List Int} (h : inB 8 l) (i : Nat) (hi : i < l.length) : be (l.take (i + 1)) * 2 ^ (8 * (l.length - 1 - i)) = be (l.take i) * 2 ^ (8 * (l.length - i)) + (rd l (i : Int)).toNat * 2 ^ (8 * (l.length - 1 - i)) := by
  rw [be_take_succ l i hi, Nat.add_mul, Nat.add_comm]
  congr 1
  rw [show 8 * (l.length - i) = 8 + 8 * (l.length - 1 - i) by omega, Nat.pow_add]
  ac_rfl

theorem shift8 (s : Nat) (hs : s < 4) : IntKind.u64.wrap (wrap64 (((s : Nat) : Int) * 8)) = ((8 * s : Nat) : Int) := by
  have e : wrap64 (((s : Nat) : Int) * 8) = ((8 * s : Nat) : Int) := by rw [w64 (by omega) (by omega)]; omega
  rw [e]
  have e2 := IntKind.wrap_u64 ((8 * s : Nat) : Int)
  omega
/-- One byte more, at its place. -/
theorem or_place (m : List Nat) (hok : ok 32 m) (c t y : Nat) (hv : val 32 m = c * 2 ^ (8 * (t + 1))) (ht : t / 4 < m.length) (hy : y < 256) :
    Go.bits .or .u32 ((m.getD (t / 4) 0 : Nat) : Int) (shl .u32 ((y : Int) % 4294967296) (IntKind.u64.wrap (wrap64 (((t % 4 : Nat) : Int) * 8)))) = ((m.getD (t / 4) 0 + y * 2 ^ (8 * (t % 4)) : Nat) : Int) ∧
    m.getD (t / 4) 0 + y * 2 ^ (8 * (t % 4)) < 2 ^ 32 := by
  have hg := getD_val hok (t / 4)
  have hm : m.getD (t / 4) 0 % 2 ^ (8 * (t % 4) + 8) = 0 := by
    rw [hg, hv, show 8 * (t + 1) = 32 * (t / 4) + (8 * (t % 4) + 8) by omega, Nat.pow_add, show c * (2 ^ (32 * (t / 4)) * 2 ^ (8 * (t % 4) + 8)) = (c * 2 ^ (8 * (t % 4) + 8)) * 2 ^ (32 * (t / 4)) by ac_rfl, Nat.mul_div_cancel _ (pow_pos' _)]
    rw [show (2:Nat) ^ 32 = 2 ^ (8 * (t % 4) + 8) * 2 ^ (24 - 8 * (t % 4)) by rw [← Nat.pow_add]; congr 1; omega, Nat.mod_mul_right_mod, Nat.mul_mod_left]
  have hlt : m.getD (t / 4) 0 < 2 ^ 32 := ok_getD hok _
  generalize m.getD (t / 4) 0 = x at hm hlt ⊢
  have hs : t % 4 < 4 := Nat.mod_lt _ (by decide)
  generalize t % 4 = s at hm hs ⊢
  have e1 : (y : Int) % 4294967296 = (y : Int) := by omega
  have e2 := shift8 s hs
  have hys : y * 2 ^ (8 * s) < 2 ^ (8 * s + 8) := by
    rw [Nat.pow_add, Nat.mul_comm (2 ^ (8 * s))]
    exact Nat.mul_lt_mul_of_pos_right hy (pow_pos' _)
  have hle : 2 ^ (8 * s + 8) ≤ 2 ^ 32 := Nat.pow_le_pow_right (by decide) (by omega)
  have e3 : shl .u32 (y : Int) ((8 * s : Nat) : Int) = ((y * 2 ^ (8 * s) : Nat) : Int) := by
    unfold shl
    rw [Int.toNat_natCast, Nat.min_eq_left (by show 8 * s ≤ 32; omega), show ((y : Int) * 2 ^ (8 * s)) = ((y * 2 ^ (8 * s) : Nat) : Int) by rw [Int.natCast_mul, Int.natCast_pow]; rfl, IntKind.wrap_u32]
    have : y * 2 ^ (8 * s) < 4294967296 := Nat.lt_of_lt_of_le hys hle
    omega
  have hsum : x + y * 2 ^ (8 * s) < 2 ^ 32 := by
    obtain ⟨q, hq⟩ : ∃ q, x = 2 ^ (8 * s + 8) * q := ⟨x / 2 ^ (8 * s + 8), by have := Nat.div_add_mod x (2 ^ (8 * s + 8)); omega⟩
    have h32 : (2:Nat) ^ 32 = 2 ^ (8 * s + 8) * 2 ^ (24 - 8 * s) := by rw [← Nat.pow_add]; congr 1; omega
    rw [hq, h32] at hlt
    have hq2 := Nat.lt_of_mul_lt_mul_left hlt
    have : 2 ^ (8 * s + 8) * (q + 1) ≤ 2 ^ (8 * s + 8) * 2 ^ (24 - 8 * s) := Nat.mul_le_mul_left _ hq2
    rw [Nat.mul_add, Nat.mul_one] at this
    rw [h32]
    omega
  refine ⟨?_, hsum⟩
  rw [e1, e2, e3, u32_or_nat _ _ hlt (by omega), nat_join (8 * s + 8) x (y * 2 ^ (8 * s)) hm hys]

theorem frombytes_loop {l : List Int} (h : inB 8 l) (hm : l.length ≤ 1099511627776) (d : Nat) : ∀ (k i : Nat) (m : List Nat), i + d = l.length → l.length + d + 2 < k → ok 32 m → m.length = (l.length + 3) / 4 → val 32 m = be (l.take i) * 2 ^ (8 * (l.length - i)) → sconceref03_FromBytes.l0 k l (ints m) (l.length : Int) (i : Int) = some (B (be l)) := by
  induction d with
  | zero =>
    intro k i m hi hk hok hml hv
    obtain ⟨k, rfl⟩ : ∃ j, k = j + 1 := ⟨k - 1, by omega⟩
    simp only [sconceref03_FromBytes.l0]
    rw [if_neg (by omega), trim_spec m k hok (by omega) (by omega), Option.bind_some, hv, List.take_of_length_le (by omega), show l.length - i = 0 by omega]
    simp
  | succ d ih =>
    intro k i m hi hk hok hml hv
    obtain ⟨k, rfl⟩ : ∃ j, k = j + 1 := ⟨k - 1, by omega⟩
    simp only [sconceref03_FromBytes.l0]
    obtain ⟨t, ht⟩ : ∃ t, t = l.length - 1 - i := ⟨_, rfl⟩
    have e0 : wrap64 (wrap64 ((l.length : Int) - 1) - (i : Int)) = (t : Int) := by rw [w64 (x := (l.length : Int) - 1) (by omega) (by omega), w64 (by omega) (by omega)]; omega
    have e1 : wrap64 (Int.tdiv (t : Int) 4) = ((t / 4 : Nat) : Int) := by rw [tdivN' (b := 4) t 4 rfl, w64 (by omega) (by omega)]
    have e2 : Int.tmod (t : Int) 4 = ((t % 4 : Nat) : Int) := tmodN' (b := 4) t 4 rfl
    have hb := rd_inB h (i : Int)
    obtain ⟨y, hy⟩ : ∃ y : Nat, rd l (i : Int) = (y : Int) := ⟨(rd l (i : Int)).toNat, by omega⟩
    have htm : t / 4 < m.length := by omega
    have hst := be_take_step h i (by omega)
    rw [hy, Int.toNat_natCast, ← ht] at hst
    have hv2 : val 32 m = be (l.take i) * 2 ^ (8 * (t + 1)) := by rw [hv]; congr 3; omega
    obtain ⟨p1, p2⟩ := or_place m hok (be (l.take i)) t y hv2 htm (by omega)
    have hset : (ints m).set (t / 4) ((m.getD (t / 4) 0 + y * 2 ^ (8 * (t % 4)) : Nat) : Int) = ints (m.set (t / 4) (m.getD (t / 4) 0 + y * 2 ^ (8 * (t % 4)))) := by simp [ints, List.map_set]
    rw [if_pos (by omega), e0, e1, e2, if_pos (by omega), if_pos (by rw [ints_length]; omega), if_pos (by omega), if_pos (by omega)]
    have hw8 : (0 : Int) ≤ IntKind.u64.wrap (wrap64 (((t % 4 : Nat) : Int) * 8)) := by rw [shift8 _ (Nat.mod_lt _ (by decide))]; exact Int.natCast_nonneg _
    rw [if_pos hw8, hy, rd_ints, Int.toNat_natCast, p1, hset, w64 (by omega) (by omega)]
    have hvs := val_set 32 m (t / 4) (m.getD (t / 4) 0 + y * 2 ^ (8 * (t % 4))) htm
    rw [Nat.add_mul] at hvs
    have e3 : y * 2 ^ (8 * (t % 4)) * 2 ^ (32 * (t / 4)) = y * 2 ^ (8 * t) := by rw [Nat.mul_assoc, ← Nat.pow_add]; congr 2; omega
    rw [e3] at hvs
    have hv3 : be (l.take i) * 2 ^ (8 * (l.length - i)) = val 32 m := hv.symm
    have hok' : ok 32 (m.set (t / 4) (m.getD (t / 4) 0 + y * 2 ^ (8 * (t % 4)))) := ok_set hok _ _ p2
    have hl' : (m.set (t / 4) (m.getD (t / 4) 0 + y * 2 ^ (8 * (t % 4)))).length = (l.length + 3) / 4 := by rw [List.length_set]; exact hml
    generalize m.set (t / 4) (m.getD (t / 4) 0 + y * 2 ^ (8 * (t % 4))) = m' at hvs hok' hl' ⊢
    have hv' : val 32 m' = be (l.take (i + 1)) * 2 ^ (8 * (l.length - (i + 1))) := by
      rw [show l.length - (i + 1) = t by omega, hst, hv3]
      generalize val 32 m = V at hvs ⊢
      generalize m.getD (t / 4) 0 * 2 ^ (32 * (t / 4)) = W at hvs
      generalize y * 2 ^ (8 * t) = Y at hvs ⊢
      omega
    exact ih k (i + 1) m' (by omega) (by omega) hok' hl' hv'
theorem frombytes_spec {l : List Int} (h : inB 8 l) (hm : l.length ≤ 1099511627776) (k : Nat) (hk : 2 * l.length + 2 < k) : sconceref03_FromBytes.f k l = some (B (be l)) := by
  unfold sconceref03_FromBytes.f
  have e1 : wrap64 (Int.tdiv (wrap64 ((l.length : Int) + 3)) 4) = (((l.length + 3) / 4 : Nat) : Int) := by
    rw [w64 (x := (l.length : Int) + 3) (by omega) (by omega), show (l.length : Int) + 3 = ((l.length + 3 : Nat) : Int) from rfl, tdivN' (b := 4) _ 4 rfl, w64 (by omega) (by omega)]
  rw [e1, if_pos (by omega), if_pos (by omega), Int.toNat_natCast]
  have := frombytes_loop h hm l.length k 0 (List.replicate ((l.length + 3) / 4) 0) (by omega) (by omega) (fun x hx => by rw [List.mem_replicate] at hx; rw [hx.2]; decide) (by simp) (by rw [val_zeros]; simp [be_nil])
  simpa [ints] using this

theorem ofbytes_spec {l : List Int} (h : inB 8 l) (hm : l.length ≤ 1099511627776) (n : Int) (k : Nat) (hk : 2 * l.length + 302 < k) : sconceref03_OfBytes.f k l n = nat_Of.f l n := by
  unfold sconceref03_OfBytes.f nat_Of.f
  rw [if_pos (c := inB 8 l ∧ l.length ≤ 140737488351232) ⟨h, by omega⟩]
  by_cases h1 : n > 300
  · rw [if_pos h1, if_pos (by omega)]
  · rw [if_neg h1, if_neg (by omega), frombytes_spec h hm k (by omega), Option.bind_some]
    by_cases h2 : n < 0
    · rw [if_pos h2, if_pos h2]
    · obtain ⟨N, rfl⟩ : ∃ N : Nat, n = (N : Int) := ⟨n.toNat, by omega⟩
      have hneed : need 32 (be l) ≤ 2 * l.length := need_le (by decide) (by
        refine Nat.lt_of_lt_of_le (be_lt h) ?_
        rw [show (256:Nat) = 2 ^ 8 from rfl, ← Nat.pow_mul]
        exact Nat.pow_le_pow_right (by decide) (by omega))
      rw [if_neg h2, if_neg h2, words_spec _ (by omega), Option.bind_some, Int.toNat_natCast]
      have hs := need_spec (b := 64) (by decide) (be l) N
      by_cases h3 : be l < 2 ^ (64 * N)
      · have := hs.2 h3
        rw [if_neg (by omega), if_pos h3, nat_spec _ _ (by omega) k (by omega)]
        rfl
      · have : ¬ need 64 (be l) ≤ N := fun hc => h3 (hs.1 hc)
        rw [if_pos (by omega), if_neg h3]
end Go.Proofs.Ytflchcdmgceecaa.Q

set_option linter.unusedVariables false
set_option linter.unusedSimpArgs false
namespace Go.Proofs.Ytflchcdmgceecaa.Q
open Go.Proofs.Ytflchcdmgceecaa.H Go.RowKit Go.Proofs.YtflchcdmgceecaaW.PrintWords Go.Proofs.YtflchcdmgceecaaW.PrintLast Go.Proofs.Ytflchcdmgceecaa.PA Go.Proofs.Ytflchcdmgceecaa.PR Go.Proofs.Ytflchcdmgceecaa.Num

theorem and_one32 (x : Nat) (hx : x < 2 ^ 32) : Go.bits .and .u32 (x : Int) 1 = ((x % 2 : Nat) : Int) := by
  rw [show (1 : Int) = ((1 : Nat) : Int) from rfl, u32_and_nat _ _ hx (by decide), Nat.and_one_is_mod]
theorem and_one64 (x : Nat) (hx : x < 2 ^ 64) : Go.bits .and .u64 (x : Int) 1 = ((x % 2 : Nat) : Int) := by
  rw [show (1 : Int) = ((1 : Nat) : Int) from rfl, u64_and_nat _ _ hx (by decide), Nat.and_one_is_mod]
theorem u64_id (x : Nat) (hx : x < 2 ^ 64) : IntKind.u64.wrap (x : Int) = (x : Int) := by
  have := IntKind.wrap_u64 (x : Int)
  omega
theorem shr_nat32 (x s : Nat) (hs : s ≤ 32) : shr .u32 (x : Int) (s : Int) = ((x / 2 ^ s : Nat) : Int) := by
  unfold shr
  rw [Int.toNat_natCast, Nat.min_eq_left (by exact hs), Int.natCast_ediv, Int.natCast_pow]
  rfl
theorem shr_nat64 (x s : Nat) (hs : s ≤ 64) : shr .u64 (x : Int) (s : Int) = ((x / 2 ^ s : Nat) : Int) := by
  unfold shr
  rw [Int.toNat_natCast, Nat.min_eq_left (by exact hs), Int.natCast_ediv, Int.natCast_pow]
  rfl
theorem bit_of_digit (v i b : Nat) (hb : 0 < b) : v / 2 ^ (b * (i / b)) % 2 ^ b / 2 ^ (i % b) % 2 = v / 2 ^ i % 2 := by
  have h1 : i % b < b := Nat.mod_lt _ hb
  have h2 : i % b + b * (i / b) = i := Nat.mod_add_div i b
  have e : ∀ x : Nat, x % 2 = (x.testBit 0).toNat := by intro x; rw [Nat.testBit_zero]; rcases Nat.mod_two_eq_zero_or_one x with h | h <;> simp [h]
  rw [e, e (v / 2 ^ i)]
  congr 1
  simp only [Nat.testBit_mod_two_pow, Nat.testBit_div_two_pow, Nat.zero_add, h2, h1, decide_true, Bool.true_and]

theorem bit_nat (v i : Nat) (hi : i < 9223372036854775808) : sconceref03_Bit.f (B v) (i : Int) = some ((v / 2 ^ i % 2 : Nat) : Int) := by
  unfold sconceref03_Bit.f
  have e1 : wrap64 (Int.tdiv (i : Int) 32) = ((i / 32 : Nat) : Int) := by rw [tdivN' (b := 32) i 32 rfl, w64 (by omega) (by omega)]
  have e2 : IntKind.u64.wrap (Int.tmod (i : Int) 32) = ((i % 32 : Nat) : Int) := by rw [tmodN' (b := 32) i 32 rfl]; exact u64_id _ (by omega)
  rw [if_neg (by omega), e1, e2, B_length]
  by_cases h : ((i / 32 : Nat) : Int) ≥ (need 32 v : Int)
  · rw [if_pos h]
    have hlt : v < 2 ^ i := Nat.lt_of_lt_of_le (lt_need (b := 32) (by decide) v) (Nat.pow_le_pow_right (by decide) (by omega))
    rw [Nat.div_eq_of_lt hlt]
    rfl
  · have hd : v / 2 ^ (32 * (i / 32)) % 2 ^ 32 < 2 ^ 32 := Nat.mod_lt _ (by decide)
    have hd2 : v / 2 ^ (32 * (i / 32)) % 2 ^ 32 / 2 ^ (i % 32) < 2 ^ 32 := Nat.lt_of_le_of_lt (Nat.div_le_self _ _) hd
    rw [if_neg h, if_pos (by omega), if_pos (by omega), if_pos (by omega), rd_B, shr_nat32 _ _ (by omega), and_one32 _ hd2, bit_of_digit v i 32 (by decide), u64_id _ (by omega)]
theorem bit_spec (v : Nat) (i : Int) (hi : i < 9223372036854775808) : sconceref03_Bit.f (B v) i = some (if i < 0 then 0 else ((v / 2 ^ i.toNat % 2 : Nat) : Int)) := by
  by_cases h : i < 0
  · unfold sconceref03_Bit.f; rw [if_pos h, if_pos h]
  · obtain ⟨n, rfl⟩ : ∃ n : Nat, i = (n : Int) := ⟨i.toNat, by omega⟩
    rw [if_neg h, bit_nat v n (by omega), Int.toNat_natCast]

theorem bitlen_loop (v : Nat) : ∀ (n k : Nat), n < 4611686018427387904 → bitlen v ≤ n → n < k → sconceref03_BitLen.l0 k (B v) (n : Int) = some ((bitlen v : Nat) : Int) := by
  intro n
  induction n with
  | zero =>
    intro k _ hn hk
    obtain ⟨k, rfl⟩ : ∃ j, k = j + 1 := ⟨k - 1, by omega⟩
    simp [sconceref03_BitLen.l0, show bitlen v = 0 by omega]
  | succ n ih =>
    intro k hb hn hk
    obtain ⟨k, rfl⟩ : ∃ j, k = j + 1 := ⟨k - 1, by omega⟩
    have hw : wrap64 (((n + 1 : Nat) : Int) - 1) = (n : Int) := by rw [w64] <;> omega
    simp only [sconceref03_BitLen.l0, hw]
    rw [if_pos (by omega), bit_nat v n (by omega), Option.bind_some]
    by_cases h : bitlen v ≤ n
    · have hlt : v < 2 ^ n := (lt_pow_iff v n).2 h
      rw [Nat.div_eq_of_lt hlt, if_pos (by rfl)]
      exact ih k (by omega) h (by omega)
    · have hge := pow_le_of_bitlen (v := v) (n := n) (by omega)
      have hlt : v < 2 ^ (n + 1) := (lt_pow_iff v (n + 1)).2 hn
      have h1 : v / 2 ^ n = 1 := by
        have a1 : 1 ≤ v / 2 ^ n := (Nat.le_div_iff_mul_le (pow_pos' _)).2 (by simpa using hge)
        have a2 : v / 2 ^ n < 2 := (Nat.div_lt_iff_lt_mul (pow_pos' _)).2 (by rw [Nat.pow_succ] at hlt; omega)
        omega
      rw [h1, if_neg (by decide)]
      congr 2
      omega
theorem bitlen_need (v : Nat) : bitlen v ≤ 32 * need 32 v := bitlen_le (lt_need (by decide) v)
theorem bitlen_spec (v k : Nat) (h : need 32 v ≤ 1125899906842624) (hk : 32 * need 32 v < k) : sconceref03_BitLen.f k (B v) = some ((bitlen v : Nat) : Int) := by
  unfold sconceref03_BitLen.f
  have e : wrap64 (32 * ((B v).length : Int)) = ((32 * need 32 v : Nat) : Int) := by rw [B_length, w64 (by omega) (by omega)]; omega
  rw [e]
  exact bitlen_loop v _ k (by omega) (bitlen_need v) hk

theorem byte_of_digit (v e : Nat) : v / 2 ^ (32 * (e / 4)) % 2 ^ 32 / 2 ^ (8 * (e % 4)) % 2 ^ 8 = v / 2 ^ (8 * e) % 2 ^ 8 := by
  apply Nat.eq_of_testBit_eq
  intro i
  simp only [Nat.testBit_mod_two_pow, Nat.testBit_div_two_pow]
  by_cases hi : i < 8
  · have h1 : i + 8 * (e % 4) < 32 := by omega
    have h2 : i + 8 * (e % 4) + 32 * (e / 4) = i + 8 * e := by omega
    simp [hi, h1, h2]
  · simp [hi]

/-- So many bytes of a number, the highest ahead, the first i of them. -/
def topBytes (v n i : Nat) : List Int := (List.range n).map fun p => if p < i then ((v / 2 ^ (8 * (n - 1 - p)) % 2 ^ 8 : Nat) : Int) else 0
theorem topBytes_length (v n i : Nat) : (topBytes v n i).length = n := by simp [topBytes]
theorem topBytes_set (v n i : Nat) (h : i < n) : (topBytes v n i).set i ((v / 2 ^ (8 * (n - 1 - i)) % 2 ^ 8 : Nat) : Int) = topBytes v n (i + 1) := by
  apply List.ext_getElem
  · simp [topBytes]
  · intro j h1 h2
    rw [List.getElem_set]
    simp only [topBytes, List.getElem_map, List.getElem_range]
    by_cases hj : i = j
    · subst hj; simp
    · rw [if_neg hj]
      by_cases h3 : j < i
      · rw [if_pos h3, if_pos (by omega)]
      · rw [if_neg h3, if_neg (by omega)]
theorem topBytes_all (v n : Nat) : topBytes v n n = (ints (digs 8 n v)).reverse := by
  apply List.ext_getElem
  · simp [topBytes, ints_length, digs_length]
  · intro j h1 h2
    rw [topBytes_length] at h1
    have e := getD_digs 8 n v (n - 1 - j) (by omega)
    rw [List.getD_eq_getElem?_getD, List.getElem?_eq_getElem (by rw [digs_length]; omega), Option.getD_some] at e
    rw [List.getElem_reverse]
    simp only [topBytes, ints, List.getElem_map, List.getElem_range, List.length_map, digs_length]
    rw [if_pos h1, e]
    rfl
theorem tobytes_loop (v n : Nat) (hn : n ≤ 1099511627776) (d : Nat) : ∀ (k i : Nat), i + d = n → d < k → sconceref03_ToBytes.l0 k (B v) (topBytes v n i) (n : Int) (i : Int) = some (topBytes v n n) := by
  induction d with
  | zero =>
    intro k i hi hk
    obtain ⟨k, rfl⟩ : ∃ j, k = j + 1 := ⟨k - 1, by omega⟩
    simp only [sconceref03_ToBytes.l0]
    rw [if_neg (by omega)]
    obtain rfl : i = n := by omega
    rfl
  | succ d ih =>
    intro k i hi hk
    obtain ⟨k, rfl⟩ : ∃ j, k = j + 1 := ⟨k - 1, by omega⟩
    simp only [sconceref03_ToBytes.l0, topBytes_length]
    obtain ⟨t, ht⟩ : ∃ t, t = n - 1 - i := ⟨_, rfl⟩
    have e0 : wrap64 (wrap64 ((n : Int) - 1) - (i : Int)) = (t : Int) := by rw [w64 (x := (n : Int) - 1) (by omega) (by omega), w64 (by omega) (by omega)]; omega
    have e1 : wrap64 (Int.tdiv (t : Int) 4) = ((t / 4 : Nat) : Int) := by rw [tdivN' (b := 4) t 4 rfl, w64 (by omega) (by omega)]
    have e2 : Int.tmod (t : Int) 4 = ((t % 4 : Nat) : Int) := tmodN' (b := 4) t 4 rfl
    have e3 := shift8 (t % 4) (Nat.mod_lt _ (by decide))
    have hd : v / 2 ^ (32 * (t / 4)) % 2 ^ 32 < 2 ^ 32 := Nat.mod_lt _ (by decide)
    have e4 : shr .u32 ((v / 2 ^ (32 * (t / 4)) % 2 ^ 32 : Nat) : Int) ((8 * (t % 4) : Nat) : Int) % 256 = ((v / 2 ^ (8 * t) % 2 ^ 8 : Nat) : Int) := by
      rw [shr_nat32 _ _ (by omega), ← byte_of_digit v t, Int.natCast_emod]
      rfl
    have hp8 : (0 : Int) ≤ ((8 * (t % 4) : Nat) : Int) := Int.natCast_nonneg _
    rw [if_pos (by omega), e0, e1, e2, e3, digit_spec, Option.bind_some, e4, if_pos hp8, if_pos (by omega), if_pos (by omega), Int.toNat_natCast, ht, topBytes_set v n i (by omega), w64 (by omega) (by omega)]
    exact ih k (i + 1) (by omega) (by omega)
theorem tobytes_spec (v n : Nat) (hn : n ≤ 1099511627776) (k : Nat) (hk : n < k) : sconceref03_ToBytes.f k (B v) (n : Int) = some (ints (digs 8 n v)).reverse := by
  unfold sconceref03_ToBytes.f
  rw [mx_of (by omega), if_pos (by omega), if_pos (by omega), Option.bind_some, ← topBytes_all]
  have := tobytes_loop v n hn n k 0 (by omega) hk
  have e0 : topBytes v n 0 = List.replicate n 0 := by
    apply List.ext_getElem
    · simp [topBytes]
    · intro j h1 h2; simp [topBytes]
  rw [e0] at this
  simpa using this

theorem need32_le {l : List Int} (h : inB 64 l) : need 32 (val 64 (nats l)) ≤ 2 * l.length := need_le (by decide) (by
  have := val_lt (ok_nats h)
  rw [nats_length] at this
  rwa [show 32 * (2 * l.length) = 64 * l.length by omega])

theorem bytes_spec {l : List Int} (h : inB 64 l) (hm : l.length ≤ 400) (n : Int) (k : Nat) (hk : 40000 < k) : sconceref03_Bytes.f k l n = nat_Bytes.f l n := by
  unfold sconceref03_Bytes.f nat_Bytes.f
  rw [if_pos (c := inB 64 l ∧ l.length ≤ 140737488351232) ⟨h, by omega⟩]
  obtain ⟨k, rfl⟩ : ∃ j, k = j + 1 := ⟨k - 1, by omega⟩
  by_cases h1 : n > 2400
  · rw [if_pos h1, if_pos (.inl h1)]; simp [sconceref03_Bytes.j0]
  · rw [if_neg h1]
    by_cases h2 : (l.length : Int) > 300
    · rw [if_pos (.inr (by omega))]; simp [sconceref03_Bytes.j0, h2]
    · rw [if_neg (by omega)]
      have hn32 := need32_le h
      have hbl := bitlen_need (val 64 (nats l))
      have hd : decide ((l.length : Int) > 300) = false := by simpa using h2
      simp only [sconceref03_Bytes.j0, hd]
      rw [if_neg (by decide), of_spec h (by omega) k (by omega), Option.bind_some]
      by_cases h3 : n < 0
      · rw [if_pos h3, if_pos (.inl h3)]
      · obtain ⟨N, rfl⟩ : ∃ N : Nat, n = (N : Int) := ⟨n.toNat, by omega⟩
        have e1 : wrap64 (Int.tdiv (wrap64 (((bitlen (val 64 (nats l)) : Nat) : Int) + 7)) 8) = (((bitlen (val 64 (nats l)) + 7) / 8 : Nat) : Int) := by
          rw [w64 (x := ((bitlen (val 64 (nats l)) : Nat) : Int) + 7) (by omega) (by omega), show ((bitlen (val 64 (nats l)) : Nat) : Int) + 7 = ((bitlen (val 64 (nats l)) + 7 : Nat) : Int) from rfl, tdivN' (b := 8) _ 8 rfl, w64 (by omega) (by omega)]
        rw [if_neg h3, bitlen_spec _ k (by omega) (by omega), Option.bind_some, e1]
        by_cases h4 : (((bitlen (val 64 (nats l)) + 7) / 8 : Nat) : Int) > (N : Int)
        · rw [if_pos h4, if_pos (.inr h4)]
        · rw [if_neg h4, if_neg (by omega), tobytes_spec _ N (by omega) k (by omega), Option.bind_some, Int.toNat_natCast]

theorem resize_spec {l : List Int} (h : inB 64 l) (hm : l.length ≤ 400) (n : Int) (k : Nat) (hk : 40000 < k) : sconceref03_Resize.f k l n = nat_Resize.f l n := by
  unfold sconceref03_Resize.f nat_Resize.f
  rw [if_pos (c := inB 64 l ∧ l.length ≤ 140737488351232) ⟨h, by omega⟩]
  by_cases h1 : n > 300
  · rw [if_pos h1, if_pos (by omega)]
  · have hn32 := need32_le h
    rw [if_neg h1, if_neg (by omega), of_spec h (by omega) k (by omega), Option.bind_some]
    by_cases h2 : n < 0
    · rw [if_pos h2, if_pos (by omega)]
    · obtain ⟨N, rfl⟩ : ∃ N : Nat, n = (N : Int) := ⟨n.toNat, by omega⟩
      rw [if_neg h2, words_spec _ (by omega), Option.bind_some]
      by_cases h3 : ((need 64 (val 64 (nats l)) : Nat) : Int) > (N : Int)
      · rw [if_pos h3, if_pos h3]
      · rw [if_neg h3, if_neg (by omega), nat_spec _ N (by omega) k (by omega), Option.bind_some, Int.toNat_natCast]

theorem small_spec (w : Nat) (hw : w < 2 ^ 64) (k : Nat) (hk : 2 < k) : sconceref03_Small.f k (w : Int) = some (B w) := by
  unfold sconceref03_Small.f
  have e : ([(w : Int) % 4294967296, (w : Int) / 4294967296 % 4294967296] : List Int) = ints (digs 32 2 w) := by
    simp [ints, digs]
  rw [e, trim_spec _ k (digs_ok _ _ _) (by rw [digs_length]; decide) (by rw [digs_length]; exact hk), val_digs_lt (by simpa using hw), Option.bind_some]
theorem word_spec (w : Nat) (hw : w < 2 ^ 64) (n : Int) (k : Nat) (hk : 400 < k) : sconceref03_Word.f k (w : Int) n = nat_Word.f (w : Int) n := by
  unfold sconceref03_Word.f nat_Word.f
  obtain ⟨m, hm, h1, h3⟩ : ∃ m : Nat, mn (mx n 1) 300 = (m : Int) ∧ 1 ≤ m ∧ m ≤ 300 := by
    refine ⟨(mn (mx n 1) 300).toNat, ?_⟩
    unfold mn mx
    (repeat' split) <;> omega
  rw [small_spec w hw k (by omega), Option.bind_some, hm, nat_spec w m (by omega) k (by omega), Option.bind_some, if_pos (by omega), if_pos (by omega), Option.bind_some, if_pos (by simp; omega)]
  congr 1
  obtain ⟨j, rfl⟩ : ∃ j, m = j + 1 := ⟨m - 1, by omega⟩
  have hw0 : w / 2 ^ 64 = 0 := Nat.div_eq_of_lt hw
  simp [ints, digs, List.replicate_succ, Nat.mod_eq_of_lt hw, hw0, digs_zero]

/-! ### the order -/
def sgn (u v : Nat) : Int := if u < v then -1 else if u = v then 0 else 1
theorem sgn_low {u v b i : Nat} (hh : u / 2 ^ (b * (i + 1)) = v / 2 ^ (b * (i + 1))) (hl : u / 2 ^ (b * i) % 2 ^ b < v / 2 ^ (b * i) % 2 ^ b) : u < v := by
  have e : ∀ x : Nat, x / 2 ^ (b * i) = x / 2 ^ (b * (i + 1)) * 2 ^ b + x / 2 ^ (b * i) % 2 ^ b := by
    intro x
    have := Nat.div_add_mod (x / 2 ^ (b * i)) (2 ^ b)
    rw [Nat.div_div_eq_div_mul, ← Nat.pow_add, show b * i + b = b * (i + 1) by rw [Nat.mul_add, Nat.mul_one]] at this
    rw [Nat.mul_comm] at this
    exact this.symm
  have h1 : u / 2 ^ (b * i) < v / 2 ^ (b * i) := by rw [e u, e v, hh]; omega
  rcases Nat.lt_or_ge u v with h | h
  · exact h
  · exact absurd (Nat.div_le_div_right (c := 2 ^ (b * i)) h) (Nat.not_le.2 h1)
theorem high_step {u v b i : Nat} (hh : u / 2 ^ (b * (i + 1)) = v / 2 ^ (b * (i + 1))) (hl : u / 2 ^ (b * i) % 2 ^ b = v / 2 ^ (b * i) % 2 ^ b) : u / 2 ^ (b * i) = v / 2 ^ (b * i) := by
  have e : ∀ x : Nat, x / 2 ^ (b * i) = x / 2 ^ (b * (i + 1)) * 2 ^ b + x / 2 ^ (b * i) % 2 ^ b := by
    intro x
    have := Nat.div_add_mod (x / 2 ^ (b * i)) (2 ^ b)
    rw [Nat.div_div_eq_div_mul, ← Nat.pow_add, show b * i + b = b * (i + 1) by rw [Nat.mul_add, Nat.mul_one]] at this
    rw [Nat.mul_comm] at this
    exact this.symm
  rw [e u, e v, hh, hl]
theorem cmp_loop (u v : Nat) (hn : need 32 u = need 32 v) (hm : need 32 u ≤ 1125899906842624) : ∀ (n k : Nat), n ≤ need 32 u → n < k → u / 2 ^ (32 * n) = v / 2 ^ (32 * n) → sconceref03_Cmp.l0 k (B u) (B v) ((n : Int) - 1) = some (sgn u v) := by
  intro n
  induction n with
  | zero =>
    intro k _ hk hh
    obtain ⟨k, rfl⟩ : ∃ j, k = j + 1 := ⟨k - 1, by omega⟩
    have : u = v := by simpa using hh
    simp [sconceref03_Cmp.l0, sgn, this]
  | succ n ih =>
    intro k hl hk hh
    obtain ⟨k, rfl⟩ : ∃ j, k = j + 1 := ⟨k - 1, by omega⟩
    have e : ((n + 1 : Nat) : Int) - 1 = (n : Int) := by omega
    simp only [sconceref03_Cmp.l0, e]
    rw [if_pos (by omega), if_pos (by omega), if_pos (by rw [B_length]; omega), if_pos (by rw [B_length]; omega), rd_B, rd_B]
    by_cases he : u / 2 ^ (32 * n) % 2 ^ 32 = v / 2 ^ (32 * n) % 2 ^ 32
    · rw [if_pos (by rw [he]), w64 (by omega) (by omega)]
      exact ih k (by omega) (by omega) (high_step hh he)
    · rw [if_neg (by omega)]
      by_cases hlt : u / 2 ^ (32 * n) % 2 ^ 32 < v / 2 ^ (32 * n) % 2 ^ 32
      · rw [if_pos (by omega)]
        have := sgn_low hh hlt
        rw [sgn, if_pos this]
      · rw [if_neg (by omega)]
        have := sgn_low hh.symm (show v / 2 ^ (32 * n) % 2 ^ 32 < u / 2 ^ (32 * n) % 2 ^ 32 by omega)
        rw [sgn, if_neg (by omega), if_neg (by omega)]
theorem cmp_spec (u v k : Nat) (hm : need 32 u ≤ 1125899906842624) (hm2 : need 32 v ≤ 1125899906842624) (hk : need 32 u < k) : sconceref03_Cmp.f k (B u) (B v) = some (sgn u v) := by
  unfold sconceref03_Cmp.f
  rw [B_length, B_length]
  by_cases h : (need 32 u : Int) = (need 32 v : Int)
  · rw [if_pos h, w64 (by omega) (by omega)]
    refine cmp_loop u v (by omega) hm _ k (Nat.le_refl _) hk ?_
    rw [Nat.div_eq_of_lt (lt_need (by decide) u), Nat.div_eq_of_lt]
    rw [show need 32 u = need 32 v by omega]
    exact lt_need (by decide) v
  · rw [if_neg h]
    by_cases h2 : (need 32 u : Int) < (need 32 v : Int)
    · rw [if_pos h2]
      have a := lt_need (b := 32) (by decide) u
      have b := pow_le_of_need (b := 32) (by decide) (v := v) (n := need 32 u) (by omega)
      rw [sgn, if_pos (by omega)]
    · rw [if_neg h2]
      have a := lt_need (b := 32) (by decide) v
      have b := pow_le_of_need (b := 32) (by decide) (v := u) (n := need 32 v) (by omega)
      rw [sgn, if_neg (by omega), if_neg (by omega)]

theorem at_spec {l : List Int} (h : inB 64 l) (i : Nat) : nat_at.f l (i : Int) = some ((val 64 (nats l) / 2 ^ (64 * i) % 2 ^ 64 : Nat) : Int) := by
  unfold nat_at.f
  rw [if_neg (by omega)]
  by_cases hi : (i : Int) ≥ l.length
  · rw [if_pos hi]
    have := val_lt (ok_nats h)
    rw [nats_length] at this
    rw [Nat.div_eq_of_lt (Nat.lt_of_lt_of_le this (Nat.pow_le_pow_right (by decide) (by omega)))]
    rfl
  · rw [if_neg hi, if_pos (by omega), if_pos (by omega), rdN h]
theorem compare_loop {l m : List Int} (h1 : inB 64 l) (h2 : inB 64 m) : ∀ (n k : Nat), n ≤ 140737488351232 → n < k → val 64 (nats l) / 2 ^ (64 * n) = val 64 (nats m) / 2 ^ (64 * n) → nat_Compare.l0 k l m ((n : Int) - 1) = some (sgn (val 64 (nats l)) (val 64 (nats m))) := by
  intro n
  induction n with
  | zero =>
    intro k _ hk hh
    obtain ⟨k, rfl⟩ : ∃ j, k = j + 1 := ⟨k - 1, by omega⟩
    have : val 64 (nats l) = val 64 (nats m) := by simpa using hh
    simp [nat_Compare.l0, sgn, this]
  | succ n ih =>
    intro k hl hk hh
    obtain ⟨k, rfl⟩ : ∃ j, k = j + 1 := ⟨k - 1, by omega⟩
    have e : ((n + 1 : Nat) : Int) - 1 = (n : Int) := by omega
    simp only [nat_Compare.l0, e]
    rw [if_pos (by omega), at_spec h1, at_spec h2, Option.bind_some, Option.bind_some]
    generalize val 64 (nats l) = u at hh ih ⊢
    generalize val 64 (nats m) = v at hh ih ⊢
    by_cases hlt : u / 2 ^ (64 * n) % 2 ^ 64 < v / 2 ^ (64 * n) % 2 ^ 64
    · rw [if_pos (by omega)]
      have := sgn_low hh hlt
      rw [sgn, if_pos this]
    · rw [if_neg (by omega)]
      by_cases hgt : v / 2 ^ (64 * n) % 2 ^ 64 < u / 2 ^ (64 * n) % 2 ^ 64
      · rw [if_pos (by omega)]
        have := sgn_low hh.symm hgt
        rw [sgn, if_neg (by omega), if_neg (by omega)]
      · rw [if_neg (by omega), w64 (by omega) (by omega)]
        exact ih k (by omega) (by omega) (high_step hh (by omega))
theorem compare_spec {l m : List Int} (h1 : inB 64 l) (h2 : inB 64 m) (hl : l.length ≤ 140737488351232) (hm : m.length ≤ 140737488351232) (k : Nat) (hk : l.length + m.length < k) : nat_Compare.f k l m = some (sgn (val 64 (nats l)) (val 64 (nats m))) := by
  unfold nat_Compare.f
  obtain ⟨n, hn, hln, hmn, hle⟩ : ∃ n : Nat, mx (l.length : Int) (m.length : Int) = (n : Int) ∧ l.length ≤ n ∧ m.length ≤ n ∧ n ≤ l.length + m.length := by
    refine ⟨(mx (l.length : Int) (m.length : Int)).toNat, ?_⟩
    unfold mx
    split <;> omega
  have hn2 : n ≤ 140737488351232 := by
    have : (n : Int) = l.length ∨ (n : Int) = m.length := by rw [← hn]; unfold mx; split <;> simp
    omega
  rw [hn, w64 (by omega) (by omega)]
  refine compare_loop h1 h2 n k hn2 (by omega) ?_
  have a := val_lt (ok_nats h1)
  have b := val_lt (ok_nats h2)
  rw [nats_length] at a b
  rw [Nat.div_eq_of_lt (Nat.lt_of_lt_of_le a (Nat.pow_le_pow_right (by decide) (by omega))), Nat.div_eq_of_lt (Nat.lt_of_lt_of_le b (Nat.pow_le_pow_right (by decide) (by omega)))]
theorem natbit_spec {l : List Int} (h : inB 64 l) (i : Int) (hi : i < 9223372036854775808) : nat_Bit.f l i = some (if i < 0 then 0 else ((val 64 (nats l) / 2 ^ i.toNat % 2 : Nat) : Int)) := by
  unfold nat_Bit.f
  by_cases h0 : i < 0
  · rw [if_pos h0, if_pos h0]
  · obtain ⟨n, rfl⟩ : ∃ n : Nat, i = (n : Int) := ⟨i.toNat, by omega⟩
    have e1 : wrap64 (Int.tdiv (n : Int) 64) = ((n / 64 : Nat) : Int) := by rw [tdivN' (b := 64) n 64 rfl, w64 (by omega) (by omega)]
    have e2 : Int.tmod (n : Int) 64 = ((n % 64 : Nat) : Int) := tmodN' (b := 64) n 64 rfl
    have hd : val 64 (nats l) / 2 ^ (64 * (n / 64)) % 2 ^ 64 < 2 ^ 64 := Nat.mod_lt _ (by decide)
    have hd2 : val 64 (nats l) / 2 ^ (64 * (n / 64)) % 2 ^ 64 / 2 ^ (n % 64) < 2 ^ 64 := Nat.lt_of_le_of_lt (Nat.div_le_self _ _) hd
    rw [if_neg h0, if_neg h0, e1, e2, at_spec h, Option.bind_some, if_pos (by omega), shr_nat64 _ _ (by omega), and_one64 _ hd2, bit_of_digit _ n 64 (by decide), Int.toNat_natCast]
end Go.Proofs.Ytflchcdmgceecaa.Q
