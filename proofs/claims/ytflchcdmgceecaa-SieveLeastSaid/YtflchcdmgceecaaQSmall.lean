/- What bits.Div64, product.Small and the reference's Small answer for a small divisor: the rest of the number. -/
import Derived.Test.YtflchcdmgceecaaPMx3
import Derived.Test.YtflchcdmgceecaaPMx1
import Derived.Test.YtflchcdmgceecaaQRef2
set_option linter.unusedVariables false
set_option linter.unusedSimpArgs false
namespace Go.Proofs.Ytflchcdmgceecaa.Q
open Go.Proofs.Ytflchcdmgceecaa.H Go.RowKit Go.Proofs.YtflchcdmgceecaaW.PrintWords Go.Proofs.YtflchcdmgceecaaW.PrintLast Go.Proofs.Ytflchcdmgceecaa.PA Go.Proofs.Ytflchcdmgceecaa.PR Go.Proofs.Ytflchcdmgceecaa.PM Go.Proofs.Ytflchcdmgceecaa.Num

theorem or_low' (c z r : Nat) (hc : c < 2 ^ r) (hz : z * 2 ^ r + c < 2 ^ 64) : Go.bits .or .u64 ((z * 2 ^ r : Nat) : Int) (c : Int) = ((z * 2 ^ r + c : Nat) : Int) := by
  rw [u64_or_nat _ _ (by omega) (by omega)]
  congr 1
  rw [Nat.mul_comm z]
  exact (Nat.two_pow_add_eq_or_of_lt hc z).symm
theorem mask32 (x : Nat) (hx : x < 2 ^ 64) : Go.bits .and .u64 (x : Int) 4294967295 = ((x % 2 ^ 32 : Nat) : Int) := by
  rw [show (4294967295 : Int) = ((4294967295 : Nat) : Int) from rfl, u64_and_nat _ _ hx (by decide), show (4294967295 : Nat) = 2 ^ 32 - 1 by decide, Nat.and_two_pow_sub_one_eq_mod]
theorem shl_nat64 (x s : Nat) (hs : s ≤ 64) : shl .u64 (x : Int) (s : Int) = ((x * 2 ^ s % 2 ^ 64 : Nat) : Int) := by
  unfold shl
  rw [Int.toNat_natCast, Nat.min_eq_left (by exact hs), IntKind.wrap_u64, Int.natCast_emod, Int.natCast_mul, Int.natCast_pow]
  rfl
theorem wr3 (a b c : Int) (C : Nat) (h : a + b - c = (C : Int)) (hC : C < 18446744073709551616) : IntKind.u64.wrap (IntKind.u64.wrap (IntKind.u64.wrap a + b) - IntKind.u64.wrap c) = (C : Int) := by
  simp only [IntKind.wrap_u64]
  omega
theorem wz (x : Int) (h0 : 0 ≤ x) (h : x < 18446744073709551616) : IntKind.u64.wrap x = x := by
  simp only [IntKind.wrap_u64]
  omega
theorem big_mod {U y q Y1 r0 L : Nat} (hU : U = y * q + (r0 * 2 ^ 32 + L)) (h : r0 * 2 ^ 32 + L < y) : U % y = r0 * 2 ^ 32 + L := by
  rw [hU, Nat.mul_add_mod, Nat.mod_eq_of_lt h]
theorem step_eq (Y q r Z V : Nat) (d : Y * q + r = Z) (h : r * 2 ^ 32 + V < 2 ^ 64) : IntKind.u64.wrap (IntKind.u64.wrap (IntKind.u64.wrap ((Z : Int) * 4294967296) + (V : Int)) - IntKind.u64.wrap ((q : Int) * ((Y * 2 ^ 32 : Nat) : Int))) = ((r * 2 ^ 32 + V : Nat) : Int) := by
  have h1 : q * (Y * 2 ^ 32) = Y * q * 2 ^ 32 := by rw [← Nat.mul_assoc, Nat.mul_comm q]
  apply wr3
  · rw [← Int.natCast_mul, h1]
    generalize Y * q = M at d ⊢
    omega
  · omega
theorem two_steps (Y q1 r1 U q0 r0 Z V V1 V0 : Nat) (d1 : Y * q1 + r1 = U) (hZ : Z = r1 * 2 ^ 32 + V1) (d0 : Y * q0 + r0 = Z) (hV : V = V1 * 2 ^ 32 + V0) (hr : r0 < Y) (h0 : V0 < 2 ^ 32) : (U * 2 ^ 64 + V) % (Y * 2 ^ 32) = r0 * 2 ^ 32 + V0 := by
  have h1 : Y * 2 ^ 32 * q1 = Y * q1 * 2 ^ 32 := by rw [Nat.mul_right_comm]
  have h2 : Y * 2 ^ 32 * q0 = Y * q0 * 2 ^ 32 := by rw [Nat.mul_right_comm]
  apply big_mod (q := q1 * 2 ^ 32 + q0) (Y1 := 0)
  · rw [Nat.mul_add, ← Nat.mul_assoc (Y * 2 ^ 32), h1, h2]
    generalize Y * q0 = M at d0 ⊢
    generalize Y * q1 = M1 at d1 ⊢
    omega
  · omega
theorem lt64 {r V : Nat} (hr : r < 2 ^ 32) (hV : V < 2 ^ 32) : r * 2 ^ 32 + V < 2 ^ 64 := by omega
theorem div64_small (hi lo p : Nat) (hp : hi < p) (hp2 : p < 2 ^ 32) (hlo : lo < 2 ^ 64) (k : Nat) (hk : 6 < k) : ∃ q : Int, bits_Div64.f k (hi : Int) (lo : Int) (p : Int) = some (q, (((hi * 2 ^ 64 + lo) % p : Nat) : Int)) := by
  unfold bits_Div64.f
  rw [if_neg (by omega), if_neg (by omega)]
  by_cases h0 : hi = 0
  · subst h0
    rw [if_pos (by omega), tmodN, Nat.zero_mul, Nat.zero_add]
    exact ⟨_, rfl⟩
  · rw [if_neg (by omega)]
    unfold bits_LeadingZeros64.f
    rw [if_pos (by omega), Option.bind_some, Int.toNat_natCast, bitLen_eq (by omega)]
    obtain ⟨b, hb⟩ : ∃ b, b = bitlen p := ⟨_, rfl⟩
    have hb1 : b ≤ 32 := by rw [hb]; exact bitlen_le hp2
    have hpb : p < 2 ^ b := by rw [hb]; exact lt_bitlen p
    have hb0 : 0 < b := by rw [hb]; exact bitlen_pos (by omega)
    have hpb2 : 2 ^ (b - 1) ≤ p := pow_le_of_bitlen (by omega)
    rw [← hb]
    obtain ⟨s, hs⟩ : ∃ s, s = 64 - b := ⟨_, rfl⟩
    have e1 : IntKind.u64.wrap (64 - (b : Int)) = (s : Int) := by rw [wz _ (by omega) (by omega)]; omega
    rw [e1]
    have e2 : IntKind.u64.wrap (64 - (s : Int)) = (b : Int) := by rw [wz _ (by omega) (by omega)]; omega
    rw [e2, if_pos (by omega), if_pos (by omega)]
    have hbs : 2 ^ b * 2 ^ s = 2 ^ 64 := by rw [← Nat.pow_add, show b + s = 64 by omega]
    have hs32 : 2 ^ s = 2 ^ (s - 32) * 2 ^ 32 := by rw [← Nat.pow_add, show s - 32 + 32 = s by omega]
    have hps : p * 2 ^ s < 2 ^ 64 := by rw [← hbs]; exact Nat.mul_lt_mul_of_pos_right hpb (Nat.pow_pos (by decide))
    have hhs : hi * 2 ^ s < p * 2 ^ s := Nat.mul_lt_mul_of_pos_right hp (Nat.pow_pos (by decide))
    obtain ⟨Y, hY⟩ : ∃ Y, Y = p * 2 ^ (s - 32) := ⟨_, rfl⟩
    have hy : p * 2 ^ s = Y * 2 ^ 32 := by rw [hs32, hY, Nat.mul_assoc]
    have hYp : 0 < Y := by rw [hY]; exact Nat.mul_pos (by omega) (Nat.pow_pos (by decide))
    rw [shl_nat64 p s (by omega), shl_nat64 hi s (by omega), shl_nat64 lo s (by omega), shr_nat64 lo b (by omega), Nat.mod_eq_of_lt hps, Nat.mod_eq_of_lt (Nat.lt_trans hhs hps)]
    have hl1 : lo / 2 ^ b < 2 ^ s := by rw [Nat.div_lt_iff_lt_mul (Nat.pow_pos (by decide)), Nat.mul_comm, hbs]; exact hlo
    obtain ⟨U, hU⟩ : ∃ U, U = hi * 2 ^ s + lo / 2 ^ b := ⟨_, rfl⟩
    have hUy : U < p * 2 ^ s := by
      have h1 : (hi + 1) * 2 ^ s ≤ p * 2 ^ s := Nat.mul_le_mul_right _ (by omega)
      rw [Nat.add_mul, Nat.one_mul] at h1
      omega
    rw [or_low' (lo / 2 ^ b) hi s hl1 (by rw [← hU]; omega), ← hU]
    have hlow : lo * 2 ^ s % 2 ^ 64 = lo % 2 ^ b * 2 ^ s := by rw [← hbs, Nat.mul_mod_mul_right]
    obtain ⟨V, hV⟩ : ∃ V, V = lo * 2 ^ s % 2 ^ 64 := ⟨_, rfl⟩
    have hV2 : V < 2 ^ 64 := by rw [hV]; exact Nat.mod_lt _ (by decide)
    have hN : (hi * 2 ^ 64 + lo) * 2 ^ s = U * 2 ^ 64 + V := by
      rw [hV, hlow, hU, Nat.add_mul, Nat.add_mul]
      have h1 := Nat.div_add_mod lo (2 ^ b)
      have h2 : lo * 2 ^ s = lo / 2 ^ b * 2 ^ 64 + lo % 2 ^ b * 2 ^ s := by
        rw [← hbs, ← Nat.mul_assoc, Nat.mul_comm (lo / 2 ^ b), ← Nat.add_mul, h1]
      rw [h2, Nat.mul_right_comm hi, Nat.add_assoc]
    have hfin : (hi * 2 ^ 64 + lo) % p * 2 ^ s = (U * 2 ^ 64 + V) % (p * 2 ^ s) := by rw [← hN, Nat.mul_mod_mul_right]
    rw [← hV]
    rw [hy] at hUy hfin hps ⊢
    rw [mask32 _ hps, mask32 _ hV2, Nat.mul_mod_left]
    have e3 : ((Y * 2 ^ 32 : Nat) : Int) / 4294967296 = (Y : Int) := by omega
    have e4 : (V : Int) / 4294967296 = ((V / 2 ^ 32 : Nat) : Int) := by omega
    rw [e3, if_neg (by omega), e4, tdivN, wz ((U / Y : Nat) : Int) (Int.natCast_nonneg _) (Int.ofNat_lt.2 (Nat.lt_of_le_of_lt (Nat.div_le_self U Y) (by omega : U < 18446744073709551616)))]
    obtain ⟨V1, hV1⟩ : ∃ V1, V1 = V / 2 ^ 32 := ⟨_, rfl⟩
    obtain ⟨V0, hV0⟩ : ∃ V0, V0 = V % 2 ^ 32 := ⟨_, rfl⟩
    obtain ⟨q1, hq1⟩ : ∃ q1, q1 = U / Y := ⟨_, rfl⟩
    obtain ⟨r1, hr1⟩ : ∃ r1, r1 = U % Y := ⟨_, rfl⟩
    have d1 : Y * q1 + r1 = U := by rw [hq1, hr1]; exact Nat.div_add_mod U Y
    have hr1Y : r1 < Y := by rw [hr1]; exact Nat.mod_lt _ hYp
    have hq1b : q1 < 2 ^ 32 := by rw [hq1, Nat.div_lt_iff_lt_mul hYp, Nat.mul_comm]; exact hUy
    have hVV : V = V1 * 2 ^ 32 + V0 := by omega
    have hV0b : V0 < 2 ^ 32 := by omega
    have hV1b : V1 < 2 ^ 32 := by omega
    have hYb : Y < 2 ^ 32 := by omega
    rw [← hV1, ← hV0, ← hq1]
    obtain ⟨Z, hZ⟩ : ∃ Z, Z = r1 * 2 ^ 32 + V1 := ⟨_, rfl⟩
    obtain ⟨q0, hq0⟩ : ∃ q0, q0 = Z / Y := ⟨_, rfl⟩
    obtain ⟨r0, hr0⟩ : ∃ r0, r0 = Z % Y := ⟨_, rfl⟩
    have d0 : Y * q0 + r0 = Z := by rw [hq0, hr0]; exact Nat.div_add_mod Z Y
    have hr0Y : r0 < Y := by rw [hr0]; exact Nat.mod_lt _ hYp
    have hZb : Z < Y * 2 ^ 32 := by omega
    have hq0b : q0 < 2 ^ 32 := by rw [hq0, Nat.div_lt_iff_lt_mul hYp, Nat.mul_comm]; exact hZb
    obtain ⟨k, rfl⟩ : ∃ j, k = j + 1 := ⟨k - 1, by omega⟩
    obtain ⟨k, rfl⟩ : ∃ j, k = j + 1 := ⟨k - 1, by omega⟩
    obtain ⟨k, rfl⟩ : ∃ j, k = j + 1 := ⟨k - 1, by omega⟩
    obtain ⟨k, rfl⟩ : ∃ j, k = j + 1 := ⟨k - 1, by omega⟩
    obtain ⟨k, rfl⟩ : ∃ j, k = j + 1 := ⟨k - 1, by omega⟩
    have hneg : ∀ (q z : Int), decide (IntKind.u64.wrap (q * ((0 : Nat) : Int)) > IntKind.u64.wrap z) = false := fun q z => by
      rw [decide_eq_false_iff_not]
      simp only [IntKind.wrap_u64]
      omega
    have e5 := step_eq Y q1 r1 U V1 d1 (lt64 (Nat.lt_trans hr1Y hYb) hV1b)
    rw [← hZ] at e5
    have e6 := step_eq Y q0 r0 Z V0 d0 (lt64 (Nat.lt_trans hr0Y hYb) hV0b)
    have hrem : (r0 * 2 ^ 32 + V0) / 2 ^ s = (hi * 2 ^ 64 + lo) % p := by
      rw [← two_steps Y q1 r1 U q0 r0 Z V V1 V0 d1 hZ d0 hVV hr0Y hV0b, ← hfin, Nat.mul_div_cancel _ (Nat.pow_pos (by decide))]
    unfold bits_Div64.l0
    rw [if_neg (by omega), hneg]
    unfold bits_Div64.j1
    (try dsimp only)
    rw [if_neg (by decide)]
    unfold bits_Div64.j2
    (try dsimp only)
    rw [if_neg (by omega), e5, tdivN, ← hq0, wz (q0 : Int) (by omega) (by omega)]
    unfold bits_Div64.l1
    (try dsimp only)
    rw [if_neg (by omega), hneg]
    unfold bits_Div64.j4
    (try dsimp only)
    rw [if_neg (by decide), if_pos (by omega), e6, shr_nat64 _ _ (by omega), hrem]
    exact ⟨_, rfl⟩
theorem hor (v i p : Nat) : (v / 2 ^ (64 * (i + 1)) % p * 2 ^ 64 + v / 2 ^ (64 * i) % 2 ^ 64) % p = v / 2 ^ (64 * i) % p := by
  have h1 : v / 2 ^ (64 * i) = v / 2 ^ (64 * (i + 1)) * 2 ^ 64 + v / 2 ^ (64 * i) % 2 ^ 64 := by
    rw [show 64 * (i + 1) = 64 * i + 64 by omega, Nat.pow_add, ← Nat.div_div_eq_div_mul]
    exact (Nat.div_add_mod' _ _).symm
  have h2 : v / 2 ^ (64 * i) % p = (v / 2 ^ (64 * (i + 1)) * 2 ^ 64 + v / 2 ^ (64 * i) % 2 ^ 64) % p := by rw [← h1]
  rw [h2, Nat.add_mod, Nat.mul_mod, Nat.mod_mod, ← Nat.mul_mod, ← Nat.add_mod]
theorem psmall_loop {l : List Int} (h : inB 64 l) (hm : l.length ≤ 140737488351232) (p : Nat) (hp : 0 < p) (hp2 : p < 2 ^ 32) : ∀ (n k : Nat), n ≤ l.length → n + 7 < k → product_Small.l0 k l (p : Int) ((val 64 (nats l) / 2 ^ (64 * n) % p : Nat) : Int) ((n : Int) - 1) = some (((val 64 (nats l) % p : Nat) : Int), 0) := by
  intro n
  induction n with
  | zero =>
    intro k hn hk
    obtain ⟨k, rfl⟩ : ∃ j, k = j + 1 := ⟨k - 1, by omega⟩
    unfold product_Small.l0
    rw [if_neg (by omega), Nat.mul_zero, Nat.pow_zero, Nat.div_one]
  | succ n ih =>
    intro k hn hk
    obtain ⟨k, rfl⟩ : ∃ j, k = j + 1 := ⟨k - 1, by omega⟩
    unfold product_Small.l0
    rw [show (((n + 1 : Nat) : Int) - 1) = (n : Int) by omega, if_pos (by omega), if_pos (by omega), if_pos (by omega), rdN h]
    obtain ⟨q, hq⟩ := div64_small (val 64 (nats l) / 2 ^ (64 * (n + 1)) % p) (val 64 (nats l) / 2 ^ (64 * n) % 2 ^ 64) p (Nat.mod_lt _ hp) hp2 (Nat.mod_lt _ (by decide)) k (by omega)
    rw [hq, Option.bind_some, hor, w64 (by omega) (by omega)]
    exact ih k (by omega) (by omega)
theorem psmall_spec {l : List Int} (h : inB 64 l) (hm : l.length ≤ 140737488351232) (p : Nat) (hp : 0 < p) (hp2 : p < 2 ^ 32) (k : Nat) (hk : l.length + 7 < k) : product_Small.f k l (p : Int) = some (((val 64 (nats l) % p : Nat) : Int), 0) := by
  unfold product_Small.f
  rw [if_neg (by omega), w64 (by omega) (by omega)]
  have h1 := psmall_loop h hm p hp hp2 l.length k (Nat.le_refl _) hk
  have h2 := val_lt (ok_nats h)
  rw [nats_length] at h2
  rw [Nat.div_eq_of_lt h2, Nat.zero_mod] at h1
  exact h1
theorem or_bit' (r b : Nat) (hb : b < 2) (hr : 2 * r + b < 2 ^ 64) : Go.bits .or .u64 (IntKind.u64.wrap ((r : Int) * 2)) (b : Int) = ((2 * r + b : Nat) : Int) := by
  have := or_low' b r 1 (by omega) (by omega)
  rw [wz _ (by omega) (by omega), show ((r : Int) * 2) = ((r * 2 ^ 1 : Nat) : Int) by omega, this]
  omega
theorem hor2 (v i p : Nat) : (2 * (v / 2 ^ (i + 1) % p) + v / 2 ^ i % 2) % p = v / 2 ^ i % p := by
  have h1 : v / 2 ^ i = 2 * (v / 2 ^ (i + 1)) + v / 2 ^ i % 2 := by
    rw [Nat.pow_succ, ← Nat.div_div_eq_div_mul]
    exact (Nat.div_add_mod _ _).symm
  have h2 : v / 2 ^ i % p = (2 * (v / 2 ^ (i + 1)) + v / 2 ^ i % 2) % p := by rw [← h1]
  rw [h2, Nat.add_mod, Nat.mul_mod, Nat.mod_mod, ← Nat.mul_mod, ← Nat.add_mod]
theorem rsmall_loop {l : List Int} (h : inB 64 l) (hm : l.length ≤ 17592186044416) (p : Nat) (hp : 0 < p) (hp2 : p < 2 ^ 32) : ∀ (n k : Nat), n ≤ 64 * l.length → n < k → sconceref05_Small.l0 k l (p : Int) ((val 64 (nats l) / 2 ^ n % p : Nat) : Int) ((n : Int) - 1) = some (((val 64 (nats l) % p : Nat) : Int), 0) := by
  intro n
  induction n with
  | zero =>
    intro k hn hk
    obtain ⟨k, rfl⟩ : ∃ j, k = j + 1 := ⟨k - 1, by omega⟩
    unfold sconceref05_Small.l0
    rw [if_neg (by omega), Nat.pow_zero, Nat.div_one]
  | succ n ih =>
    intro k hn hk
    obtain ⟨k, rfl⟩ : ∃ j, k = j + 1 := ⟨k - 1, by omega⟩
    unfold sconceref05_Small.l0
    rw [show (((n + 1 : Nat) : Int) - 1) = (n : Int) by omega, if_pos (by omega), tdivN' n (b := 64) 64 rfl, tmodN' n (b := 64) 64 rfl, w64 (x := ((n / 64 : Nat) : Int)) (by omega) (by omega), if_pos (by omega), if_pos (by omega), rdN h,
      wz ((n % 64 : Nat) : Int) (by omega) (by omega), if_pos (by omega), shr_nat64 _ _ (by omega), and_one64 _ (by
        exact Nat.lt_of_le_of_lt (Nat.div_le_self _ _) (Nat.mod_lt _ (by decide))), bit_of_digit _ _ 64 (by decide)]
    have hr : val 64 (nats l) / 2 ^ (n + 1) % p < p := Nat.mod_lt _ hp
    have hb : val 64 (nats l) / 2 ^ n % 2 < 2 := Nat.mod_lt _ (by decide)
    have hn2 := hor2 (val 64 (nats l)) n p
    have ih' := ih k (by omega) (by omega)
    generalize val 64 (nats l) / 2 ^ (n + 1) % p = r at hr hn2 ⊢
    generalize val 64 (nats l) / 2 ^ n % 2 = b at hb hn2 ⊢
    rw [if_neg (by omega), or_bit' r b hb (by omega), w64 (x := (n : Int) - 1) (by omega) (by omega)]
    by_cases hge : p ≤ 2 * r + b
    · rw [if_pos (by omega)]
      have e1 : (2 * r + b) % p = 2 * r + b - p := by rw [Nat.mod_eq_sub_mod hge, Nat.mod_eq_of_lt (by omega)]
      rw [e1] at hn2
      rw [show IntKind.u64.wrap (((2 * r + b : Nat) : Int) - (p : Int)) = ((2 * r + b - p : Nat) : Int) by rw [wz _ (by omega) (by omega)]; omega, hn2]
      exact ih'
    · rw [if_neg (by omega)]
      rw [Nat.mod_eq_of_lt (by omega)] at hn2
      rw [hn2]
      exact ih'
theorem rsmall_spec {l : List Int} (h : inB 64 l) (hm : l.length ≤ 17592186044416) (p : Nat) (hp : 0 < p) (hp2 : p < 2 ^ 32) (k : Nat) (hk : 64 * l.length < k) : sconceref05_Small.f k l (p : Int) = some (((val 64 (nats l) % p : Nat) : Int), 0) := by
  unfold sconceref05_Small.f
  rw [if_neg (by omega), w64 (x := 64 * (l.length : Int)) (by omega) (by omega), w64 (by omega) (by omega)]
  have h1 := rsmall_loop h hm p hp hp2 (64 * l.length) k (Nat.le_refl _) hk
  have h2 := val_lt (ok_nats h)
  rw [nats_length] at h2
  rw [Nat.div_eq_of_lt h2, Nat.zero_mod, Int.natCast_mul] at h1
  exact h1
end Go.Proofs.Ytflchcdmgceecaa.Q
