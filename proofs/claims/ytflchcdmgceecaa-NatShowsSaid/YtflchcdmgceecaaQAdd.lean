/- The reference's sums, shifts and products of long numbers, in closed form. -/
import Derived.Test.YtflchcdmgceecaaPLx
import Derived.Test.YtflchcdmgceecaaQRef2
set_option linter.unusedVariables false
set_option linter.unusedSimpArgs false
namespace Go.Proofs.Ytflchcdmgceecaa.Q
open Go.RowKit Go.Proofs.YtflchcdmgceecaaW.PrintWords Go.Proofs.YtflchcdmgceecaaW.PrintLast Go.Proofs.Ytflchcdmgceecaa.PA Go.Proofs.Ytflchcdmgceecaa.PR Go.Proofs.Ytflchcdmgceecaa.PL Go.Proofs.Ytflchcdmgceecaa.Num Go.Proofs.Ytflchcdmgceecaa.H

theorem mod_step (v i : Nat) : v % 2 ^ (32 * (i + 1)) = v % 2 ^ (32 * i) + 2 ^ (32 * i) * (v / 2 ^ (32 * i) % 2 ^ 32) := by
  rw [show 32 * (i + 1) = 32 * i + 32 by omega, Nat.pow_add, Nat.mod_mul]
theorem val_snoc (l : List Nat) (x : Nat) : val 32 (l ++ [x]) = val 32 l + 2 ^ (32 * l.length) * x := by
  rw [val_append, val_cons, val_nil]; simp
theorem u64_small {x : Int} (h0 : 0 ≤ x) (h : x < 18446744073709551616) : IntKind.u64.wrap x = x := by
  have := IntKind.wrap_u64 x; omega
theorem need_mod {v i : Nat} (h : need 32 v ≤ i) : v % 2 ^ (32 * i) = v := Nat.mod_eq_of_lt ((need_spec (by decide) v i).1 h)
theorem trim_end (out : List Nat) (c V k : Nat) (hok : ok 32 out) (hc : c < 2 ^ 32) (hv : val 32 out + c * 2 ^ (32 * out.length) = V) (hl : out.length < 35184372088832) (hk : out.length + 1 < k) :
    sconceref03_trim.f k (ints out ++ [((c : Int)) % 4294967296]) = some (B V) := by
  have e : ints out ++ [((c : Int)) % 4294967296] = ints (out ++ [c]) := by
    simp only [ints, List.map_append, List.map_cons, List.map_nil]
    congr 2
    show (c : Int) % 4294967296 = (c : Int)
    omega
  rw [e, trim_spec _ _ (ok_append.2 ⟨hok, ok_cons.2 ⟨hc, ok_nil _⟩⟩) (by simp; omega) (by simp; omega), val_snoc, Nat.mul_comm, hv]

theorem carry (A R Qt Z : Nat) (h : 2 ^ 32 * Qt + R = Z) : A * R + Qt * (A * 2 ^ 32) = A * Z := by
  rw [← h, Nat.mul_add, Nat.add_comm]
  congr 1
  ac_rfl
/-! ### sums -/
theorem add_loop (u v : Nat) (hu : need 32 u ≤ 1099511627776) (hv : need 32 v ≤ 1099511627776) (n : Nat) (hn : n = max (need 32 u) (need 32 v)) : ∀ (d k i c : Nat) (out : List Nat), i + d = n → n + 2 * d + 5 < k → ok 32 out → out.length = i → c ≤ 1 → val 32 out + c * 2 ^ (32 * i) = u % 2 ^ (32 * i) + v % 2 ^ (32 * i) →
    sconceref03_Add.l0 k (B u) (B v) (ints out) (c : Int) (i : Int) = some (B (u + v)) := by
  intro d
  induction d with
  | zero =>
    intro k i c out hi hk hok hl hc hval
    obtain ⟨k, rfl⟩ : ∃ j, k = j + 1 := ⟨k - 1, by omega⟩
    obtain ⟨k, rfl⟩ : ∃ j, k = j + 1 := ⟨k - 1, by omega⟩
    unfold sconceref03_Add.l0
    rw [if_neg (by rw [B_length]; omega), decide_eq_false (by rw [B_length]; omega)]
    unfold sconceref03_Add.j1
    (try dsimp only)
    rw [if_neg (by decide), if_pos (by rw [ints_length]; omega)]
    rw [need_mod (by omega), need_mod (by omega), ← hl] at hval
    rw [trim_end out c (u + v) k hok (by omega) hval (by omega) (by omega)]
    rfl
  | succ d ih =>
    intro k i c out hi hk hok hl hc hval
    obtain ⟨k, rfl⟩ : ∃ j, k = j + 1 := ⟨k - 1, by omega⟩
    obtain ⟨k, rfl⟩ : ∃ j, k = j + 1 := ⟨k - 1, by omega⟩
    have hi2 : i + 1 + d = n := by omega
    have hk2 : n + 2 * d + 5 < k := by omega
    have hj : ∀ b, (b = true) → sconceref03_Add.j1 (k + 1) (B u) (B v) (ints out) (c : Int) (i : Int) b = some (B (u + v)) := by
      intro b hb
      subst hb
      unfold sconceref03_Add.j1
      (try dsimp only)
      rw [if_pos rfl, digit_spec, Option.bind_some, digit_spec, Option.bind_some, if_pos (by rw [ints_length]; omega)]
      obtain ⟨x, hx⟩ : ∃ x, x = u / 2 ^ (32 * i) % 2 ^ 32 := ⟨_, rfl⟩
      obtain ⟨y, hy⟩ : ∃ y, y = v / 2 ^ (32 * i) % 2 ^ 32 := ⟨_, rfl⟩
      have hx2 : x < 2 ^ 32 := by rw [hx]; exact Nat.mod_lt _ (by decide)
      have hy2 : y < 2 ^ 32 := by rw [hy]; exact Nat.mod_lt _ (by decide)
      rw [← hx, ← hy]
      rw [u64_small (x := (x : Int)) (by omega) (by omega), u64_small (x := (y : Int)) (by omega) (by omega), u64_small (x := (x : Int) + (y : Int)) (by omega) (by omega), u64_small (x := (c : Int) + ((x : Int) + (y : Int))) (by omega) (by omega)]
      have hw : wrap64 ((i : Int) + 1) = ((i + 1 : Nat) : Int) := by rw [w64 (by omega) (by omega)]; omega
      have e1 : ints out ++ [((c : Int) + ((x : Int) + (y : Int))) % 4294967296] = ints (out ++ [(c + (x + y)) % 2 ^ 32]) := by
        simp only [ints, List.map_append, List.map_cons, List.map_nil]
        congr 2
      have e2 : ((c : Int) + ((x : Int) + (y : Int))) / 4294967296 = (((c + (x + y)) / 2 ^ 32 : Nat) : Int) := rfl
      have hc2 : (c + (x + y)) / 2 ^ 32 ≤ 1 := by clear hval ih hx hy hok; omega
      rw [hw, e1, e2]
      refine ih k (i + 1) _ _ hi2 hk2 (ok_append.2 ⟨hok, ok_cons.2 ⟨Nat.mod_lt _ (by decide), ok_nil _⟩⟩) (by simp [hl]) hc2 ?_
      rw [val_snoc, mod_step u i, mod_step v i, ← hx, ← hy, hl, show 2 ^ (32 * (i + 1)) = 2 ^ (32 * i) * 2 ^ 32 by rw [← Nat.pow_add]; congr 1]
      have hdm := Nat.div_add_mod (c + (x + y)) (2 ^ 32)
      generalize (c + (x + y)) % 2 ^ 32 = R at hdm ⊢
      generalize (c + (x + y)) / 2 ^ 32 = Qt at hdm ⊢
      have h1 := carry (2 ^ (32 * i)) R Qt _ hdm
      rw [Nat.mul_add (2 ^ (32 * i)) c, Nat.mul_add (2 ^ (32 * i)) x] at h1
      have h2 : c * 2 ^ (32 * i) = 2 ^ (32 * i) * c := Nat.mul_comm _ _
      clear hk2 hi2 hc2 e1 e2 hw hx hy hx2 hy2 ih hok hu hv hn hi hk
      generalize 2 ^ (32 * i) * R = A1 at h1 ⊢
      generalize Qt * (2 ^ (32 * i) * 2 ^ 32) = A2 at h1 ⊢
      generalize 2 ^ (32 * i) * c = A3 at h1 h2
      generalize 2 ^ (32 * i) * x = A4 at h1 ⊢
      generalize 2 ^ (32 * i) * y = A5 at h1 ⊢
      generalize u % 2 ^ (32 * i) = A6 at hval ⊢
      generalize v % 2 ^ (32 * i) = A7 at hval ⊢
      generalize c * 2 ^ (32 * i) = A8 at hval h2
      omega
    unfold sconceref03_Add.l0
    by_cases h1 : (i : Int) < ((B u).length : Int)
    · rw [if_pos h1]; exact hj true rfl
    · rw [if_neg h1]
      exact hj _ (by rw [decide_eq_true_iff, B_length]; rw [B_length] at h1; omega)
theorem add_spec (u v k : Nat) (hu : need 32 u ≤ 1099511627776) (hv : need 32 v ≤ 1099511627776) (hk : 3 * (need 32 u + need 32 v) + 5 < k) : sconceref03_Add.f k (B u) (B v) = some (B (u + v)) := by
  unfold sconceref03_Add.f
  have := add_loop u v hu hv _ rfl (max (need 32 u) (need 32 v)) k 0 0 [] (by omega) (by omega) (ok_nil _) rfl (by omega) (by simp [val_nil, Nat.mod_one])
  simpa [ints] using this

/-! ### shifts up -/
theorem or_low (c z r : Nat) (hc : c < 2 ^ r) (hz : z * 2 ^ r + c < 2 ^ 64) : Go.bits .or .u64 (c : Int) ((z * 2 ^ r : Nat) : Int) = ((z * 2 ^ r + c : Nat) : Int) := by
  rw [u64_or_nat _ _ (by omega) (by omega)]
  congr 1
  rw [Nat.or_comm, Nat.mul_comm z]
  exact (Nat.two_pow_add_eq_or_of_lt hc z).symm
theorem shl_loop (v n : Nat) (hn : n < 1099511627776) (hv : need 32 v ≤ 1099511627776) (q r : Nat) (hq : q = n / 32) (hr : r = n % 32) : ∀ (d k i c : Nat) (out : List Nat), i + d = need 32 v → q + need 32 v + d + 4 < k → ok 32 out → out.length = q + i → c < 2 ^ r → val 32 out + c * 2 ^ (32 * (q + i)) = (v % 2 ^ (32 * i)) * 2 ^ n →
    sconceref03_Shl.l0 k (n : Int) (ints out) (c : Int) (B v) ((B v).length : Int) (i : Int) = some (B (v * 2 ^ n)) := by
  have hr32 : r < 32 := by rw [hr]; exact Nat.mod_lt _ (by decide)
  have hrp : 2 ^ r ≤ 2 ^ 31 := Nat.pow_le_pow_right (by decide) (by omega)
  have ht : Int.tmod (n : Int) 32 = (r : Int) := by rw [hr]; exact tmodN' (b := 32) n 32 rfl
  intro d
  induction d with
  | zero =>
    intro k i c out hi hk hok hl hc hval
    obtain ⟨k, rfl⟩ : ∃ j, k = j + 1 := ⟨k - 1, by omega⟩
    unfold sconceref03_Shl.l0
    rw [if_neg (by rw [B_length]; omega), if_pos (by rw [ints_length]; omega)]
    rw [need_mod (by omega), ← hl] at hval
    rw [trim_end out c (v * 2 ^ n) k hok (by omega) hval (by omega) (by omega)]
    rfl
  | succ d ih =>
    intro k i c out hi hk hok hl hc hval
    obtain ⟨k, rfl⟩ : ∃ j, k = j + 1 := ⟨k - 1, by omega⟩
    unfold sconceref03_Shl.l0
    obtain ⟨x, hx⟩ : ∃ x, x = v / 2 ^ (32 * i) % 2 ^ 32 := ⟨_, rfl⟩
    have hx2 : x < 2 ^ 32 := by rw [hx]; exact Nat.mod_lt _ (by decide)
    have hxr : x * 2 ^ r + 2 ^ r ≤ 2 ^ 32 * 2 ^ r := by
      have : (x + 1) * 2 ^ r ≤ 2 ^ 32 * 2 ^ r := Nat.mul_le_mul_right _ hx2
      rwa [Nat.add_mul, Nat.one_mul] at this
    have h63 : 2 ^ 32 * 2 ^ r ≤ 2 ^ 32 * 2 ^ 31 := Nat.mul_le_mul_left _ hrp
    rw [if_pos (by rw [B_length]; omega), if_pos (by omega), if_pos (by rw [B_length]; omega), ht, if_pos (by rw [u64_small (by omega) (by omega)]; omega), if_pos (by rw [ints_length]; omega), rd_B, ← hx]
    rw [u64_small (x := (x : Int)) (by omega) (by omega), u64_small (x := (r : Int)) (by omega) (by omega)]
    have e3 : shl .u64 (x : Int) (r : Int) = ((x * 2 ^ r : Nat) : Int) := by
      unfold shl
      rw [Int.toNat_natCast, Nat.min_eq_left (by show r ≤ 64; omega), show ((x : Int) * 2 ^ r) = ((x * 2 ^ r : Nat) : Int) by rw [Int.natCast_mul, Int.natCast_pow]; rfl, u64_small (by omega) (by omega)]
    rw [e3, or_low c x r hc (by omega)]
    have hw : wrap64 ((i : Int) + 1) = ((i + 1 : Nat) : Int) := by rw [w64 (by omega) (by omega)]; omega
    obtain ⟨Z, hZ⟩ : ∃ Z, Z = x * 2 ^ r + c := ⟨_, rfl⟩
    have e1 : ints out ++ [((x * 2 ^ r + c : Nat) : Int) % 4294967296] = ints (out ++ [Z % 2 ^ 32]) := by
      simp only [ints, List.map_append, List.map_cons, List.map_nil]
      congr 2
      show _ = ((Z % 2 ^ 32 : Nat) : Int)
      rw [hZ]
      omega
    have e2 : ((x * 2 ^ r + c : Nat) : Int) / 4294967296 = ((Z / 2 ^ 32 : Nat) : Int) := by rw [hZ]; omega
    rw [hw, e1, e2]
    have hZlt : Z / 2 ^ 32 < 2 ^ r := by
      rw [Nat.div_lt_iff_lt_mul (by decide), hZ, Nat.mul_comm (2 ^ r)]
      omega
    refine ih k (i + 1) _ _ (by omega) (by omega) (ok_append.2 ⟨hok, ok_cons.2 ⟨Nat.mod_lt _ (by decide), ok_nil _⟩⟩) (by simp [hl]; omega) hZlt ?_
    rw [val_snoc, mod_step v i, ← hx, hl, show 32 * (q + (i + 1)) = 32 * (q + i) + 32 by omega, Nat.pow_add, Nat.add_mul]
    have hdm := Nat.div_add_mod Z (2 ^ 32)
    have hnn : 2 ^ (32 * i) * x * 2 ^ n = 2 ^ (32 * (q + i)) * (x * 2 ^ r) := by
      have : 2 ^ n = 2 ^ (32 * q) * 2 ^ r := by rw [← Nat.pow_add]; congr 1; omega
      rw [this, show 32 * (q + i) = 32 * q + 32 * i by omega, Nat.pow_add]
      ac_rfl
    rw [hnn]
    generalize Z % 2 ^ 32 = R at hdm ⊢
    generalize Z / 2 ^ 32 = Qt at hdm ⊢
    have h1 := carry (2 ^ (32 * (q + i))) R Qt _ hdm
    rw [hZ, Nat.mul_add (2 ^ (32 * (q + i)))] at h1
    have h2 : c * 2 ^ (32 * (q + i)) = 2 ^ (32 * (q + i)) * c := Nat.mul_comm _ _
    omega
theorem shl_spec (v n k : Nat) (hn : n < 1099511627776) (hv : need 32 v ≤ 1099511627776) (hk : n / 32 + 2 * need 32 v + 4 < k) : sconceref03_Shl.f k (B v) (n : Int) = some (B (v * 2 ^ n)) := by
  unfold sconceref03_Shl.f
  have e1 : wrap64 (Int.tdiv (n : Int) 32) = ((n / 32 : Nat) : Int) := by rw [tdivN' (b := 32) n 32 rfl, w64 (by omega) (by omega)]
  have e2 : wrap64 (wrap64 (((n / 32 : Nat) : Int) + ((B v).length : Int)) + 1) = ((n / 32 + need 32 v + 1 : Nat) : Int) := by rw [B_length, w64 (x := ((n / 32 : Nat) : Int) + ((need 32 v : Nat) : Int)) (by omega) (by omega), w64 (by omega) (by omega)]; omega
  rw [e1, e2, if_pos (by omega), if_pos (by omega), if_pos (by omega), Int.toNat_natCast]
  have := shl_loop v n hn hv _ _ rfl rfl (need 32 v) k 0 0 (List.replicate (n / 32) 0) (by omega) (by omega) (fun x hx => by rw [List.mem_replicate] at hx; rw [hx.2]; decide) (by simp) (Nat.pow_pos (by decide)) (by rw [val_zeros]; simp [Nat.mod_one])
  simpa [ints] using this
end Go.Proofs.Ytflchcdmgceecaa.Q
