/- Numbers as texts and texts as numbers, in closed form. -/
import Derived.Test.YtflchcdmgceecaaPLx
import Derived.Test.YtflchcdmgceecaaQAdd
import Derived.Test.YtflchcdmgceecaaHNatParse
import Derived.Lib.Bytes
set_option linter.unusedVariables false
set_option linter.unusedSimpArgs false
namespace Go.Proofs.Ytflchcdmgceecaa.Q
open Go.RowKit Go.Proofs.YtflchcdmgceecaaW.PrintWords Go.Proofs.YtflchcdmgceecaaW.PrintLast Go.Proofs.Ytflchcdmgceecaa.PA Go.Proofs.Ytflchcdmgceecaa.PR Go.Proofs.Ytflchcdmgceecaa.PL Go.Proofs.Ytflchcdmgceecaa.Num Go.Proofs.Ytflchcdmgceecaa.H

def digitsBA : ByteArray := ⟨#[48, 49, 50, 51, 52, 53, 54, 55, 56, 57, 97, 98, 99, 100, 101, 102]⟩
/-- A digit's byte. -/
def hb (d : Nat) : Int := bt digitsBA (d : Int)
theorem hb_at {d : Nat} (h : d < 16) : hb d = if d < 10 then (d : Int) + 48 else (d : Int) + 87 := by
  have h2 : ∀ n : Fin 16, hb n.1 = if n.1 < 10 then (n.1 : Int) + 48 else (n.1 : Int) + 87 := by decide +kernel
  exact h2 ⟨d, h⟩
/-- The first n digits, the lowest ahead. -/
def S (v n : Nat) : List Int := (List.range n).map fun j => hb (v / 16 ^ j % 16)
theorem S_length (v n : Nat) : (S v n).length = n := by simp [S]
theorem S_snoc (v n : Nat) : S v (n + 1) = S v n ++ [hb (v / 16 ^ n % 16)] := by simp [S, List.range_succ]
theorem S_cons (v n : Nat) : S v (n + 1) = hb (v % 16) :: S (v / 16) n := by
  simp only [S, List.range_succ_eq_map, List.map_cons, List.map_map, Nat.pow_zero, Nat.div_one]
  congr 1
  apply List.map_congr_left
  intro j _
  simp only [Function.comp, Nat.pow_succ, Nat.mul_comm (16 ^ j), Nat.div_div_eq_div_mul]

/-! ### turned round -/
theorem getD_set (l : List Int) (a p : Nat) (v : Int) (h : a < l.length) : (l.set a v).getD p 0 = if p = a then v else l.getD p 0 := by
  simp only [List.getD_eq_getElem?_getD, List.getElem?_set]
  by_cases hp : a = p
  · subst hp
    simp [h]
  · simp [hp, Ne.symm hp]
theorem getD_lt (l : List Int) (p : Nat) (h : p < l.length) : l.getD p 0 = l[p] := by simp [h]
theorem rev_loop (L : List Int) (hn : L.length ≤ 140737488351232) : ∀ (f i k : Nat) (x : List Int), L.length ≤ 2 * i + 1 + f → f < k → x.length = L.length → 2 * i ≤ L.length + 1 →
    (∀ p, p < L.length → x.getD p 0 = if p < i ∨ L.length ≤ p + i then L.getD (L.length - 1 - p) 0 else L.getD p 0) →
    slices_Reverse_byte_byte.l0 k x (i : Int) ((L.length : Int) - 1 - (i : Int)) = some L.reverse := by
  intro f
  induction f with
  | zero =>
    intro i k x hi hk hl h2 hx
    obtain ⟨k, rfl⟩ : ∃ j, k = j + 1 := ⟨k - 1, by omega⟩
    unfold slices_Reverse_byte_byte.l0
    rw [if_neg (by omega)]
    congr 1
    apply List.ext_getElem (by simp [hl])
    intro p h3 h4
    have := hx p (by omega)
    rw [List.getElem_reverse]
    rw [getD_lt _ _ h3] at this
    rw [this]
    by_cases hc : p < i ∨ L.length ≤ p + i
    · rw [if_pos hc, getD_lt _ _ (by omega)]
    · rw [if_neg hc, getD_lt _ _ (by omega)]
      congr 1
      omega
  | succ f ih =>
    intro i k x hi hk hl h2 hx
    obtain ⟨k, rfl⟩ : ∃ j, k = j + 1 := ⟨k - 1, by omega⟩
    unfold slices_Reverse_byte_byte.l0
    by_cases hlt : (i : Int) < (L.length : Int) - 1 - (i : Int)
    · obtain ⟨j, hj⟩ : ∃ j, j = L.length - 1 - i := ⟨_, rfl⟩
      have hji : (L.length : Int) - 1 - (i : Int) = (j : Int) := by omega
      rw [if_pos hlt, hji, if_pos (by omega), if_pos (by omega), if_pos (by omega), if_pos (by omega), Int.toNat_natCast, Int.toNat_natCast]
      have hw : wrap64 ((i : Int) + 1) = ((i + 1 : Nat) : Int) := by rw [w64 (by omega) (by omega)]; omega
      have hw2 : wrap64 ((j : Int) - 1) = (L.length : Int) - 1 - ((i + 1 : Nat) : Int) := by rw [w64 (by omega) (by omega)]; omega
      rw [hw, hw2]
      refine ih (i + 1) k _ (by omega) (by omega) (by simpa using hl) (by omega) ?_
      intro p hp
      have e1 : rd x (j : Int) = x.getD j 0 := by simp [rd]
      have e2 : rd x (i : Int) = x.getD i 0 := by simp [rd]
      rw [e1, e2, getD_set _ _ _ _ (by rw [List.length_set]; omega), getD_set _ _ _ _ (by omega), hx j (by omega), hx i (by omega), hx p hp]
      by_cases hpj : p = j
      · subst hpj
        rw [if_pos rfl, if_neg (by omega), if_pos (by omega)]
        congr 1
        omega
      · rw [if_neg hpj]
        by_cases hpi : p = i
        · subst hpi
          rw [if_pos rfl, if_neg (by omega), if_pos (by omega), ← hj]
        · rw [if_neg hpi]
          by_cases hc : p < i ∨ L.length ≤ p + i
          · rw [if_pos hc, if_pos (by omega)]
          · rw [if_neg hc, if_neg (by omega)]
    · have := ih i (k + 1) x (by omega) (by omega) hl h2 hx
      unfold slices_Reverse_byte_byte.l0 at this
      rw [if_neg hlt] at this
      rw [if_neg hlt]
      exact this
theorem reverse_spec (L : List Int) (hn : L.length ≤ 140737488351232) (k : Nat) (hk : L.length < k) : slices_Reverse_byte_byte.f k L = some L.reverse := by
  unfold slices_Reverse_byte_byte.f
  rw [w64 (x := (L.length : Int) - 1) (by omega) (by omega)]
  have := rev_loop L hn L.length 0 k L (by omega) hk rfl (by omega) (fun p hp => by rw [if_neg (by omega)])
  simpa using this

/-! ### shown -/
theorem digit4 (v i : Nat) : v / 2 ^ (64 * (i / 16)) % 2 ^ 64 / 2 ^ (4 * (i % 16)) % 2 ^ 4 = v / 2 ^ (4 * i) % 2 ^ 4 := by
  apply Nat.eq_of_testBit_eq
  intro j
  simp only [Nat.testBit_mod_two_pow, Nat.testBit_div_two_pow]
  by_cases hi : j < 4
  · have h1 : j + 4 * (i % 16) < 64 := by omega
    have h2 : j + 4 * (i % 16) + 64 * (i / 16) = j + 4 * i := by omega
    simp [hi, h1, h2]
  · simp [hi]
theorem p16 (n : Nat) : 16 ^ n = 2 ^ (4 * n) := by rw [show (16 : Nat) = 2 ^ 4 from rfl, ← Nat.pow_mul]
theorem and_15 (x : Nat) (hx : x < 2 ^ 64) : Go.bits .and .u64 (x : Int) 15 = ((x % 2 ^ 4 : Nat) : Int) := by
  rw [show (15 : Int) = ((15 : Nat) : Int) from rfl, u64_and_nat _ _ hx (by decide), show (15 : Nat) = 2 ^ 4 - 1 from rfl, Nat.and_two_pow_sub_one_eq_mod]
def nd (v : Nat) : Nat := (max (bitlen v) 1 + 3) / 4
theorem show_loop {l : List Int} (h : inB 64 l) (hm : l.length ≤ 400) (v : Nat) (hv : v = val 64 (nats l)) : ∀ (d i k : Nat), i + d = nd v → d + 60000 < k → nat_Show.l0 k l (S v i) (i : Int) = some ((⟨#[48, 120]⟩ : ByteArray) ++ strOfNums (S v (nd v)).reverse) := by
  have hbl : bitlen v ≤ 25600 := by
    rw [hv]
    refine Nat.le_trans (bitlen_le (val_lt (ok_nats h))) ?_
    rw [nats_length]
    omega
  have hnd : nd v ≤ 6401 := by unfold nd; omega
  intro d
  induction d with
  | zero =>
    intro i k hi hk
    obtain ⟨k, rfl⟩ : ∃ j, k = j + 1 := ⟨k - 1, by omega⟩
    unfold nat_Show.l0
    rw [bits_spec h (by omega) k (by omega), Option.bind_some, ← hv, if_neg (by rw [w64 (by omega) (by omega)]; unfold mx; unfold nd at hi; split <;> omega), show i = nd v by omega, reverse_spec _ (by rw [S_length]; omega) k (by rw [S_length]; omega), Option.bind_some, if_pos (by rw [strOfNums_size, List.length_reverse, S_length]; omega)]
  | succ d ih =>
    intro i k hi hk
    obtain ⟨k, rfl⟩ : ∃ j, k = j + 1 := ⟨k - 1, by omega⟩
    unfold nat_Show.l0
    have hSl : (S v i).length < 140737488355328 := by
      have h1 : i < 140737488355328 := by clear ih; omega
      rw [S_length]
      exact h1
    have e1 : wrap64 (Int.tdiv (i : Int) 16) = ((i / 16 : Nat) : Int) := by rw [tdivN' (b := 16) i 16 rfl, w64 (by omega) (by omega)]
    have e2 : wrap64 (4 * Int.tmod (i : Int) 16) = ((4 * (i % 16) : Nat) : Int) := by rw [tmodN' (b := 16) i 16 rfl, w64 (by omega) (by omega)]; omega
    rw [bits_spec h (by omega) k (by omega), Option.bind_some, ← hv, if_pos (by rw [w64 (by omega) (by omega)]; unfold mx; unfold nd at hi; split <;> omega), e1, at_spec h, ← hv, Option.bind_some, e2, if_pos (by omega)]
    have hd : v / 2 ^ (64 * (i / 16)) % 2 ^ 64 < 2 ^ 64 := Nat.mod_lt _ (by decide)
    rw [shr_nat64 _ _ (by omega), and_15 _ (Nat.lt_of_le_of_lt (Nat.div_le_self _ _) hd), digit4]
    have hw : wrap64 ((i : Int) + 1) = ((i + 1 : Nat) : Int) := by rw [w64 (by omega) (by omega)]; omega
    have := ih (i + 1) k (by omega) (by omega)
    rw [S_snoc, p16, show (16 : Nat) = 2 ^ 4 from rfl] at this
    obtain ⟨dg, hdg⟩ : ∃ dg, dg = v / 2 ^ (4 * i) % 2 ^ 4 := ⟨_, rfl⟩
    have hlt : dg < 16 := by rw [hdg]; exact Nat.mod_lt _ (by decide)
    rw [← hdg] at this ⊢
    clear ih hdg hd e1 e2 hv hbl hnd
    rw [if_pos (by omega), if_pos (by omega), if_pos hSl, hw]
    exact this
theorem show_spec {l : List Int} (h : inB 64 l) (hm : l.length ≤ 400) (k : Nat) (hk : 70000 < k) : nat_Show.f k l = some ((⟨#[48, 120]⟩ : ByteArray) ++ strOfNums (S (val 64 (nats l)) (nd (val 64 (nats l)))).reverse) := by
  have hbl : bitlen (val 64 (nats l)) ≤ 25600 := by
    refine Nat.le_trans (bitlen_le (val_lt (ok_nats h))) ?_
    rw [nats_length]
    omega
  have hnd : nd (val 64 (nats l)) ≤ 6401 := by unfold nd; omega
  exact show_loop h hm _ rfl (nd (val 64 (nats l))) 0 k (by omega) (by omega)

theorem four_bits (w : Nat) : Go.bits .or .u64 (Go.bits .or .u64 (Go.bits .or .u64 ((w % 2 : Nat) : Int) (IntKind.u64.wrap (((w / 2 % 2 : Nat) : Int) * 2))) (IntKind.u64.wrap (((w / 4 % 2 : Nat) : Int) * 4))) (IntKind.u64.wrap (((w / 8 % 2 : Nat) : Int) * 8)) = ((w % 16 : Nat) : Int) := by
  have e : w % 16 = w % 2 + 2 * (w / 2 % 2) + 4 * (w / 4 % 2) + 8 * (w / 8 % 2) := by omega
  rw [e]
  rcases Nat.mod_two_eq_zero_or_one w with h0 | h0 <;> rcases Nat.mod_two_eq_zero_or_one (w / 2) with h1 | h1 <;> rcases Nat.mod_two_eq_zero_or_one (w / 4) with h2 | h2 <;> rcases Nat.mod_two_eq_zero_or_one (w / 8) with h3 | h3 <;> rw [h0, h1, h2, h3] <;> decide +kernel
theorem ext_digit {d : Nat} (h : d < 16) : digitsBA.extract ((d : Int)).toNat ((IntKind.u64.wrap ((d : Int) + 1))).toNat = strOfNums [hb d] := by
  have h2 : ∀ n : Fin 16, digitsBA.extract ((n.1 : Int)).toNat ((IntKind.u64.wrap ((n.1 : Int) + 1))).toNat = strOfNums [hb n.1] := by decide +kernel
  exact h2 ⟨d, h⟩
theorem str_append (a b : List Int) : strOfNums a ++ strOfNums b = strOfNums (a ++ b) := by
  apply ByteArray.ext
  simp [strOfNums, ByteArray.data_append]
theorem bit_up (v i j : Nat) : v / 2 ^ (4 * i + j) = v / 2 ^ (4 * i) / 2 ^ j := by rw [Nat.pow_add, Nat.div_div_eq_div_mul]
theorem rshow_loop (v n : Nat) (hn : n ≤ 100000) : ∀ (i k : Nat), i ≤ n → i < k → sconceref03_Show.l0 k (B v) (strOfNums ((S v n).drop i).reverse) ((i : Int) - 1) = some ((⟨#[48, 120]⟩ : ByteArray) ++ (if n = 0 then (⟨#[48]⟩ : ByteArray) else strOfNums (S v n).reverse)) := by
  intro i
  induction i with
  | zero =>
    intro k hi hk
    obtain ⟨k, rfl⟩ : ∃ j, k = j + 1 := ⟨k - 1, by omega⟩
    unfold sconceref03_Show.l0
    rw [if_neg (by omega)]
    simp only [List.drop_zero]
    by_cases h0 : n = 0
    · subst h0
      rw [if_pos (by simp [S, Lib.strOfNums_toList, Lib.bytesOf]), if_pos (by omega), if_pos rfl]
    · have hne : ¬ (strOfNums (S v n).reverse).toList = [] := by
        intro e
        have h1 : (strOfNums (S v n).reverse).toList.length = 0 := by rw [e]; rfl
        rw [Lib.strOfNums_toList, Lib.bytesOf_length, List.length_reverse, S_length] at h1
        exact h0 h1
      rw [if_neg hne, if_pos (by rw [strOfNums_size, List.length_reverse, S_length]; omega), if_neg h0]
  | succ i ih =>
    intro k hi hk
    obtain ⟨k, rfl⟩ : ∃ j, k = j + 1 := ⟨k - 1, by omega⟩
    unfold sconceref03_Show.l0
    have e0 : (((i + 1 : Nat) : Int) - 1) = (i : Int) := by omega
    rw [e0, if_pos (by omega)]
    have w0 : wrap64 (4 * (i : Int)) = ((4 * i : Nat) : Int) := by rw [w64 (by omega) (by omega)]; omega
    have w1 : wrap64 (((4 * i : Nat) : Int) + 1) = ((4 * i + 1 : Nat) : Int) := by rw [w64 (by omega) (by omega)]; omega
    have w2 : wrap64 (((4 * i : Nat) : Int) + 2) = ((4 * i + 2 : Nat) : Int) := by rw [w64 (by omega) (by omega)]; omega
    have w3 : wrap64 (((4 * i : Nat) : Int) + 3) = ((4 * i + 3 : Nat) : Int) := by rw [w64 (by omega) (by omega)]; omega
    rw [w0, w1, w2, w3, bit_nat v _ (by omega), Option.bind_some, bit_nat v _ (by omega), Option.bind_some, bit_nat v _ (by omega), Option.bind_some, bit_nat v _ (by omega), Option.bind_some]
    rw [bit_up v i 1, bit_up v i 2, bit_up v i 3]
    have hd : (S v n).drop i = hb (v / 16 ^ i % 16) :: (S v n).drop (i + 1) := by
      rw [List.drop_eq_getElem_cons (by rw [S_length]; omega)]
      congr 1
      simp [S]
    have h4 := four_bits (v / 2 ^ (4 * i))
    rw [show (2 : Nat) ^ 1 = 2 from rfl, show (2 : Nat) ^ 2 = 4 from rfl, show (2 : Nat) ^ 3 = 8 from rfl, h4]
    have ih1 := ih k (by omega) (by omega)
    have hi1 : wrap64 ((i : Int) - 1) = (i : Int) - 1 := w64 (by omega) (by omega)
    rw [p16] at hd
    obtain ⟨dg, hdg⟩ : ∃ dg, dg = v / 2 ^ (4 * i) % 16 := ⟨_, rfl⟩
    have hlt : dg < 16 := by rw [hdg]; exact Nat.mod_lt _ (by decide)
    rw [← hdg] at hd ⊢
    clear ih hdg h4 w0 w1 w2 w3
    have hw : IntKind.u64.wrap ((dg : Int) + 1) = ((dg + 1 : Nat) : Int) := by
      have := IntKind.wrap_u64 ((dg : Int) + 1)
      omega
    have hx := ext_digit hlt
    rw [if_pos (by omega), if_pos (by rw [hw]; omega), if_pos (by rw [hw]; omega)]
    have hsz : (strOfNums ((S v n).drop (i + 1)).reverse).size ≤ 100000 := by rw [strOfNums_size, List.length_reverse, List.length_drop, S_length]; omega
    unfold digitsBA at hx
    rw [hx, if_pos (by rw [strOfNums_size ([_])]; simp; omega), str_append, hi1]
    rw [hd, List.reverse_cons] at ih1
    exact ih1
theorem rshow_spec {l : List Int} (h : inB 64 l) (hm : l.length ≤ 400) (k : Nat) (hk : 70000 < k) : sconceref03_Show.f k l = nat_Show.f k l := by
  obtain ⟨v, hv⟩ : ∃ v, v = val 64 (nats l) := ⟨_, rfl⟩
  have hbl : bitlen v ≤ 25600 := by
    rw [hv]
    refine Nat.le_trans (bitlen_le (val_lt (ok_nats h))) ?_
    rw [nats_length]
    omega
  have hn32 := need32_le h
  rw [← hv] at hn32
  rw [show_spec h hm k hk, ← hv]
  unfold sconceref03_Show.f
  rw [of_spec h (by omega) k (by omega), Option.bind_some, ← hv, bitlen_spec v k (by omega) (by omega), Option.bind_some]
  have e1 : wrap64 (wrap64 (Int.tdiv (wrap64 (((bitlen v : Nat) : Int) + 3)) 4) - 1) = (((bitlen v + 3) / 4 : Nat) : Int) - 1 := by
    rw [w64 (x := ((bitlen v : Nat) : Int) + 3) (by omega) (by omega), show ((bitlen v : Nat) : Int) + 3 = ((bitlen v + 3 : Nat) : Int) from rfl, tdivN' (b := 4) _ 4 rfl, w64 (x := (((bitlen v + 3) / 4 : Nat) : Int)) (by omega) (by omega), w64 (by omega) (by omega)]
  rw [e1]
  have := rshow_loop v ((bitlen v + 3) / 4) (by omega) ((bitlen v + 3) / 4) k (Nat.le_refl _) (by omega)
  rw [List.drop_eq_nil_of_le (by rw [S_length]; exact Nat.le_refl _)] at this
  have e2 : strOfNums ([] : List Int).reverse = (⟨#[]⟩ : ByteArray) := rfl
  rw [e2] at this
  rw [this]
  by_cases h0 : v = 0
  · have hz : bitlen v = 0 := by rw [h0]; rfl
    rw [hz, h0]
    decide +kernel
  · have hp := bitlen_pos h0
    rw [if_neg (by omega)]
    have : nd v = (bitlen v + 3) / 4 := by unfold nd; rw [Nat.max_eq_left (by omega)]
    rw [this]
end Go.Proofs.Ytflchcdmgceecaa.Q

set_option linter.unusedVariables false
set_option linter.unusedSimpArgs false
namespace Go.Proofs.Ytflchcdmgceecaa.Q
open Go.RowKit Go.Proofs.YtflchcdmgceecaaW.PrintWords Go.Proofs.YtflchcdmgceecaaW.PrintLast Go.Proofs.Ytflchcdmgceecaa.PA Go.Proofs.Ytflchcdmgceecaa.PR Go.Proofs.Ytflchcdmgceecaa.PL Go.Proofs.Ytflchcdmgceecaa.Num Go.Proofs.Ytflchcdmgceecaa.H

theorem cut_spec (s : ByteArray) : strings_CutPrefix.f s ⟨#[48, 120]⟩ = some (if 2 ≤ s.size ∧ (s.extract 0 2).toList = [48, 120] then (s.extract 2 s.size, true) else (s, false)) := by
  unfold strings_CutPrefix.f stringslite_CutPrefix.f stringslite_HasPrefix.f
  have e2 : ((⟨#[48, 120]⟩ : ByteArray).size : Int) = 2 := rfl
  have e3 : (⟨#[48, 120]⟩ : ByteArray).toList = [48, 120] := by rw [Lib.toList_data]
  simp only [e2, e3]
  by_cases h : 2 ≤ s.size
  · rw [if_pos (by omega), if_pos (by omega), if_pos (by omega)]
    simp only [Option.bind_some]
    by_cases hp : (s.extract 0 2).toList = [48, 120]
    · rw [if_pos (show ((s.extract 0 (2 : Int).toNat).toList == [48, 120]) = true by rw [beq_iff_eq]; exact hp), if_pos (by omega), if_pos (by omega), if_pos ⟨h, hp⟩]
      rfl
    · rw [if_neg (show ¬ ((s.extract 0 (2 : Int).toNat).toList == [48, 120]) = true by rw [beq_iff_eq]; exact hp), if_neg (fun h => hp h.2)]
      rfl
  · rw [if_neg (by omega)]
    simp only [Option.bind_some]
    rw [if_neg (by decide), if_neg (fun h2 => h h2.1)]
    rfl
theorem drop_data (s : ByteArray) (h : 2 ≤ s.size) : (s.extract 2 s.size).data.toList = s.data.toList.drop 2 ∧ (s.extract 2 s.size).size = s.size - 2 := by
  have e : (s.extract 2 s.size).data.toList = s.data.toList.drop 2 := by
    rw [ByteArray.data_extract]
    simp [Array.toList_extract, List.extract]
    rw [List.take_of_length_le]
    simp
  refine ⟨e, ?_⟩
  have : (s.extract 2 s.size).data.toList.length = s.size - 2 := by rw [e]; simp
  rw [Array.length_toList] at this
  exact this

theorem bt_data (s : ByteArray) (i : Nat) (h : i < s.data.toList.length) : bt s (i : Int) = ((s.data.toList[i]'h).toNat : Int) := by
  have h2 : i < s.size := by simpa using h
  unfold bt
  rw [dif_pos (by simpa using h2)]
  rfl

theorem least_spec' (v k : Nat) (h : need 32 v ≤ 1000000) (hk : 1000000 < k) : sconceref03_Least.f k (B v) = some (ints (digs 64 (max (need 64 v) 1) v)) := by
  unfold sconceref03_Least.f
  have h64 : need 64 v ≤ 1000000 := by rw [← words_need]; omega
  rw [words_spec v (by omega), Option.bind_some]
  have : mx ((need 64 v : Nat) : Int) 1 = ((max (need 64 v) 1 : Nat) : Int) := by unfold mx; split <;> omega
  rw [this, nat_spec v _ (by omega) k (by omega)]
  rfl
theorem need_mono {u v : Nat} (h : u ≤ v) : need 32 u ≤ need 32 v := need_le (by decide) (Nat.lt_of_le_of_lt h (lt_need (by decide) v))
theorem need_hex' (l : List UInt8) (i m : Nat) (h : i ≤ l.length) (hi : 4 * i ≤ 32 * m) : need 32 (hexV (l.take i)) ≤ m := by
  refine need_le (by decide) ?_
  have := hexV_lt i h
  rw [p16] at this
  exact Nat.lt_of_lt_of_le this (Nat.pow_le_pow_right (by decide) hi)
theorem need_hex (l : List UInt8) (i : Nat) (h : i ≤ l.length) (hi : i ≤ 5000) : need 32 (hexV (l.take i)) ≤ 1000 := need_hex' l i 1000 h (by omega)
theorem hexd_cases (c : Nat) : (48 ≤ c ∧ c ≤ 57 ∧ hexd c = (c : Int) - 48) ∨ (97 ≤ c ∧ c ≤ 102 ∧ hexd c = (c : Int) - 87) ∨ (¬ (48 ≤ c ∧ c ≤ 57) ∧ ¬ (97 ≤ c ∧ c ≤ 102) ∧ hexd c = -1) := by
  unfold hexd
  by_cases h1 : 48 ≤ c ∧ c ≤ 57
  · rw [if_pos h1]; exact .inl ⟨h1.1, h1.2, rfl⟩
  · rw [if_neg h1]
    by_cases h2 : 97 ≤ c ∧ c ≤ 102
    · rw [if_pos h2]; exact .inr (.inl ⟨h2.1, h2.2, rfl⟩)
    · rw [if_neg h2]; exact .inr (.inr ⟨h1, h2, rfl⟩)

theorem digit_step (l : List UInt8) (i k d : Nat) (hi : i < l.length) (hl : l.length ≤ 4999) (hd : (hexd (l[i]'hi).toNat) = (d : Int)) (hk : 1000000 < k) : ((sconceref03_Shl.f k (B (hexV (l.take i))) 4).bind fun t => (sconceref03_Small.f k (d : Int)).bind fun u => sconceref03_Add.f k t u) = some (B (hexV (l.take (i + 1)))) := by
  have hn := need_hex l i (by omega) (by omega)
  have hn2 := need_hex l (i + 1) (by omega) (by omega)
  have hd16 : d < 16 := by have := hexd_le (l[i]'hi).toNat; omega
  have hs := shl_spec (hexV (l.take i)) 4 k (by omega) (by omega) (by omega)
  rw [show ((4 : Nat) : Int) = 4 from rfl] at hs
  have hv : hexV (l.take (i + 1)) = hexV (l.take i) * 2 ^ 4 + d := by rw [hexV_take l i hi, hd, Int.toNat_natCast]
  have hn3 : need 32 (hexV (l.take i) * 2 ^ 4) ≤ 1000 := Nat.le_trans (need_mono (by rw [hv]; omega)) hn2
  have hn4 : need 32 d ≤ 1 := need_le (by decide) (by omega)
  rw [hs, Option.bind_some, small_spec d (by omega) k (by omega), Option.bind_some, add_spec _ _ k (by omega) (by omega) (by omega), hv]
theorem rparse_loop (s : ByteArray) (l : List UInt8) (hl : l = s.data.toList.drop 2) (h2 : 2 ≤ s.size) (h5 : s.size ≤ 5000) : ∀ (d i k : Nat), i + d = l.length → 4 * d + 1000005 < k →
    sconceref03_Parse.l0 k s (B (hexV (l.take i))) ((2 + i : Nat) : Int) = some (if hexOk (l.drop i) then (ints (digs 64 (max (need 64 (hexV l)) 1) (hexV l)), true) else ([], false)) := by
  have hsl : s.data.toList.length = s.size := by simp
  have hll : l.length = s.size - 2 := by rw [hl, List.length_drop, hsl]
  have hl49 : l.length ≤ 4999 := by omega
  intro d
  induction d with
  | zero =>
    intro i k hi hk
    obtain ⟨k, rfl⟩ : ∃ j, k = j + 1 := ⟨k - 1, by omega⟩
    have hn := need_hex l l.length (Nat.le_refl _) (by omega)
    rw [List.take_length] at hn
    unfold sconceref03_Parse.l0
    rw [if_neg (by omega), List.take_of_length_le (by omega), least_spec' _ k (by omega) (by omega), Option.bind_some, if_pos (by rw [List.drop_eq_nil_of_le (by omega)]; intro c hc; cases hc)]
  | succ d ih =>
    intro i k hi hk
    obtain ⟨k, rfl⟩ : ∃ j, k = j + 1 := ⟨k - 1, by omega⟩
    obtain ⟨k, rfl⟩ : ∃ j, k = j + 1 := ⟨k - 1, by omega⟩
    obtain ⟨k, rfl⟩ : ∃ j, k = j + 1 := ⟨k - 1, by omega⟩
    have hil : i < l.length := by omega
    have p1 : ((2 + i : Nat) : Int) < (s.size : Int) := by omega
    have p2 : (0 : Int) ≤ ((2 + i : Nat) : Int) := by omega
    have p3 : 2 + i < s.data.toList.length := by omega
    have p4 := ih (i + 1) (k + 1) (by omega) (by omega)
    have p5 := ih (i + 1) k (by omega) (by omega)
    have p6 : 1000000 < k := by omega
    obtain ⟨c, hc⟩ : ∃ c, c = (l[i]'hil).toNat := ⟨_, rfl⟩
    have HBT : Hid (bt s ((2 + i : Nat) : Int) = (c : Int)) := by
      show _ = _
      rw [bt_data s (2 + i) p3, hc]
      congr 2
      subst hl
      rw [List.getElem_drop]
    have hc256 : c < 256 := by rw [hc]; exact (l[i]'hil).toNat_lt
    have HW : Hid (wrap64 (((2 + i : Nat) : Int) + 1) = ((2 + (i + 1) : Nat) : Int)) := by
      show _ = _
      rw [w64 (by omega) (by omega)]
      omega
    have hok : hexOk (l.drop i) ↔ 0 ≤ hexd c ∧ hexOk (l.drop (i + 1)) := by
      rw [List.drop_eq_getElem_cons hil]
      unfold hexOk
      simp only [List.mem_cons, forall_eq_or_imp, ← hc]
    have hstep : ∀ j (dd : Nat), hexd c = (dd : Int) → 1000000 < j → ((sconceref03_Shl.f j (B (hexV (l.take i))) 4).bind fun t => (sconceref03_Small.f j (dd : Int)).bind fun u => sconceref03_Add.f j t u) = some (B (hexV (l.take (i + 1)))) := fun j dd hdd hj => digit_step l i j dd hil hl49 (by rw [← hc]; exact hdd) hj
    have HC := Lib.hid hc
    clear ih hsl hll hl49 hc hk hi p3 hl
    unfold sconceref03_Parse.l0
    rw [if_pos p1, if_pos p2, HBT.out]
    clear p1 p2
    rcases hexd_cases c with ⟨h1, h3, hx⟩ | ⟨h1, h3, hx⟩ | ⟨h1, h3, hx⟩
    · rw [if_pos (by omega), decide_eq_true (by omega)]
      unfold sconceref03_Parse.j2
      (try dsimp only)
      rw [if_pos rfl]
      obtain ⟨dd, hdd⟩ : ∃ dd, dd = c - 48 := ⟨_, rfl⟩
      have h4 := hstep (k + 1) dd (by omega) (by clear hx; omega)
      have e : ((c : Int) - 48) % 256 = (dd : Int) := by omega
      rw [e]
      obtain ⟨t, ht, h4⟩ := Option.bind_eq_some_iff.1 h4
      obtain ⟨u, hu, h4⟩ := Option.bind_eq_some_iff.1 h4
      rw [ht, Option.bind_some, hu, Option.bind_some, h4, Option.bind_some, HW.out, p4]
      by_cases hy : hexOk (l.drop (i + 1))
      · rw [if_pos hy, if_pos (hok.2 ⟨by omega, hy⟩)]
      · rw [if_neg hy, if_neg (fun h => hy (hok.1 h).2)]
    · have hj2 : ∀ b, b = false → sconceref03_Parse.j2 (k + 1 + 1) s (B (hexV (l.take i))) ((2 + i : Nat) : Int) (c : Int) b = some (if hexOk (l.drop i) then (ints (digs 64 (max (need 64 (hexV l)) 1) (hexV l)), true) else ([], false)) := by
        intro b hb
        subst hb
        unfold sconceref03_Parse.j2
        (try dsimp only)
        rw [if_neg (by decide), if_pos (by omega), decide_eq_true (by omega)]
        unfold sconceref03_Parse.j3
        (try dsimp only)
        rw [if_pos rfl]
        obtain ⟨dd, hdd⟩ : ∃ dd, dd = c - 87 := ⟨_, rfl⟩
        have h4 := hstep k dd (by omega) p6
        have e : ((c : Int) - 97) % 256 + 10 = (dd : Int) := by omega
        rw [e]
        obtain ⟨t, ht, h4⟩ := Option.bind_eq_some_iff.1 h4
        obtain ⟨u, hu, h4⟩ := Option.bind_eq_some_iff.1 h4
        rw [ht, Option.bind_some, hu, Option.bind_some, h4, Option.bind_some, HW.out, p5]
        by_cases hy : hexOk (l.drop (i + 1))
        · rw [if_pos hy, if_pos (hok.2 ⟨by omega, hy⟩)]
        · rw [if_neg hy, if_neg (fun h => hy (hok.1 h).2)]
      rw [if_pos (by omega)]
      exact hj2 _ (decide_eq_false (by omega))
    · have hno : ¬ hexOk (l.drop i) := fun h => by have := (hok.1 h).1; omega
      have hj2 : ∀ b, b = false → sconceref03_Parse.j2 (k + 1 + 1) s (B (hexV (l.take i))) ((2 + i : Nat) : Int) (c : Int) b = some ([], false) := by
        intro b hb
        subst hb
        unfold sconceref03_Parse.j2
        (try dsimp only)
        rw [if_neg (by decide)]
        have hj3 : ∀ b, b = false → sconceref03_Parse.j3 (k + 1) s (B (hexV (l.take i))) ((2 + i : Nat) : Int) (c : Int) b = some ([], false) := by
          intro b hb
          subst hb
          unfold sconceref03_Parse.j3
          (try dsimp only)
          rw [if_neg (by decide)]
        by_cases h9 : (c : Int) ≥ 97
        · rw [if_pos h9]; exact hj3 _ (decide_eq_false (by omega))
        · rw [if_neg h9]; exact hj3 _ rfl
      rw [if_neg hno]
      by_cases h9 : (c : Int) ≥ 48
      · rw [if_pos h9]; exact hj2 _ (decide_eq_false (by omega))
      · rw [if_neg h9]; exact hj2 _ rfl

/-- A text without noughts ahead has as many limbs as its number. -/
theorem limbs_of {l : List UInt8} (h0 : 0 < l.length) (hok : hexOk l) (hl : ¬ (l[0]? = some 48 ∧ l ≠ [48])) : (l.length + 15) / 16 = max (need 64 (hexV l)) 1 := by
  match l, h0 with
  | c :: r, _ =>
    by_cases hr : r = []
    · subst hr
      have h1 : hexV [c] < 16 := by
        have := hexV_lt (l := [c]) 1 (by simp)
        simpa using this
      have : need 64 (hexV [c]) ≤ 1 := need_le (by decide) (by omega)
      show (1 + 15) / 16 = _
      omega
    · have hc48 : c ≠ 48 := fun e => hl ⟨by rw [e]; rfl, fun e2 => hr (by rw [List.cons.injEq] at e2; exact e2.2)⟩
      have hdc := hok c (by simp)
      have hpos : 1 ≤ (hexd c.toNat).toNat := by
        have hne : c.toNat ≠ 48 := fun e => hc48 (UInt8.toNat_inj.1 e)
        rcases hexd_cases c.toNat with ⟨h1, h3, hx⟩ | ⟨h1, h3, hx⟩ | ⟨h1, h3, hx⟩ <;> omega
      have hlow : ∀ i, i ≤ r.length → 16 ^ i ≤ hexV ((c :: r).take (i + 1)) := by
        intro i
        induction i with
        | zero => intro _; simp [hexV]; omega
        | succ i ih =>
          intro h
          have h1 := ih (by omega)
          rw [hexV_take (c :: r) (i + 1) (by simp; omega), Nat.pow_succ]
          omega
      have hlo := hlow r.length (Nat.le_refl _)
      rw [List.take_of_length_le (by simp)] at hlo
      have hhi := hexV_lt (l := c :: r) (c :: r).length (Nat.le_refl _)
      rw [List.take_length] at hhi
      rw [p16] at hlo hhi
      have hb1 : bitlen (hexV (c :: r)) ≤ 4 * (c :: r).length := bitlen_le hhi
      have hb2 : 4 * r.length < bitlen (hexV (c :: r)) := by
        refine Nat.not_le.1 fun h => ?_
        have := (lt_pow_iff _ _).2 h
        omega
      have hlr : (c :: r).length = r.length + 1 := rfl
      rw [hlr] at hb1 ⊢
      have hneed : need 64 (hexV (c :: r)) = (bitlen (hexV (c :: r)) + 63) / 64 := rfl
      rw [hneed]
      omega
theorem rparse_spec (s : ByteArray) (h5 : s.size ≤ 5000) (k : Nat) (hk : 2000000 < k) : sconceref03_Parse.f k s = nat_Parse.f s := by
  obtain ⟨k, rfl⟩ : ∃ j, k = j + 1 := ⟨k - 1, by omega⟩
  have hjt : ∀ b, b = true → sconceref03_Parse.j0 (k + 1) s b = some ([], false) := by
    intro b hb
    subst hb
    unfold sconceref03_Parse.j0
    (try dsimp only)
    rw [if_pos rfl]
  unfold sconceref03_Parse.f nat_Parse.f
  rw [cut_spec, Option.bind_some]
  by_cases hp : 2 ≤ s.size ∧ (s.extract 0 2).toList = [48, 120]
  · obtain ⟨hd1, hd2⟩ := drop_data s hp.1
    rw [if_pos hp, hd1, hd2]
    by_cases h3 : (s.size : Int) < 3
    · rw [if_pos h3, hjt _ rfl, if_neg (fun h => by omega)]
    rw [if_neg h3]
    by_cases h4 : (s.size : Int) > 4802
    · rw [if_pos h4, hjt _ rfl, if_neg (fun h => by omega)]
    rw [if_neg h4, if_pos (by omega), if_pos (by omega), if_pos hp.2, if_pos (by omega)]
    obtain ⟨l, hl⟩ : ∃ l, l = s.data.toList.drop 2 := ⟨_, rfl⟩
    have hsl : s.data.toList.length = s.size := by simp
    have hll : l.length = s.size - 2 := by rw [hl, List.length_drop, hsl]
    have hb2 : bt s 2 = ((l[0]'(by omega)).toNat : Int) := by
      have := bt_data s 2 (by rw [hsl]; omega)
      rw [show ((2 : Nat) : Int) = 2 from rfl] at this
      rw [this]
      congr 2
      subst hl
      rw [List.getElem_drop]
    rw [← hl]
    have hl0 : l[0]? = some (l[0]'(by omega)) := List.getElem?_eq_getElem (by omega)
    have key : ¬ (l[0]? = some 48 ∧ l ≠ [48]) → sconceref03_Parse.j0 (k + 1) s false = some (if (true = true ∧ 0 < s.size - 2 ∧ s.size - 2 ≤ 4800 ∧ ¬ (l[0]? = some 48 ∧ l ≠ [48]) ∧ hexOk l) then (ints (digs 64 ((s.size - 2 + 15) / 16) (hexV l)), true) else ([], false)) := by
      intro hz
      unfold sconceref03_Parse.j0
      (try dsimp only)
      rw [if_neg (by decide)]
      have := rparse_loop s l hl hp.1 h5 l.length 0 k (by omega) (by omega)
      rw [List.take_zero, List.drop_zero, show hexV [] = 0 from rfl, B_zero] at this
      rw [show ((2 + 0 : Nat) : Int) = 2 from rfl] at this
      rw [this]
      by_cases hok : hexOk l
      · rw [if_pos hok, if_pos ⟨rfl, by omega, by omega, hz, hok⟩, ← hll, limbs_of (by omega) hok hz]
      · rw [if_neg hok, if_neg (fun h => hok h.2.2.2.2)]
    have hkey2 : (some (if (true = true ∧ 0 < s.size - 2 ∧ s.size - 2 ≤ 4800 ∧ ¬ (l[0]? = some 48 ∧ l ≠ [48]) ∧ hexOk l) then (ints (digs 64 ((s.size - 2 + 15) / 16) (hexV l)), true) else ([], false)) : Option (List Int × Bool)) = if (true = true ∧ 0 < s.size - 2 ∧ s.size - 2 ≤ 4800 ∧ ¬ (l[0]? = some 48 ∧ l ≠ [48]) ∧ hexOk l) then some (ints (digs 64 ((s.size - 2 + 15) / 16) (hexV l)), true) else some ([], false) := by split <;> rfl
    rw [hkey2] at key
    by_cases h48 : bt s 2 = 48
    · rw [if_pos h48]
      have h48' : l[0]? = some 48 := by
        rw [hl0]
        congr 1
        exact UInt8.toNat_inj.1 (by rw [hb2] at h48; exact Int.ofNat_inj.1 h48)
      by_cases h1 : (s.size : Int) > 3
      · rw [hjt _ (decide_eq_true h1), if_neg]
        intro h
        exact h.2.2.2.1 ⟨h48', fun e => by rw [e] at hll; simp at hll; omega⟩
      · rw [decide_eq_false h1]
        refine key (fun h => h.2 ?_)
        match l, hll, h48' with
        | [c], _, h48' =>
          have : c = 48 := by simpa using h48'
          rw [this]
        | [], hll, _ => simp at hll; omega
        | c :: c2 :: r, hll, _ => simp at hll; omega
    · rw [if_neg h48]
      refine key (fun h => h48 ?_)
      rw [hl0] at h
      rw [hb2, Option.some.inj h.1]
      rfl
  · rw [if_neg hp]
    simp only [Bool.false_eq_true, false_and, if_false]
    by_cases h3 : (s.size : Int) < 3
    · rw [if_pos h3, hjt _ rfl]
    rw [if_neg h3]
    by_cases h4 : (s.size : Int) > 4802
    · rw [if_pos h4, hjt _ rfl]
    rw [if_neg h4, if_pos (by omega), if_pos (by omega), if_neg (fun h => hp ⟨by omega, h⟩), hjt _ rfl]
end Go.Proofs.Ytflchcdmgceecaa.Q
