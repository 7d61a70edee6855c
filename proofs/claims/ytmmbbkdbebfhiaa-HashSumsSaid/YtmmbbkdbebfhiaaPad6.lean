/- The reference's padding, as its printed function tells it, is the program's. -/
import Derived.Test.YtmmbbkdbebfhiaaHSums
import Derived.Test.YtmmbbkdbebfhiaaPSx
set_option linter.unusedVariables false
set_option linter.unusedSimpArgs false
namespace Go.Proofs.Ytmmbbkdbebfhiaa.Sha
open Go.RowKit Go.Proofs.YtmmbbkdbebfhiaaW.PrintWords Go.Proofs.YtmmbbkdbebfhiaaW.PrintLast Go.Proofs.YtmmbbkdbebfhiaaW.PrintMore Go.Proofs.Ytmmbbkdbebfhiaa.H Go.Proofs.Ytmmbbkdbebfhiaa.PS

def padZ (n : Nat) : Nat := (239 - n % 128) % 128
def tail6 (n j : Nat) : List Int := (List.range j).map fun i => ((n * 8 % 2 ^ 64 / 2 ^ (56 - 8 * i) % 256 : Nat) : Int)
def head6 (n : Nat) : List Int := (128 :: List.replicate (padZ n) 0) ++ [0, 0, 0, 0, 0, 0, 0, ((n / 2 ^ 61 : Nat) : Int)]
theorem pd6_parts (n : Nat) : pd6 n = head6 n ++ tail6 n 8 := by
  have hp : padL n = padZ n + 17 := by unfold padL padZ; omega
  apply List.ext_getElem
  · simp [pd6_length, head6, tail6, hp]
  · intro j h1 h2
    rw [pd6_length] at h1
    simp only [pd6, List.getElem_set]
    have hh : (head6 n).length = padZ n + 9 := by simp [head6]
    by_cases h9 : padL n - 9 = j
    · rw [if_pos h9, List.getElem_append_left (by rw [hh]; omega)]
      simp only [head6]
      rw [List.getElem_append_right (by simp; omega)]
      have : j - (128 :: List.replicate (padZ n) (0 : Int)).length = 7 := by simp; omega
      simp only [this]
      rfl
    · rw [if_neg h9]
      simp only [padTo, List.getElem_map, List.getElem_range]
      by_cases h0 : j = 0
      · subst h0
        rw [if_pos rfl, List.getElem_append_left (by rw [hh]; omega)]
        simp [head6]
      · rw [if_neg h0]
        by_cases h8 : padL n - 1 - j < 8
        · rw [if_pos h8, List.getElem_append_right (by rw [hh]; omega)]
          simp only [tail6, List.getElem_map, List.getElem_range, hh]
          rw [show 56 - 8 * (j - (padZ n + 9)) = 8 * (padL n - 1 - j) by omega]
        · rw [if_neg h8, List.getElem_append_left (by rw [hh]; omega)]
          simp only [head6]
          by_cases hz : j ≤ padZ n
          · rw [List.getElem_append_left (by simp; omega)]
            obtain ⟨m, rfl⟩ : ∃ m, j = m + 1 := ⟨j - 1, by omega⟩
            simp
          · rw [List.getElem_append_right (by simp; omega)]
            have h7 : j - (128 :: List.replicate (padZ n) (0 : Int)).length < 7 := by simp; omega
            have h77 : ∀ (q : Nat) (h : q < 8), q < 7 → (0 : Int) = ([0, 0, 0, 0, 0, 0, 0, ((n / 2 ^ 61 : Nat) : Int)] : List Int)[q]'h := fun q h hq => by
              match q, hq with
              | 0, _ | 1, _ | 2, _ | 3, _ | 4, _ | 5, _ | 6, _ => rfl
            exact h77 _ _ h7
theorem rpad_l1 (n : Nat) (hn : n < 2 ^ 63) (d : Nat) : ∀ (k j : Nat) (l : List Int), j + d = 8 → d < k → l.length ≤ 200 →
    sconceref12_Pad.l1 k n (l ++ tail6 n j) (56 - 8 * (j : Int)) = some (l ++ tail6 n 8) := by
  induction d with
  | zero =>
    intro k j l hj hk hl
    obtain ⟨k, rfl⟩ : ∃ m, k = m + 1 := ⟨k - 1, by omega⟩
    obtain rfl : j = 8 := by omega
    simp only [sconceref12_Pad.l1]
    rw [if_neg (by omega)]
  | succ d ih =>
    intro k j l hj hk hl
    obtain ⟨k, rfl⟩ : ∃ m, k = m + 1 := ⟨k - 1, by omega⟩
    have h1 : IntKind.u64.wrap (56 - 8 * (j : Int)) = 56 - 8 * (j : Int) := by have := IntKind.wrap_u64 (56 - 8 * (j : Int)); omega
    have h2 : IntKind.u64.wrap (n : Int) = (n : Int) := by have := IntKind.wrap_u64 (n : Int); omega
    have h3 : IntKind.u64.wrap (8 * (n : Int)) = ((n * 8 % 2 ^ 64 : Nat) : Int) := by have := IntKind.wrap_u64 (8 * (n : Int)); omega
    have h4 : wrap64 (56 - 8 * (j : Int) - 8) = 56 - 8 * ((j + 1 : Nat) : Int) := by unfold wrap64; omega
    have h5 : shr .u64 ((n * 8 % 2 ^ 64 : Nat) : Int) (56 - 8 * (j : Int)) % 256 = ((n * 8 % 2 ^ 64 / 2 ^ (56 - 8 * j) % 256 : Nat) : Int) := by
      rw [← shr_small (k := .u64) (x := ((n * 8 % 2 ^ 64 : Nat) : Int)) (y := 56 - 8 * (j : Int)) rfl (by show 56 - 8 * (j : Int) ≤ 64; omega), show (56 - 8 * (j : Int)).toNat = 56 - 8 * j by omega]
      simp
    simp only [sconceref12_Pad.l1]
    rw [if_pos (by omega), h1, if_pos (by omega), if_pos (by simp [tail6]; omega), h2, h3, h4, h5]
    have h6 : l ++ tail6 n j ++ [((n * 8 % 2 ^ 64 / 2 ^ (56 - 8 * j) % 256 : Nat) : Int)] = l ++ tail6 n (j + 1) := by
      rw [List.append_assoc]
      congr 1
      simp [tail6, List.range_succ]
    rw [h6]
    exact ih k (j + 1) l (by omega) (by omega) hl
theorem rpad_l0 (n : Nat) (hn : n < 2 ^ 63) (d : Nat) : ∀ (k j : Nat), j + d = padZ n → d + 10 < k →
    sconceref12_Pad.l0 k n (128 :: List.replicate j 0) = some (pd6 n) := by
  induction d with
  | zero =>
    intro k j hj hk
    obtain ⟨k, rfl⟩ : ∃ m, k = m + 1 := ⟨k - 1, by omega⟩
    obtain rfl : j = padZ n := by omega
    have hz : padZ n < 128 := by unfold padZ; omega
    have h2 : IntKind.u64.wrap (n : Int) = (n : Int) := by have := IntKind.wrap_u64 (n : Int); omega
    have hlen : ((128 :: List.replicate (padZ n) (0 : Int)).length : Int) = (padZ n : Int) + 1 := by simp
    have h3 : IntKind.u64.wrap (((128 :: List.replicate (padZ n) (0 : Int)).length : Int)) = (padZ n : Int) + 1 := by rw [hlen]; have := IntKind.wrap_u64 ((padZ n : Int) + 1); omega
    have h4 : IntKind.u64.wrap ((n : Int) + ((padZ n : Int) + 1)) = (n : Int) + ((padZ n : Int) + 1) := by have := IntKind.wrap_u64 ((n : Int) + ((padZ n : Int) + 1)); omega
    have h5 : Int.tmod ((n : Int) + ((padZ n : Int) + 1)) 128 = 112 := by
      rw [Int.tmod_eq_emod_of_nonneg (by omega)]
      unfold padZ at *
      omega
    simp only [sconceref12_Pad.l0]
    rw [h2, h3, h4, if_pos h5]
    simp only [Option.bind_some]
    rw [if_pos (by simp; omega)]
    have h6 : (n : Int) / 2305843009213693952 % 256 = ((n / 2 ^ 61 : Nat) : Int) := by omega
    rw [h6]
    have := rpad_l1 n hn 8 k 0 (head6 n) (by omega) (by omega) (by simp [head6]; omega)
    rw [pd6_parts]
    simpa [tail6, head6] using this
  | succ d ih =>
    intro k j hj hk
    obtain ⟨k, rfl⟩ : ∃ m, k = m + 1 := ⟨k - 1, by omega⟩
    have hz : padZ n < 128 := by unfold padZ; omega
    have h2 : IntKind.u64.wrap (n : Int) = (n : Int) := by have := IntKind.wrap_u64 (n : Int); omega
    have hlen : ((128 :: List.replicate j (0 : Int)).length : Int) = (j : Int) + 1 := by simp
    have h3 : IntKind.u64.wrap (((128 :: List.replicate j (0 : Int)).length : Int)) = (j : Int) + 1 := by rw [hlen]; have := IntKind.wrap_u64 ((j : Int) + 1); omega
    have h4 : IntKind.u64.wrap ((n : Int) + ((j : Int) + 1)) = (n : Int) + ((j : Int) + 1) := by have := IntKind.wrap_u64 ((n : Int) + ((j : Int) + 1)); omega
    have h5 : ¬ Int.tmod ((n : Int) + ((j : Int) + 1)) 128 = 112 := by
      rw [Int.tmod_eq_emod_of_nonneg (by omega)]
      unfold padZ at *
      omega
    simp only [sconceref12_Pad.l0]
    rw [h2, h3, h4, if_neg h5, if_pos (by simp; omega)]
    have h6 : (128 :: List.replicate j (0 : Int)) ++ [0] = 128 :: List.replicate (j + 1) 0 := by
      rw [List.cons_append, ← List.replicate_succ']
    rw [h6]
    exact ih k (j + 1) (by omega) (by omega)
theorem rpad6 (a : Int) (m : Nat) (ha : (if a < 0 then (0 : Int) else a) = (m : Int)) (hm : m < 2 ^ 63) (k : Nat) (hk : 200 ≤ k) : sconceref12_Pad.f k a = some (pd6 m) := by
  have hz : padZ m < 128 := by unfold padZ; omega
  have := rpad_l0 m hm (padZ m) k 0 (by omega) (by omega)
  unfold sconceref12_Pad.f
  rw [show mx a 0 = (m : Int) from ha]
  exact this
end Go.Proofs.Ytmmbbkdbebfhiaa.Sha
