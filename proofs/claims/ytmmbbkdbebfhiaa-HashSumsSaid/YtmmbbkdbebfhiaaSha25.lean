/- A whole hash of 32 bit words, at whole numbers; the reference's padding, as its printed function tells it, is the program's. -/
import Derived.Test.YtmmbbkdbebfhiaaHPad5
import Derived.Test.YtmmbbkdbebfhiaaPad6
set_option linter.unusedVariables false
set_option linter.unusedSimpArgs false
namespace Go.Proofs.Ytmmbbkdbebfhiaa.Sha
open Go.RowKit Go.Proofs.YtmmbbkdbebfhiaaW.PrintWords Go.Proofs.YtmmbbkdbebfhiaaW.PrintLast Go.Proofs.YtmmbbkdbebfhiaaW.PrintMore Go.Proofs.Ytmmbbkdbebfhiaa.H Go.Proofs.Ytmmbbkdbebfhiaa.PS

theorem blk5_length (s b : List Int) : (blk5 s b).length = 8 := by simp [blk5]
theorem blk5_in (s b : List Int) : inB 32 (blk5 s b) := by
  intro x hx
  simp only [blk5, List.mem_map] at hx
  obtain ⟨i, _, rfl⟩ := hx
  exact wrap32_in _
/-- The state behind i blocks. -/
def fold5 (s all : List Int) : Nat → List Int
  | 0 => s
  | i + 1 => blk5 (fold5 s all i) ((all.drop (64 * i)).take 64)
theorem fold5_length {s : List Int} (all : List Int) (h : s.length = 8) : ∀ i, (fold5 s all i).length = 8
  | 0 => h
  | _ + 1 => blk5_length _ _
theorem fold5_in {s : List Int} (all : List Int) (h : inB 32 s) : ∀ i, inB 32 (fold5 s all i)
  | 0 => h
  | _ + 1 => blk5_in _ _
def bytes5 (x : Int) : List Int := [x / 16777216 % 256, x / 65536 % 256, x / 256 % 256, x % 256]
def out5 (l : List Int) : List Int := l.flatMap bytes5
theorem out5_length : ∀ l : List Int, (out5 l).length = 4 * l.length
  | [] => rfl
  | x :: l => by
    have := out5_length l
    simp only [out5] at this
    simp only [out5, List.flatMap_cons, List.length_append, this, List.length_cons, bytes5, List.length_nil]
    omega
theorem out5_step (l : List Int) (i : Nat) (hi : i < l.length) : out5 (l.take i) ++ bytes5 (l.getD i 0) = out5 (l.take (i + 1)) := by
  have e : l.getD i 0 = l[i] := by rw [List.getD_eq_getElem?_getD, List.getElem?_eq_getElem hi]; rfl
  have ei : l.take (i + 1) = l.take i ++ [l[i]] := by rw [List.take_add_one, List.getElem?_eq_getElem hi]; rfl
  rw [e, ei, out5, out5, List.flatMap_append, List.flatMap_singleton]
theorem pd5_in (n : Nat) : inB 8 (pd5 n) := by
  intro x hx
  simp only [pd5, padTo, List.mem_map] at hx
  obtain ⟨j, _, rfl⟩ := hx
  split
  · decide
  · split
    · have := Nat.mod_lt (n * 8 % 2 ^ 64 / 2 ^ (8 * (padL5 n - 1 - j))) (show 0 < 256 by decide)
      omega
    · decide
theorem padL5_mod (n : Nat) : (n + padL5 n) % 64 = 0 := by unfold padL5; omega
theorem padL5_le (n : Nat) : padL5 n ≤ 72 := by unfold padL5; omega
/-- A hash. -/
def all5 (b : List Int) : List Int := b ++ pd5 b.length
def st5 (s b : List Int) : List Int := fold5 s (all5 b) ((b.length + padL5 b.length) / 64)
def sum5 (b : List Int) : List Int := out5 (st5 S5 b)
theorem all5_length (b : List Int) : (all5 b).length = b.length + padL5 b.length := by rw [all5, List.length_append, pd5_length]
theorem sum5_length (b : List Int) : (sum5 b).length = 32 := by
  rw [sum5, out5_length, st5, fold5_length _ S5_length]

def padZ5 (n : Nat) : Nat := (119 - n % 64) % 64
def head5 (n : Nat) : List Int := 128 :: List.replicate (padZ5 n) 0
theorem pd5_parts (n : Nat) : pd5 n = head5 n ++ tail6 n 8 := by
  have hp : padL5 n = padZ5 n + 9 := by unfold padL5 padZ5; omega
  apply List.ext_getElem
  · simp [pd5_length, head5, tail6, hp]
  · intro j h1 h2
    rw [pd5_length] at h1
    have hh : (head5 n).length = padZ5 n + 1 := by simp [head5]
    simp only [pd5, padTo, List.getElem_map, List.getElem_range]
    by_cases h0 : j = 0
    · subst h0
      rw [if_pos rfl, List.getElem_append_left (by rw [hh]; omega)]
      simp [head5]
    · rw [if_neg h0]
      by_cases h8 : padL5 n - 1 - j < 8
      · rw [if_pos h8, List.getElem_append_right (by rw [hh]; omega)]
        simp only [tail6, List.getElem_map, List.getElem_range, hh]
        rw [show 56 - 8 * (j - (padZ5 n + 1)) = 8 * (padL5 n - 1 - j) by omega]
      · rw [if_neg h8, List.getElem_append_left (by rw [hh]; omega)]
        obtain ⟨m, rfl⟩ : ∃ m, j = m + 1 := ⟨j - 1, by omega⟩
        simp [head5]
theorem rpad5_l1 (n : Nat) (hn : n < 2 ^ 63) (d : Nat) : ∀ (k j : Nat) (l : List Int), j + d = 8 → d < k → l.length ≤ 200 →
    sconceref11_Pad.l1 k n (l ++ tail6 n j) (56 - 8 * (j : Int)) = some (l ++ tail6 n 8) := by
  induction d with
  | zero =>
    intro k j l hj hk hl
    obtain ⟨k, rfl⟩ : ∃ m, k = m + 1 := ⟨k - 1, by omega⟩
    obtain rfl : j = 8 := by omega
    simp only [sconceref11_Pad.l1]
    rw [if_neg (by omega)]
  | succ d ih =>
    intro k j l hj hk hl
    obtain ⟨k, rfl⟩ : ∃ m, k = m + 1 := ⟨k - 1, by omega⟩
    have h1 : IntKind.u64.wrap (56 - 8 * (j : Int)) = 56 - 8 * (j : Int) := by have := IntKind.wrap_u64 (56 - 8 * (j : Int)); omega
    have h2 : IntKind.u64.wrap (n : Int) = (n : Int) := by have := IntKind.wrap_u64 (n : Int); omega
    have h3 : IntKind.u64.wrap (8 * (n : Int)) = ((n * 8 % 2 ^ 64 : Nat) : Int) := by have := IntKind.wrap_u64 (8 * (n : Int)); omega
    have h4 : wrap64 (56 - 8 * (j : Int) - 8) = 56 - 8 * ((j + 1 : Nat) : Int) := by unfold wrap64; omega
    have h5 : shr .u64 ((n * 8 % 2 ^ 64 : Nat) : Int) (56 - 8 * (j : Int)) % 256 = ((n * 8 % 2 ^ 64 / 2 ^ (56 - 8 * j) % 256 : Nat) : Int) := by
      rw [← shr_small (k := .u64) (x := ((n * 8 % 2 ^ 64 : Nat) : Int)) (y := 56 - 8 * (j : Int)) rfl (by show 56 - 8 * (j : Int) ≤ 64; omega), show (56 - 8 * (j : Int)).toNat = 56 - 8 * j by omega]
      simp
    simp only [sconceref11_Pad.l1]
    rw [if_pos (by omega), h1, if_pos (by omega), if_pos (by simp [tail6]; omega), h2, h3, h4, h5]
    have h6 : l ++ tail6 n j ++ [((n * 8 % 2 ^ 64 / 2 ^ (56 - 8 * j) % 256 : Nat) : Int)] = l ++ tail6 n (j + 1) := by
      rw [List.append_assoc]
      congr 1
      simp [tail6, List.range_succ]
    rw [h6]
    exact ih k (j + 1) l (by omega) (by omega) hl
theorem rpad5_l0 (n : Nat) (hn : n < 2 ^ 63) (d : Nat) : ∀ (k j : Nat), j + d = padZ5 n → d + 10 < k →
    sconceref11_Pad.l0 k n (128 :: List.replicate j 0) = some (pd5 n) := by
  induction d with
  | zero =>
    intro k j hj hk
    obtain ⟨k, rfl⟩ : ∃ m, k = m + 1 := ⟨k - 1, by omega⟩
    obtain rfl : j = padZ5 n := by omega
    have hz : padZ5 n < 64 := by unfold padZ5; omega
    have h2 : IntKind.u64.wrap (n : Int) = (n : Int) := by have := IntKind.wrap_u64 (n : Int); omega
    have hlen : ((128 :: List.replicate (padZ5 n) (0 : Int)).length : Int) = (padZ5 n : Int) + 1 := by simp
    have h3 : IntKind.u64.wrap (((128 :: List.replicate (padZ5 n) (0 : Int)).length : Int)) = (padZ5 n : Int) + 1 := by rw [hlen]; have := IntKind.wrap_u64 ((padZ5 n : Int) + 1); omega
    have h4 : IntKind.u64.wrap ((n : Int) + ((padZ5 n : Int) + 1)) = (n : Int) + ((padZ5 n : Int) + 1) := by have := IntKind.wrap_u64 ((n : Int) + ((padZ5 n : Int) + 1)); omega
    have h5 : Int.tmod ((n : Int) + ((padZ5 n : Int) + 1)) 64 = 56 := by
      rw [Int.tmod_eq_emod_of_nonneg (by omega)]
      unfold padZ5 at *
      omega
    simp only [sconceref11_Pad.l0]
    rw [h2, h3, h4, if_pos h5]
    have := rpad5_l1 n hn 8 k 0 (head5 n) (by omega) (by omega) (by simp [head5]; omega)
    rw [pd5_parts]
    simpa [tail6, head5] using this
  | succ d ih =>
    intro k j hj hk
    obtain ⟨k, rfl⟩ : ∃ m, k = m + 1 := ⟨k - 1, by omega⟩
    have hz : padZ5 n < 64 := by unfold padZ5; omega
    have h2 : IntKind.u64.wrap (n : Int) = (n : Int) := by have := IntKind.wrap_u64 (n : Int); omega
    have hlen : ((128 :: List.replicate j (0 : Int)).length : Int) = (j : Int) + 1 := by simp
    have h3 : IntKind.u64.wrap (((128 :: List.replicate j (0 : Int)).length : Int)) = (j : Int) + 1 := by rw [hlen]; have := IntKind.wrap_u64 ((j : Int) + 1); omega
    have h4 : IntKind.u64.wrap ((n : Int) + ((j : Int) + 1)) = (n : Int) + ((j : Int) + 1) := by have := IntKind.wrap_u64 ((n : Int) + ((j : Int) + 1)); omega
    have h5 : ¬ Int.tmod ((n : Int) + ((j : Int) + 1)) 64 = 56 := by
      rw [Int.tmod_eq_emod_of_nonneg (by omega)]
      unfold padZ5 at *
      omega
    simp only [sconceref11_Pad.l0]
    rw [h2, h3, h4, if_neg h5, if_pos (by simp; omega)]
    have h6 : (128 :: List.replicate j (0 : Int)) ++ [0] = 128 :: List.replicate (j + 1) 0 := by
      rw [List.cons_append, ← List.replicate_succ']
    rw [h6]
    exact ih k (j + 1) (by omega) (by omega)
theorem rpad5 (a : Int) (m : Nat) (ha : (if a < 0 then (0 : Int) else a) = (m : Int)) (hm : m < 2 ^ 63) (k : Nat) (hk : 200 ≤ k) : sconceref11_Pad.f k a = some (pd5 m) := by
  have hz : padZ5 m < 64 := by unfold padZ5; omega
  have := rpad5_l0 m hm (padZ5 m) k 0 (by omega) (by omega)
  unfold sconceref11_Pad.f
  rw [show mx a 0 = (m : Int) from ha]
  exact this
end Go.Proofs.Ytmmbbkdbebfhiaa.Sha
