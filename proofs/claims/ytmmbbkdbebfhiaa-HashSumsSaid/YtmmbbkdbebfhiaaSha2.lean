/- A whole hash of 64 bit words, at whole numbers. -/
import Derived.Test.YtmmbbkdbebfhiaaHPad
set_option linter.unusedVariables false
set_option linter.unusedSimpArgs false
namespace Go.Proofs.Ytmmbbkdbebfhiaa.Sha
open Go.RowKit Go.Proofs.YtmmbbkdbebfhiaaW.PrintWords Go.Proofs.YtmmbbkdbebfhiaaW.PrintLast Go.Proofs.Ytmmbbkdbebfhiaa.H

theorem blk6_length (s b : List Int) : (blk6 s b).length = 8 := by simp [blk6]
theorem blk6_in (s b : List Int) : inB 64 (blk6 s b) := by
  intro x hx
  simp only [blk6, List.mem_map] at hx
  obtain ⟨i, _, rfl⟩ := hx
  exact wrap64_in _
/-- The state behind i blocks. -/
def fold6 (s all : List Int) : Nat → List Int
  | 0 => s
  | i + 1 => blk6 (fold6 s all i) ((all.drop (128 * i)).take 128)
theorem fold6_length {s : List Int} (all : List Int) (h : s.length = 8) : ∀ i, (fold6 s all i).length = 8
  | 0 => h
  | _ + 1 => blk6_length _ _
theorem fold6_in {s : List Int} (all : List Int) (h : inB 64 s) : ∀ i, inB 64 (fold6 s all i)
  | 0 => h
  | _ + 1 => blk6_in _ _
def bytes6 (x : Int) : List Int := (List.range 8).map fun j => x / 2 ^ (56 - 8 * j) % 256
theorem bytes6_length (x : Int) : (bytes6 x).length = 8 := by simp [bytes6]
def out6 (l : List Int) : List Int := l.flatMap bytes6
/-- What is out: i words, j bytes of the next one. -/
def outTo (l : List Int) (i j : Nat) : List Int := out6 (l.take i) ++ (bytes6 (l.getD i 0)).take j
theorem out6_length : ∀ l : List Int, (out6 l).length = 8 * l.length
  | [] => rfl
  | x :: l => by
    have := out6_length l
    simp only [out6] at this
    simp only [out6, List.flatMap_cons, List.length_append, bytes6_length, this, List.length_cons]
    omega
theorem outTo_length (l : List Int) (i j : Nat) (hi : i ≤ l.length) (hj : j ≤ 8) : (outTo l i j).length = 8 * i + j := by
  simp [outTo, out6_length, bytes6_length]; omega
theorem outTo_zero (l : List Int) : outTo l 0 0 = [] := by simp [outTo, out6]
theorem outTo_step (l : List Int) (i j : Nat) (hj : j < 8) : outTo l i j ++ [l.getD i 0 / 2 ^ (56 - 8 * j) % 256] = outTo l i (j + 1) := by
  have : (bytes6 (l.getD i 0))[j]? = some (l.getD i 0 / 2 ^ (56 - 8 * j) % 256) := by
    rw [List.getElem?_eq_getElem (by rw [bytes6_length]; exact hj)]; simp [bytes6]
  rw [outTo, outTo, List.append_assoc, List.take_add_one, this]
  rfl
theorem outTo_next (l : List Int) (i : Nat) (hi : i < l.length) : outTo l i 8 = outTo l (i + 1) 0 := by
  have e : l.getD i 0 = l[i] := by rw [List.getD_eq_getElem?_getD, List.getElem?_eq_getElem hi]; rfl
  have e8 : (bytes6 l[i]).take 8 = bytes6 l[i] := List.take_of_length_le (by rw [bytes6_length]; exact Nat.le_refl _)
  have ei : l.take (i + 1) = l.take i ++ [l[i]] := by rw [List.take_add_one, List.getElem?_eq_getElem hi]; rfl
  rw [outTo, outTo, e, e8, List.take_zero, List.append_nil, ei, out6, out6, List.flatMap_append, List.flatMap_singleton]
theorem outTo_all (l : List Int) : outTo l l.length 0 = out6 l := by simp [outTo]
theorem inB_append {n : Nat} {a b : List Int} (ha : inB n a) (hb : inB n b) : inB n (a ++ b) := fun x hx => by
  rcases List.mem_append.1 hx with h | h
  · exact ha x h
  · exact hb x h
theorem inB_take {n : Nat} {a : List Int} (ha : inB n a) (k : Nat) : inB n (a.take k) := fun x hx => ha x (List.mem_of_mem_take hx)
theorem inB_drop {n : Nat} {a : List Int} (ha : inB n a) (k : Nat) : inB n (a.drop k) := fun x hx => ha x (List.mem_of_mem_drop hx)
theorem pd6_in (n : Nat) (h : n < 2 ^ 63) : inB 8 (pd6 n) := by
  intro x hx
  rcases List.mem_or_eq_of_mem_set hx with h1 | rfl
  · simp only [padTo, List.mem_map] at h1
    obtain ⟨j, _, rfl⟩ := h1
    split
    · decide
    · split
      · have := Nat.mod_lt (n * 8 % 2 ^ 64 / 2 ^ (8 * (padL n - 1 - j))) (show 0 < 256 by decide)
        omega
      · decide
  · omega
theorem padL_mod (n : Nat) : (n + padL n) % 128 = 0 := by unfold padL; omega
theorem padL_le (n : Nat) : padL n ≤ 144 := by unfold padL; omega
/-- A hash. -/
def all6 (b : List Int) : List Int := b ++ pd6 b.length
def st6 (s b : List Int) : List Int := fold6 s (all6 b) ((b.length + padL b.length) / 128)
def sum6 (s b : List Int) : List Int := out6 (st6 s b)
theorem all6_length (b : List Int) : (all6 b).length = b.length + padL b.length := by rw [all6, List.length_append, pd6_length]
end Go.Proofs.Ytmmbbkdbebfhiaa.Sha
