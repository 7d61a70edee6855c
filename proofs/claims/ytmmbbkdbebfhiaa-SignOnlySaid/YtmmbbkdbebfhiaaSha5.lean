/- What a block of bytes makes of a state of 32 bit words: the plain meaning, at whole numbers, in the walks' own words. -/
import Derived.Test.YtmmbbkdbebfhiaaSha
set_option linter.unusedVariables false
set_option linter.unusedSimpArgs false
namespace Go.Proofs.Ytmmbbkdbebfhiaa.Sha
open Go.RowKit Go.Proofs.YtmmbbkdbebfhiaaW.PrintWords Go.Proofs.YtmmbbkdbebfhiaaW.PrintLast

theorem wrap32_in (x : Int) : 0 ≤ IntKind.u32.wrap x ∧ IntKind.u32.wrap x < 2 ^ 32 := by
  have := IntKind.wrap_u32' x
  omega
/-! ### 32 bits -/
def X5 (a b : Int) : Int := Go.bits .xor .u32 a b
def A5 (a b : Int) : Int := Go.bits .and .u32 a b
def O5 (a b : Int) : Int := Go.bits .or .u32 a b
def P5 (a b : Int) : Int := IntKind.u32.wrap (a + b)
/-- A word turned by n places. -/
def R5 (n : Nat) (x : Int) : Int := O5 (x / 2 ^ n) (IntKind.u32.wrap (x * 2 ^ (32 - n)))
/-- The words that the rounds add. -/
def K5 : List Int := [1116352408, 1899447441, 3049323471, 3921009573, 961987163, 1508970993, 2453635748, 2870763221, 3624381080, 310598401, 607225278, 1426881987, 1925078388, 2162078206, 2614888103, 3248222580, 3835390401, 4022224774, 264347078, 604807628, 770255983, 1249150122, 1555081692, 1996064986, 2554220882, 2821834349, 2952996808, 3210313671, 3336571891, 3584528711, 113926993, 338241895, 666307205, 773529912, 1294757372, 1396182291, 1695183700, 1986661051, 2177026350, 2456956037, 2730485921, 2820302411, 3259730800, 3345764771, 3516065817, 3600352804, 4094571909, 275423344, 430227734, 506948616, 659060556, 883997877, 958139571, 1322822218, 1537002063, 1747873779, 1955562222, 2024104815, 2227730452, 2361852424, 2428436474, 2756734187, 3204031479, 3329325298]
/-- Bytes as one word. -/
def ld5 (a : Int) (l : List Int) : Int := l.foldl (fun a c => O5 (IntKind.u32.wrap (a * 256)) (IntKind.u32.wrap c)) a
def sch5 (L : List Int) (t : Nat) : Int :=
  P5 (P5 (P5 (L.getD (t - 16) 0) (X5 (X5 (R5 7 (L.getD (t - 15) 0)) (R5 18 (L.getD (t - 15) 0))) (L.getD (t - 15) 0 / 8))) (L.getD (t - 7) 0)) (X5 (X5 (R5 17 (L.getD (t - 2) 0)) (R5 19 (L.getD (t - 2) 0))) (L.getD (t - 2) 0 / 1024))
def sched5 (b : List Int) : Nat → List Int
  | 0 => []
  | t + 1 => sched5 b t ++ [if t < 16 then ld5 0 ((b.drop (4 * t)).take 4) else sch5 (sched5 b t) t]
def rnd5 (r : List Int) (k w : Int) : List Int :=
  let e := r.getD 4 0
  let a := r.getD 0 0
  let t1 := P5 (P5 (P5 (P5 (r.getD 7 0) (X5 (X5 (R5 6 e) (R5 11 e)) (R5 25 e))) (X5 (r.getD 6 0) (A5 e (X5 (r.getD 5 0) (r.getD 6 0))))) k) w
  let t2 := P5 (X5 (X5 (R5 2 a) (R5 13 a)) (R5 22 a)) (O5 (A5 a (r.getD 1 0)) (A5 (r.getD 2 0) (O5 a (r.getD 1 0))))
  [P5 t1 t2, a, r.getD 1 0, r.getD 2 0, P5 (r.getD 3 0) t1, e, r.getD 5 0, r.getD 6 0]
def rnds5 (s W : List Int) : Nat → List Int
  | 0 => s
  | t + 1 => rnd5 (rnds5 s W t) (K5.getD t 0) (W.getD t 0)
def blk5 (s b : List Int) : List Int := (List.range 8).map fun i => P5 (s.getD i 0) ((rnds5 s (sched5 b 64) 64).getD i 0)
theorem sched5_length (b : List Int) : ∀ t, (sched5 b t).length = t
  | 0 => rfl
  | t + 1 => by simp [sched5, sched5_length b t]
theorem rnds5_length {s : List Int} (W : List Int) (h : s.length = 8) : ∀ t, (rnds5 s W t).length = 8
  | 0 => h
  | t + 1 => by simp [rnds5, rnd5]
/-- The words so far, the others 0. -/
def sw5 (b : List Int) (t : Nat) : List Int := sched5 b t ++ List.replicate (64 - t) 0
theorem sw5_length (b : List Int) (t : Nat) (h : t ≤ 64) : (sw5 b t).length = 64 := by simp [sw5, sched5_length]; omega
/-- .. the word t being read, j of its bytes there. -/
def sj5 (b : List Int) (t j : Nat) : List Int := sched5 b t ++ [ld5 0 (((b.drop (4 * t)).take 4).take j)] ++ List.replicate (63 - t) 0
theorem sj5_length (b : List Int) (t j : Nat) (h : t < 64) : (sj5 b t j).length = 64 := by simp [sj5, sched5_length]; omega
theorem sched5_getD (b : List Int) (t i : Nat) (h : i < t) : (sw5 b t).getD i 0 = (sched5 b t).getD i 0 := by
  rw [sw5, List.getD_eq_getElem?_getD, List.getD_eq_getElem?_getD, List.getElem?_append_left (by rw [sched5_length]; exact h)]
theorem set_at5 (A : List Int) (n : Nat) (v : Int) (h : 0 < n) : (A ++ List.replicate n 0).set A.length v = A ++ [v] ++ List.replicate (n - 1) 0 := by
  obtain ⟨m, rfl⟩ : ∃ m, n = m + 1 := ⟨n - 1, by omega⟩
  rw [List.set_append_right _ _ (Nat.le_refl _), Nat.sub_self, List.replicate_succ]
  simp
theorem sw5_step (b : List Int) (k : Nat) (h16 : ¬ k < 16) (hk : k < 64) : (sw5 b k).set k (sch5 (sw5 b k) k) = sw5 b (k + 1) := by
  have e : sch5 (sw5 b k) k = sch5 (sched5 b k) k := by
    unfold sch5
    rw [sched5_getD b k (k - 16) (by omega), sched5_getD b k (k - 15) (by omega), sched5_getD b k (k - 7) (by omega), sched5_getD b k (k - 2) (by omega)]
  rw [e]
  have := set_at5 (sched5 b k) (64 - k) (sch5 (sched5 b k) k) (by omega)
  rw [sched5_length] at this
  rw [sw5, this, sw5, sched5, if_neg h16, show 64 - k - 1 = 64 - (k + 1) by omega]
theorem sj5_start (b : List Int) (k : Nat) (hk : k < 64) : sw5 b k = sj5 b k 0 := by
  rw [sw5, sj5, show 64 - k = (63 - k) + 1 by omega, List.replicate_succ]
  simp [ld5]
theorem sj5_end (b : List Int) (k : Nat) (h16 : k < 16) : sj5 b k 4 = sw5 b (k + 1) := by
  rw [sj5, sw5, sched5, if_pos h16, show 64 - (k + 1) = 63 - k by omega, List.take_of_length_le (by simp; omega)]
theorem sj5_step (b : List Int) (k j : Nat) (hk : k < 16) (hj : j < 4) (hb : b.length = 64) :
    (sj5 b k j).set k (O5 (IntKind.u32.wrap ((sj5 b k j).getD k 0 * 256)) (IntKind.u32.wrap (b.getD (4 * k + j) 0))) = sj5 b k (j + 1) := by
  have hg : (sj5 b k j).getD k 0 = ld5 0 (((b.drop (4 * k)).take 4).take j) := by
    rw [sj5, List.append_assoc, List.getD_eq_getElem?_getD, List.getElem?_append_right (by rw [sched5_length]; exact Nat.le_refl _), sched5_length]
    simp
  have ht : ((b.drop (4 * k)).take 4).take (j + 1) = ((b.drop (4 * k)).take 4).take j ++ [b.getD (4 * k + j) 0] := by
    rw [List.take_add_one, List.getElem?_take_of_lt hj, List.getElem?_drop, List.getElem?_eq_getElem (by omega), List.getD_eq_getElem?_getD, List.getElem?_eq_getElem (by omega)]
    rfl
  rw [hg]
  conv => rhs; rw [sj5, ht, ld5, List.foldl_append]
  rw [sj5, List.append_assoc, List.set_append_right _ _ (by rw [sched5_length]; exact Nat.le_refl _), sched5_length, Nat.sub_self]
  simp [ld5]
/-- The state, its first t words with the turned ones added. -/
def sm5 (s r : List Int) (t : Nat) : List Int := (List.range 8).map fun i => if i < t then P5 (s.getD i 0) (r.getD i 0) else s.getD i 0
theorem sm5_length (s r : List Int) (t : Nat) : (sm5 s r t).length = 8 := by simp [sm5]
theorem sm5_zero (s r : List Int) (h : s.length = 8) : sm5 s r 0 = s := by
  apply List.ext_getElem
  · rw [sm5_length, h]
  · intro j h1 h2
    simp [sm5, List.getElem?_eq_getElem h2]
theorem sm5_step (s r : List Int) (t : Nat) (h : t < 8) : (sm5 s r t).set t (P5 ((sm5 s r t).getD t 0) (r.getD t 0)) = sm5 s r (t + 1) := by
  have hg : (sm5 s r t).getD t 0 = s.getD t 0 := by
    rw [List.getD_eq_getElem?_getD, List.getElem?_eq_getElem (by rw [sm5_length]; exact h)]
    simp [sm5]
  rw [hg]
  apply List.ext_getElem
  · simp [sm5]
  · intro j h1 h2
    rw [List.getElem_set]
    simp only [sm5, List.getElem_map, List.getElem_range]
    by_cases hj : t = j
    · subst hj; simp
    · rw [if_neg hj]
      by_cases h3 : j < t
      · rw [if_pos h3, if_pos (by omega)]
      · rw [if_neg h3, if_neg (by omega)]
theorem sm5_all (s r : List Int) : sm5 s r 8 = (List.range 8).map fun i => P5 (s.getD i 0) (r.getD i 0) := by
  simp only [sm5]
  apply List.map_congr_left
  intro j hj
  rw [List.mem_range] at hj
  rw [if_pos hj]
end Go.Proofs.Ytmmbbkdbebfhiaa.Sha
