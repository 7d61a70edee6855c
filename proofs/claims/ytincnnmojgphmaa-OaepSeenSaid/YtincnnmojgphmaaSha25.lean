/- sha256's Pad, by walking its text. -/
import Derived.Test.YtincnnmojgphmaaHBlk5
import Derived.Test.YtincnnmojgphmaaHSums
import Derived.Test.YtincnnmojgphmaaPSx
set_option linter.unusedVariables false
set_option linter.unusedSimpArgs false
namespace Go.Proofs.Ytincnnmojgphmaa.H
open Go.RowKit Go.Proofs.YtincnnmojgphmaaW.PrintWords Go.Proofs.YtincnnmojgphmaaW.PrintLast Go.Proofs.Ytincnnmojgphmaa.Sha Go.Proofs.YtincnnmojgphmaaW.PrintMore
attribute [local go_sem] Oper.semAt_some max2_int min2_int max_two min_two

theorem padTo_zero9 (L size : Nat) (h : 9 ≤ L) : (List.replicate L (0 : Int)).set 0 128 = padTo L size 0 := by
  apply List.ext_getElem
  · simp [padTo]
  · intro j h1 h2
    rw [List.getElem_set]
    simp only [padTo, List.getElem_map, List.getElem_range, List.getElem_replicate]
    by_cases hj : j = 0
    · subst hj; simp
    · rw [if_neg (by omega), if_neg hj, if_neg (by omega)]
theorem padTo_set9 (L size k : Nat) (h : 9 ≤ L) (hk : k < 8) : (padTo L size k).set (L - 1 - k) ((size / 2 ^ (8 * k) % 256 : Nat) : Int) = padTo L size (k + 1) := by
  apply List.ext_getElem
  · simp [padTo]
  · intro j h1 h2
    simp [padTo] at h2
    rw [List.getElem_set]
    simp only [padTo, List.getElem_map, List.getElem_range]
    by_cases hj : L - 1 - k = j
    · subst hj; rw [if_pos rfl, if_neg (by omega), if_pos (by omega), show L - 1 - (L - 1 - k) = k by omega]
    · rw [if_neg hj]
      by_cases h0 : j = 0
      · rw [if_pos h0, if_pos h0]
      · rw [if_neg h0, if_neg h0]
        by_cases h3 : L - 1 - j < k
        · rw [if_pos h3, if_pos (by omega)]
        · rw [if_neg h3, if_neg (by omega)]
/-- What stands behind n bytes. -/
def padL5 (n : Nat) : Nat := 1 + (119 - n % 64) % 64 + 8
def pd5 (n : Nat) : List Int := padTo (padL5 n) (n * 8 % 2 ^ 64) 8
theorem pd5_length (n : Nat) : (pd5 n).length = padL5 n := by simp [pd5, padTo_length]

set_option maxRecDepth 100000 in
set_option maxHeartbeats 2000000 in
theorem pad5_any (a : Int) (m : Nat) (ha : (if a < 0 then (0 : Int) else a) = (m : Int)) (hm : m < 2 ^ 63) (w : World) :
    Calls Try.prog 73 #[.int .i64 a] w fun e w' => ∃ v0_ : Value, e = .returned v0_ ∧ Kd.R (Kd.int .u8) 5 w' w.heap.size (fun _ => True) v0_ (pd5 m) ∧ Below w.heap.size w w' := by
  obtain ⟨L, hL⟩ : ∃ L, L = padL5 m := ⟨_, rfl⟩
  have hL9 : 9 ≤ L := by rw [hL, padL5]; omega
  have hL72 : L ≤ 72 := by rw [hL, padL5]; omega
  have hmk : ∀ W : World, (Instr.makeSlice 22 (.int .i64 (L : Int)) (.int .i64 (L : Int))).run Try.prog W = .ok (.slice (some ⟨W.heap.size, 0, none⟩) L L) (W.alloc (.cells (madeCells #[.int .u8 0] L) 5)) := print_make 22 5 .u8 1 Try.underlying22 (by kernel_rfl) (by decide) L (by omega)
  have hLe : (1 : Int) + (119 - (m : Int)) % 64 + 8 = (L : Int) := by rw [hL, padL5]; omega
  have m0 : (0 : Int) ≤ (m : Int) := by omega
  have m1 : (m : Int) ≤ 9223372036854775807 := by omega
  have hm0 : (madeCells #[Value.int IntKind.u8 0] L)[0]? = some (.int .u8 0) := by
    rw [made_nums, List.getElem?_toArray, nums, List.getElem?_map, List.getElem?_replicate, if_pos (by omega)]; rfl
  have hsz : IntKind.u64.wrap ((m : Int) * 8) = ((m * 8 % 2 ^ 64 : Nat) : Int) := by have := IntKind.wrap_u64 ((m : Int) * 8); omega
  obtain ⟨size, hsize⟩ : ∃ size, size = m * 8 % 2 ^ 64 := ⟨_, rfl⟩
  rw [← hsize] at hsz
  have HL := Lib.hid hL
  have HM := Lib.hid hm
  have HZ := Lib.hid hsize
  clear hL hm hsize
  go_enter Try.func73, Try.ntmps73
  go_wp2_with fail
  go_loopw [4, 5] (fun i sz wr => ∃ k : Nat, k ≤ 8 ∧ i = .int .i64 ((k : Int) + 1) ∧ sz = .int .u64 ((size / 2 ^ (8 * k) : Nat) : Int) ∧ wr.heap[w.heap.size]? = some (.cells (nums .u8 (padTo L size k)).toArray 5 (0, 0)) ∧ Below w.heap.size w wr ∧ w.heap.size < wr.heap.size) (fun i _ _ => (9 - intOf i).toNat)
  case atStart =>
    refine ⟨0, by omega, rfl, by simp, ?_, (Below.refl _ w).alloc (Nat.le_refl _) _, by simp⟩
    rw [heap_at, if_pos rfl, made_nums, ← padTo_zero9 L _ hL9]
    rw [List.setIfInBounds_toArray]
    simp only [nums, List.map_set]
  case round =>
    obtain ⟨k, hk, rfl, rfl, hb, hbw, hsz⟩ := hrel
    by_cases hlt : k < 8
    · have hfr := blk_frozen hb (L - 1 - k)
      have hst := blk_set hb (L - 1 - k) (.int .u8 ((size / 2 ^ (8 * k) % 256 : Nat) : Int))
      have hcx : wr.cell? ⟨w.heap.size, L - 1 - k, none⟩ = some (.int .u8 ((padTo L size k).getD (L - 1 - k) 0)) := by
        rw [blk_cell hb, List.getElem?_toArray, nums, List.getElem?_map, List.getElem?_eq_getElem (by rw [padTo_length]; omega)]
        simp [List.getD_eq_getElem?_getD, List.getElem?_eq_getElem (show L - 1 - k < (padTo L size k).length by rw [padTo_length]; omega)]
      have HB := Lib.hid hb
      have HW := Lib.hid hbw
      have HS := Lib.hid hst
      obtain ⟨q, hq⟩ : ∃ q, q = size / 2 ^ (8 * k) := ⟨_, rfl⟩
      have hix : ((L : Int) - ((k : Int) + 1)).toNat = L - 1 - k := by omega
      have hdiv : q / 256 = size / 2 ^ (8 * (k + 1)) := by
        rw [hq, Nat.div_div_eq_div_mul, show 8 * (k + 1) = 8 * k + 8 by omega, Nat.pow_add]
      have HQ := Lib.hid hq
      have HD := Lib.hid hdiv
      rw [← hq]
      clear hb hbw hst hq hdiv
      go_wp2_with fail
      go_roundw
      case rel =>
        have ev : (q : Int) % 256 = ((size / 2 ^ (8 * k) % 256 : Nat) : Int) := by rw [← HQ.out]; omega
        rw [ev]
        exact ⟨k + 1, by omega, by go_num, by rw [← HD.out]; rfl, by rw [← padTo_set9 L _ k hL9 hlt]; simpa [nums, List.map_set] using HS.out, HW.out.setCell (Nat.le_refl _) _, by simpa using hsz⟩
      case measure => simp [intOf]; omega
    · obtain rfl : k = 8 := by omega
      have HB := Lib.hid hb
      have HW := Lib.hid hbw
      clear hb hbw
      go_wp2_with fail
      refine bodyPost_ret (v := .slice (some ⟨w.heap.size, 0, none⟩) L L) (by simp [results, go_sem]) rfl ?_
      have hblk : wr.heap[w.heap.size]? = some (.cells (nums .u8 (pd5 m)).toArray 5 (0, 0)) := by
        rw [HB.out, pd5, ← HL.out, ← HZ.out]
      have hpl : (pd5 m).length = L := by rw [pd5_length, HL.out]
      generalize pd5 m = D at hblk hpl ⊢
      refine ⟨_, rfl, Kd.R_of_own ⟨by simp [encs], .inr ⟨w.heap.size, L, _, by rw [hpl], Nat.le_refl _, hblk, by omega, Nat.le_trans hL72 (by decide), by simp [nums, hpl], by simp [encs, nums]; exact List.take_of_length_le (by simp)⟩⟩ (fun _ _ => trivial), HW.out⟩

def sha256_Pad.f (a0 : Int) : Option (List Int) := if a0 < 2 ^ 63 then some (pd5 a0.toNat) else none
theorem sha256_Pad.calls (a0 : Int) (r : List Int) (w : World) (h : sha256_Pad.f a0 = some r) :
    Calls Try.prog 73 #[.int .i64 a0] w fun e w' => ∃ v0_ : Value, e = .returned v0_ ∧ Kd.R (Kd.int .u8) 5 w' w.heap.size (fun _ => True) v0_ r ∧ Below w.heap.size w w' := by
  unfold sha256_Pad.f at h
  split at h
  · rename_i hlt
    obtain rfl := Option.some.inj h
    exact pad5_any a0 a0.toNat (by split <;> omega) (by omega) w
  · cases h
end Go.Proofs.Ytincnnmojgphmaa.H

set_option linter.unusedVariables false
set_option linter.unusedSimpArgs false
namespace Go.Proofs.Ytincnnmojgphmaa.Sha
open Go.RowKit Go.Proofs.YtincnnmojgphmaaW.PrintWords Go.Proofs.YtincnnmojgphmaaW.PrintLast Go.Proofs.YtincnnmojgphmaaW.PrintMore Go.Proofs.Ytincnnmojgphmaa.H Go.Proofs.Ytincnnmojgphmaa.PS

def padZ (n : Nat) : Nat := (239 - n % 128) % 128
def tail6 (n j : Nat) : List Int := (List.range j).map fun i => ((n * 8 % 2 ^ 64 / 2 ^ (56 - 8 * i) % 256 : Nat) : Int)
def head6 (n : Nat) : List Int := (128 :: List.replicate (padZ n) 0) ++ [0, 0, 0, 0, 0, 0, 0, ((n / 2 ^ 61 : Nat) : Int)]
theorem pd6_parts (n : Nat) : pd6 n = head6 n ++ tail6 n 8 := by
  have hp : padL n = padZ n + 17 := by unfold padL padZ; omega
  apply List.ext_getElem
  · simp [pd6_length, head6, tail6, hp]
  · intro j h1 h2
    rw [pd6_length] at h1
    simp only [pd6, List.getElem_set]
    have hh : (head6 n).length = padZ n + 9 := by simp [head6]
    by_cases h9 : padL n - 9 = j
    · rw [if_pos h9, List.getElem_append_left (by rw [hh]; omega)]
      simp only [head6]
      rw [List.getElem_append_right (by simp; omega)]
      have : j - (128 :: List.replicate (padZ n) (0 : Int)).length = 7 := by simp; omega
      simp only [this]
      rfl
    · rw [if_neg h9]
      simp only [padTo, List.getElem_map, List.getElem_range]
      by_cases h0 : j = 0
      · subst h0
        rw [if_pos rfl, List.getElem_append_left (by rw [hh]; omega)]
        simp [head6]
      · rw [if_neg h0]
        by_cases h8 : padL n - 1 - j < 8
        · rw [if_pos h8, List.getElem_append_right (by rw [hh]; omega)]
          simp only [tail6, List.getElem_map, List.getElem_range, hh]
          rw [show 56 - 8 * (j - (padZ n + 9)) = 8 * (padL n - 1 - j) by omega]
        · rw [if_neg h8, List.getElem_append_left (by rw [hh]; omega)]
          simp only [head6]
          by_cases hz : j ≤ padZ n
          · rw [List.getElem_append_left (by simp; omega)]
            obtain ⟨m, rfl⟩ : ∃ m, j = m + 1 := ⟨j - 1, by omega⟩
            simp
          · rw [List.getElem_append_right (by simp; omega)]
            have h7 : j - (128 :: List.replicate (padZ n) (0 : Int)).length < 7 := by simp; omega
            have h77 : ∀ (q : Nat) (h : q < 8), q < 7 → (0 : Int) = ([0, 0, 0, 0, 0, 0, 0, ((n / 2 ^ 61 : Nat) : Int)] : List Int)[q]'h := fun q h hq => by
              match q, hq with
              | 0, _ | 1, _ | 2, _ | 3, _ | 4, _ | 5, _ | 6, _ => rfl
            exact h77 _ _ h7
theorem rpad_l1 (n : Nat) (hn : n < 2 ^ 63) (d : Nat) : ∀ (k j : Nat) (l : List Int), j + d = 8 → d < k → l.length ≤ 200 →
    sconceref12_Pad.l1 k n (l ++ tail6 n j) (56 - 8 * (j : Int)) = some (l ++ tail6 n 8) := by
  induction d with
  | zero =>
    intro k j l hj hk hl
    obtain ⟨k, rfl⟩ : ∃ m, k = m + 1 := ⟨k - 1, by omega⟩
    obtain rfl : j = 8 := by omega
    simp only [sconceref12_Pad.l1]
    rw [if_neg (by omega)]
  | succ d ih =>
    intro k j l hj hk hl
    obtain ⟨k, rfl⟩ : ∃ m, k = m + 1 := ⟨k - 1, by omega⟩
    have h1 : IntKind.u64.wrap (56 - 8 * (j : Int)) = 56 - 8 * (j : Int) := by have := IntKind.wrap_u64 (56 - 8 * (j : Int)); omega
    have h2 : IntKind.u64.wrap (n : Int) = (n : Int) := by have := IntKind.wrap_u64 (n : Int); omega
    have h3 : IntKind.u64.wrap (8 * (n : Int)) = ((n * 8 % 2 ^ 64 : Nat) : Int) := by have := IntKind.wrap_u64 (8 * (n : Int)); omega
    have h4 : wrap64 (56 - 8 * (j : Int) - 8) = 56 - 8 * ((j + 1 : Nat) : Int) := by unfold wrap64; omega
    have h5 : shr .u64 ((n * 8 % 2 ^ 64 : Nat) : Int) (56 - 8 * (j : Int)) % 256 = ((n * 8 % 2 ^ 64 / 2 ^ (56 - 8 * j) % 256 : Nat) : Int) := by
      rw [← shr_small (k := .u64) (x := ((n * 8 % 2 ^ 64 : Nat) : Int)) (y := 56 - 8 * (j : Int)) rfl (by show 56 - 8 * (j : Int) ≤ 64; omega), show (56 - 8 * (j : Int)).toNat = 56 - 8 * j by omega]
      simp
    simp only [sconceref12_Pad.l1]
    rw [if_pos (by omega), h1, if_pos (by omega), if_pos (by simp [tail6]; omega), h2, h3, h4, h5]
    have h6 : l ++ tail6 n j ++ [((n * 8 % 2 ^ 64 / 2 ^ (56 - 8 * j) % 256 : Nat) : Int)] = l ++ tail6 n (j + 1) := by
      rw [List.append_assoc]
      congr 1
      simp [tail6, List.range_succ]
    rw [h6]
    exact ih k (j + 1) l (by omega) (by omega) hl
theorem rpad_l0 (n : Nat) (hn : n < 2 ^ 63) (d : Nat) : ∀ (k j : Nat), j + d = padZ n → d + 10 < k →
    sconceref12_Pad.l0 k n (128 :: List.replicate j 0) = some (pd6 n) := by
  induction d with
  | zero =>
    intro k j hj hk
    obtain ⟨k, rfl⟩ : ∃ m, k = m + 1 := ⟨k - 1, by omega⟩
    obtain rfl : j = padZ n := by omega
    have hz : padZ n < 128 := by unfold padZ; omega
    have h2 : IntKind.u64.wrap (n : Int) = (n : Int) := by have := IntKind.wrap_u64 (n : Int); omega
    have hlen : ((128 :: List.replicate (padZ n) (0 : Int)).length : Int) = (padZ n : Int) + 1 := by simp
    have h3 : IntKind.u64.wrap (((128 :: List.replicate (padZ n) (0 : Int)).length : Int)) = (padZ n : Int) + 1 := by rw [hlen]; have := IntKind.wrap_u64 ((padZ n : Int) + 1); omega
    have h4 : IntKind.u64.wrap ((n : Int) + ((padZ n : Int) + 1)) = (n : Int) + ((padZ n : Int) + 1) := by have := IntKind.wrap_u64 ((n : Int) + ((padZ n : Int) + 1)); omega
    have h5 : Int.tmod ((n : Int) + ((padZ n : Int) + 1)) 128 = 112 := by
      rw [Int.tmod_eq_emod_of_nonneg (by omega)]
      unfold padZ at *
      omega
    simp only [sconceref12_Pad.l0]
    rw [h2, h3, h4, if_pos h5]
    simp only [Option.bind_some]
    rw [if_pos (by simp; omega)]
    have h6 : (n : Int) / 2305843009213693952 % 256 = ((n / 2 ^ 61 : Nat) : Int) := by omega
    rw [h6]
    have := rpad_l1 n hn 8 k 0 (head6 n) (by omega) (by omega) (by simp [head6]; omega)
    rw [pd6_parts]
    simpa [tail6, head6] using this
  | succ d ih =>
    intro k j hj hk
    obtain ⟨k, rfl⟩ : ∃ m, k = m + 1 := ⟨k - 1, by omega⟩
    have hz : padZ n < 128 := by unfold padZ; omega
    have h2 : IntKind.u64.wrap (n : Int) = (n : Int) := by have := IntKind.wrap_u64 (n : Int); omega
    have hlen : ((128 :: List.replicate j (0 : Int)).length : Int) = (j : Int) + 1 := by simp
    have h3 : IntKind.u64.wrap (((128 :: List.replicate j (0 : Int)).length : Int)) = (j : Int) + 1 := by rw [hlen]; have := IntKind.wrap_u64 ((j : Int) + 1); omega
    have h4 : IntKind.u64.wrap ((n : Int) + ((j : Int) + 1)) = (n : Int) + ((j : Int) + 1) := by have := IntKind.wrap_u64 ((n : Int) + ((j : Int) + 1)); omega
    have h5 : ¬ Int.tmod ((n : Int) + ((j : Int) + 1)) 128 = 112 := by
      rw [Int.tmod_eq_emod_of_nonneg (by omega)]
      unfold padZ at *
      omega
    simp only [sconceref12_Pad.l0]
    rw [h2, h3, h4, if_neg h5, if_pos (by simp; omega)]
    have h6 : (128 :: List.replicate j (0 : Int)) ++ [0] = 128 :: List.replicate (j + 1) 0 := by
      rw [List.cons_append, ← List.replicate_succ']
    rw [h6]
    exact ih k (j + 1) (by omega) (by omega)
theorem rpad6 (a : Int) (m : Nat) (ha : (if a < 0 then (0 : Int) else a) = (m : Int)) (hm : m < 2 ^ 63) (k : Nat) (hk : 200 ≤ k) : sconceref12_Pad.f k a = some (pd6 m) := by
  have hz : padZ m < 128 := by unfold padZ; omega
  have := rpad_l0 m hm (padZ m) k 0 (by omega) (by omega)
  unfold sconceref12_Pad.f
  rw [show mx a 0 = (m : Int) from ha]
  exact this
end Go.Proofs.Ytincnnmojgphmaa.Sha

set_option linter.unusedVariables false
set_option linter.unusedSimpArgs false
namespace Go.Proofs.Ytincnnmojgphmaa.Sha
open Go.RowKit Go.Proofs.YtincnnmojgphmaaW.PrintWords Go.Proofs.YtincnnmojgphmaaW.PrintLast Go.Proofs.YtincnnmojgphmaaW.PrintMore Go.Proofs.Ytincnnmojgphmaa.H Go.Proofs.Ytincnnmojgphmaa.PS

theorem blk5_length (s b : List Int) : (blk5 s b).length = 8 := by simp [blk5]
theorem blk5_in (s b : List Int) : inB 32 (blk5 s b) := by
  intro x hx
  simp only [blk5, List.mem_map] at hx
  obtain ⟨i, _, rfl⟩ := hx
  exact wrap32_in _
/-- The state behind i blocks. -/
def fold5 (s all : List Int) : Nat → List Int
  | 0 => s
  | i + 1 => blk5 (fold5 s all i) ((all.drop (64 * i)).take 64)
theorem fold5_length {s : List Int} (all : List Int) (h : s.length = 8) : ∀ i, (fold5 s all i).length = 8
  | 0 => h
  | _ + 1 => blk5_length _ _
theorem fold5_in {s : List Int} (all : List Int) (h : inB 32 s) : ∀ i, inB 32 (fold5 s all i)
  | 0 => h
  | _ + 1 => blk5_in _ _
def bytes5 (x : Int) : List Int := [x / 16777216 % 256, x / 65536 % 256, x / 256 % 256, x % 256]
def out5 (l : List Int) : List Int := l.flatMap bytes5
theorem out5_length : ∀ l : List Int, (out5 l).length = 4 * l.length
  | [] => rfl
  | x :: l => by
    have := out5_length l
    simp only [out5] at this
    simp only [out5, List.flatMap_cons, List.length_append, this, List.length_cons, bytes5, List.length_nil]
    omega
theorem out5_step (l : List Int) (i : Nat) (hi : i < l.length) : out5 (l.take i) ++ bytes5 (l.getD i 0) = out5 (l.take (i + 1)) := by
  have e : l.getD i 0 = l[i] := by rw [List.getD_eq_getElem?_getD, List.getElem?_eq_getElem hi]; rfl
  have ei : l.take (i + 1) = l.take i ++ [l[i]] := by rw [List.take_add_one, List.getElem?_eq_getElem hi]; rfl
  rw [e, ei, out5, out5, List.flatMap_append, List.flatMap_singleton]
theorem pd5_in (n : Nat) : inB 8 (pd5 n) := by
  intro x hx
  simp only [pd5, padTo, List.mem_map] at hx
  obtain ⟨j, _, rfl⟩ := hx
  split
  · decide
  · split
    · have := Nat.mod_lt (n * 8 % 2 ^ 64 / 2 ^ (8 * (padL5 n - 1 - j))) (show 0 < 256 by decide)
      omega
    · decide
theorem padL5_mod (n : Nat) : (n + padL5 n) % 64 = 0 := by unfold padL5; omega
theorem padL5_le (n : Nat) : padL5 n ≤ 72 := by unfold padL5; omega
/-- A hash. -/
def all5 (b : List Int) : List Int := b ++ pd5 b.length
def st5 (s b : List Int) : List Int := fold5 s (all5 b) ((b.length + padL5 b.length) / 64)
def sum5 (b : List Int) : List Int := out5 (st5 S5 b)
theorem all5_length (b : List Int) : (all5 b).length = b.length + padL5 b.length := by rw [all5, List.length_append, pd5_length]
theorem sum5_length (b : List Int) : (sum5 b).length = 32 := by
  rw [sum5, out5_length, st5, fold5_length _ S5_length]

def padZ5 (n : Nat) : Nat := (119 - n % 64) % 64
def head5 (n : Nat) : List Int := 128 :: List.replicate (padZ5 n) 0
theorem pd5_parts (n : Nat) : pd5 n = head5 n ++ tail6 n 8 := by
  have hp : padL5 n = padZ5 n + 9 := by unfold padL5 padZ5; omega
  apply List.ext_getElem
  · simp [pd5_length, head5, tail6, hp]
  · intro j h1 h2
    rw [pd5_length] at h1
    have hh : (head5 n).length = padZ5 n + 1 := by simp [head5]
    simp only [pd5, padTo, List.getElem_map, List.getElem_range]
    by_cases h0 : j = 0
    · subst h0
      rw [if_pos rfl, List.getElem_append_left (by rw [hh]; omega)]
      simp [head5]
    · rw [if_neg h0]
      by_cases h8 : padL5 n - 1 - j < 8
      · rw [if_pos h8, List.getElem_append_right (by rw [hh]; omega)]
        simp only [tail6, List.getElem_map, List.getElem_range, hh]
        rw [show 56 - 8 * (j - (padZ5 n + 1)) = 8 * (padL5 n - 1 - j) by omega]
      · rw [if_neg h8, List.getElem_append_left (by rw [hh]; omega)]
        obtain ⟨m, rfl⟩ : ∃ m, j = m + 1 := ⟨j - 1, by omega⟩
        simp [head5]
theorem rpad5_l1 (n : Nat) (hn : n < 2 ^ 63) (d : Nat) : ∀ (k j : Nat) (l : List Int), j + d = 8 → d < k → l.length ≤ 200 →
    sconceref11_Pad.l1 k n (l ++ tail6 n j) (56 - 8 * (j : Int)) = some (l ++ tail6 n 8) := by
  induction d with
  | zero =>
    intro k j l hj hk hl
    obtain ⟨k, rfl⟩ : ∃ m, k = m + 1 := ⟨k - 1, by omega⟩
    obtain rfl : j = 8 := by omega
    simp only [sconceref11_Pad.l1]
    rw [if_neg (by omega)]
  | succ d ih =>
    intro k j l hj hk hl
    obtain ⟨k, rfl⟩ : ∃ m, k = m + 1 := ⟨k - 1, by omega⟩
    have h1 : IntKind.u64.wrap (56 - 8 * (j : Int)) = 56 - 8 * (j : Int) := by have := IntKind.wrap_u64 (56 - 8 * (j : Int)); omega
    have h2 : IntKind.u64.wrap (n : Int) = (n : Int) := by have := IntKind.wrap_u64 (n : Int); omega
    have h3 : IntKind.u64.wrap (8 * (n : Int)) = ((n * 8 % 2 ^ 64 : Nat) : Int) := by have := IntKind.wrap_u64 (8 * (n : Int)); omega
    have h4 : wrap64 (56 - 8 * (j : Int) - 8) = 56 - 8 * ((j + 1 : Nat) : Int) := by unfold wrap64; omega
    have h5 : shr .u64 ((n * 8 % 2 ^ 64 : Nat) : Int) (56 - 8 * (j : Int)) % 256 = ((n * 8 % 2 ^ 64 / 2 ^ (56 - 8 * j) % 256 : Nat) : Int) := by
      rw [← shr_small (k := .u64) (x := ((n * 8 % 2 ^ 64 : Nat) : Int)) (y := 56 - 8 * (j : Int)) rfl (by show 56 - 8 * (j : Int) ≤ 64; omega), show (56 - 8 * (j : Int)).toNat = 56 - 8 * j by omega]
      simp
    simp only [sconceref11_Pad.l1]
    rw [if_pos (by omega), h1, if_pos (by omega), if_pos (by simp [tail6]; omega), h2, h3, h4, h5]
    have h6 : l ++ tail6 n j ++ [((n * 8 % 2 ^ 64 / 2 ^ (56 - 8 * j) % 256 : Nat) : Int)] = l ++ tail6 n (j + 1) := by
      rw [List.append_assoc]
      congr 1
      simp [tail6, List.range_succ]
    rw [h6]
    exact ih k (j + 1) l (by omega) (by omega) hl
theorem rpad5_l0 (n : Nat) (hn : n < 2 ^ 63) (d : Nat) : ∀ (k j : Nat), j + d = padZ5 n → d + 10 < k →
    sconceref11_Pad.l0 k n (128 :: List.replicate j 0) = some (pd5 n) := by
  induction d with
  | zero =>
    intro k j hj hk
    obtain ⟨k, rfl⟩ : ∃ m, k = m + 1 := ⟨k - 1, by omega⟩
    obtain rfl : j = padZ5 n := by omega
    have hz : padZ5 n < 64 := by unfold padZ5; omega
    have h2 : IntKind.u64.wrap (n : Int) = (n : Int) := by have := IntKind.wrap_u64 (n : Int); omega
    have hlen : ((128 :: List.replicate (padZ5 n) (0 : Int)).length : Int) = (padZ5 n : Int) + 1 := by simp
    have h3 : IntKind.u64.wrap (((128 :: List.replicate (padZ5 n) (0 : Int)).length : Int)) = (padZ5 n : Int) + 1 := by rw [hlen]; have := IntKind.wrap_u64 ((padZ5 n : Int) + 1); omega
    have h4 : IntKind.u64.wrap ((n : Int) + ((padZ5 n : Int) + 1)) = (n : Int) + ((padZ5 n : Int) + 1) := by have := IntKind.wrap_u64 ((n : Int) + ((padZ5 n : Int) + 1)); omega
    have h5 : Int.tmod ((n : Int) + ((padZ5 n : Int) + 1)) 64 = 56 := by
      rw [Int.tmod_eq_emod_of_nonneg (by omega)]
      unfold padZ5 at *
      omega
    simp only [sconceref11_Pad.l0]
    rw [h2, h3, h4, if_pos h5]
    have := rpad5_l1 n hn 8 k 0 (head5 n) (by omega) (by omega) (by simp [head5]; omega)
    rw [pd5_parts]
    simpa [tail6, head5] using this
  | succ d ih =>
    intro k j hj hk
    obtain ⟨k, rfl⟩ : ∃ m, k = m + 1 := ⟨k - 1, by omega⟩
    have hz : padZ5 n < 64 := by unfold padZ5; omega
    have h2 : IntKind.u64.wrap (n : Int) = (n : Int) := by have := IntKind.wrap_u64 (n : Int); omega
    have hlen : ((128 :: List.replicate j (0 : Int)).length : Int) = (j : Int) + 1 := by simp
    have h3 : IntKind.u64.wrap (((128 :: List.replicate j (0 : Int)).length : Int)) = (j : Int) + 1 := by rw [hlen]; have := IntKind.wrap_u64 ((j : Int) + 1); omega
    have h4 : IntKind.u64.wrap ((n : Int) + ((j : Int) + 1)) = (n : Int) + ((j : Int) + 1) := by have := IntKind.wrap_u64 ((n : Int) + ((j : Int) + 1)); omega
    have h5 : ¬ Int.tmod ((n : Int) + ((j : Int) + 1)) 64 = 56 := by
      rw [Int.tmod_eq_emod_of_nonneg (by omega)]
      unfold padZ5 at *
      omega
    simp only [sconceref11_Pad.l0]
    rw [h2, h3, h4, if_neg h5, if_pos (by simp; omega)]
    have h6 : (128 :: List.replicate j (0 : Int)) ++ [0] = 128 :: List.replicate (j + 1) 0 := by
      rw [List.cons_append, ← List.replicate_succ']
    rw [h6]
    exact ih k (j + 1) (by omega) (by omega)
theorem rpad5 (a : Int) (m : Nat) (ha : (if a < 0 then (0 : Int) else a) = (m : Int)) (hm : m < 2 ^ 63) (k : Nat) (hk : 200 ≤ k) : sconceref11_Pad.f k a = some (pd5 m) := by
  have hz : padZ5 m < 64 := by unfold padZ5; omega
  have := rpad5_l0 m hm (padZ5 m) k 0 (by omega) (by omega)
  unfold sconceref11_Pad.f
  rw [show mx a 0 = (m : Int) from ha]
  exact this
end Go.Proofs.Ytincnnmojgphmaa.Sha
