/- sha512's Pad, by walking its text. -/
import Derived.Test.YtmmbbkdbebfhiaaHStart
set_option linter.unusedVariables false
set_option linter.unusedSimpArgs false
namespace Go.Proofs.Ytmmbbkdbebfhiaa.H
open Go.RowKit Go.Proofs.YtmmbbkdbebfhiaaW.PrintWords Go.Proofs.YtmmbbkdbebfhiaaW.PrintLast Go.Proofs.Ytmmbbkdbebfhiaa.Sha Go.Proofs.YtmmbbkdbebfhiaaW.PrintMore
attribute [local go_sem] Oper.semAt_some max2_int min2_int max_two min_two

/-- The padding, k bytes of its size there. -/
def padTo (L size k : Nat) : List Int := (List.range L).map fun j => if j = 0 then 128 else if L - 1 - j < k then ((size / 2 ^ (8 * (L - 1 - j)) % 256 : Nat) : Int) else 0
theorem padTo_length (L size k : Nat) : (padTo L size k).length = L := by simp [padTo]
theorem padTo_zero (L size : Nat) (h : 17 ≤ L) : (List.replicate L (0 : Int)).set 0 128 = padTo L size 0 := by
  apply List.ext_getElem
  · simp [padTo]
  · intro j h1 h2
    rw [List.getElem_set]
    simp only [padTo, List.getElem_map, List.getElem_range, List.getElem_replicate]
    by_cases hj : j = 0
    · subst hj; simp
    · rw [if_neg (by omega), if_neg hj, if_neg (by omega)]
theorem padTo_set (L size k : Nat) (h : 17 ≤ L) (hk : k < 8) : (padTo L size k).set (L - 1 - k) ((size / 2 ^ (8 * k) % 256 : Nat) : Int) = padTo L size (k + 1) := by
  apply List.ext_getElem
  · simp [padTo]
  · intro j h1 h2
    simp [padTo] at h2
    rw [List.getElem_set]
    simp only [padTo, List.getElem_map, List.getElem_range]
    by_cases hj : L - 1 - k = j
    · subst hj; rw [if_pos rfl, if_neg (by omega), if_pos (by omega), show L - 1 - (L - 1 - k) = k by omega]
    · rw [if_neg hj]
      by_cases h0 : j = 0
      · rw [if_pos h0, if_pos h0]
      · rw [if_neg h0, if_neg h0]
        by_cases h3 : L - 1 - j < k
        · rw [if_pos h3, if_pos (by omega)]
        · rw [if_neg h3, if_neg (by omega)]
/-- What stands behind n bytes. -/
def padL (n : Nat) : Nat := 1 + (239 - n % 128) % 128 + 16
def pd6 (n : Nat) : List Int := (padTo (padL n) (n * 8 % 2 ^ 64) 8).set (padL n - 9) ((n / 2 ^ 61 : Nat) : Int)
theorem pd6_length (n : Nat) : (pd6 n).length = padL n := by simp [pd6, padTo_length]

set_option maxRecDepth 100000 in
set_option maxHeartbeats 2000000 in
theorem pad_any (a : Int) (m : Nat) (ha : (if a < 0 then (0 : Int) else a) = (m : Int)) (hm : m < 2 ^ 63) (w : World) :
    Calls Try.prog 29 #[.int .i64 a] w fun e w' => ∃ v0_ : Value, e = .returned v0_ ∧ Kd.R (Kd.int .u8) 5 w' w.heap.size (fun _ => True) v0_ (pd6 m) ∧ Below w.heap.size w w' := by
  obtain ⟨L, hL⟩ : ∃ L, L = padL m := ⟨_, rfl⟩
  have hL17 : 17 ≤ L := by rw [hL, padL]; omega
  have hL144 : L ≤ 144 := by rw [hL, padL]; omega
  have hmk : ∀ W : World, (Instr.makeSlice 24 (.int .i64 (L : Int)) (.int .i64 (L : Int))).run Try.prog W = .ok (.slice (some ⟨W.heap.size, 0, none⟩) L L) (W.alloc (.cells (madeCells #[.int .u8 0] L) 5)) := print_make 24 5 .u8 1 Try.underlying24 (by kernel_rfl) (by decide) L (by omega)
  have hLe : (1 : Int) + (239 - (m : Int)) % 128 + 16 = (L : Int) := by rw [hL, padL]; omega
  have m0 : (0 : Int) ≤ (m : Int) := by omega
  have m1 : (m : Int) ≤ 9223372036854775807 := by omega
  have hm0 : (madeCells #[Value.int IntKind.u8 0] L)[0]? = some (.int .u8 0) := by
    rw [made_nums, List.getElem?_toArray, nums, List.getElem?_map, List.getElem?_replicate, if_pos (by omega)]; rfl
  have HL := Lib.hid hL
  have HM := Lib.hid hm
  clear hL hm
  go_enter Try.func29, Try.ntmps29
  go_wp2_with fail
  go_loopw [20] (fun i wr => ∃ k : Nat, k ≤ 8 ∧ i = .int .i64 k ∧ wr.heap[w.heap.size]? = some (.cells (nums .u8 (padTo L (m * 8 % 2 ^ 64) k)).toArray 5 (0, 0)) ∧ Below w.heap.size w wr ∧ w.heap.size < wr.heap.size) (fun i _ => 8 - (intOf i).toNat)
  case atStart =>
    refine ⟨0, by omega, rfl, ?_, (Below.refl _ w).alloc (Nat.le_refl _) _, by simp⟩
    rw [heap_at, if_pos rfl, made_nums, ← padTo_zero L _ hL17]
    rw [List.setIfInBounds_toArray]
    simp only [nums, List.map_set]
  case round =>
    obtain ⟨k, hk, rfl, hb, hbw, hsz⟩ := hrel
    by_cases hlt : k < 8
    · have hfr := blk_frozen hb (L - 1 - k)
      have hst := blk_set hb (L - 1 - k) (.int .u8 ((m * 8 % 2 ^ 64 / 2 ^ (8 * k) % 256 : Nat) : Int))
      have hcx : wr.cell? ⟨w.heap.size, L - 1 - k, none⟩ = some (.int .u8 ((padTo L (m * 8 % 2 ^ 64) k).getD (L - 1 - k) 0)) := by
        rw [blk_cell hb, List.getElem?_toArray, nums, List.getElem?_map, List.getElem?_eq_getElem (by rw [padTo_length]; omega)]
        simp [List.getD_eq_getElem?_getD, List.getElem?_eq_getElem (show L - 1 - k < (padTo L (m * 8 % 2 ^ 64) k).length by rw [padTo_length]; omega)]
      have HB := Lib.hid hb
      have HW := Lib.hid hbw
      have HS := Lib.hid hst
      have hix : ((L : Int) - 1 - (k : Int)).toNat = L - 1 - k := by omega
      clear hb hbw hst
      go_wp2_with fail
      go_roundw
      case rel =>
        have ev : IntKind.u64.wrap ((m : Int) * 8) / 2 ^ (8 * k) % 256 = ((m * 8 % 2 ^ 64 / 2 ^ (8 * k) % 256 : Nat) : Int) := by
          rw [IntKind.wrap_u64, show ((m : Int) * 8) % 18446744073709551616 = ((m * 8 % 2 ^ 64 : Nat) : Int) by omega]
          simp
        rw [ev]
        exact ⟨k + 1, by omega, by go_num, by rw [← padTo_set L _ k hL17 hlt]; simpa [nums, List.map_set] using HS.out, HW.out.setCell (Nat.le_refl _) _, by simpa using hsz⟩
      case measure => simp [intOf]; omega
    · obtain rfl : k = 8 := by omega
      have hfr := blk_frozen hb (L - 9)
      have hst := blk_set hb (L - 9) (.int .u8 ((m / 2 ^ 61 : Nat) : Int))
      have hcx : wr.cell? ⟨w.heap.size, L - 9, none⟩ = some (.int .u8 ((padTo L (m * 8 % 2 ^ 64) 8).getD (L - 9) 0)) := by
        rw [blk_cell hb, List.getElem?_toArray, nums, List.getElem?_map, List.getElem?_eq_getElem (by rw [padTo_length]; omega)]
        simp [List.getD_eq_getElem?_getD, List.getElem?_eq_getElem (show L - 9 < (padTo L (m * 8 % 2 ^ 64) 8).length by rw [padTo_length]; omega)]
      have HB := Lib.hid hb
      have HW := Lib.hid hbw
      have HS := Lib.hid hst
      have hix : ((L : Int) - 9).toNat = L - 9 := by omega
      clear hb hbw hst
      go_wp2_with fail
      refine bodyPost_ret (v := .slice (some ⟨w.heap.size, 0, none⟩) L L) (by simp [results, go_sem]) rfl ?_
      have ev : (m : Int) / 2305843009213693952 = ((m / 2 ^ 61 : Nat) : Int) := by omega
      rw [ev]
      have hblk : (wr.setCell ⟨w.heap.size, L - 9, none⟩ (.int .u8 ((m / 2 ^ 61 : Nat) : Int))).heap[w.heap.size]? = some (.cells (nums .u8 (pd6 m)).toArray 5 (0, 0)) := by
        rw [HS.out, pd6, ← HL.out]
        simp [nums, List.map_set]
      have hpl : (pd6 m).length = L := by rw [pd6_length, HL.out]
      generalize pd6 m = D at hblk hpl ⊢
      refine ⟨_, rfl, Kd.R_of_own ⟨by simp [encs], .inr ⟨w.heap.size, L, _, by rw [hpl], Nat.le_refl _, hblk, by omega, Nat.le_trans hL144 (by decide), by simp [nums, hpl], by simp [encs, nums]; exact List.take_of_length_le (by simp)⟩⟩ (fun _ _ => trivial), HW.out.setCell (Nat.le_refl _) _⟩

def sha512_Pad.f (a0 : Int) : Option (List Int) := if a0 < 2 ^ 63 then some (pd6 a0.toNat) else none
theorem sha512_Pad.calls (a0 : Int) (r : List Int) (w : World) (h : sha512_Pad.f a0 = some r) :
    Calls Try.prog 29 #[.int .i64 a0] w fun e w' => ∃ v0_ : Value, e = .returned v0_ ∧ Kd.R (Kd.int .u8) 5 w' w.heap.size (fun _ => True) v0_ r ∧ Below w.heap.size w w' := by
  unfold sha512_Pad.f at h
  split at h
  · rename_i hlt
    obtain rfl := Option.some.inj h
    exact pad_any a0 a0.toNat (by split <;> omega) (by omega) w
  · cases h
end Go.Proofs.Ytmmbbkdbebfhiaa.H
