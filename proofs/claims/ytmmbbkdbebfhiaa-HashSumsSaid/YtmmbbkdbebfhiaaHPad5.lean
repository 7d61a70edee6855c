/- sha256's Pad, by walking its text. -/
import Derived.Test.YtmmbbkdbebfhiaaHKeys5
import Derived.Test.YtmmbbkdbebfhiaaHPad
set_option linter.unusedVariables false
set_option linter.unusedSimpArgs false
namespace Go.Proofs.Ytmmbbkdbebfhiaa.H
open Go.RowKit Go.Proofs.YtmmbbkdbebfhiaaW.PrintWords Go.Proofs.YtmmbbkdbebfhiaaW.PrintLast Go.Proofs.Ytmmbbkdbebfhiaa.Sha Go.Proofs.YtmmbbkdbebfhiaaW.PrintMore
attribute [local go_sem] Oper.semAt_some max2_int min2_int max_two min_two

theorem padTo_zero9 (L size : Nat) (h : 9 ≤ L) : (List.replicate L (0 : Int)).set 0 128 = padTo L size 0 := by
  apply List.ext_getElem
  · simp [padTo]
  · intro j h1 h2
    rw [List.getElem_set]
    simp only [padTo, List.getElem_map, List.getElem_range, List.getElem_replicate]
    by_cases hj : j = 0
    · subst hj; simp
    · rw [if_neg (by omega), if_neg hj, if_neg (by omega)]
theorem padTo_set9 (L size k : Nat) (h : 9 ≤ L) (hk : k < 8) : (padTo L size k).set (L - 1 - k) ((size / 2 ^ (8 * k) % 256 : Nat) : Int) = padTo L size (k + 1) := by
  apply List.ext_getElem
  · simp [padTo]
  · intro j h1 h2
    simp [padTo] at h2
    rw [List.getElem_set]
    simp only [padTo, List.getElem_map, List.getElem_range]
    by_cases hj : L - 1 - k = j
    · subst hj; rw [if_pos rfl, if_neg (by omega), if_pos (by omega), show L - 1 - (L - 1 - k) = k by omega]
    · rw [if_neg hj]
      by_cases h0 : j = 0
      · rw [if_pos h0, if_pos h0]
      · rw [if_neg h0, if_neg h0]
        by_cases h3 : L - 1 - j < k
        · rw [if_pos h3, if_pos (by omega)]
        · rw [if_neg h3, if_neg (by omega)]
/-- What stands behind n bytes. -/
def padL5 (n : Nat) : Nat := 1 + (119 - n % 64) % 64 + 8
def pd5 (n : Nat) : List Int := padTo (padL5 n) (n * 8 % 2 ^ 64) 8
theorem pd5_length (n : Nat) : (pd5 n).length = padL5 n := by simp [pd5, padTo_length]

set_option maxRecDepth 100000 in
set_option maxHeartbeats 2000000 in
theorem pad5_any (a : Int) (m : Nat) (ha : (if a < 0 then (0 : Int) else a) = (m : Int)) (hm : m < 2 ^ 63) (w : World) :
    Calls Try.prog 60 #[.int .i64 a] w fun e w' => ∃ v0_ : Value, e = .returned v0_ ∧ Kd.R (Kd.int .u8) 5 w' w.heap.size (fun _ => True) v0_ (pd5 m) ∧ Below w.heap.size w w' := by
  obtain ⟨L, hL⟩ : ∃ L, L = padL5 m := ⟨_, rfl⟩
  have hL9 : 9 ≤ L := by rw [hL, padL5]; omega
  have hL72 : L ≤ 72 := by rw [hL, padL5]; omega
  have hmk : ∀ W : World, (Instr.makeSlice 24 (.int .i64 (L : Int)) (.int .i64 (L : Int))).run Try.prog W = .ok (.slice (some ⟨W.heap.size, 0, none⟩) L L) (W.alloc (.cells (madeCells #[.int .u8 0] L) 5)) := print_make 24 5 .u8 1 Try.underlying24 (by kernel_rfl) (by decide) L (by omega)
  have hLe : (1 : Int) + (119 - (m : Int)) % 64 + 8 = (L : Int) := by rw [hL, padL5]; omega
  have m0 : (0 : Int) ≤ (m : Int) := by omega
  have m1 : (m : Int) ≤ 9223372036854775807 := by omega
  have hm0 : (madeCells #[Value.int IntKind.u8 0] L)[0]? = some (.int .u8 0) := by
    rw [made_nums, List.getElem?_toArray, nums, List.getElem?_map, List.getElem?_replicate, if_pos (by omega)]; rfl
  have hsz : IntKind.u64.wrap ((m : Int) * 8) = ((m * 8 % 2 ^ 64 : Nat) : Int) := by have := IntKind.wrap_u64 ((m : Int) * 8); omega
  obtain ⟨size, hsize⟩ : ∃ size, size = m * 8 % 2 ^ 64 := ⟨_, rfl⟩
  rw [← hsize] at hsz
  have HL := Lib.hid hL
  have HM := Lib.hid hm
  have HZ := Lib.hid hsize
  clear hL hm hsize
  go_enter Try.func60, Try.ntmps60
  go_wp2_with fail
  go_loopw [4, 5] (fun i sz wr => ∃ k : Nat, k ≤ 8 ∧ i = .int .i64 ((k : Int) + 1) ∧ sz = .int .u64 ((size / 2 ^ (8 * k) : Nat) : Int) ∧ wr.heap[w.heap.size]? = some (.cells (nums .u8 (padTo L size k)).toArray 5 (0, 0)) ∧ Below w.heap.size w wr ∧ w.heap.size < wr.heap.size) (fun i _ _ => (9 - intOf i).toNat)
  case atStart =>
    refine ⟨0, by omega, rfl, by simp, ?_, (Below.refl _ w).alloc (Nat.le_refl _) _, by simp⟩
    rw [heap_at, if_pos rfl, made_nums, ← padTo_zero9 L _ hL9]
    rw [List.setIfInBounds_toArray]
    simp only [nums, List.map_set]
  case round =>
    obtain ⟨k, hk, rfl, rfl, hb, hbw, hsz⟩ := hrel
    by_cases hlt : k < 8
    · have hfr := blk_frozen hb (L - 1 - k)
      have hst := blk_set hb (L - 1 - k) (.int .u8 ((size / 2 ^ (8 * k) % 256 : Nat) : Int))
      have hcx : wr.cell? ⟨w.heap.size, L - 1 - k, none⟩ = some (.int .u8 ((padTo L size k).getD (L - 1 - k) 0)) := by
        rw [blk_cell hb, List.getElem?_toArray, nums, List.getElem?_map, List.getElem?_eq_getElem (by rw [padTo_length]; omega)]
        simp [List.getD_eq_getElem?_getD, List.getElem?_eq_getElem (show L - 1 - k < (padTo L size k).length by rw [padTo_length]; omega)]
      have HB := Lib.hid hb
      have HW := Lib.hid hbw
      have HS := Lib.hid hst
      obtain ⟨q, hq⟩ : ∃ q, q = size / 2 ^ (8 * k) := ⟨_, rfl⟩
      have hix : ((L : Int) - ((k : Int) + 1)).toNat = L - 1 - k := by omega
      have hdiv : q / 256 = size / 2 ^ (8 * (k + 1)) := by
        rw [hq, Nat.div_div_eq_div_mul, show 8 * (k + 1) = 8 * k + 8 by omega, Nat.pow_add]
      have HQ := Lib.hid hq
      have HD := Lib.hid hdiv
      rw [← hq]
      clear hb hbw hst hq hdiv
      go_wp2_with fail
      go_roundw
      case rel =>
        have ev : (q : Int) % 256 = ((size / 2 ^ (8 * k) % 256 : Nat) : Int) := by rw [← HQ.out]; omega
        rw [ev]
        exact ⟨k + 1, by omega, by go_num, by rw [← HD.out]; rfl, by rw [← padTo_set9 L _ k hL9 hlt]; simpa [nums, List.map_set] using HS.out, HW.out.setCell (Nat.le_refl _) _, by simpa using hsz⟩
      case measure => simp [intOf]; omega
    · obtain rfl : k = 8 := by omega
      have HB := Lib.hid hb
      have HW := Lib.hid hbw
      clear hb hbw
      go_wp2_with fail
      refine bodyPost_ret (v := .slice (some ⟨w.heap.size, 0, none⟩) L L) (by simp [results, go_sem]) rfl ?_
      have hblk : wr.heap[w.heap.size]? = some (.cells (nums .u8 (pd5 m)).toArray 5 (0, 0)) := by
        rw [HB.out, pd5, ← HL.out, ← HZ.out]
      have hpl : (pd5 m).length = L := by rw [pd5_length, HL.out]
      generalize pd5 m = D at hblk hpl ⊢
      refine ⟨_, rfl, Kd.R_of_own ⟨by simp [encs], .inr ⟨w.heap.size, L, _, by rw [hpl], Nat.le_refl _, hblk, by omega, Nat.le_trans hL72 (by decide), by simp [nums, hpl], by simp [encs, nums]; exact List.take_of_length_le (by simp)⟩⟩ (fun _ _ => trivial), HW.out⟩

def sha256_Pad.f (a0 : Int) : Option (List Int) := if a0 < 2 ^ 63 then some (pd5 a0.toNat) else none
theorem sha256_Pad.calls (a0 : Int) (r : List Int) (w : World) (h : sha256_Pad.f a0 = some r) :
    Calls Try.prog 60 #[.int .i64 a0] w fun e w' => ∃ v0_ : Value, e = .returned v0_ ∧ Kd.R (Kd.int .u8) 5 w' w.heap.size (fun _ => True) v0_ r ∧ Below w.heap.size w w' := by
  unfold sha256_Pad.f at h
  split at h
  · rename_i hlt
    obtain rfl := Option.some.inj h
    exact pad5_any a0 a0.toNat (by split <;> omega) (by omega) w
  · cases h
end Go.Proofs.Ytmmbbkdbebfhiaa.H
