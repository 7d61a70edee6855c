/- slices.Concat at bytes, by walking its text. -/
import Derived.Test.YtincnnmojgphmaaHSums
import Derived.Test.YtincnnmojgphmaaWZeros
set_option linter.unusedVariables false
set_option linter.unusedSimpArgs false
namespace Go.Proofs.Ytincnnmojgphmaa.H
open Go.RowKit Go.Proofs.YtincnnmojgphmaaW.PrintWords Go.Proofs.YtincnnmojgphmaaW.PrintLast Go.Proofs.Ytincnnmojgphmaa.Sha Go.Proofs.YtincnnmojgphmaaW.PrintMore
attribute [local go_sem] Oper.semAt_some max2_int min2_int max_two min_two

set_option maxRecDepth 100000 in
set_option maxHeartbeats 4000000 in
theorem grow_nil (n : Nat) (w : World) (hn : n ≤ 140737488351232) :
  Calls Try.prog 53 #[.slice none 0 0, .int .i64 (n : Int)] w fun e w' => ∃ v0_ : Value, e = .returned v0_ ∧ Kd.R (Kd.int .u8) 5 w' w.heap.size (fun _ => True) v0_ ([] : List Int) ∧ Below w.heap.size w w' := by
 have hn0 : (0 : Int) ≤ (n : Int) := by omega
 have hd0 : decide ((n : Int) < 0) = false := decide_eq_false (by omega)
 by_cases h0 : n = 0
 ·subst h0
  go_enter Try.func53, Try.ntmps53
  go_wp2_with fail
  go_ret
  exact ⟨_, rfl, Kd.R_nil _ _ _ _ _, Below.refl _ _⟩
 ·have hd1 : decide (0 < (n : Int)) = true := decide_eq_true (by omega)
  have hd2 : decide (0 < n) = true := decide_eq_true (by omega)
  have HL : Hid ((([] : List Int).length + (n : Int).toNat) * 1 ≤ 140737488355328) := by show _ ≤ _; simp; omega
  clear h0
  go_enter Try.func53, Try.ntmps53
  go_wp2_with (first | ((with_reducible refine gate_builtin (b := .append) (xs := #[.tmp 20, .tmp 21]) rfl ?_); at_builtin; refine Kd.R_append_zeros (Kd.int .u8) (w0 := w) w.heap.size rfl (.tmp 20) (.tmp 21) 22 3 5 (.int .u8 0) 1 rfl Try.underlying22 Try.underlying3 infoU8 rfl (by decide) (by omega) (.slice none 0 0) ([] : List Int) 0 (n : Int) (fun _ => True) rfl rfl rfl ?aF ?aO hn0 ?aB ?aS ?aL ?_; (case aF => exact (fun _ _ => trivial)); (case aO => exact Kd.R_nil _ _ _ _ _); (case aB => exact Below.refl _ _); (case aS => exact Nat.le_refl _); (case aL => exact HL.out); intro v1 w1 ho hb hg hat; (have HO := Lib.hid ho); (have HB := Lib.hid hb); (obtain ⟨A1, c1, rfl⟩ := Kd.R_slice ho); clear ho hb hg hat))
  go_ret
  exact ⟨_, rfl, Kd.R_take HO.out (m := 0) (Nat.zero_le _), HB.out⟩

/-- Rows, one behind the other. -/
def catL (xs : List (Option Addr × Nat × List Int)) : List Int := (xs.map fun x => x.2.2).flatten
theorem catL_snoc (xs : List (Option Addr × Nat × List Int)) (x : Option Addr × Nat × List Int) : catL (xs ++ [x]) = catL xs ++ x.2.2 := by simp [catL]
theorem catL_append (xs ys : List (Option Addr × Nat × List Int)) : catL (xs ++ ys) = catL xs ++ catL ys := by simp [catL]
theorem catL_take_le (xs : List (Option Addr × Nat × List Int)) (k : Nat) : (catL (xs.take k)).length ≤ (catL xs).length := by
 have h : catL xs = catL (xs.take k) ++ catL (xs.drop k) := by rw [← catL_append, List.take_append_drop]
 rw [h, List.length_append]
 omega

set_option maxRecDepth 100000 in
set_option maxHeartbeats 8000000 in
theorem concat_go (b : Nat) (T : TypeId) (xs : List (Option Addr × Nat × List Int)) (w : World) (hx : xs.length ≤ 100) (hb : w.heap[b]? = some (.cells (xs.map fun x => Value.slice x.1 x.2.2.length x.2.1).toArray T (0, 0)))
  (hC : ∀ x ∈ xs, Kd.C (Kd.int .u8) w x.1 x.2.2.length x.2.2) (hl : (catL xs).length ≤ 140737488351232) :
  Calls Try.prog 31 #[.slice (some ⟨b, 0, none⟩) xs.length xs.length] w fun e w' => ∃ v0_ : Value, e = .returned v0_ ∧ Kd.R (Kd.int .u8) 5 w' w.heap.size (fun _ => True) v0_ (catL xs) ∧ Below w.heap.size w w' := by
 have HG : Hid (∀ n : Nat, n ≤ 140737488351232 → ∀ W, Calls Try.prog 53 #[.slice none 0 0, .int .i64 (n : Int)] W fun e w' => ∃ v0_ : Value, e = .returned v0_ ∧ Kd.R (Kd.int .u8) 5 w' W.heap.size (fun _ => True) v0_ ([] : List Int) ∧ Below W.heap.size W w') := fun n hn W => grow_nil n W hn
 have HCC := Lib.hid hC
 have HL := Lib.hid hl
 have HBK := Lib.hid hb
 have hblt : b < w.heap.size := (Array.getElem?_eq_some_iff.1 hb).1
 have HBL := Lib.hid hblt
 clear hC hl hb hblt
 go_enter Try.func31, Try.ntmps31
 go_wp2
 go_loopw [3, 11] (fun s i wr => ∃ k : Nat, k ≤ xs.length ∧ i = .int .i64 k ∧ s = .int .i64 ((catL (xs.take k)).length : Nat) ∧ Hid (Below w.heap.size w wr))
  (fun _ i _ => xs.length - (intOf i).toNat)
 case atStart => exact ⟨0, by omega, rfl, rfl, Below.refl _ _⟩
 case round =>
  obtain ⟨k, hk, rfl, rfl, hbw⟩ := hrel
  by_cases hlt : k < xs.length
  ·have hc := blk_cell ((hbw.out.block _ HBL.out).trans HBK.out) k
   rw [List.getElem?_toArray, List.getElem?_map, List.getElem?_eq_getElem hlt, Option.map_some] at hc
   obtain ⟨⟨A1, c1, l1⟩, hxk⟩ : ∃ x, x = xs[k] := ⟨_, rfl⟩
   rw [← hxk] at hc
   simp only at hc
   have hsn : catL (xs.take (k + 1)) = catL (xs.take k) ++ l1 := by rw [List.take_succ_eq_append_getElem hlt, ← hxk, catL_snoc]
   have hle := catL_take_le xs (k + 1)
   rw [hsn, List.length_append] at hle
   have hll := HL.out
   obtain ⟨m, hm⟩ : ∃ m, m = (catL (xs.take k)).length := ⟨_, rfl⟩
   rw [← hm] at hle ⊢
   have f1 : decide ((m : Int) + (l1.length : Int) < 0) = false := decide_eq_false (by omega)
   have f2 : (m : Int) + (l1.length : Int) ≤ 140737488351232 := by omega
   have f0 : (0 : Int) ≤ (m : Int) + (l1.length : Int) := by omega
   have HSN : Hid ((catL (xs.take (k + 1))).length = m + l1.length) := by show _ = _; rw [hsn, List.length_append, hm]
   clear hsn hle hll hm hxk
   go_wp2
   go_roundw
   case rel => exact ⟨k + 1, by omega, by go_num, by rw [HSN.out]; go_num, hbw⟩
   case measure => simp [intOf]; omega
  ·obtain rfl : k = xs.length := by omega
   have hll := HL.out
   rw [List.take_of_length_le (Nat.le_refl _)]
   obtain ⟨m, hm⟩ : ∃ m, m = (catL xs).length := ⟨_, rfl⟩
   rw [← hm] at hll ⊢
   have HM : Hid (m ≤ 140737488351232) := hll
   clear hll hm
   go_wp2_with fail
   refine (HG.out m HM.out wr).mono ?_
   rintro e w2 ⟨v2, rfl, hv2, hb2⟩
   have HV2 : Hid (Kd.R (Kd.int .u8) 5 w2 w.heap.size (fun _ => True) v2 ([] : List Int)) := Kd.R_lower hv2 hbw.out.size
   have HB2 : Hid (Below w.heap.size w w2) := hbw.out.trans (hb2.mono hbw.out.size)
   clear hv2 hb2 hbw
   go_wp2_with fail
   go_loopw [6, 27] (fun v i wr => ∃ k : Nat, k ≤ xs.length ∧ i = .int .i64 k ∧ Hid (Kd.R (Kd.int .u8) 5 wr w.heap.size (fun _ => True) v (catL (xs.take k))) ∧ Hid (Below w.heap.size w wr))
    (fun _ i _ => xs.length - (intOf i).toNat)
   case atStart => exact ⟨0, by omega, rfl, HV2.out, HB2.out⟩
   case round =>
    obtain ⟨k, hk, rfl, hv, hbw⟩ := hrel
    by_cases hlt : k < xs.length
    ·have hc := blk_cell ((hbw.out.block _ HBL.out).trans HBK.out) k
     rw [List.getElem?_toArray, List.getElem?_map, List.getElem?_eq_getElem hlt, Option.map_some] at hc
     have HC1 : Hid (Kd.C (Kd.int .u8) wr (xs[k]).1 (xs[k]).2.2.length (xs[k]).2.2) := C_same (HCC.out xs[k] (List.getElem_mem hlt)) (fun i hi => hbw.out.block i hi)
     obtain ⟨⟨A1, c1, l1⟩, hxk⟩ : ∃ x, x = xs[k] := ⟨_, rfl⟩
     rw [← hxk] at hc HC1
     simp only at hc HC1
     have hsn : catL (xs.take (k + 1)) = catL (xs.take k) ++ l1 := by rw [List.take_succ_eq_append_getElem hlt, ← hxk, catL_snoc]
     have hle := catL_take_le xs (k + 1)
     rw [hsn, List.length_append] at hle
     have HLE : Hid ((catL (xs.take k)).length + l1.length ≤ 140737488355328) := by have := HL.out; show _ ≤ _; omega
     have HSN := Lib.hid hsn
     clear hsn hle hxk
     go_wp2_with (first | ((with_reducible refine gate_builtin (b := .append) (xs := #[.tmp 31, .tmp 32]) rfl ?_); at_builtin; refine Kd.R_append_rows (Kd.int .u8) (w0 := w) w.heap.size rfl (.tmp 31) (.tmp 32) 22 5 (.int .u8 0) 1 rfl Try.underlying22 infoU8 rfl (by decide) (by omega) _ (catL (xs.take k)) l1 _ _ _ (fun _ => True) (fun _ => False) rfl rfl ?aO ?aR (fun _ _ h => h) (fun _ h => h.elim) ?aF ?aB ?aS ?aL ?_; (case aR => exact HC1.out); (case aB => exact hbw.out); (case aF => exact (fun _ _ => trivial)); (case aO => exact hv.out); (case aS => exact hbw.out.size); (case aL => rw [Nat.mul_one]; exact HLE.out); intro v3 w3 ho hb3 hg3 hat3; (have HO3 := Lib.hid ho); (have HB3 := Lib.hid hb3); clear ho hb3 hg3 hat3))
     go_roundw
     case rel => exact ⟨k + 1, by omega, by go_num, by rw [HSN.out]; exact HO3.out, HB3.out⟩
     case measure => simp [intOf]; omega
    ·obtain rfl : k = xs.length := by omega
     go_wp2_with fail
     go_ret
     have := hv.out
     rw [List.take_of_length_le (Nat.le_refl _)] at this
     exact ⟨_, rfl, this, hbw.out⟩

def concat3.f (l0 l1 l2 : List Int) : Option (List Int) := if l0.length + l1.length + l2.length ≤ 140737488351232 then some (l0 ++ l1 ++ l2) else none
theorem concat3.calls (A0 : Option Addr) (c0 : Nat) (l0 : List Int) (A1 : Option Addr) (c1 : Nat) (l1 : List Int) (A2 : Option Addr) (c2 : Nat) (l2 : List Int) (r : List Int) (w : World) (hr0 : Kd.C (Kd.int .u8) w A0 l0.length l0) (hc0 : l0.length ≤ c0) (hr1 : Kd.C (Kd.int .u8) w A1 l1.length l1) (hc1 : l1.length ≤ c1) (hr2 : Kd.C (Kd.int .u8) w A2 l2.length l2) (hc2 : l2.length ≤ c2) (h : concat3.f l0 l1 l2 = some r) :
  Calls Try.prog 31 #[.slice (some ⟨w.heap.size, 0, none⟩) 3 3] (w.alloc (.cells #[.slice A0 l0.length c0, .slice A1 l1.length c1, .slice A2 l2.length c2] 22)) fun e w' => ∃ v0_ : Value, e = .returned v0_ ∧ Kd.R (Kd.int .u8) 5 w' w.heap.size (fun _ => True) v0_ r ∧ Below w.heap.size w w' := by
 unfold concat3.f at h
 split at h
 case isFalse => cases h
 rename_i hh
 cases h
 have hb : Below w.heap.size w (w.alloc (.cells #[.slice A0 l0.length c0, .slice A1 l1.length c1, .slice A2 l2.length c2] 22)) := (Below.refl _ w).alloc (Nat.le_refl _) _
 have hcat : catL [(A0, c0, l0), (A1, c1, l1), (A2, c2, l2)] = l0 ++ l1 ++ l2 := by simp [catL]
 have := concat_go w.heap.size 22 [(A0, c0, l0), (A1, c1, l1), (A2, c2, l2)] (w.alloc (.cells #[.slice A0 l0.length c0, .slice A1 l1.length c1, .slice A2 l2.length c2] 22)) (by simp) (by rw [heap_at, if_pos rfl]; rfl)
  (fun x hx => by
   simp only [List.mem_cons, List.not_mem_nil, or_false] at hx
   rcases hx with rfl | rfl | rfl
   ·exact C_same hr0 (fun i hi => hb.block i hi)
   ·exact C_same hr1 (fun i hi => hb.block i hi)
   ·exact C_same hr2 (fun i hi => hb.block i hi))
  (by rw [hcat]; simp; omega)
 rw [hcat] at this
 refine this.mono ?_
 rintro e w' ⟨v, rfl, hv, hb2⟩
 exact ⟨v, rfl, Kd.R_lower hv (by simp), box_below hb2⟩
theorem px_take_len {l : List Int} {j : Int} (h : decide (j ≤ (l.length : Int)) = true) : (l.take j.toNat).length = j.toNat := by
 have := of_decide_eq_true h
 rw [List.length_take]; omega
end Go.Proofs.Ytincnnmojgphmaa.H
/- one space a level -/
