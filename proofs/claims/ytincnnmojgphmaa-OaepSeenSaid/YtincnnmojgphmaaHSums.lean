/- sha512's Start and its reference, and both Blocks at bytes that are no block, by walking their text. -/
import Derived.Test.YtincnnmojgphmaaHBlk
import Derived.Deep.MidRow
set_option linter.unusedVariables false
set_option linter.unusedSimpArgs false
namespace Go.Proofs.Ytincnnmojgphmaa.H
open Go.RowKit Go.Proofs.YtincnnmojgphmaaW.PrintWords Go.Proofs.YtincnnmojgphmaaW.PrintLast Go.Proofs.Ytincnnmojgphmaa.Sha
attribute [local go_sem] Oper.semAt_some

/-- Where hashes begin. -/
def S6 : Bool → List Int
  | false => [7640891576956012808, 13503953896175478587, 4354685564936845355, 11912009170470909681, 5840696475078001361, 11170449401992604703, 2270897969802886507, 6620516959819538809]
  | true => [14680500436340154072, 7105036623409894663, 10473403895298186519, 1526699215303891257, 7436329637833083697, 10282925794625328401, 15784041429090275239, 5167115440072839076]
theorem S6_length (b : Bool) : (S6 b).length = 8 := by cases b <;> rfl
theorem S6_in (b : Bool) : inB 64 (S6 b) := by
  unfold inB
  cases b <;> decide

set_option maxRecDepth 100000 in
set_option maxHeartbeats 4000000 in
theorem rstart_false (w : World) : Calls Try.prog 68 #[.bool false] w fun e w' => e = .returned (.agg (nums .u64 (S6 false)).toArray) ∧ Below w.heap.size w w' := by
  go_enter Try.func68, Try.ntmps68
  go_wp2_with (first
    | (with_reducible refine wpList_build rfl 93 _ rfl (by kernel_rfl) ?_; generalize hg : (Program.built _ _ _).getD #[] = cs; (obtain rfl : cs = (nums .u64 (S6 false)).toArray := by (rw [← hg]; kernel_rfl)); clear hg)
    | (with_reducible refine wpList_store_row rfl 93 (.tmp 2) (.tmp 5) rfl w.heap.size (nums .u64 (S6 false)).toArray (by simp [Act.eval, Act.put]) (by simp [Act.eval, Act.put]) 93 #[.int .u64 0, .int .u64 0, .int .u64 0, .int .u64 0, .int .u64 0, .int .u64 0, .int .u64 0, .int .u64 0] (by rw [heap_at, if_pos rfl]) (by kernel_rfl) (by kernel_rfl) (by kernel_rfl) ?_))
  exact bodyPost_ret (results_cell_row rfl _ _ w.heap.size 93 _ (0, 0) _ rfl (setRow_heap _ _ _ _ _ _ (by rw [heap_at, if_pos rfl])) Try.underlying93 rfl (by kernel_rfl)) rfl ⟨rfl, below_setRow' ((Below.refl _ w).alloc (Nat.le_refl _) _) (Nat.le_refl _) _⟩
set_option maxRecDepth 100000 in
set_option maxHeartbeats 4000000 in
theorem rstart_true (w : World) : Calls Try.prog 68 #[.bool true] w fun e w' => e = .returned (.agg (nums .u64 (S6 true)).toArray) ∧ Below w.heap.size w w' := by
  go_enter Try.func68, Try.ntmps68
  go_wp2_with (first
    | (with_reducible refine wpList_build rfl 93 _ rfl (by kernel_rfl) ?_; generalize hg : (Program.built _ _ _).getD #[] = cs; (obtain rfl : cs = (nums .u64 (S6 true)).toArray := by (rw [← hg]; kernel_rfl)); clear hg)
    | (with_reducible refine wpList_store_row rfl 93 (.tmp 2) (.tmp 4) rfl w.heap.size (nums .u64 (S6 true)).toArray (by simp [Act.eval, Act.put]) (by simp [Act.eval, Act.put]) 93 #[.int .u64 0, .int .u64 0, .int .u64 0, .int .u64 0, .int .u64 0, .int .u64 0, .int .u64 0, .int .u64 0] (by rw [heap_at, if_pos rfl]) (by kernel_rfl) (by kernel_rfl) (by kernel_rfl) ?_))
  exact bodyPost_ret (results_cell_row rfl _ _ w.heap.size 93 _ (0, 0) _ rfl (setRow_heap _ _ _ _ _ _ (by rw [heap_at, if_pos rfl])) Try.underlying93 rfl (by kernel_rfl)) rfl ⟨rfl, below_setRow' ((Below.refl _ w).alloc (Nat.le_refl _) _) (Nat.le_refl _) _⟩
theorem rstart_any (b : Bool) (w : World) : Calls Try.prog 68 #[.bool b] w fun e w' => e = .returned (.agg (nums .u64 (S6 b)).toArray) ∧ Below w.heap.size w w' := by
  cases b
  · exact rstart_false w
  · exact rstart_true w

set_option maxRecDepth 100000 in
set_option maxHeartbeats 4000000 in
theorem start_false (w : World) : Calls Try.prog 77 #[.bool false] w fun e w' => e = .returned (.agg (nums .u64 (S6 false)).toArray) ∧ Below w.heap.size w w' := by
  have tokA : True := trivial
  have tokB : True := trivial
  obtain ⟨W2, hW2⟩ : ∃ W2, W2 = ((w.alloc (.cells #[.int .u64 0, .int .u64 0, .int .u64 0, .int .u64 0, .int .u64 0, .int .u64 0, .int .u64 0, .int .u64 0] 93)).alloc (.cells #[.int .u64 0, .int .u64 0, .int .u64 0, .int .u64 0, .int .u64 0, .int .u64 0, .int .u64 0, .int .u64 0, .int .u64 0, .int .u64 0, .int .u64 0, .int .u64 0, .int .u64 0, .int .u64 0, .int .u64 0, .int .u64 0] 115)).setRow (w.heap.size + 1) (nums .u64 (S6 false ++ S6 true)).toArray := ⟨_, rfl⟩
  have hb2 : Hid (W2.heap[w.heap.size + 1]? = some (.cells (nums .u64 (S6 false ++ S6 true)).toArray 115 (0, 0))) := by
    rw [hW2]; exact setRow_heap _ _ _ _ _ _ (by rw [heap_at, if_pos (by simp)])
  have hb1 : Hid (W2.heap[w.heap.size]? = some (.cells #[.int .u64 0, .int .u64 0, .int .u64 0, .int .u64 0, .int .u64 0, .int .u64 0, .int .u64 0, .int .u64 0] 93 (0, 0))) := by
    rw [hW2]; exact (setRow_other _ _ _ _ (by omega)).trans (by rw [heap_at, if_neg (by simp), heap_at, if_pos rfl])
  have hbb : Hid (Below w.heap.size w W2) := by
    rw [hW2]; exact below_setRow' (((Below.refl _ w).alloc (Nat.le_refl _) _).alloc (by simp) _) (by omega) _
  have hr : Hid (W2.rangeAt (w.heap.size + 1) 0 (nums .u64 (S6 false))) := by
    have := World.rangeAt_of_block hb2.out 0 8
    exact this
  have HW := Lib.hid hW2
  clear hW2
  go_enter Try.func77, Try.ntmps77
  go_wp2_with (first
    | (with_reducible refine wpList_build rfl 93 _ rfl (by kernel_rfl) ?_; (have _t := tokA); generalize hg : (Program.built _ _ _).getD #[] = cs; (obtain rfl : cs = (nums .u64 (S6 false)).toArray := by (rw [← hg]; kernel_rfl)); clear hg tokA _t)
    | (with_reducible refine wpList_build rfl 93 _ rfl (by kernel_rfl) ?_; (have _t := tokB); generalize hg : (Program.built _ _ _).getD #[] = cs; (obtain rfl : cs = (nums .u64 (S6 true)).toArray := by (rw [← hg]; kernel_rfl)); clear hg tokB _t)
    | (with_reducible refine wpList_build rfl 115 _ rfl (by kernel_rfl) ?_; generalize hg : (Program.built _ _ _).getD #[] = cs; (obtain rfl : cs = (nums .u64 (S6 false ++ S6 true)).toArray := by (rw [← hg]; kernel_rfl)); clear hg)
    | (with_reducible refine wpList_store_row rfl 115 (.tmp 3) (.tmp 6) rfl (w.heap.size + 1) (nums .u64 (S6 false ++ S6 true)).toArray (by simp [Act.eval, Act.put]) (by simp [Act.eval, Act.put]) 115 #[.int .u64 0, .int .u64 0, .int .u64 0, .int .u64 0, .int .u64 0, .int .u64 0, .int .u64 0, .int .u64 0, .int .u64 0, .int .u64 0, .int .u64 0, .int .u64 0, .int .u64 0, .int .u64 0, .int .u64 0, .int .u64 0] (by rw [heap_at, if_pos (by simp)]) (by kernel_rfl) (by kernel_rfl) (by kernel_rfl) ?_; rw [← HW.out])
    | (with_reducible refine wpList_load_mid rfl 93 (.tmp 10) rfl (w.heap.size + 1) 0 (by simp [Act.eval, Act.put]) (nums .u64 (S6 false)) _ hr.out Try.underlying93 rfl (by kernel_rfl) ?_)
    | (with_reducible refine wpList_store_row rfl 93 (.tmp 2) (.tmp 11) rfl w.heap.size (nums .u64 (S6 false)).toArray (by simp [Act.eval, Act.put]) (by simp [Act.eval, Act.put]) 93 _ hb1.out (by kernel_rfl) (by kernel_rfl) (by kernel_rfl) ?_))
  exact bodyPost_ret (results_cell_row rfl _ _ w.heap.size 93 _ (0, 0) _ rfl (setRow_heap _ _ _ _ _ _ hb1.out) Try.underlying93 rfl (by kernel_rfl)) rfl ⟨rfl, below_setRow' hbb.out (Nat.le_refl _) _⟩
set_option maxRecDepth 100000 in
set_option maxHeartbeats 4000000 in
theorem start_true (w : World) : Calls Try.prog 77 #[.bool true] w fun e w' => e = .returned (.agg (nums .u64 (S6 true)).toArray) ∧ Below w.heap.size w w' := by
  have tokA : True := trivial
  have tokB : True := trivial
  obtain ⟨W2, hW2⟩ : ∃ W2, W2 = ((w.alloc (.cells #[.int .u64 0, .int .u64 0, .int .u64 0, .int .u64 0, .int .u64 0, .int .u64 0, .int .u64 0, .int .u64 0] 93)).alloc (.cells #[.int .u64 0, .int .u64 0, .int .u64 0, .int .u64 0, .int .u64 0, .int .u64 0, .int .u64 0, .int .u64 0, .int .u64 0, .int .u64 0, .int .u64 0, .int .u64 0, .int .u64 0, .int .u64 0, .int .u64 0, .int .u64 0] 115)).setRow (w.heap.size + 1) (nums .u64 (S6 false ++ S6 true)).toArray := ⟨_, rfl⟩
  have hb2 : Hid (W2.heap[w.heap.size + 1]? = some (.cells (nums .u64 (S6 false ++ S6 true)).toArray 115 (0, 0))) := by
    rw [hW2]; exact setRow_heap _ _ _ _ _ _ (by rw [heap_at, if_pos (by simp)])
  have hb1 : Hid (W2.heap[w.heap.size]? = some (.cells #[.int .u64 0, .int .u64 0, .int .u64 0, .int .u64 0, .int .u64 0, .int .u64 0, .int .u64 0, .int .u64 0] 93 (0, 0))) := by
    rw [hW2]; exact (setRow_other _ _ _ _ (by omega)).trans (by rw [heap_at, if_neg (by simp), heap_at, if_pos rfl])
  have hbb : Hid (Below w.heap.size w W2) := by
    rw [hW2]; exact below_setRow' (((Below.refl _ w).alloc (Nat.le_refl _) _).alloc (by simp) _) (by omega) _
  have hr : Hid (W2.rangeAt (w.heap.size + 1) 8 (nums .u64 (S6 true))) := by
    have := World.rangeAt_of_block hb2.out 8 8
    exact this
  have HW := Lib.hid hW2
  clear hW2
  go_enter Try.func77, Try.ntmps77
  go_wp2_with (first
    | (with_reducible refine wpList_build rfl 93 _ rfl (by kernel_rfl) ?_; (have _t := tokA); generalize hg : (Program.built _ _ _).getD #[] = cs; (obtain rfl : cs = (nums .u64 (S6 false)).toArray := by (rw [← hg]; kernel_rfl)); clear hg tokA _t)
    | (with_reducible refine wpList_build rfl 93 _ rfl (by kernel_rfl) ?_; (have _t := tokB); generalize hg : (Program.built _ _ _).getD #[] = cs; (obtain rfl : cs = (nums .u64 (S6 true)).toArray := by (rw [← hg]; kernel_rfl)); clear hg tokB _t)
    | (with_reducible refine wpList_build rfl 115 _ rfl (by kernel_rfl) ?_; generalize hg : (Program.built _ _ _).getD #[] = cs; (obtain rfl : cs = (nums .u64 (S6 false ++ S6 true)).toArray := by (rw [← hg]; kernel_rfl)); clear hg)
    | (with_reducible refine wpList_store_row rfl 115 (.tmp 3) (.tmp 6) rfl (w.heap.size + 1) (nums .u64 (S6 false ++ S6 true)).toArray (by simp [Act.eval, Act.put]) (by simp [Act.eval, Act.put]) 115 #[.int .u64 0, .int .u64 0, .int .u64 0, .int .u64 0, .int .u64 0, .int .u64 0, .int .u64 0, .int .u64 0, .int .u64 0, .int .u64 0, .int .u64 0, .int .u64 0, .int .u64 0, .int .u64 0, .int .u64 0, .int .u64 0] (by rw [heap_at, if_pos (by simp)]) (by kernel_rfl) (by kernel_rfl) (by kernel_rfl) ?_; rw [← HW.out])
    | (with_reducible refine wpList_load_mid rfl 93 (.tmp 8) rfl (w.heap.size + 1) 8 (by simp [Act.eval, Act.put]) (nums .u64 (S6 true)) _ hr.out Try.underlying93 rfl (by kernel_rfl) ?_)
    | (with_reducible refine wpList_store_row rfl 93 (.tmp 2) (.tmp 9) rfl w.heap.size (nums .u64 (S6 true)).toArray (by simp [Act.eval, Act.put]) (by simp [Act.eval, Act.put]) 93 _ hb1.out (by kernel_rfl) (by kernel_rfl) (by kernel_rfl) ?_))
  exact bodyPost_ret (results_cell_row rfl _ _ w.heap.size 93 _ (0, 0) _ rfl (setRow_heap _ _ _ _ _ _ hb1.out) Try.underlying93 rfl (by kernel_rfl)) rfl ⟨rfl, below_setRow' hbb.out (Nat.le_refl _) _⟩
theorem start_any (b : Bool) (w : World) : Calls Try.prog 77 #[.bool b] w fun e w' => e = .returned (.agg (nums .u64 (S6 b)).toArray) ∧ Below w.heap.size w w' := by
  cases b
  · exact start_false w
  · exact start_true w
set_option maxRecDepth 100000 in
set_option maxHeartbeats 4000000 in
theorem block_no (s : List Int) (A0 : Option Addr) (n c0 : Nat) (w : World) (hn : n ≠ 128) :
    Calls Try.prog 87 #[.agg (nums .u64 s).toArray, .slice A0 n c0] w fun e w' => e = .returned (.tuple #[.agg (nums .u64 [0, 0, 0, 0, 0, 0, 0, 0]).toArray, .bool false]) ∧ Below w.heap.size w w' := by
  have h1 : ((n : Int) != 128) = true := by simp; omega
  have h2 : ((n : Int) == 128) = false := by simp; omega
  clear hn
  obtain ⟨W2, hW2⟩ : ∃ W2, W2 = (w.alloc (.cells (nums .u64 s).toArray 93)).alloc (.cells #[.int .u64 0, .int .u64 0, .int .u64 0, .int .u64 0, .int .u64 0, .int .u64 0, .int .u64 0, .int .u64 0] 93) := ⟨_, rfl⟩
  have hb1 : Hid (W2.heap[w.heap.size + 1]? = some (.cells #[.int .u64 0, .int .u64 0, .int .u64 0, .int .u64 0, .int .u64 0, .int .u64 0, .int .u64 0, .int .u64 0] 93 (0, 0))) := by
    rw [hW2, heap_at, if_pos (by simp)]; rfl
  have hbb : Hid (Below w.heap.size w W2) := by
    rw [hW2]; exact ((Below.refl _ w).alloc (Nat.le_refl _) _).alloc (by simp) _
  have HW := Lib.hid hW2
  clear hW2
  go_enter Try.func87, Try.ntmps87
  go_wp2_with (first
    | (with_reducible refine wpList_build rfl 93 _ rfl (by kernel_rfl) ?_; generalize hg : (Program.built _ _ _).getD #[] = cs; (obtain rfl : cs = (nums .u64 [0, 0, 0, 0, 0, 0, 0, 0]).toArray := by (rw [← hg]; kernel_rfl)); clear hg)
    | (rw [← HW.out]; with_reducible refine wpList_store_row rfl 93 (.tmp 4) (.tmp 23) rfl (w.heap.size + 1) (nums .u64 [0, 0, 0, 0, 0, 0, 0, 0]).toArray (by simp [Act.eval, Act.put]) (by simp [Act.eval, Act.put]) 93 _ hb1.out (by kernel_rfl) (by kernel_rfl) (by kernel_rfl) ?_))
  exact bodyPost_ret (results_cell_row2 (p := 4) (q := 5) (ty := 93) (by kernel_rfl) _ _ (w.heap.size + 1) 93 _ (0, 0) _ rfl (setRow_heap _ _ _ _ _ _ hb1.out) Try.underlying93 rfl (by kernel_rfl)) rfl ⟨rfl, below_setRow' hbb.out (by omega) _⟩
set_option maxRecDepth 100000 in
set_option maxHeartbeats 4000000 in
theorem rblock_no (s : List Int) (A0 : Option Addr) (n c0 : Nat) (w : World) (hn : n ≠ 128) :
    Calls Try.prog 69 #[.agg (nums .u64 s).toArray, .slice A0 n c0] w fun e w' => e = .returned (.tuple #[.agg (nums .u64 [0, 0, 0, 0, 0, 0, 0, 0]).toArray, .bool false]) ∧ Below w.heap.size w w' := by
  have h1 : ((n : Int) != 128) = true := by simp; omega
  have h2 : ((n : Int) == 128) = false := by simp; omega
  clear hn
  obtain ⟨W2, hW2⟩ : ∃ W2, W2 = (w.alloc (.cells (nums .u64 s).toArray 93)).alloc (.cells #[.int .u64 0, .int .u64 0, .int .u64 0, .int .u64 0, .int .u64 0, .int .u64 0, .int .u64 0, .int .u64 0] 93) := ⟨_, rfl⟩
  have hb1 : Hid (W2.heap[w.heap.size + 1]? = some (.cells #[.int .u64 0, .int .u64 0, .int .u64 0, .int .u64 0, .int .u64 0, .int .u64 0, .int .u64 0, .int .u64 0] 93 (0, 0))) := by
    rw [hW2, heap_at, if_pos (by simp)]; rfl
  have hbb : Hid (Below w.heap.size w W2) := by
    rw [hW2]; exact ((Below.refl _ w).alloc (Nat.le_refl _) _).alloc (by simp) _
  have HW := Lib.hid hW2
  clear hW2
  go_enter Try.func69, Try.ntmps69
  go_wp2_with (first
    | (with_reducible refine wpList_build rfl 93 _ rfl (by kernel_rfl) ?_; generalize hg : (Program.built _ _ _).getD #[] = cs; (obtain rfl : cs = (nums .u64 [0, 0, 0, 0, 0, 0, 0, 0]).toArray := by (rw [← hg]; kernel_rfl)); clear hg)
    | (rw [← HW.out]; with_reducible refine wpList_store_row rfl 93 (.tmp 4) (.tmp 25) rfl (w.heap.size + 1) (nums .u64 [0, 0, 0, 0, 0, 0, 0, 0]).toArray (by simp [Act.eval, Act.put]) (by simp [Act.eval, Act.put]) 93 _ hb1.out (by kernel_rfl) (by kernel_rfl) (by kernel_rfl) ?_))
  exact bodyPost_ret (results_cell_row2 (p := 4) (q := 5) (ty := 93) (by kernel_rfl) _ _ (w.heap.size + 1) 93 _ (0, 0) _ rfl (setRow_heap _ _ _ _ _ _ hb1.out) Try.underlying93 rfl (by kernel_rfl)) rfl ⟨rfl, below_setRow' hbb.out (by omega) _⟩
end Go.Proofs.Ytincnnmojgphmaa.H

set_option linter.unusedVariables false
set_option linter.unusedSimpArgs false
namespace Go.Proofs.Ytincnnmojgphmaa.H
open Go.RowKit Go.Proofs.YtincnnmojgphmaaW.PrintWords Go.Proofs.YtincnnmojgphmaaW.PrintLast Go.Proofs.Ytincnnmojgphmaa.Sha Go.Proofs.YtincnnmojgphmaaW.PrintMore
attribute [local go_sem] Oper.semAt_some max2_int min2_int max_two min_two

/-- The padding, k bytes of its size there. -/
def padTo (L size k : Nat) : List Int := (List.range L).map fun j => if j = 0 then 128 else if L - 1 - j < k then ((size / 2 ^ (8 * (L - 1 - j)) % 256 : Nat) : Int) else 0
theorem padTo_length (L size k : Nat) : (padTo L size k).length = L := by simp [padTo]
theorem padTo_zero (L size : Nat) (h : 17 ≤ L) : (List.replicate L (0 : Int)).set 0 128 = padTo L size 0 := by
  apply List.ext_getElem
  · simp [padTo]
  · intro j h1 h2
    rw [List.getElem_set]
    simp only [padTo, List.getElem_map, List.getElem_range, List.getElem_replicate]
    by_cases hj : j = 0
    · subst hj; simp
    · rw [if_neg (by omega), if_neg hj, if_neg (by omega)]
theorem padTo_set (L size k : Nat) (h : 17 ≤ L) (hk : k < 8) : (padTo L size k).set (L - 1 - k) ((size / 2 ^ (8 * k) % 256 : Nat) : Int) = padTo L size (k + 1) := by
  apply List.ext_getElem
  · simp [padTo]
  · intro j h1 h2
    simp [padTo] at h2
    rw [List.getElem_set]
    simp only [padTo, List.getElem_map, List.getElem_range]
    by_cases hj : L - 1 - k = j
    · subst hj; rw [if_pos rfl, if_neg (by omega), if_pos (by omega), show L - 1 - (L - 1 - k) = k by omega]
    · rw [if_neg hj]
      by_cases h0 : j = 0
      · rw [if_pos h0, if_pos h0]
      · rw [if_neg h0, if_neg h0]
        by_cases h3 : L - 1 - j < k
        · rw [if_pos h3, if_pos (by omega)]
        · rw [if_neg h3, if_neg (by omega)]
/-- What stands behind n bytes. -/
def padL (n : Nat) : Nat := 1 + (239 - n % 128) % 128 + 16
def pd6 (n : Nat) : List Int := (padTo (padL n) (n * 8 % 2 ^ 64) 8).set (padL n - 9) ((n / 2 ^ 61 : Nat) : Int)
theorem pd6_length (n : Nat) : (pd6 n).length = padL n := by simp [pd6, padTo_length]

set_option maxRecDepth 100000 in
set_option maxHeartbeats 2000000 in
theorem pad_any (a : Int) (m : Nat) (ha : (if a < 0 then (0 : Int) else a) = (m : Int)) (hm : m < 2 ^ 63) (w : World) :
    Calls Try.prog 86 #[.int .i64 a] w fun e w' => ∃ v0_ : Value, e = .returned v0_ ∧ Kd.R (Kd.int .u8) 5 w' w.heap.size (fun _ => True) v0_ (pd6 m) ∧ Below w.heap.size w w' := by
  obtain ⟨L, hL⟩ : ∃ L, L = padL m := ⟨_, rfl⟩
  have hL17 : 17 ≤ L := by rw [hL, padL]; omega
  have hL144 : L ≤ 144 := by rw [hL, padL]; omega
  have hmk : ∀ W : World, (Instr.makeSlice 22 (.int .i64 (L : Int)) (.int .i64 (L : Int))).run Try.prog W = .ok (.slice (some ⟨W.heap.size, 0, none⟩) L L) (W.alloc (.cells (madeCells #[.int .u8 0] L) 5)) := print_make 22 5 .u8 1 Try.underlying22 (by kernel_rfl) (by decide) L (by omega)
  have hLe : (1 : Int) + (239 - (m : Int)) % 128 + 16 = (L : Int) := by rw [hL, padL]; omega
  have m0 : (0 : Int) ≤ (m : Int) := by omega
  have m1 : (m : Int) ≤ 9223372036854775807 := by omega
  have hm0 : (madeCells #[Value.int IntKind.u8 0] L)[0]? = some (.int .u8 0) := by
    rw [made_nums, List.getElem?_toArray, nums, List.getElem?_map, List.getElem?_replicate, if_pos (by omega)]; rfl
  have HL := Lib.hid hL
  have HM := Lib.hid hm
  clear hL hm
  go_enter Try.func86, Try.ntmps86
  go_wp2_with fail
  go_loopw [20] (fun i wr => ∃ k : Nat, k ≤ 8 ∧ i = .int .i64 k ∧ wr.heap[w.heap.size]? = some (.cells (nums .u8 (padTo L (m * 8 % 2 ^ 64) k)).toArray 5 (0, 0)) ∧ Below w.heap.size w wr ∧ w.heap.size < wr.heap.size) (fun i _ => 8 - (intOf i).toNat)
  case atStart =>
    refine ⟨0, by omega, rfl, ?_, (Below.refl _ w).alloc (Nat.le_refl _) _, by simp⟩
    rw [heap_at, if_pos rfl, made_nums, ← padTo_zero L _ hL17]
    rw [List.setIfInBounds_toArray]
    simp only [nums, List.map_set]
  case round =>
    obtain ⟨k, hk, rfl, hb, hbw, hsz⟩ := hrel
    by_cases hlt : k < 8
    · have hfr := blk_frozen hb (L - 1 - k)
      have hst := blk_set hb (L - 1 - k) (.int .u8 ((m * 8 % 2 ^ 64 / 2 ^ (8 * k) % 256 : Nat) : Int))
      have hcx : wr.cell? ⟨w.heap.size, L - 1 - k, none⟩ = some (.int .u8 ((padTo L (m * 8 % 2 ^ 64) k).getD (L - 1 - k) 0)) := by
        rw [blk_cell hb, List.getElem?_toArray, nums, List.getElem?_map, List.getElem?_eq_getElem (by rw [padTo_length]; omega)]
        simp [List.getD_eq_getElem?_getD, List.getElem?_eq_getElem (show L - 1 - k < (padTo L (m * 8 % 2 ^ 64) k).length by rw [padTo_length]; omega)]
      have HB := Lib.hid hb
      have HW := Lib.hid hbw
      have HS := Lib.hid hst
      have hix : ((L : Int) - 1 - (k : Int)).toNat = L - 1 - k := by omega
      clear hb hbw hst
      go_wp2_with fail
      go_roundw
      case rel =>
        have ev : IntKind.u64.wrap ((m : Int) * 8) / 2 ^ (8 * k) % 256 = ((m * 8 % 2 ^ 64 / 2 ^ (8 * k) % 256 : Nat) : Int) := by
          rw [IntKind.wrap_u64, show ((m : Int) * 8) % 18446744073709551616 = ((m * 8 % 2 ^ 64 : Nat) : Int) by omega]
          simp
        rw [ev]
        exact ⟨k + 1, by omega, by go_num, by rw [← padTo_set L _ k hL17 hlt]; simpa [nums, List.map_set] using HS.out, HW.out.setCell (Nat.le_refl _) _, by simpa using hsz⟩
      case measure => simp [intOf]; omega
    · obtain rfl : k = 8 := by omega
      have hfr := blk_frozen hb (L - 9)
      have hst := blk_set hb (L - 9) (.int .u8 ((m / 2 ^ 61 : Nat) : Int))
      have hcx : wr.cell? ⟨w.heap.size, L - 9, none⟩ = some (.int .u8 ((padTo L (m * 8 % 2 ^ 64) 8).getD (L - 9) 0)) := by
        rw [blk_cell hb, List.getElem?_toArray, nums, List.getElem?_map, List.getElem?_eq_getElem (by rw [padTo_length]; omega)]
        simp [List.getD_eq_getElem?_getD, List.getElem?_eq_getElem (show L - 9 < (padTo L (m * 8 % 2 ^ 64) 8).length by rw [padTo_length]; omega)]
      have HB := Lib.hid hb
      have HW := Lib.hid hbw
      have HS := Lib.hid hst
      have hix : ((L : Int) - 9).toNat = L - 9 := by omega
      clear hb hbw hst
      go_wp2_with fail
      refine bodyPost_ret (v := .slice (some ⟨w.heap.size, 0, none⟩) L L) (by simp [results, go_sem]) rfl ?_
      have ev : (m : Int) / 2305843009213693952 = ((m / 2 ^ 61 : Nat) : Int) := by omega
      rw [ev]
      have hblk : (wr.setCell ⟨w.heap.size, L - 9, none⟩ (.int .u8 ((m / 2 ^ 61 : Nat) : Int))).heap[w.heap.size]? = some (.cells (nums .u8 (pd6 m)).toArray 5 (0, 0)) := by
        rw [HS.out, pd6, ← HL.out]
        simp [nums, List.map_set]
      have hpl : (pd6 m).length = L := by rw [pd6_length, HL.out]
      generalize pd6 m = D at hblk hpl ⊢
      refine ⟨_, rfl, Kd.R_of_own ⟨by simp [encs], .inr ⟨w.heap.size, L, _, by rw [hpl], Nat.le_refl _, hblk, by omega, Nat.le_trans hL144 (by decide), by simp [nums, hpl], by simp [encs, nums]; exact List.take_of_length_le (by simp)⟩⟩ (fun _ _ => trivial), HW.out.setCell (Nat.le_refl _) _⟩

def sha512_Pad.f (a0 : Int) : Option (List Int) := if a0 < 2 ^ 63 then some (pd6 a0.toNat) else none
theorem sha512_Pad.calls (a0 : Int) (r : List Int) (w : World) (h : sha512_Pad.f a0 = some r) :
    Calls Try.prog 86 #[.int .i64 a0] w fun e w' => ∃ v0_ : Value, e = .returned v0_ ∧ Kd.R (Kd.int .u8) 5 w' w.heap.size (fun _ => True) v0_ r ∧ Below w.heap.size w w' := by
  unfold sha512_Pad.f at h
  split at h
  · rename_i hlt
    obtain rfl := Option.some.inj h
    exact pad_any a0 a0.toNat (by split <;> omega) (by omega) w
  · cases h
end Go.Proofs.Ytincnnmojgphmaa.H

set_option linter.unusedVariables false
set_option linter.unusedSimpArgs false
namespace Go.Proofs.Ytincnnmojgphmaa.Sha
open Go.RowKit Go.Proofs.YtincnnmojgphmaaW.PrintWords Go.Proofs.YtincnnmojgphmaaW.PrintLast Go.Proofs.Ytincnnmojgphmaa.H

theorem blk6_length (s b : List Int) : (blk6 s b).length = 8 := by simp [blk6]
theorem blk6_in (s b : List Int) : inB 64 (blk6 s b) := by
  intro x hx
  simp only [blk6, List.mem_map] at hx
  obtain ⟨i, _, rfl⟩ := hx
  exact wrap64_in _
/-- The state behind i blocks. -/
def fold6 (s all : List Int) : Nat → List Int
  | 0 => s
  | i + 1 => blk6 (fold6 s all i) ((all.drop (128 * i)).take 128)
theorem fold6_length {s : List Int} (all : List Int) (h : s.length = 8) : ∀ i, (fold6 s all i).length = 8
  | 0 => h
  | _ + 1 => blk6_length _ _
theorem fold6_in {s : List Int} (all : List Int) (h : inB 64 s) : ∀ i, inB 64 (fold6 s all i)
  | 0 => h
  | _ + 1 => blk6_in _ _
def bytes6 (x : Int) : List Int := (List.range 8).map fun j => x / 2 ^ (56 - 8 * j) % 256
theorem bytes6_length (x : Int) : (bytes6 x).length = 8 := by simp [bytes6]
def out6 (l : List Int) : List Int := l.flatMap bytes6
/-- What is out: i words, j bytes of the next one. -/
def outTo (l : List Int) (i j : Nat) : List Int := out6 (l.take i) ++ (bytes6 (l.getD i 0)).take j
theorem out6_length : ∀ l : List Int, (out6 l).length = 8 * l.length
  | [] => rfl
  | x :: l => by
    have := out6_length l
    simp only [out6] at this
    simp only [out6, List.flatMap_cons, List.length_append, bytes6_length, this, List.length_cons]
    omega
theorem outTo_length (l : List Int) (i j : Nat) (hi : i ≤ l.length) (hj : j ≤ 8) : (outTo l i j).length = 8 * i + j := by
  simp [outTo, out6_length, bytes6_length]; omega
theorem outTo_zero (l : List Int) : outTo l 0 0 = [] := by simp [outTo, out6]
theorem outTo_step (l : List Int) (i j : Nat) (hj : j < 8) : outTo l i j ++ [l.getD i 0 / 2 ^ (56 - 8 * j) % 256] = outTo l i (j + 1) := by
  have : (bytes6 (l.getD i 0))[j]? = some (l.getD i 0 / 2 ^ (56 - 8 * j) % 256) := by
    rw [List.getElem?_eq_getElem (by rw [bytes6_length]; exact hj)]; simp [bytes6]
  rw [outTo, outTo, List.append_assoc, List.take_add_one, this]
  rfl
theorem outTo_next (l : List Int) (i : Nat) (hi : i < l.length) : outTo l i 8 = outTo l (i + 1) 0 := by
  have e : l.getD i 0 = l[i] := by rw [List.getD_eq_getElem?_getD, List.getElem?_eq_getElem hi]; rfl
  have e8 : (bytes6 l[i]).take 8 = bytes6 l[i] := List.take_of_length_le (by rw [bytes6_length]; exact Nat.le_refl _)
  have ei : l.take (i + 1) = l.take i ++ [l[i]] := by rw [List.take_add_one, List.getElem?_eq_getElem hi]; rfl
  rw [outTo, outTo, e, e8, List.take_zero, List.append_nil, ei, out6, out6, List.flatMap_append, List.flatMap_singleton]
theorem outTo_all (l : List Int) : outTo l l.length 0 = out6 l := by simp [outTo]
theorem inB_append {n : Nat} {a b : List Int} (ha : inB n a) (hb : inB n b) : inB n (a ++ b) := fun x hx => by
  rcases List.mem_append.1 hx with h | h
  · exact ha x h
  · exact hb x h
theorem inB_take {n : Nat} {a : List Int} (ha : inB n a) (k : Nat) : inB n (a.take k) := fun x hx => ha x (List.mem_of_mem_take hx)
theorem inB_drop {n : Nat} {a : List Int} (ha : inB n a) (k : Nat) : inB n (a.drop k) := fun x hx => ha x (List.mem_of_mem_drop hx)
theorem pd6_in (n : Nat) (h : n < 2 ^ 63) : inB 8 (pd6 n) := by
  intro x hx
  rcases List.mem_or_eq_of_mem_set hx with h1 | rfl
  · simp only [padTo, List.mem_map] at h1
    obtain ⟨j, _, rfl⟩ := h1
    split
    · decide
    · split
      · have := Nat.mod_lt (n * 8 % 2 ^ 64 / 2 ^ (8 * (padL n - 1 - j))) (show 0 < 256 by decide)
        omega
      · decide
  · omega
theorem padL_mod (n : Nat) : (n + padL n) % 128 = 0 := by unfold padL; omega
theorem padL_le (n : Nat) : padL n ≤ 144 := by unfold padL; omega
/-- A hash. -/
def all6 (b : List Int) : List Int := b ++ pd6 b.length
def st6 (s b : List Int) : List Int := fold6 s (all6 b) ((b.length + padL b.length) / 128)
def sum6 (s b : List Int) : List Int := out6 (st6 s b)
theorem all6_length (b : List Int) : (all6 b).length = b.length + padL b.length := by rw [all6, List.length_append, pd6_length]
end Go.Proofs.Ytincnnmojgphmaa.Sha

set_option linter.unusedVariables false
set_option linter.unusedSimpArgs false
namespace Go.Proofs.Ytincnnmojgphmaa.H
open Go.RowKit Go.Proofs.YtincnnmojgphmaaW.PrintWords Go.Proofs.YtincnnmojgphmaaW.PrintLast Go.Proofs.Ytincnnmojgphmaa.Sha Go.Proofs.YtincnnmojgphmaaW.PrintMore
attribute [local go_sem] Oper.semAt_some max2_int min2_int max_two min_two

theorem infoU8 : (Try.prog.info? 5).map (fun i => (i.zero, i.size, i.bytes)) = some (some (.int .u8 0), 1, 1) := by kernel_rfl
theorem addr_block (ad : Addr) (j : Nat) : (ad.add j).block = ad.block := by unfold Addr.add; split <;> rfl
/-- Bytes that lie in one block are read the same where that block is the same. -/
theorem C_blk {w W : World} {k : IntKind} {A : Option Addr} {n : Nat} {xs : List Int} (h : Kd.C (Kd.int k) w A n xs) (hs : ∀ ad, A = some ad → W.heap[ad.block]? = w.heap[ad.block]?) : Kd.C (Kd.int k) W A n xs := by
  have h1 := Kd.reads_of_C (d := (0 : Int)) h
  refine Kd.C_of_reads (d := (0 : Int)) (h1 := fun _ => rfl) ⟨h1.1, h1.2.1, fun hn => ?_⟩
  obtain ⟨ad, e, hc⟩ := h1.2.2 hn
  refine ⟨ad, e, fun j hj => ?_⟩
  have h2 := hc j hj
  rw [World.cell?_of_block (w := w) (w' := W) (by rw [addr_block]; exact hs ad e)]
  exact h2
theorem make_cap (m : Nat) (hm : m ≤ 140737488355328) (W : World) : (Instr.makeSlice 22 (.int .i64 0) (.int .i64 (m : Int))).run Try.prog W = .ok (.slice (some ⟨W.heap.size, 0, none⟩) 0 m) (W.alloc (.cells (madeCells #[.int .u8 0] m) 5)) := by
  have hi : (Try.prog.info? 5).isSome = true := by kernel_rfl
  obtain ⟨i, hi⟩ := Option.isSome_iff_exists.1 hi
  have h3 := infoU8
  rw [hi] at h3
  simp only [Option.map_some, Option.some.injEq, Prod.mk.injEq] at h3
  have := run_make (P := Try.prog) W 22 5 i (.int .u8 0) Try.underlying22 hi h3.1 .i64 .i64 0 (m : Int) (Int.le_refl _) (by omega) (by rw [h3.2.2]; omega) (by omega)
  rw [this, h3.2.1]
  simp [Value.cells]
theorem own_cap (W : World) (base m : Nat) (hb : base ≤ W.heap.size) (hm : m ≤ 140737488355328) : Kd.R (Kd.int .u8) 5 (W.alloc (.cells (madeCells #[.int .u8 0] m) 5)) base (fun _ => True) (.slice (some ⟨W.heap.size, 0, none⟩) 0 m) ([] : List Int) :=
  Kd.R_of_own ⟨rfl, .inr ⟨W.heap.size, m, _, rfl, hb, heap_alloc_new _ _, Nat.zero_le _, Nat.le_trans hm (by decide), by simp [size_madeCells], by simp [encs]⟩⟩ (fun _ _ => trivial)

theorem eight {l : List Int} (h : l.length = 8) : ∃ x0 x1 x2 x3 x4 x5 x6 x7, l = [x0, x1, x2, x3, x4, x5, x6, x7] := by
  match l, h with
  | [x0, x1, x2, x3, x4, x5, x6, x7], _ => exact ⟨x0, x1, x2, x3, x4, x5, x6, x7, rfl⟩
/-- Eight words stored one by one. -/
def put8 (W : World) (g : Nat) (y0 y1 y2 y3 y4 y5 y6 y7 : Int) : World := (((((((W.setCell ⟨g, 0, none⟩ (.int .u64 y0)).setCell ⟨g, 1, none⟩ (.int .u64 y1)).setCell ⟨g, 2, none⟩ (.int .u64 y2)).setCell ⟨g, 3, none⟩ (.int .u64 y3)).setCell ⟨g, 4, none⟩ (.int .u64 y4)).setCell ⟨g, 5, none⟩ (.int .u64 y5)).setCell ⟨g, 6, none⟩ (.int .u64 y6)).setCell ⟨g, 7, none⟩ (.int .u64 y7)
theorem put8_at {W : World} {g : Nat} {T : TypeId} {x0 x1 x2 x3 x4 x5 x6 x7 : Int} (y0 y1 y2 y3 y4 y5 y6 y7 : Int) (h : W.heap[g]? = some (.cells #[.int .u64 x0, .int .u64 x1, .int .u64 x2, .int .u64 x3, .int .u64 x4, .int .u64 x5, .int .u64 x6, .int .u64 x7] T (0, 0))) : (put8 W g y0 y1 y2 y3 y4 y5 y6 y7).heap[g]? = some (.cells #[.int .u64 y0, .int .u64 y1, .int .u64 y2, .int .u64 y3, .int .u64 y4, .int .u64 y5, .int .u64 y6, .int .u64 y7] T (0, 0)) := by
  have h0 : (W.setCell ⟨g, 0, none⟩ (.int .u64 y0)).heap[g]? = some (.cells #[.int .u64 y0, .int .u64 x1, .int .u64 x2, .int .u64 x3, .int .u64 x4, .int .u64 x5, .int .u64 x6, .int .u64 x7] T (0, 0)) := blk_set h 0 (.int .u64 y0)
  have h1 : ((W.setCell ⟨g, 0, none⟩ (.int .u64 y0)).setCell ⟨g, 1, none⟩ (.int .u64 y1)).heap[g]? = some (.cells #[.int .u64 y0, .int .u64 y1, .int .u64 x2, .int .u64 x3, .int .u64 x4, .int .u64 x5, .int .u64 x6, .int .u64 x7] T (0, 0)) := blk_set h0 1 (.int .u64 y1)
  have h2 : (((W.setCell ⟨g, 0, none⟩ (.int .u64 y0)).setCell ⟨g, 1, none⟩ (.int .u64 y1)).setCell ⟨g, 2, none⟩ (.int .u64 y2)).heap[g]? = some (.cells #[.int .u64 y0, .int .u64 y1, .int .u64 y2, .int .u64 x3, .int .u64 x4, .int .u64 x5, .int .u64 x6, .int .u64 x7] T (0, 0)) := blk_set h1 2 (.int .u64 y2)
  have h3 : ((((W.setCell ⟨g, 0, none⟩ (.int .u64 y0)).setCell ⟨g, 1, none⟩ (.int .u64 y1)).setCell ⟨g, 2, none⟩ (.int .u64 y2)).setCell ⟨g, 3, none⟩ (.int .u64 y3)).heap[g]? = some (.cells #[.int .u64 y0, .int .u64 y1, .int .u64 y2, .int .u64 y3, .int .u64 x4, .int .u64 x5, .int .u64 x6, .int .u64 x7] T (0, 0)) := blk_set h2 3 (.int .u64 y3)
  have h4 : (((((W.setCell ⟨g, 0, none⟩ (.int .u64 y0)).setCell ⟨g, 1, none⟩ (.int .u64 y1)).setCell ⟨g, 2, none⟩ (.int .u64 y2)).setCell ⟨g, 3, none⟩ (.int .u64 y3)).setCell ⟨g, 4, none⟩ (.int .u64 y4)).heap[g]? = some (.cells #[.int .u64 y0, .int .u64 y1, .int .u64 y2, .int .u64 y3, .int .u64 y4, .int .u64 x5, .int .u64 x6, .int .u64 x7] T (0, 0)) := blk_set h3 4 (.int .u64 y4)
  have h5 : ((((((W.setCell ⟨g, 0, none⟩ (.int .u64 y0)).setCell ⟨g, 1, none⟩ (.int .u64 y1)).setCell ⟨g, 2, none⟩ (.int .u64 y2)).setCell ⟨g, 3, none⟩ (.int .u64 y3)).setCell ⟨g, 4, none⟩ (.int .u64 y4)).setCell ⟨g, 5, none⟩ (.int .u64 y5)).heap[g]? = some (.cells #[.int .u64 y0, .int .u64 y1, .int .u64 y2, .int .u64 y3, .int .u64 y4, .int .u64 y5, .int .u64 x6, .int .u64 x7] T (0, 0)) := blk_set h4 5 (.int .u64 y5)
  have h6 : (((((((W.setCell ⟨g, 0, none⟩ (.int .u64 y0)).setCell ⟨g, 1, none⟩ (.int .u64 y1)).setCell ⟨g, 2, none⟩ (.int .u64 y2)).setCell ⟨g, 3, none⟩ (.int .u64 y3)).setCell ⟨g, 4, none⟩ (.int .u64 y4)).setCell ⟨g, 5, none⟩ (.int .u64 y5)).setCell ⟨g, 6, none⟩ (.int .u64 y6)).heap[g]? = some (.cells #[.int .u64 y0, .int .u64 y1, .int .u64 y2, .int .u64 y3, .int .u64 y4, .int .u64 y5, .int .u64 y6, .int .u64 x7] T (0, 0)) := blk_set h5 6 (.int .u64 y6)
  have h7 : ((((((((W.setCell ⟨g, 0, none⟩ (.int .u64 y0)).setCell ⟨g, 1, none⟩ (.int .u64 y1)).setCell ⟨g, 2, none⟩ (.int .u64 y2)).setCell ⟨g, 3, none⟩ (.int .u64 y3)).setCell ⟨g, 4, none⟩ (.int .u64 y4)).setCell ⟨g, 5, none⟩ (.int .u64 y5)).setCell ⟨g, 6, none⟩ (.int .u64 y6)).setCell ⟨g, 7, none⟩ (.int .u64 y7)).heap[g]? = some (.cells #[.int .u64 y0, .int .u64 y1, .int .u64 y2, .int .u64 y3, .int .u64 y4, .int .u64 y5, .int .u64 y6, .int .u64 y7] T (0, 0)) := blk_set h6 7 (.int .u64 y7)
  exact h7
theorem put8_other (W : World) (g k : Nat) (y0 y1 y2 y3 y4 y5 y6 y7 : Int) (h : k ≠ g) : (put8 W g y0 y1 y2 y3 y4 y5 y6 y7).heap[k]? = W.heap[k]? := by
  unfold put8
  exact (Below.heap_setCell _ _ _ _ h).trans ((Below.heap_setCell _ _ _ _ h).trans ((Below.heap_setCell _ _ _ _ h).trans ((Below.heap_setCell _ _ _ _ h).trans ((Below.heap_setCell _ _ _ _ h).trans ((Below.heap_setCell _ _ _ _ h).trans ((Below.heap_setCell _ _ _ _ h).trans (Below.heap_setCell _ _ _ _ h)))))))
theorem put8_size (W : World) (g : Nat) (y0 y1 y2 y3 y4 y5 y6 y7 : Int) : (put8 W g y0 y1 y2 y3 y4 y5 y6 y7).heap.size = W.heap.size := by simp [put8, World.setCell]
theorem put8_below {B g : Nat} {w W : World} (h : Below B w W) (hg : B ≤ g) (y0 y1 y2 y3 y4 y5 y6 y7 : Int) : Below B w (put8 W g y0 y1 y2 y3 y4 y5 y6 y7) := by
  unfold put8
  exact (((((((h.setCell hg _).setCell hg _).setCell hg _).setCell hg _).setCell hg _).setCell hg _).setCell hg _).setCell hg _
def slen : Value → Nat
  | .slice _ n _ => n
  | _ => 0
/-- The state's block, written out. -/
structure SW (w W : World) (x0 x1 x2 x3 x4 x5 x6 x7 : Int) : Prop where
  out : W.heap[w.heap.size]? = some (.cells #[.int .u64 x0, .int .u64 x1, .int .u64 x2, .int .u64 x3, .int .u64 x4, .int .u64 x5, .int .u64 x6, .int .u64 x7] 93 (0, 0))
theorem SW.later {w W W' : World} {x0 x1 x2 x3 x4 x5 x6 x7 : Int} (h : SW w W x0 x1 x2 x3 x4 x5 x6 x7) (hb : Below W.heap.size W W') : SW w W' x0 x1 x2 x3 x4 x5 x6 x7 := ⟨(hb.block _ (Array.getElem?_eq_some_iff.1 h.out).1).trans h.out⟩
theorem SW.drew {w W : World} {x0 x1 x2 x3 x4 x5 x6 x7 : Int} (h : SW w W x0 x1 x2 x3 x4 x5 x6 x7) : SW w W.drew x0 x1 x2 x3 x4 x5 x6 x7 := ⟨h.out⟩
/-- The walk behind i blocks: the state's block, and the memory that the bytes lie in. -/
structure WI (w : World) (s D : List Int) (w5 : World) (i : Nat) (wr : World) : Prop where
  bs : wr.heap[w.heap.size]? = some (.cells (nums .u64 (fold6 s D i)).toArray 93 (0, 0))
  below : Below w.heap.size w wr
  same : ∀ k, k < w5.heap.size → k ≠ w.heap.size → wr.heap[k]? = w5.heap[k]?
  size : w5.heap.size ≤ wr.heap.size
set_option maxRecDepth 100000 in
set_option maxHeartbeats 4000000 in
theorem whole_any (s : List Int) (hs : s.length = 8) (hsB : inB 64 s) (A0 : Option Addr) (c0 : Nat) (b : List Int) (w : World) (hr : Kd.C (Kd.int .u8) w A0 b.length b) (hc : b.length ≤ c0) (hbB : inB 8 b) (hbl : b.length ≤ 140737488351232) :
    Calls Try.prog 76 #[.agg (nums .u64 s).toArray, .slice A0 b.length c0] w fun e w' => ∃ v0_ : Value, e = .returned v0_ ∧ Kd.R (Kd.int .u8) 5 w' w.heap.size (fun _ => True) v0_ (sum6 s b) ∧ Below w.heap.size w w' := by
  have hmk := make_cap (b.length + 144) (by omega)
  have hmk' : (((b.length + 144 : Nat) : Int)) = (b.length : Int) + 144 := by omega
  rw [hmk'] at hmk
  clear hmk'
  have hB1 : Hid (Below w.heap.size w (w.alloc (.cells (nums .u64 s).toArray 93))) := (Below.refl _ w).alloc (Nat.le_refl _) _
  have hR2 : Hid (Kd.R (Kd.int .u8) 5 ((w.alloc (.cells (nums .u64 s).toArray 93)).alloc (.cells (madeCells #[.int .u8 0] (b.length + 144)) 5)) w.heap.size (fun _ => True) (.slice (some ⟨w.heap.size + 1, 0, none⟩) 0 (b.length + 144)) ([] : List Int)) := by
    have := own_cap (w.alloc (.cells (nums .u64 s).toArray 93)) w.heap.size (b.length + 144) (by simp) (by omega)
    rw [World.size_alloc] at this
    exact this
  have hB2 : Hid (Below w.heap.size w ((w.alloc (.cells (nums .u64 s).toArray 93)).alloc (.cells (madeCells #[.int .u8 0] (b.length + 144)) 5))) := hB1.out.alloc (by simp) _
  have hC2 : Hid (Kd.C (Kd.int .u8) ((w.alloc (.cells (nums .u64 s).toArray 93)).alloc (.cells (madeCells #[.int .u8 0] (b.length + 144)) 5)) A0 b.length b) := C_same hr (fun i hi => hB2.out.block i hi)
  have hb0 : (b.length : Int) ≤ 140737488351232 := by omega
  have HL := Lib.hid hbl
  have HR := Lib.hid hr
  clear hr
  go_enter Try.func76, Try.ntmps76
  go_wp2_with (first | ((with_reducible refine gate_builtin (b := .append) (xs := #[.tmp 13, .tmp 14]) rfl ?_); at_builtin; refine Kd.R_append_rows (Kd.int .u8) (w0 := w) w.heap.size rfl (.tmp 13) (.tmp 14) 22 5 (.int .u8 0) 1 rfl Try.underlying22 infoU8 rfl (by decide) (by omega) (.slice (some ⟨w.heap.size + 1, 0, none⟩) 0 (b.length + 144)) ([] : List Int) b _ _ _ (fun _ => True) (fun _ => False) rfl rfl ?aO ?aR (fun _ _ h => h) (fun _ h => h.elim) ?aF ?aB ?aS ?aL ?_; (case aR => exact hC2.out); (case aB => exact hB2.out); (case aF => exact (fun _ _ => trivial)); (case aO => exact hR2.out); (case aS => simp; omega); (case aL => have := HL.out; simp; omega); intro v3 w3 ho hb3 hg3 hat3))
  have box3 : Hid (w3.heap[w.heap.size]? = some (.cells (nums .u64 s).toArray 93 (0, 0))) := by
    have := hg3.block w.heap.size (by simp; omega) (by simp [Value.ownBlock])
    rw [this, heap_at, if_neg (by simp), heap_at, if_pos rfl]
    exact rfl
  have HO3 := Lib.hid ho
  have HB3 := Lib.hid hb3
  clear ho hb3 hg3 hat3
  refine (pad_any b.length b.length (by rw [if_neg (by omega)]) (by have := HL.out; omega) w3).mono ?_
  rintro e w4 ⟨vp, rfl, hRp, hbp⟩
  obtain ⟨Ap, cp, hvp, hlp, hCp⟩ := Kd.R_reads hRp
  subst hvp
  obtain ⟨Ao, co, hvo⟩ := Kd.R_slice HO3.out
  subst hvo
  have box4 : Hid (w4.heap[w.heap.size]? = some (.cells (nums .u64 s).toArray 93 (0, 0))) := (hbp.block _ (Array.getElem?_eq_some_iff.1 box3.out).1).trans box3.out
  have HO4 := Lib.hid (Kd.R_below HO3.out hbp)
  have HB4 : Hid (Below w.heap.size w w4) := HB3.out.trans (hbp.mono HB3.out.size)
  have HCp := Lib.hid hCp
  clear hbp hRp hCp hlp box3 HO3 HB3
  have HPL : Hid ((pd6 b.length).length ≤ 144) := by rw [pd6_length]; exact padL_le _
  go_wp2_with (first | ((with_reducible refine gate_builtin (b := .append) (xs := #[.tmp 15, .tmp 18]) rfl ?_); at_builtin; refine Kd.R_append_rows (Kd.int .u8) (w0 := w) w.heap.size rfl (.tmp 15) (.tmp 18) 22 5 (.int .u8 0) 1 rfl Try.underlying22 infoU8 rfl (by decide) (by omega) _ ([] ++ b) (pd6 b.length) _ _ _ (fun _ => True) (fun _ => False) rfl rfl ?aO ?aR (fun _ _ h => h) (fun _ h => h.elim) ?aF ?aB ?aS ?aL ?_; (case aR => exact HCp.out); (case aB => exact HB4.out); (case aF => exact (fun _ _ => trivial)); (case aO => exact HO4.out); (case aS => exact HB4.out.size); (case aL => have := HL.out; have := HPL.out; simp only [List.nil_append]; omega); intro v5 w5 ho hb5 hg5 hat5))
  have box5 : Hid (w5.heap[w.heap.size]? = some (.cells (nums .u64 s).toArray 93 (0, 0))) := by
    have := hg5.block w.heap.size (Array.getElem?_eq_some_iff.1 box4.out).1 (Kd.R_ne HO4.out box4.out (by decide))
    rw [this, box4.out]
    exact rfl
  obtain ⟨A5, c5, hv5, hl5, hC5⟩ := Kd.R_reads ho
  subst hv5
  have hA5 : Hid (∀ ad, A5 = some ad → w.heap.size ≠ ad.block) := fun ad e => by
    subst e
    exact fun h => Kd.R_ne ho box5.out (by decide) (by simp [Value.ownBlock, h])
  obtain ⟨D, hD⟩ : ∃ D, D = [] ++ b ++ pd6 b.length := ⟨_, rfl⟩
  have hDa : D = all6 b := by rw [hD, all6, List.nil_append]
  rw [← hD] at ho hl5 hC5
  rw [← hD]
  obtain ⟨nb, hnb⟩ : ∃ nb, nb = D.length / 128 := ⟨_, rfl⟩
  have hDl : D.length = 128 * nb := by
    have e1 : D.length = b.length + padL b.length := by rw [hDa, all6_length]
    have e2 := padL_mod b.length
    omega
  have hDB : inB 8 D := by rw [hDa]; exact inB_append hbB (pd6_in _ (by have := HL.out; omega))
  have hDm : D.length ≤ 140737488355328 := by rw [hDa, all6_length]; have := HL.out; have := padL_le b.length; omega
  rw [hDl] at hl5 hC5
  rw [hDl]
  have H5 : Hid (WI w s D w5 0 w5) := ⟨box5.out, hb5, fun _ _ _ => rfl, Nat.le_refl _⟩
  have HA5 := hA5
  have HC5 := Lib.hid hC5
  have HDa := Lib.hid hDa
  have HD8 := Lib.hid hDB
  have HDl := Lib.hid hDl
  have hl5' : 128 * nb ≤ c5 := hl5
  clear hD hDa hDB hnb hDl hC5 ho hb5 hg5 hat5 HCp HO4 HB4 box4 box5 hA5
  go_loopw [5] (fun v wr => ∃ (i : Nat) (A : Option Addr) (c : Nat), i ≤ nb ∧ v = .slice A (128 * (nb - i)) c ∧ 128 * (nb - i) ≤ c ∧ Hid (Kd.C (Kd.int .u8) w5 A (128 * (nb - i)) (D.drop (128 * i))) ∧ Hid (∀ ad, A = some ad → w.heap.size ≠ ad.block) ∧ Hid (WI w s D w5 i wr)) (fun v _ => slen v)
  case atStart => exact ⟨0, A5, c5, by omega, rfl, hl5', HC5, HA5, H5⟩
  case round =>
    obtain ⟨i, A, c, hi, rfl, hc5, hCi, hAi, hW⟩ := hrel
    by_cases hlt : i < nb
    · obtain ⟨n, hn⟩ : ∃ n, n = 128 * (nb - i) := ⟨_, rfl⟩
      rw [← hn] at hc5 hCi ⊢
      have hn1 : 128 ≤ n := by omega
      have hn2 : n ≤ 140737488355328 := by have := HDl.out; omega
      have hDi : (D.drop (128 * i)).length = n := by rw [List.length_drop, HDl.out]; omega
      obtain ⟨S, hS⟩ : ∃ S, S = fold6 s D i := ⟨_, rfl⟩
      have hSl : S.length = 8 := by rw [hS]; exact fold6_length D hs i
      have hSi : inB 64 S := by rw [hS]; exact fold6_in D hsB i
      have hbk : (((D.drop (128 * i)).take 128)).length = 128 := by rw [List.length_take, hDi]; omega
      obtain ⟨ad0, rfl, _⟩ := (Kd.reads_of_C (d := (0 : Int)) hCi.out).2.2 (by omega)
      have HCi := Lib.hid hCi.out
      have HCw : Hid (∀ W : World, W.heap = wr.heap → Kd.C (Kd.int .u8) W (some ad0) n (D.drop (128 * i))) := fun W hWe => by
        refine C_blk hCi.out fun ad e => ?_
        rw [hWe]
        have h1 := Kd.reads_of_C (d := (0 : Int)) hCi.out
        obtain ⟨ad', e', hc'⟩ := h1.2.2 (by omega)
        have e2 : ad = ad' := by rw [e] at e'; exact Option.some.inj e'
        subst e2
        have hlt2 := World.block_lt_of_cell? _ _ (hc' 0 (by omega))
        rw [addr_block] at hlt2
        exact hW.out.same _ hlt2 (Ne.symm (hAi.out _ e))
      obtain ⟨y0, y1, y2, y3, y4, y5, y6, y7, hY⟩ := eight (blk6_length S ((D.drop (128 * i)).take 128))
      obtain ⟨x0, x1, x2, x3, x4, x5, x6, x7, hSe⟩ := eight hSl
      have HBk : Hid (∀ W : World, W.heap = wr.heap → Calls Try.prog 87 #[.agg #[.int .u64 x0, .int .u64 x1, .int .u64 x2, .int .u64 x3, .int .u64 x4, .int .u64 x5, .int .u64 x6, .int .u64 x7], .slice (some ad0) 128 c] W fun e w' => e = .returned (.tuple #[.agg #[.int .u64 y0, .int .u64 y1, .int .u64 y2, .int .u64 y3, .int .u64 y4, .int .u64 y5, .int .u64 y6, .int .u64 y7], .bool true]) ∧ Below W.heap.size W w') := fun W hWe => by
        have hC1 := HCw.out W hWe
        rw [← hDi] at hC1
        have hC2 := Kd.C_take hC1 (m := 128) (by omega)
        have := block_ok S hSl hSi (some ad0) c ((D.drop (128 * i)).take 128) W hC2 (by rw [hbk]; omega) hbk (inB_take (inB_drop HD8.out _) _)
        rw [hbk, hY, hSe] at this
        exact this
      have HS := Lib.hid hS
      have HY := Lib.hid hY
      have hbs := hW.out.bs
      rw [← hS, hSe] at hbs
      have HKP : Hid (∀ W : World, SW w W x0 x1 x2 x3 x4 x5 x6 x7 → W.cell? ⟨w.heap.size, 0, none⟩ = some (.int .u64 x0) ∧ W.cell? ⟨w.heap.size, 1, none⟩ = some (.int .u64 x1) ∧ W.cell? ⟨w.heap.size, 2, none⟩ = some (.int .u64 x2) ∧ W.cell? ⟨w.heap.size, 3, none⟩ = some (.int .u64 x3) ∧ W.cell? ⟨w.heap.size, 4, none⟩ = some (.int .u64 x4) ∧ W.cell? ⟨w.heap.size, 5, none⟩ = some (.int .u64 x5) ∧ W.cell? ⟨w.heap.size, 6, none⟩ = some (.int .u64 x6) ∧ W.cell? ⟨w.heap.size, 7, none⟩ = some (.int .u64 x7) ∧ W.frozen? ⟨w.heap.size, 0, none⟩ = false ∧ W.frozen? ⟨w.heap.size, 1, none⟩ = false ∧ W.frozen? ⟨w.heap.size, 2, none⟩ = false ∧ W.frozen? ⟨w.heap.size, 3, none⟩ = false ∧ W.frozen? ⟨w.heap.size, 4, none⟩ = false ∧ W.frozen? ⟨w.heap.size, 5, none⟩ = false ∧ W.frozen? ⟨w.heap.size, 6, none⟩ = false ∧ W.frozen? ⟨w.heap.size, 7, none⟩ = false ∧ Hid (SW w W x0 x1 x2 x3 x4 x5 x6 x7)) := fun W hW => by
        have h := hW.out
        exact ⟨(blk_cell h 0).trans rfl, (blk_cell h 1).trans rfl, (blk_cell h 2).trans rfl, (blk_cell h 3).trans rfl, (blk_cell h 4).trans rfl, (blk_cell h 5).trans rfl, (blk_cell h 6).trans rfl, (blk_cell h 7).trans rfl, blk_frozen h 0, blk_frozen h 1, blk_frozen h 2, blk_frozen h 3, blk_frozen h 4, blk_frozen h 5, blk_frozen h 6, blk_frozen h 7, hW⟩
      have HBS : Hid (SW w wr x0 x1 x2 x3 x4 x5 x6 x7) := ⟨hbs⟩
      have HSE := Lib.hid hSe
      have HN := Lib.hid hn
      have HDi := Lib.hid hDi
      have d128 : (128 : Int) ≤ (c : Int) := by omega
      have d128n : 128 ≤ c := by omega
      clear hS hY hSl hSi hbk hbs hSe hn hDi hCi
      go_wp2_with fail
      obtain ⟨q0, q1, q2, q3, q4, q5, q6, q7, f0, f1, f2, f3, f4, f5, f6, f7, _⟩ := HKP.out wr HBS.out
      go_region_law (first | (go_simp; go_at_call 87; (with_reducible refine (HBk.out _ ?hW).mono ?_); (case hW => exact rfl); rintro _ w6 ⟨rfl, hb6⟩; (have hsw6 := SW.later (SW.drew HBS.out) hb6); (obtain ⟨p0, p1, p2, p3, p4, p5, p6, p7, g0, g1, g2, g3, g4, g5, g6, g7, _⟩ := HKP.out w6 hsw6)))
      have HW6 : Hid (WI w s D w5 (i + 1) (put8 w6 w.heap.size y0 y1 y2 y3 y4 y5 y6 y7)) := by
        have hz := (Array.getElem?_eq_some_iff.1 HBS.out.out).1
        have hz6 : wr.heap.size ≤ w6.heap.size := hb6.size
        refine ⟨?_, put8_below (hW.out.below.trans (Below.mono (show Below wr.heap.size wr w6 from (Below.refl _ _).drew.trans hb6) hW.out.below.size)) (Nat.le_refl _) y0 y1 y2 y3 y4 y5 y6 y7, fun k hk hne => ?_, ?_⟩
        · rw [put8_at y0 y1 y2 y3 y4 y5 y6 y7 hsw6.out, show fold6 s D (i + 1) = blk6 (fold6 s D i) ((D.drop (128 * i)).take 128) from rfl, ← HS.out, HY.out]
          rfl
        · rw [put8_other _ _ _ y0 y1 y2 y3 y4 y5 y6 y7 hne]
          have h1 := hb6.block k (show k < wr.heap.size from Nat.lt_of_lt_of_le hk hW.out.size)
          exact h1.trans (hW.out.same k hk hne)
        · rw [put8_size]
          exact Nat.le_trans hW.out.size hz6
      clear hb6 hsw6 hW
      have hnx : Hid (n - 128 = 128 * (nb - (i + 1))) := by show n - 128 = _; rw [HN.out]; omega
      have hCd : Hid (Kd.C (Kd.int .u8) w5 (if c = 128 then some ad0 else some (ad0.add 128)) (n - 128) (D.drop (128 * (i + 1)))) := by
        have h1 := HCi.out
        rw [← HDi.out] at h1
        have h2 := Kd.C_drop h1 (m := 128) (c := c) (by rw [HDi.out]; exact hn1) (by rw [HDi.out]; exact hc5)
        rw [List.drop_drop, List.length_drop, show 128 * i + 128 = 128 * (i + 1) by omega, show D.length - 128 * (i + 1) = n - 128 by rw [← HDi.out, List.length_drop]; omega] at h2
        by_cases e : c = 128
        · rw [if_pos e] at h2 ⊢; exact h2
        · rw [if_neg e] at h2 ⊢; exact h2
      have hAd : Hid (∀ ad, some (ad0.add 128) = some ad → w.heap.size ≠ ad.block) := fun ad e => by
        obtain rfl := Option.some.inj e
        rw [addr_block]
        exact hAi.out ad0 rfl
      by_cases h128 : 128 = c
      · obtain rfl := h128
        have hn128 : n = 128 := by omega
        subst hn128
        go_wp2_with fail
        go_roundw
        case rel => exact ⟨i + 1, some ad0, 0, by omega, by rw [← hnx.out], by have := hnx.out; omega, by rw [← hnx.out]; exact hCd.out, hAi, HW6⟩
        case measure => simp [slen]
      · have h128' : ¬ c = 128 := fun e => h128 e.symm
        go_wp2_with fail
        go_roundw
        case rel => exact ⟨i + 1, some (ad0.add 128), c - 128, by omega, by rw [← hnx.out]; rfl, by have := hnx.out; omega, by rw [← hnx.out]; have := hCd.out; rw [if_neg h128'] at this; exact this, hAd, HW6⟩
        case measure => simp [slen]; omega
    · obtain rfl : i = nb := by omega
      obtain ⟨S, hS⟩ : ∃ S, S = fold6 s D i := ⟨_, rfl⟩
      have hSl : S.length = 8 := by rw [hS]; exact fold6_length D hs i
      have hSi : inB 64 S := by rw [hS]; exact fold6_in D hsB i
      have hbs := hW.out.bs
      rw [← hS] at hbs
      have HBW := Lib.hid hW.out.below
      have hSz : (nums .u64 S).toArray.size = 8 := by simp [nums, hSl]
      have hkz : (Try.prog.info? 93).map (·.size) = some (nums .u64 S).toArray.size := by rw [hSz]; kernel_rfl
      have HKZ := Lib.hid hkz
      have HBS := Lib.hid hbs
      have HS := Lib.hid hS
      have HSL := Lib.hid hSl
      have HSI := Lib.hid hSi
      clear hS hSl hSi hbs hSz hkz hW hCi hAi hc5 hi hlt
      have e0 : 128 * (i - i) = 0 := by omega
      rw [e0]
      go_wp2_with (first | (with_reducible refine wpList_load_row rfl 93 (.tmp 2) rfl w.heap.size (by simp [Act.eval, Act.put]) 93 (nums .u64 S).toArray (0, 0) _ HBS.out Try.underlying93 rfl HKZ.out ?_))
      go_loopw [6, 33] (fun v ix w6 => ∃ k : Nat, k ≤ 8 ∧ ix = .int .i64 k ∧ Hid (Kd.R (Kd.int .u8) 5 w6 w.heap.size (fun _ => True) v (outTo S k 0)) ∧ Hid (Below w.heap.size w w6)) (fun _ ix _ => 8 - (intOf ix).toNat)
      case atStart => exact ⟨0, by omega, rfl, by rw [outTo_zero]; exact Kd.R_nil _ _ _ _ _, HBW⟩
      case round =>
        obtain ⟨k, hk, rfl, hR, hB⟩ := hrel
        by_cases hk8 : k < 8
        · have hix : (nums .u64 S).toArray[k]? = some (.int .u64 (S.getD k 0)) := by
            rw [List.getElem?_toArray, nums, List.getElem?_map, List.getElem?_eq_getElem (by rw [HSL.out]; exact hk8), List.getD_eq_getElem?_getD, List.getElem?_eq_getElem (by rw [HSL.out]; exact hk8)]; rfl
          have hidx : ∀ W : World, (Instr.index 93 (.agg (nums .u64 S).toArray) (.int .i64 (k : Int))).run Try.prog W = .ok (.int .u64 (S.getD k 0)) W := fun W => run_index_arr Try.prog 93 64 8 _ k _ .u64 W Try.underlying93 Try.underlying64 (by kernel_rfl) hk8 hix
          clear hix
          obtain ⟨x, hx⟩ : ∃ x, x = S.getD k 0 := ⟨_, rfl⟩
          rw [← hx] at hidx
          have hx0 : 0 ≤ x := by rw [hx]; exact (inB_getD HSI.out k).1
          have HX := Lib.hid hx
          have HK8 := Lib.hid hk8
          clear hx
          have HR2 := Lib.hid hR.out
          have HB2 := Lib.hid hB.out
          have hdk : decide ((k : Int) < 8) = true := decide_eq_true (by omega)
          clear hR hB hk8
          go_wp2_with fail
          go_loopw [6, 36] (fun v iy w7 => ∃ j : Nat, j ≤ 8 ∧ iy = .int .i64 j ∧ Hid (Kd.R (Kd.int .u8) 5 w7 w.heap.size (fun _ => True) v (outTo S k j)) ∧ Hid (Below w.heap.size w w7)) (fun _ iy _ => 8 - (intOf iy).toNat)
          case atStart => exact ⟨0, by omega, rfl, HR2, HB2⟩
          case round =>
            obtain ⟨j, hj, rfl, hR, hB⟩ := hrel
            by_cases hj8 : j < 8
            · have HR3 := Lib.hid hR.out
              have HB3 := Lib.hid hB.out
              clear hR hB
              have HLO : Hid ((outTo S k j).length ≤ 72) := by rw [outTo_length S k j (by rw [HSL.out]; exact Nat.le_of_lt HK8.out) hj]; have := HK8.out; show 8 * k + j ≤ 72; omega
              have HJ8 := Lib.hid hj8
              go_wp2_with (first | ((with_reducible refine gate_builtin (b := .append) (xs := #[.tmp 39, .tmp 46]) rfl ?_); at_builtin; refine Kd.R_append (Kd.int .u8) (w0 := w) w.heap.size rfl (.tmp 39) (.tmp 46) 22 5 (.int .u8 0) 1 rfl Try.underlying22 infoU8 rfl (by decide) (by omega) _ (outTo S k j) (x / 2 ^ (56 - 8 * j) % 256) [.int .u8 (x / 2 ^ (56 - 8 * j) % 256)] (fun _ => True) (fun _ => False) rfl rfl ?aP (fun _ hk => hk.elim) ?aF ?aO ?aB ?aS ?aL ?_; (case aP => exact rfl); (case aB => exact HB3.out); (case aF => exact (fun _ _ => trivial)); (case aO => exact HR3.out); (case aS => exact HB3.out.size); (case aL => have := HLO.out; omega); intro v8 w8 ho hb hg hat; (have HR4 := Lib.hid ho); (have HB4 := Lib.hid hb); clear ho hb hg hat))
              go_roundw
              case rel => exact ⟨j + 1, by have := HJ8.out; omega, by go_num, by rw [← outTo_step S k j HJ8.out, ← HX.out]; exact HR4, HB4⟩
              case measure => have := HJ8.out; simp [intOf]; omega
            · obtain rfl : j = 8 := by omega
              have HR3 := Lib.hid hR.out
              have HB3 := Lib.hid hB.out
              clear hR hB
              go_wp2_with fail
              refine ⟨⟨k + 1, by have := HK8.out; omega, by go_num, ?_, HB3⟩, by have := HK8.out; simp [intOf]; omega⟩
              rw [← outTo_next S k (by rw [HSL.out]; exact HK8.out)]
              exact HR3
        · obtain rfl : k = 8 := by omega
          have HR3 := Lib.hid hR.out
          have HB3 := Lib.hid hB.out
          clear hR hB
          have hfin : Hid (outTo S 8 0 = sum6 s b) := by
            have h8 := outTo_all S
            rw [HSL.out] at h8
            show outTo S 8 0 = _
            rw [h8, sum6, st6, HS.out, HDa.out]
            congr 2
            have h1 := HDl.out
            rw [HDa.out, all6_length] at h1
            omega
          go_wp2_with fail
          go_ret
          exact ⟨_, rfl, by rw [← hfin.out]; exact HR3.out, HB3.out⟩
end Go.Proofs.Ytincnnmojgphmaa.H

set_option linter.unusedVariables false
set_option linter.unusedSimpArgs false
namespace Go.Proofs.Ytincnnmojgphmaa.H
open Go.RowKit Go.Proofs.YtincnnmojgphmaaW.PrintWords Go.Proofs.YtincnnmojgphmaaW.PrintLast Go.Proofs.Ytincnnmojgphmaa.Sha Go.Proofs.YtincnnmojgphmaaW.PrintMore
attribute [local go_sem] Oper.semAt_some

instance inB_dec (b : Nat) (l : List Int) : Decidable (inB b l) := by unfold inB; infer_instance
theorem sum6_length (s b : List Int) (hs : s.length = 8) : (sum6 s b).length = 64 := by
  rw [sum6, out6_length, st6, fold6_length _ hs]
def sha512_Sum.f (l0 : List Int) : Option (List Int) := if inB 8 l0 ∧ l0.length ≤ 140737488351232 then some (sum6 (S6 false) l0) else none
theorem sha512_Sum.calls (A0 : Option Addr) (c0 : Nat) (l0 : List Int) (r : List Int) (w : World) (hr0 : Kd.C (Kd.int .u8) w A0 l0.length l0) (hc0 : l0.length ≤ c0) (h : sha512_Sum.f l0 = some r) :
    Calls Try.prog 59 #[.slice A0 l0.length c0] w fun e w' => ∃ v0_ : Value, e = .returned v0_ ∧ Kd.V (Kd.int .u8) 5 w' w.heap.size (fun k_ => (w.heap.size ≤ k_)) v0_ r ∧ Below w.heap.size w w' := by
  unfold sha512_Sum.f at h
  split at h
  · rename_i hb
    obtain rfl := Option.some.inj h
    have H : Hid (∀ w1, Below w.heap.size w w1 → Calls Try.prog 76 #[.agg (nums .u64 (S6 false)).toArray, .slice A0 l0.length c0] w1 fun e w' => ∃ v0_ : Value, e = .returned v0_ ∧ Kd.R (Kd.int .u8) 5 w' w1.heap.size (fun _ => True) v0_ (sum6 (S6 false) l0) ∧ Below w1.heap.size w1 w') :=
      fun w1 hb1 => whole_any (S6 false) (S6_length _) (S6_in _) A0 c0 l0 w1 (C_same hr0 (fun i hi => hb1.block i hi)) hc0 hb.1 hb.2
    clear h hb
    go_enter Try.func59, Try.ntmps59
    go_wp2_with fail
    refine (start_any false _).mono ?_
    rintro e w1 ⟨rfl, hb1⟩
    have HB1 := Lib.hid hb1
    clear hb1
    go_wp2_with fail
    refine (H.out w1 HB1.out).mono ?_
    rintro e w2 ⟨v, rfl, hR, hb2⟩
    have HR := Lib.hid hR
    have HB2 := Lib.hid hb2
    clear hR hb2
    go_wp2_with fail
    go_ret
    exact ⟨v, rfl, Kd.V_mono (Kd.R_V (Kd.R_bound HR.out)) (fun k hk => Nat.le_trans HB1.out.size hk.2.1), HB1.out.trans (HB2.out.mono HB1.out.size)⟩
  · cases h

def sha512_Sum384.f (l0 : List Int) : Option (List Int) := if inB 8 l0 ∧ l0.length ≤ 140737488351232 then some ((sum6 (S6 true) l0).take 48) else none
theorem sha512_Sum384.calls (A0 : Option Addr) (c0 : Nat) (l0 : List Int) (r : List Int) (w : World) (hr0 : Kd.C (Kd.int .u8) w A0 l0.length l0) (hc0 : l0.length ≤ c0) (h : sha512_Sum384.f l0 = some r) :
    Calls Try.prog 58 #[.slice A0 l0.length c0] w fun e w' => ∃ v0_ : Value, e = .returned v0_ ∧ Kd.V (Kd.int .u8) 5 w' w.heap.size (fun k_ => (w.heap.size ≤ k_)) v0_ r ∧ Below w.heap.size w w' := by
  unfold sha512_Sum384.f at h
  split at h
  · rename_i hb
    obtain rfl := Option.some.inj h
    have H : Hid (∀ w1, Below w.heap.size w w1 → Calls Try.prog 76 #[.agg (nums .u64 (S6 true)).toArray, .slice A0 l0.length c0] w1 fun e w' => ∃ v0_ : Value, e = .returned v0_ ∧ Kd.R (Kd.int .u8) 5 w' w1.heap.size (fun _ => True) v0_ (sum6 (S6 true) l0) ∧ Below w1.heap.size w1 w') :=
      fun w1 hb1 => whole_any (S6 true) (S6_length _) (S6_in _) A0 c0 l0 w1 (C_same hr0 (fun i hi => hb1.block i hi)) hc0 hb.1 hb.2
    clear h hb
    go_enter Try.func58, Try.ntmps58
    go_wp2_with fail
    refine (start_any true _).mono ?_
    rintro e w1 ⟨rfl, hb1⟩
    have HB1 := Lib.hid hb1
    clear hb1
    go_wp2_with fail
    refine (H.out w1 HB1.out).mono ?_
    rintro e w2 ⟨v, rfl, hR, hb2⟩
    have HR := Lib.hid hR
    have HB2 := Lib.hid hb2
    have h64 : (sum6 (S6 true) l0).length = 64 := sum6_length _ _ (S6_length _)
    have HL := Lib.hid h64
    obtain ⟨A, c, hv, hc, _⟩ := Kd.R_reads hR
    rw [h64] at hv hc
    subst hv
    have c1 : (48 : Int) ≤ (c : Int) := by omega
    clear hR hb2 h64
    go_wp2_with fail
    go_ret
    refine ⟨_, rfl, ?_, HB1.out.trans (HB2.out.mono HB1.out.size)⟩
    have h1 := Kd.V_mono (ok' := fun k_ => w.heap.size ≤ k_) (Kd.R_V (base' := w.heap.size) (Kd.R_bound HR.out)) (fun k hk => Nat.le_trans HB1.out.size hk.2.1)
    have h2 := (Kd.V_at h1).2.2
    have h3 := Kd.F_take h2 (m := 48) (by rw [HL.out]; decide)
    have h4 : ((sum6 (S6 true) l0).take 48).length = 48 := by rw [List.length_take, HL.out]; rfl
    have h5 := Kd.V_mk (e := 5) (base := w.heap.size) (c := 48) (by rw [h4]; exact Nat.le_refl _) h3
    rw [h4] at h5
    exact h5
  · cases h
end Go.Proofs.Ytincnnmojgphmaa.H

set_option linter.unusedVariables false
set_option linter.unusedSimpArgs false
namespace Go.Proofs.Ytincnnmojgphmaa.H
open Go.RowKit Go.Proofs.YtincnnmojgphmaaW.PrintWords Go.Proofs.YtincnnmojgphmaaW.PrintLast Go.Proofs.Ytincnnmojgphmaa.Sha Go.Proofs.YtincnnmojgphmaaW.PrintMore
attribute [local go_sem] Oper.semAt_some

set_option maxRecDepth 100000 in
set_option maxHeartbeats 4000000 in
theorem clone_some (ad : Addr) (c0 : Nat) (b : List Int) (w : World) (hr : Kd.C (Kd.int .u8) w (some ad) b.length b) (hc : b.length ≤ c0) (hbl : b.length ≤ 140737488351232) :
    Calls Try.prog 38 #[.slice (some ad) b.length c0] w fun e w' => ∃ v0_ : Value, e = .returned v0_ ∧ Kd.R (Kd.int .u8) 5 w' w.heap.size (fun _ => True) v0_ b ∧ Below w.heap.size w w' := by
  have hq : ∀ W : World, (binOp .eql 22 (.slice (some ad) b.length c0) (.slice none 0 0)).run Try.prog W = .ok (.bool false) W := fun W => by
    first | rfl | kernel_rfl | (simp [binOp, Try.underlying22, go_sem])
  have HE : Hid (Kd.R (Kd.int .u8) 5 (w.alloc (.cells #[] 5)) w.heap.size (fun _ => True) (.slice (some ⟨w.heap.size, 0, none⟩) 0 0) ([] : List Int)) := by
    have := own_cap w w.heap.size 0 (Nat.le_refl _) (by decide)
    rw [show madeCells #[.int .u8 0] 0 = #[] from by simp [madeCells]] at this
    exact this
  have HB : Hid (Below w.heap.size w (w.alloc (.cells #[] 5))) := (Below.refl _ w).alloc (Nat.le_refl _) _
  have HR : Hid (Kd.C (Kd.int .u8) (w.alloc (.cells #[] 5)) (some ad) b.length b) := C_same hr (fun i hi => HB.out.block i hi)
  have HS : Hid (w.heap.size ≤ (w.alloc (.cells #[] 5)).heap.size) := HB.out.size
  have HV : Hid (([] : List Int).length + b.length ≤ 140737488355328) := by show _ ≤ _; simp; omega
  clear hr
  go_enter Try.func38, Try.ntmps38
  go_wp2_with (first | ((with_reducible refine gate_builtin (b := .append) (xs := #[.tmp 5, .tmp 6]) rfl ?_); at_builtin; refine Kd.R_append_rows (Kd.int .u8) (w0 := w) w.heap.size rfl (.tmp 5) (.tmp 6) 22 5 (.int .u8 0) 1 rfl Try.underlying22 infoU8 rfl (by decide) (by omega) _ ([] : List Int) b _ _ _ (fun _ => True) (fun _ => False) rfl rfl ?aO ?aR (fun _ _ h => h) (fun _ h => h.elim) ?aF ?aB ?aS ?aL ?_; (case aR => exact HR.out); (case aB => exact HB.out); (case aF => exact (fun _ _ => trivial)); (case aO => exact HE.out); (case aS => exact HS.out); (case aL => simpa using HV.out); intro v3 w3 ho hb3 hg3 hat3))
  have HO := Lib.hid ho
  have HB3 := Lib.hid hb3
  clear ho hb3 hg3 hat3
  go_ret
  exact ⟨_, rfl, HO.out, HB3.out⟩

set_option maxRecDepth 100000 in
set_option maxHeartbeats 4000000 in
theorem clone_none (c0 : Nat) (w : World) :
    Calls Try.prog 38 #[.slice none 0 c0] w fun e w' => e = .returned (.slice none 0 0) ∧ Below w.heap.size w w' := by
  have hq : ∀ W : World, (binOp .eql 22 (.slice none 0 c0) (.slice none 0 0)).run Try.prog W = .ok (.bool true) W := fun W => by
    first | rfl | kernel_rfl | (simp [binOp, Try.underlying22, go_sem])
  go_enter Try.func38, Try.ntmps38
  go_wp2_with fail
  go_ret
  exact ⟨rfl, Below.refl _ _⟩

def slices_Clone_byte_byte.f (l0 : List Int) : Option (List Int) := if l0.length ≤ 140737488351232 then some l0 else none
theorem slices_Clone_byte_byte.calls (A0 : Option Addr) (c0 : Nat) (l0 : List Int) (r : List Int) (w : World) (hr0 : Kd.C (Kd.int .u8) w A0 l0.length l0) (hc0 : l0.length ≤ c0) (h : slices_Clone_byte_byte.f l0 = some r) :
    Calls Try.prog 38 #[.slice A0 l0.length c0] w fun e w' => ∃ v0_ : Value, e = .returned v0_ ∧ Kd.R (Kd.int .u8) 5 w' w.heap.size (fun _ => True) v0_ r ∧ Below w.heap.size w w' := by
  unfold slices_Clone_byte_byte.f at h
  split at h
  · rename_i hb
    obtain rfl := Option.some.inj h
    cases A0 with
    | none =>
      have h0 : l0.length = 0 := by
        by_cases h1 : 0 < l0.length
        · obtain ⟨ad, h2, _⟩ := (Kd.reads_of_C (d := (0 : Int)) hr0).2.2 h1
          cases h2
        · omega
      obtain rfl : l0 = [] := List.eq_nil_of_length_eq_zero h0
      refine (clone_none c0 w).mono ?_
      rintro e w' ⟨rfl, hb'⟩
      exact ⟨_, rfl, Kd.R_nil _ _ _ _ _, hb'⟩
    | some ad =>
      refine (clone_some ad c0 l0 w hr0 hc0 hb).mono ?_
      rintro e w' ⟨v, rfl, hR, hb'⟩
      exact ⟨v, rfl, hR, hb'⟩
  · cases h
end Go.Proofs.Ytincnnmojgphmaa.H
