/- sha512's Start and its reference, and both Blocks at bytes that are no block, by walking their text. -/
import Derived.Test.YtmmbbkdbebfhiaaHBlk
import Derived.Deep.MidRow
set_option linter.unusedVariables false
set_option linter.unusedSimpArgs false
namespace Go.Proofs.Ytmmbbkdbebfhiaa.H
open Go.RowKit Go.Proofs.YtmmbbkdbebfhiaaW.PrintWords Go.Proofs.YtmmbbkdbebfhiaaW.PrintLast Go.Proofs.Ytmmbbkdbebfhiaa.Sha
attribute [local go_sem] Oper.semAt_some

/-- Where hashes begin. -/
def S6 : Bool → List Int
  | false => [7640891576956012808, 13503953896175478587, 4354685564936845355, 11912009170470909681, 5840696475078001361, 11170449401992604703, 2270897969802886507, 6620516959819538809]
  | true => [14680500436340154072, 7105036623409894663, 10473403895298186519, 1526699215303891257, 7436329637833083697, 10282925794625328401, 15784041429090275239, 5167115440072839076]
theorem S6_length (b : Bool) : (S6 b).length = 8 := by cases b <;> rfl
theorem S6_in (b : Bool) : inB 64 (S6 b) := by
  unfold inB
  cases b <;> decide

set_option maxRecDepth 100000 in
set_option maxHeartbeats 4000000 in
theorem rstart_false (w : World) : Calls Try.prog 32 #[.bool false] w fun e w' => e = .returned (.agg (nums .u64 (S6 false)).toArray) ∧ Below w.heap.size w w' := by
  go_enter Try.func32, Try.ntmps32
  go_wp2_with (first
    | (with_reducible refine wpList_build rfl 34 _ rfl (by kernel_rfl) ?_; generalize hg : (Program.built _ _ _).getD #[] = cs; (obtain rfl : cs = (nums .u64 (S6 false)).toArray := by (rw [← hg]; kernel_rfl)); clear hg)
    | (with_reducible refine wpList_store_row rfl 34 (.tmp 2) (.tmp 5) rfl w.heap.size (nums .u64 (S6 false)).toArray (by simp [Act.eval, Act.put]) (by simp [Act.eval, Act.put]) 34 #[.int .u64 0, .int .u64 0, .int .u64 0, .int .u64 0, .int .u64 0, .int .u64 0, .int .u64 0, .int .u64 0] (by rw [heap_at, if_pos rfl]) (by kernel_rfl) (by kernel_rfl) (by kernel_rfl) ?_))
  exact bodyPost_ret (results_cell_row rfl _ _ w.heap.size 34 _ (0, 0) _ rfl (setRow_heap _ _ _ _ _ _ (by rw [heap_at, if_pos rfl])) Try.underlying34 rfl (by kernel_rfl)) rfl ⟨rfl, below_setRow' ((Below.refl _ w).alloc (Nat.le_refl _) _) (Nat.le_refl _) _⟩
set_option maxRecDepth 100000 in
set_option maxHeartbeats 4000000 in
theorem rstart_true (w : World) : Calls Try.prog 32 #[.bool true] w fun e w' => e = .returned (.agg (nums .u64 (S6 true)).toArray) ∧ Below w.heap.size w w' := by
  go_enter Try.func32, Try.ntmps32
  go_wp2_with (first
    | (with_reducible refine wpList_build rfl 34 _ rfl (by kernel_rfl) ?_; generalize hg : (Program.built _ _ _).getD #[] = cs; (obtain rfl : cs = (nums .u64 (S6 true)).toArray := by (rw [← hg]; kernel_rfl)); clear hg)
    | (with_reducible refine wpList_store_row rfl 34 (.tmp 2) (.tmp 4) rfl w.heap.size (nums .u64 (S6 true)).toArray (by simp [Act.eval, Act.put]) (by simp [Act.eval, Act.put]) 34 #[.int .u64 0, .int .u64 0, .int .u64 0, .int .u64 0, .int .u64 0, .int .u64 0, .int .u64 0, .int .u64 0] (by rw [heap_at, if_pos rfl]) (by kernel_rfl) (by kernel_rfl) (by kernel_rfl) ?_))
  exact bodyPost_ret (results_cell_row rfl _ _ w.heap.size 34 _ (0, 0) _ rfl (setRow_heap _ _ _ _ _ _ (by rw [heap_at, if_pos rfl])) Try.underlying34 rfl (by kernel_rfl)) rfl ⟨rfl, below_setRow' ((Below.refl _ w).alloc (Nat.le_refl _) _) (Nat.le_refl _) _⟩
theorem rstart_any (b : Bool) (w : World) : Calls Try.prog 32 #[.bool b] w fun e w' => e = .returned (.agg (nums .u64 (S6 b)).toArray) ∧ Below w.heap.size w w' := by
  cases b
  · exact rstart_false w
  · exact rstart_true w

set_option maxRecDepth 100000 in
set_option maxHeartbeats 4000000 in
theorem start_false (w : World) : Calls Try.prog 31 #[.bool false] w fun e w' => e = .returned (.agg (nums .u64 (S6 false)).toArray) ∧ Below w.heap.size w w' := by
  have tokA : True := trivial
  have tokB : True := trivial
  obtain ⟨W2, hW2⟩ : ∃ W2, W2 = ((w.alloc (.cells #[.int .u64 0, .int .u64 0, .int .u64 0, .int .u64 0, .int .u64 0, .int .u64 0, .int .u64 0, .int .u64 0] 34)).alloc (.cells #[.int .u64 0, .int .u64 0, .int .u64 0, .int .u64 0, .int .u64 0, .int .u64 0, .int .u64 0, .int .u64 0, .int .u64 0, .int .u64 0, .int .u64 0, .int .u64 0, .int .u64 0, .int .u64 0, .int .u64 0, .int .u64 0] 67)).setRow (w.heap.size + 1) (nums .u64 (S6 false ++ S6 true)).toArray := ⟨_, rfl⟩
  have hb2 : Hid (W2.heap[w.heap.size + 1]? = some (.cells (nums .u64 (S6 false ++ S6 true)).toArray 67 (0, 0))) := by
    rw [hW2]; exact setRow_heap _ _ _ _ _ _ (by rw [heap_at, if_pos (by simp)])
  have hb1 : Hid (W2.heap[w.heap.size]? = some (.cells #[.int .u64 0, .int .u64 0, .int .u64 0, .int .u64 0, .int .u64 0, .int .u64 0, .int .u64 0, .int .u64 0] 34 (0, 0))) := by
    rw [hW2]; exact (setRow_other _ _ _ _ (by omega)).trans (by rw [heap_at, if_neg (by simp), heap_at, if_pos rfl])
  have hbb : Hid (Below w.heap.size w W2) := by
    rw [hW2]; exact below_setRow' (((Below.refl _ w).alloc (Nat.le_refl _) _).alloc (by simp) _) (by omega) _
  have hr : Hid (W2.rangeAt (w.heap.size + 1) 0 (nums .u64 (S6 false))) := by
    have := World.rangeAt_of_block hb2.out 0 8
    exact this
  have HW := Lib.hid hW2
  clear hW2
  go_enter Try.func31, Try.ntmps31
  go_wp2_with (first
    | (with_reducible refine wpList_build rfl 34 _ rfl (by kernel_rfl) ?_; (have _t := tokA); generalize hg : (Program.built _ _ _).getD #[] = cs; (obtain rfl : cs = (nums .u64 (S6 false)).toArray := by (rw [← hg]; kernel_rfl)); clear hg tokA _t)
    | (with_reducible refine wpList_build rfl 34 _ rfl (by kernel_rfl) ?_; (have _t := tokB); generalize hg : (Program.built _ _ _).getD #[] = cs; (obtain rfl : cs = (nums .u64 (S6 true)).toArray := by (rw [← hg]; kernel_rfl)); clear hg tokB _t)
    | (with_reducible refine wpList_build rfl 67 _ rfl (by kernel_rfl) ?_; generalize hg : (Program.built _ _ _).getD #[] = cs; (obtain rfl : cs = (nums .u64 (S6 false ++ S6 true)).toArray := by (rw [← hg]; kernel_rfl)); clear hg)
    | (with_reducible refine wpList_store_row rfl 67 (.tmp 3) (.tmp 6) rfl (w.heap.size + 1) (nums .u64 (S6 false ++ S6 true)).toArray (by simp [Act.eval, Act.put]) (by simp [Act.eval, Act.put]) 67 #[.int .u64 0, .int .u64 0, .int .u64 0, .int .u64 0, .int .u64 0, .int .u64 0, .int .u64 0, .int .u64 0, .int .u64 0, .int .u64 0, .int .u64 0, .int .u64 0, .int .u64 0, .int .u64 0, .int .u64 0, .int .u64 0] (by rw [heap_at, if_pos (by simp)]) (by kernel_rfl) (by kernel_rfl) (by kernel_rfl) ?_; rw [← HW.out])
    | (with_reducible refine wpList_load_mid rfl 34 (.tmp 10) rfl (w.heap.size + 1) 0 (by simp [Act.eval, Act.put]) (nums .u64 (S6 false)) _ hr.out Try.underlying34 rfl (by kernel_rfl) ?_)
    | (with_reducible refine wpList_store_row rfl 34 (.tmp 2) (.tmp 11) rfl w.heap.size (nums .u64 (S6 false)).toArray (by simp [Act.eval, Act.put]) (by simp [Act.eval, Act.put]) 34 _ hb1.out (by kernel_rfl) (by kernel_rfl) (by kernel_rfl) ?_))
  exact bodyPost_ret (results_cell_row rfl _ _ w.heap.size 34 _ (0, 0) _ rfl (setRow_heap _ _ _ _ _ _ hb1.out) Try.underlying34 rfl (by kernel_rfl)) rfl ⟨rfl, below_setRow' hbb.out (Nat.le_refl _) _⟩
set_option maxRecDepth 100000 in
set_option maxHeartbeats 4000000 in
theorem start_true (w : World) : Calls Try.prog 31 #[.bool true] w fun e w' => e = .returned (.agg (nums .u64 (S6 true)).toArray) ∧ Below w.heap.size w w' := by
  have tokA : True := trivial
  have tokB : True := trivial
  obtain ⟨W2, hW2⟩ : ∃ W2, W2 = ((w.alloc (.cells #[.int .u64 0, .int .u64 0, .int .u64 0, .int .u64 0, .int .u64 0, .int .u64 0, .int .u64 0, .int .u64 0] 34)).alloc (.cells #[.int .u64 0, .int .u64 0, .int .u64 0, .int .u64 0, .int .u64 0, .int .u64 0, .int .u64 0, .int .u64 0, .int .u64 0, .int .u64 0, .int .u64 0, .int .u64 0, .int .u64 0, .int .u64 0, .int .u64 0, .int .u64 0] 67)).setRow (w.heap.size + 1) (nums .u64 (S6 false ++ S6 true)).toArray := ⟨_, rfl⟩
  have hb2 : Hid (W2.heap[w.heap.size + 1]? = some (.cells (nums .u64 (S6 false ++ S6 true)).toArray 67 (0, 0))) := by
    rw [hW2]; exact setRow_heap _ _ _ _ _ _ (by rw [heap_at, if_pos (by simp)])
  have hb1 : Hid (W2.heap[w.heap.size]? = some (.cells #[.int .u64 0, .int .u64 0, .int .u64 0, .int .u64 0, .int .u64 0, .int .u64 0, .int .u64 0, .int .u64 0] 34 (0, 0))) := by
    rw [hW2]; exact (setRow_other _ _ _ _ (by omega)).trans (by rw [heap_at, if_neg (by simp), heap_at, if_pos rfl])
  have hbb : Hid (Below w.heap.size w W2) := by
    rw [hW2]; exact below_setRow' (((Below.refl _ w).alloc (Nat.le_refl _) _).alloc (by simp) _) (by omega) _
  have hr : Hid (W2.rangeAt (w.heap.size + 1) 8 (nums .u64 (S6 true))) := by
    have := World.rangeAt_of_block hb2.out 8 8
    exact this
  have HW := Lib.hid hW2
  clear hW2
  go_enter Try.func31, Try.ntmps31
  go_wp2_with (first
    | (with_reducible refine wpList_build rfl 34 _ rfl (by kernel_rfl) ?_; (have _t := tokA); generalize hg : (Program.built _ _ _).getD #[] = cs; (obtain rfl : cs = (nums .u64 (S6 false)).toArray := by (rw [← hg]; kernel_rfl)); clear hg tokA _t)
    | (with_reducible refine wpList_build rfl 34 _ rfl (by kernel_rfl) ?_; (have _t := tokB); generalize hg : (Program.built _ _ _).getD #[] = cs; (obtain rfl : cs = (nums .u64 (S6 true)).toArray := by (rw [← hg]; kernel_rfl)); clear hg tokB _t)
    | (with_reducible refine wpList_build rfl 67 _ rfl (by kernel_rfl) ?_; generalize hg : (Program.built _ _ _).getD #[] = cs; (obtain rfl : cs = (nums .u64 (S6 false ++ S6 true)).toArray := by (rw [← hg]; kernel_rfl)); clear hg)
    | (with_reducible refine wpList_store_row rfl 67 (.tmp 3) (.tmp 6) rfl (w.heap.size + 1) (nums .u64 (S6 false ++ S6 true)).toArray (by simp [Act.eval, Act.put]) (by simp [Act.eval, Act.put]) 67 #[.int .u64 0, .int .u64 0, .int .u64 0, .int .u64 0, .int .u64 0, .int .u64 0, .int .u64 0, .int .u64 0, .int .u64 0, .int .u64 0, .int .u64 0, .int .u64 0, .int .u64 0, .int .u64 0, .int .u64 0, .int .u64 0] (by rw [heap_at, if_pos (by simp)]) (by kernel_rfl) (by kernel_rfl) (by kernel_rfl) ?_; rw [← HW.out])
    | (with_reducible refine wpList_load_mid rfl 34 (.tmp 8) rfl (w.heap.size + 1) 8 (by simp [Act.eval, Act.put]) (nums .u64 (S6 true)) _ hr.out Try.underlying34 rfl (by kernel_rfl) ?_)
    | (with_reducible refine wpList_store_row rfl 34 (.tmp 2) (.tmp 9) rfl w.heap.size (nums .u64 (S6 true)).toArray (by simp [Act.eval, Act.put]) (by simp [Act.eval, Act.put]) 34 _ hb1.out (by kernel_rfl) (by kernel_rfl) (by kernel_rfl) ?_))
  exact bodyPost_ret (results_cell_row rfl _ _ w.heap.size 34 _ (0, 0) _ rfl (setRow_heap _ _ _ _ _ _ hb1.out) Try.underlying34 rfl (by kernel_rfl)) rfl ⟨rfl, below_setRow' hbb.out (Nat.le_refl _) _⟩
theorem start_any (b : Bool) (w : World) : Calls Try.prog 31 #[.bool b] w fun e w' => e = .returned (.agg (nums .u64 (S6 b)).toArray) ∧ Below w.heap.size w w' := by
  cases b
  · exact start_false w
  · exact start_true w
set_option maxRecDepth 100000 in
set_option maxHeartbeats 4000000 in
theorem block_no (s : List Int) (A0 : Option Addr) (n c0 : Nat) (w : World) (hn : n ≠ 128) :
    Calls Try.prog 27 #[.agg (nums .u64 s).toArray, .slice A0 n c0] w fun e w' => e = .returned (.tuple #[.agg (nums .u64 [0, 0, 0, 0, 0, 0, 0, 0]).toArray, .bool false]) ∧ Below w.heap.size w w' := by
  have h1 : ((n : Int) != 128) = true := by simp; omega
  have h2 : ((n : Int) == 128) = false := by simp; omega
  clear hn
  obtain ⟨W2, hW2⟩ : ∃ W2, W2 = (w.alloc (.cells (nums .u64 s).toArray 34)).alloc (.cells #[.int .u64 0, .int .u64 0, .int .u64 0, .int .u64 0, .int .u64 0, .int .u64 0, .int .u64 0, .int .u64 0] 34) := ⟨_, rfl⟩
  have hb1 : Hid (W2.heap[w.heap.size + 1]? = some (.cells #[.int .u64 0, .int .u64 0, .int .u64 0, .int .u64 0, .int .u64 0, .int .u64 0, .int .u64 0, .int .u64 0] 34 (0, 0))) := by
    rw [hW2, heap_at, if_pos (by simp)]; rfl
  have hbb : Hid (Below w.heap.size w W2) := by
    rw [hW2]; exact ((Below.refl _ w).alloc (Nat.le_refl _) _).alloc (by simp) _
  have HW := Lib.hid hW2
  clear hW2
  go_enter Try.func27, Try.ntmps27
  go_wp2_with (first
    | (with_reducible refine wpList_build rfl 34 _ rfl (by kernel_rfl) ?_; generalize hg : (Program.built _ _ _).getD #[] = cs; (obtain rfl : cs = (nums .u64 [0, 0, 0, 0, 0, 0, 0, 0]).toArray := by (rw [← hg]; kernel_rfl)); clear hg)
    | (rw [← HW.out]; with_reducible refine wpList_store_row rfl 34 (.tmp 4) (.tmp 23) rfl (w.heap.size + 1) (nums .u64 [0, 0, 0, 0, 0, 0, 0, 0]).toArray (by simp [Act.eval, Act.put]) (by simp [Act.eval, Act.put]) 34 _ hb1.out (by kernel_rfl) (by kernel_rfl) (by kernel_rfl) ?_))
  exact bodyPost_ret (results_cell_row2 (p := 4) (q := 5) (ty := 34) (by kernel_rfl) _ _ (w.heap.size + 1) 34 _ (0, 0) _ rfl (setRow_heap _ _ _ _ _ _ hb1.out) Try.underlying34 rfl (by kernel_rfl)) rfl ⟨rfl, below_setRow' hbb.out (by omega) _⟩
set_option maxRecDepth 100000 in
set_option maxHeartbeats 4000000 in
theorem rblock_no (s : List Int) (A0 : Option Addr) (n c0 : Nat) (w : World) (hn : n ≠ 128) :
    Calls Try.prog 28 #[.agg (nums .u64 s).toArray, .slice A0 n c0] w fun e w' => e = .returned (.tuple #[.agg (nums .u64 [0, 0, 0, 0, 0, 0, 0, 0]).toArray, .bool false]) ∧ Below w.heap.size w w' := by
  have h1 : ((n : Int) != 128) = true := by simp; omega
  have h2 : ((n : Int) == 128) = false := by simp; omega
  clear hn
  obtain ⟨W2, hW2⟩ : ∃ W2, W2 = (w.alloc (.cells (nums .u64 s).toArray 34)).alloc (.cells #[.int .u64 0, .int .u64 0, .int .u64 0, .int .u64 0, .int .u64 0, .int .u64 0, .int .u64 0, .int .u64 0] 34) := ⟨_, rfl⟩
  have hb1 : Hid (W2.heap[w.heap.size + 1]? = some (.cells #[.int .u64 0, .int .u64 0, .int .u64 0, .int .u64 0, .int .u64 0, .int .u64 0, .int .u64 0, .int .u64 0] 34 (0, 0))) := by
    rw [hW2, heap_at, if_pos (by simp)]; rfl
  have hbb : Hid (Below w.heap.size w W2) := by
    rw [hW2]; exact ((Below.refl _ w).alloc (Nat.le_refl _) _).alloc (by simp) _
  have HW := Lib.hid hW2
  clear hW2
  go_enter Try.func28, Try.ntmps28
  go_wp2_with (first
    | (with_reducible refine wpList_build rfl 34 _ rfl (by kernel_rfl) ?_; generalize hg : (Program.built _ _ _).getD #[] = cs; (obtain rfl : cs = (nums .u64 [0, 0, 0, 0, 0, 0, 0, 0]).toArray := by (rw [← hg]; kernel_rfl)); clear hg)
    | (rw [← HW.out]; with_reducible refine wpList_store_row rfl 34 (.tmp 4) (.tmp 25) rfl (w.heap.size + 1) (nums .u64 [0, 0, 0, 0, 0, 0, 0, 0]).toArray (by simp [Act.eval, Act.put]) (by simp [Act.eval, Act.put]) 34 _ hb1.out (by kernel_rfl) (by kernel_rfl) (by kernel_rfl) ?_))
  exact bodyPost_ret (results_cell_row2 (p := 4) (q := 5) (ty := 34) (by kernel_rfl) _ _ (w.heap.size + 1) 34 _ (0, 0) _ rfl (setRow_heap _ _ _ _ _ _ hb1.out) Try.underlying34 rfl (by kernel_rfl)) rfl ⟨rfl, below_setRow' hbb.out (by omega) _⟩
end Go.Proofs.Ytmmbbkdbebfhiaa.H
