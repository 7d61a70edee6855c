/- The words that the rounds of sha256 add, and where its hashes begin, as the program and the reference make them. -/
import Derived.Test.YtmmbbkdbebfhiaaSha5
import Derived.Test.YtmmbbkdbebfhiaaHKeys
set_option linter.unusedVariables false
set_option linter.unusedSimpArgs false
namespace Go.Proofs.Ytmmbbkdbebfhiaa.H
open Go.RowKit Go.Proofs.YtmmbbkdbebfhiaaW.PrintWords Go.Proofs.YtmmbbkdbebfhiaaW.PrintLast Go.Proofs.Ytmmbbkdbebfhiaa.Sha
attribute [local go_sem] Oper.semAt_some

set_option maxRecDepth 100000 in
set_option maxHeartbeats 4000000 in
theorem keys5_any (w : World) : Calls Try.prog 71 #[] w fun e w' => e = .returned (.agg (nums .u32 K5).toArray) ∧ Below w.heap.size w w' := by
  go_enter Try.func71, Try.ntmps71
  go_wp2_with (first
    | (with_reducible refine wpList_build rfl 82 _ rfl (by kernel_rfl) ?_; generalize hg : (Program.built _ _ _).getD #[] = cs; (obtain rfl : cs = (nums .u32 K5).toArray := by (rw [← hg]; kernel_rfl)); clear hg)
    | (with_reducible refine wpList_store_row rfl 82 (.tmp 0) (.tmp 1) rfl w.heap.size (nums .u32 K5).toArray (by simp [Act.eval, Act.put]) (by simp [Act.eval, Act.put]) 82 #[.int .u32 0, .int .u32 0, .int .u32 0, .int .u32 0, .int .u32 0, .int .u32 0, .int .u32 0, .int .u32 0, .int .u32 0, .int .u32 0, .int .u32 0, .int .u32 0, .int .u32 0, .int .u32 0, .int .u32 0, .int .u32 0, .int .u32 0, .int .u32 0, .int .u32 0, .int .u32 0, .int .u32 0, .int .u32 0, .int .u32 0, .int .u32 0, .int .u32 0, .int .u32 0, .int .u32 0, .int .u32 0, .int .u32 0, .int .u32 0, .int .u32 0, .int .u32 0, .int .u32 0, .int .u32 0, .int .u32 0, .int .u32 0, .int .u32 0, .int .u32 0, .int .u32 0, .int .u32 0, .int .u32 0, .int .u32 0, .int .u32 0, .int .u32 0, .int .u32 0, .int .u32 0, .int .u32 0, .int .u32 0, .int .u32 0, .int .u32 0, .int .u32 0, .int .u32 0, .int .u32 0, .int .u32 0, .int .u32 0, .int .u32 0, .int .u32 0, .int .u32 0, .int .u32 0, .int .u32 0, .int .u32 0, .int .u32 0, .int .u32 0, .int .u32 0] (by rw [heap_at, if_pos rfl]) (by kernel_rfl) (by kernel_rfl) (by kernel_rfl) ?_))
  exact bodyPost_ret (results_cell_row rfl _ _ w.heap.size 82 _ (0, 0) _ rfl (setRow_heap _ _ _ _ _ _ (by rw [heap_at, if_pos rfl])) Try.underlying82 rfl (by kernel_rfl)) rfl ⟨rfl, below_setRow' ((Below.refl _ w).alloc (Nat.le_refl _) _) (Nat.le_refl _) _⟩

def S5 : List Int := [1779033703, 3144134277, 1013904242, 2773480762, 1359893119, 2600822924, 528734635, 1541459225]
theorem S5_length : S5.length = 8 := rfl
theorem S5_in : inB 32 S5 := by unfold inB; decide
set_option maxRecDepth 100000 in
set_option maxHeartbeats 4000000 in
theorem start5_any (w : World) : Calls Try.prog 61 #[] w fun e w' => e = .returned (.agg (nums .u32 S5).toArray) ∧ Below w.heap.size w w' := by
  go_enter Try.func61, Try.ntmps61
  go_wp2_with (first
    | (with_reducible refine wpList_build rfl 74 _ rfl (by kernel_rfl) ?_; generalize hg : (Program.built _ _ _).getD #[] = cs; (obtain rfl : cs = (nums .u32 S5).toArray := by (rw [← hg]; kernel_rfl)); clear hg)
    | (with_reducible refine wpList_store_row rfl 74 (.tmp 0) (.tmp 1) rfl w.heap.size (nums .u32 S5).toArray (by simp [Act.eval, Act.put]) (by simp [Act.eval, Act.put]) 74 #[.int .u32 0, .int .u32 0, .int .u32 0, .int .u32 0, .int .u32 0, .int .u32 0, .int .u32 0, .int .u32 0] (by rw [heap_at, if_pos rfl]) (by kernel_rfl) (by kernel_rfl) (by kernel_rfl) ?_))
  exact bodyPost_ret (results_cell_row rfl _ _ w.heap.size 74 _ (0, 0) _ rfl (setRow_heap _ _ _ _ _ _ (by rw [heap_at, if_pos rfl])) Try.underlying74 rfl (by kernel_rfl)) rfl ⟨rfl, below_setRow' ((Below.refl _ w).alloc (Nat.le_refl _) _) (Nat.le_refl _) _⟩
set_option maxRecDepth 100000 in
set_option maxHeartbeats 4000000 in
theorem rstart5_any (w : World) : Calls Try.prog 64 #[] w fun e w' => e = .returned (.agg (nums .u32 S5).toArray) ∧ Below w.heap.size w w' := by
  go_enter Try.func64, Try.ntmps64
  go_wp2_with (first
    | (with_reducible refine wpList_build rfl 74 _ rfl (by kernel_rfl) ?_; generalize hg : (Program.built _ _ _).getD #[] = cs; (obtain rfl : cs = (nums .u32 S5).toArray := by (rw [← hg]; kernel_rfl)); clear hg)
    | (with_reducible refine wpList_store_row rfl 74 (.tmp 0) (.tmp 1) rfl w.heap.size (nums .u32 S5).toArray (by simp [Act.eval, Act.put]) (by simp [Act.eval, Act.put]) 74 #[.int .u32 0, .int .u32 0, .int .u32 0, .int .u32 0, .int .u32 0, .int .u32 0, .int .u32 0, .int .u32 0] (by rw [heap_at, if_pos rfl]) (by kernel_rfl) (by kernel_rfl) (by kernel_rfl) ?_))
  exact bodyPost_ret (results_cell_row rfl _ _ w.heap.size 74 _ (0, 0) _ rfl (setRow_heap _ _ _ _ _ _ (by rw [heap_at, if_pos rfl])) Try.underlying74 rfl (by kernel_rfl)) rfl ⟨rfl, below_setRow' ((Below.refl _ w).alloc (Nat.le_refl _) _) (Nat.le_refl _) _⟩
end Go.Proofs.Ytmmbbkdbebfhiaa.H
