/- The words that the rounds add, as the program makes them. -/
import Derived.Test.YtmmbbkdbebfhiaaSha
import Derived.Test.YtmmbbkdbebfhiaaHBase
import Derived.Laws.Tables
set_option linter.unusedVariables false
set_option linter.unusedSimpArgs false
namespace Go.Proofs.Ytmmbbkdbebfhiaa.H
open Go.RowKit Go.Proofs.YtmmbbkdbebfhiaaW.PrintWords Go.Proofs.YtmmbbkdbebfhiaaW.PrintLast Go.Proofs.Ytmmbbkdbebfhiaa.Sha
attribute [local go_sem] Oper.semAt_some

theorem below_setRow' {B g : Nat} {w0 w : World} (hb : Below B w0 w) (hBg : B ≤ g) (cs : Array Value) : Below B w0 (w.setRow g cs) :=
  hb.trans ⟨rfl, rfl, rfl, by simp, fun k hk => setRow_other w g k cs (by omega)⟩
set_option maxRecDepth 100000 in
set_option maxHeartbeats 4000000 in
theorem keys_any (w : World) : Calls Try.prog 50 #[] w fun e w' => e = .returned (.agg (nums .u64 K6).toArray) ∧ Below w.heap.size w w' := by
  go_enter Try.func50, Try.ntmps50
  go_wp2_with (first
    | (with_reducible refine wpList_build rfl 62 _ rfl (by kernel_rfl) ?_; generalize hg : (Program.built _ _ _).getD #[] = cs; (obtain rfl : cs = (nums .u64 K6).toArray := by (rw [← hg]; kernel_rfl)); clear hg)
    | (with_reducible refine wpList_store_row rfl 62 (.tmp 0) (.tmp 1) rfl w.heap.size (nums .u64 K6).toArray (by simp [Act.eval, Act.put]) (by simp [Act.eval, Act.put]) 62 Try.zeroCells62 (by rw [heap_at, if_pos rfl]) (by kernel_rfl) (by kernel_rfl) (by kernel_rfl) ?_))
  exact bodyPost_ret (results_cell_row rfl _ _ w.heap.size 62 _ (0, 0) _ rfl (setRow_heap _ _ _ _ _ _ (by rw [heap_at, if_pos rfl])) Try.underlying62 rfl (by kernel_rfl)) rfl ⟨rfl, below_setRow' ((Below.refl _ w).alloc (Nat.le_refl _) _) (Nat.le_refl _) _⟩
end Go.Proofs.Ytmmbbkdbebfhiaa.H
