/- The words that the rounds add, as the program makes them. -/
import Derived.Test.YtincnnmojgphmaaSha
import Derived.Test.YtincnnmojgphmaaHBase
import Derived.Laws.Tables
import Derived.Deep.QuietTactic
import Derived.BigQuiet
import Derived.StillTailTactics
import Derived.Deep.RegionLaw
import Derived.Deep.RegionHeld3
import Derived.IntWalk
import Derived.Laws.CopyRow
set_option linter.unusedVariables false
set_option linter.unusedSimpArgs false
namespace Go.Proofs.Ytincnnmojgphmaa.H
open Go.RowKit Go.Proofs.YtincnnmojgphmaaW.PrintWords Go.Proofs.YtincnnmojgphmaaW.PrintLast Go.Proofs.Ytincnnmojgphmaa.Sha
attribute [local go_sem] Oper.semAt_some

theorem below_setRow' {B g : Nat} {w0 w : World} (hb : Below B w0 w) (hBg : B ≤ g) (cs : Array Value) : Below B w0 (w.setRow g cs) :=
  hb.trans ⟨rfl, rfl, rfl, by simp, fun k hk => setRow_other w g k cs (by omega)⟩
set_option maxRecDepth 100000 in
set_option maxHeartbeats 4000000 in
theorem keys_any (w : World) : Calls Try.prog 90 #[] w fun e w' => e = .returned (.agg (nums .u64 K6).toArray) ∧ Below w.heap.size w w' := by
  go_enter Try.func90, Try.ntmps90
  go_wp2_with (first
    | (with_reducible refine wpList_build rfl 108 _ rfl (by kernel_rfl) ?_; generalize hg : (Program.built _ _ _).getD #[] = cs; (obtain rfl : cs = (nums .u64 K6).toArray := by (rw [← hg]; kernel_rfl)); clear hg)
    | (with_reducible refine wpList_store_row rfl 108 (.tmp 0) (.tmp 1) rfl w.heap.size (nums .u64 K6).toArray (by simp [Act.eval, Act.put]) (by simp [Act.eval, Act.put]) 108 Try.zeroCells108 (by rw [heap_at, if_pos rfl]) (by kernel_rfl) (by kernel_rfl) (by kernel_rfl) ?_))
  exact bodyPost_ret (results_cell_row rfl _ _ w.heap.size 108 _ (0, 0) _ rfl (setRow_heap _ _ _ _ _ _ (by rw [heap_at, if_pos rfl])) Try.underlying108 rfl (by kernel_rfl)) rfl ⟨rfl, below_setRow' ((Below.refl _ w).alloc (Nat.le_refl _) _) (Nat.le_refl _) _⟩
end Go.Proofs.Ytincnnmojgphmaa.H

set_option linter.unusedVariables false
set_option linter.unusedSimpArgs false
namespace Go.Proofs.Ytincnnmojgphmaa.H
open Go.RowKit Go.Proofs.YtincnnmojgphmaaW.PrintWords Go.Proofs.YtincnnmojgphmaaW.PrintLast Go.Proofs.Ytincnnmojgphmaa.Sha
attribute [local go_sem] Oper.semAt_some

set_option maxRecDepth 100000 in
theorem turn_any (x : Int) (n : Nat) (hn : n ≤ 64) (w : World) : Calls Try.prog 89 #[.int .u64 x, .int .i64 (n : Int)] w fun e w' => e = .returned (.int .u64 (R6 n x)) ∧ Drawn0 w w' := by
  have h0 : (0 : Int) ≤ (n : Int) := by omega
  have h1 : (n : Int) ≤ 64 := by omega
  have h2 : (0 : Int) ≤ 64 - (n : Int) := by omega
  go_enter Try.func89, Try.ntmps89
  go_wp2
  go_quiet (fail)
  go_wp2
  exact bodyPost_ret (by simp [results, go_sem]; rfl) rfl ⟨rfl, ⟨⟨_, rfl⟩⟩⟩

theorem turn_q (x : Int) (n : Nat) (hn : n ≤ 64) (w : World) (m : Nat) : Calls Try.prog 89 #[.int .u64 x, .int .i64 (n : Int)] (w.drewN m) fun e w'' => e = .returned (.int .u64 (R6 n x)) ∧ ∃ j, w'' = w.drewN j :=
  Calls.quiet_of ((turn_any x n hn (w.drewN m)).mono fun _ _ h => ⟨h.1, h.2.out⟩)

theorem turn1 (x : Int) (w : World) : Calls Try.prog 89 #[.int .u64 x, .int .i64 1] w fun e w' => e = .returned (.int .u64 (R6 1 x)) ∧ Drawn0 w w' := turn_any x 1 (by decide) w
theorem turnq1 (x : Int) (w : World) (m : Nat) : Calls Try.prog 89 #[.int .u64 x, .int .i64 1] (w.drewN m) fun e w'' => e = .returned (.int .u64 (R6 1 x)) ∧ ∃ j, w'' = w.drewN j := turn_q x 1 (by decide) w m
theorem turn8 (x : Int) (w : World) : Calls Try.prog 89 #[.int .u64 x, .int .i64 8] w fun e w' => e = .returned (.int .u64 (R6 8 x)) ∧ Drawn0 w w' := turn_any x 8 (by decide) w
theorem turnq8 (x : Int) (w : World) (m : Nat) : Calls Try.prog 89 #[.int .u64 x, .int .i64 8] (w.drewN m) fun e w'' => e = .returned (.int .u64 (R6 8 x)) ∧ ∃ j, w'' = w.drewN j := turn_q x 8 (by decide) w m
theorem turn19 (x : Int) (w : World) : Calls Try.prog 89 #[.int .u64 x, .int .i64 19] w fun e w' => e = .returned (.int .u64 (R6 19 x)) ∧ Drawn0 w w' := turn_any x 19 (by decide) w
theorem turnq19 (x : Int) (w : World) (m : Nat) : Calls Try.prog 89 #[.int .u64 x, .int .i64 19] (w.drewN m) fun e w'' => e = .returned (.int .u64 (R6 19 x)) ∧ ∃ j, w'' = w.drewN j := turn_q x 19 (by decide) w m
theorem turn61 (x : Int) (w : World) : Calls Try.prog 89 #[.int .u64 x, .int .i64 61] w fun e w' => e = .returned (.int .u64 (R6 61 x)) ∧ Drawn0 w w' := turn_any x 61 (by decide) w
theorem turnq61 (x : Int) (w : World) (m : Nat) : Calls Try.prog 89 #[.int .u64 x, .int .i64 61] (w.drewN m) fun e w'' => e = .returned (.int .u64 (R6 61 x)) ∧ ∃ j, w'' = w.drewN j := turn_q x 61 (by decide) w m
theorem turn14 (x : Int) (w : World) : Calls Try.prog 89 #[.int .u64 x, .int .i64 14] w fun e w' => e = .returned (.int .u64 (R6 14 x)) ∧ Drawn0 w w' := turn_any x 14 (by decide) w
theorem turnq14 (x : Int) (w : World) (m : Nat) : Calls Try.prog 89 #[.int .u64 x, .int .i64 14] (w.drewN m) fun e w'' => e = .returned (.int .u64 (R6 14 x)) ∧ ∃ j, w'' = w.drewN j := turn_q x 14 (by decide) w m
theorem turn18 (x : Int) (w : World) : Calls Try.prog 89 #[.int .u64 x, .int .i64 18] w fun e w' => e = .returned (.int .u64 (R6 18 x)) ∧ Drawn0 w w' := turn_any x 18 (by decide) w
theorem turnq18 (x : Int) (w : World) (m : Nat) : Calls Try.prog 89 #[.int .u64 x, .int .i64 18] (w.drewN m) fun e w'' => e = .returned (.int .u64 (R6 18 x)) ∧ ∃ j, w'' = w.drewN j := turn_q x 18 (by decide) w m
theorem turn41 (x : Int) (w : World) : Calls Try.prog 89 #[.int .u64 x, .int .i64 41] w fun e w' => e = .returned (.int .u64 (R6 41 x)) ∧ Drawn0 w w' := turn_any x 41 (by decide) w
theorem turnq41 (x : Int) (w : World) (m : Nat) : Calls Try.prog 89 #[.int .u64 x, .int .i64 41] (w.drewN m) fun e w'' => e = .returned (.int .u64 (R6 41 x)) ∧ ∃ j, w'' = w.drewN j := turn_q x 41 (by decide) w m
theorem turn28 (x : Int) (w : World) : Calls Try.prog 89 #[.int .u64 x, .int .i64 28] w fun e w' => e = .returned (.int .u64 (R6 28 x)) ∧ Drawn0 w w' := turn_any x 28 (by decide) w
theorem turnq28 (x : Int) (w : World) (m : Nat) : Calls Try.prog 89 #[.int .u64 x, .int .i64 28] (w.drewN m) fun e w'' => e = .returned (.int .u64 (R6 28 x)) ∧ ∃ j, w'' = w.drewN j := turn_q x 28 (by decide) w m
theorem turn34 (x : Int) (w : World) : Calls Try.prog 89 #[.int .u64 x, .int .i64 34] w fun e w' => e = .returned (.int .u64 (R6 34 x)) ∧ Drawn0 w w' := turn_any x 34 (by decide) w
theorem turnq34 (x : Int) (w : World) (m : Nat) : Calls Try.prog 89 #[.int .u64 x, .int .i64 34] (w.drewN m) fun e w'' => e = .returned (.int .u64 (R6 34 x)) ∧ ∃ j, w'' = w.drewN j := turn_q x 34 (by decide) w m
theorem turn39 (x : Int) (w : World) : Calls Try.prog 89 #[.int .u64 x, .int .i64 39] w fun e w' => e = .returned (.int .u64 (R6 39 x)) ∧ Drawn0 w w' := turn_any x 39 (by decide) w
theorem turnq39 (x : Int) (w : World) (m : Nat) : Calls Try.prog 89 #[.int .u64 x, .int .i64 39] (w.drewN m) fun e w'' => e = .returned (.int .u64 (R6 39 x)) ∧ ∃ j, w'' = w.drewN j := turn_q x 39 (by decide) w m

theorem quiet_add {P : Program} {f : FuncId} {args : Array Value} {w : World} {a n : Nat} {v : Value}
    (h : Calls P f args (w.drewN (a + n)) fun e w' => e = .returned v ∧ ∃ m, w' = (w.drewN (a + n)).drewN m) :
    Calls P f args (w.drewN (a + n)) fun e w'' => e = .returned v ∧ ∃ m, w'' = w.drewN (a + m) :=
  h.mono fun _ _ ⟨he, m, hm⟩ => ⟨he, n + m, by rw [hm, World.drewN_drewN, Nat.add_assoc]⟩
theorem turnr14 (x : Int) (w : World) (a m : Nat) : Calls Try.prog 89 #[.int .u64 x, .int .i64 14] (w.drewN (a + m)) fun e w'' => e = .returned (.int .u64 (R6 14 x)) ∧ ∃ j, w'' = w.drewN (a + j) := quiet_add ((turn14 x (w.drewN (a + m))).mono fun _ _ h => ⟨h.1, h.2.out⟩)
theorem turnr18 (x : Int) (w : World) (a m : Nat) : Calls Try.prog 89 #[.int .u64 x, .int .i64 18] (w.drewN (a + m)) fun e w'' => e = .returned (.int .u64 (R6 18 x)) ∧ ∃ j, w'' = w.drewN (a + j) := quiet_add ((turn18 x (w.drewN (a + m))).mono fun _ _ h => ⟨h.1, h.2.out⟩)
theorem turnr41 (x : Int) (w : World) (a m : Nat) : Calls Try.prog 89 #[.int .u64 x, .int .i64 41] (w.drewN (a + m)) fun e w'' => e = .returned (.int .u64 (R6 41 x)) ∧ ∃ j, w'' = w.drewN (a + j) := quiet_add ((turn41 x (w.drewN (a + m))).mono fun _ _ h => ⟨h.1, h.2.out⟩)
theorem turnr28 (x : Int) (w : World) (a m : Nat) : Calls Try.prog 89 #[.int .u64 x, .int .i64 28] (w.drewN (a + m)) fun e w'' => e = .returned (.int .u64 (R6 28 x)) ∧ ∃ j, w'' = w.drewN (a + j) := quiet_add ((turn28 x (w.drewN (a + m))).mono fun _ _ h => ⟨h.1, h.2.out⟩)
theorem turnr34 (x : Int) (w : World) (a m : Nat) : Calls Try.prog 89 #[.int .u64 x, .int .i64 34] (w.drewN (a + m)) fun e w'' => e = .returned (.int .u64 (R6 34 x)) ∧ ∃ j, w'' = w.drewN (a + j) := quiet_add ((turn34 x (w.drewN (a + m))).mono fun _ _ h => ⟨h.1, h.2.out⟩)
theorem turnr39 (x : Int) (w : World) (a m : Nat) : Calls Try.prog 89 #[.int .u64 x, .int .i64 39] (w.drewN (a + m)) fun e w'' => e = .returned (.int .u64 (R6 39 x)) ∧ ∃ j, w'' = w.drewN (a + j) := quiet_add ((turn39 x (w.drewN (a + m))).mono fun _ _ h => ⟨h.1, h.2.out⟩)

theorem cell_far {W : World} {g i j : Nat} {v x : Value} (h : W.cell? ⟨g, i, none⟩ = some x) (hne : i ≠ j) : (W.setCell ⟨g, j, none⟩ v).cell? ⟨g, i, none⟩ = some x := by
  have h2 : (⟨g, j, none⟩ : Addr) ≠ ⟨g, i, none⟩ := by simp [hne.symm]
  rw [World.cell?_setCell_other _ _ _ _ h2]
  exact h
/-- Bytes that lie in elder memory are read the same where that memory is the same. -/
theorem C_same {w W : World} {k : IntKind} {A : Option Addr} {n : Nat} {xs : List Int} (h : Kd.C (Kd.int k) w A n xs) (hs : ∀ b, b < w.heap.size → W.heap[b]? = w.heap[b]?) : Kd.C (Kd.int k) W A n xs := by
  have h1 := Kd.reads_of_C (d := (0 : Int)) h
  refine Kd.C_of_reads (d := (0 : Int)) (h1 := fun _ => rfl) ⟨h1.1, h1.2.1, fun hn => ?_⟩
  obtain ⟨ad, e, hc⟩ := h1.2.2 hn
  refine ⟨ad, e, fun j hj => ?_⟩
  have h2 := hc j hj
  rw [World.cell?_of_block (w := w) (hs _ (World.block_lt_of_cell? w _ h2))]
  exact h2
/-- The blocks of the walk: the state that came in, the result, the words. -/
structure BI (w : World) (s : List Int) (W : List Int) (wr : World) : Prop where
  bs : wr.heap[w.heap.size]? = some (.cells (nums .u64 s).toArray 93 (0, 0))
  bo : wr.heap[w.heap.size + 1]? = some (.cells (nums .u64 [0, 0, 0, 0, 0, 0, 0, 0]).toArray 93 (0, 0))
  bw : wr.heap[w.heap.size + 2]? = some (.cells (nums .u64 W).toArray 108 (0, 0))
  below : Below w.heap.size w wr
  size : wr.heap.size = w.heap.size + 3

theorem BI.put {w : World} {s W : List Int} {wr : World} (h : BI w s W wr) (n i : Nat) (v : Int) : BI w s (W.set i v) ((wr.drewN n).setCell ⟨w.heap.size + 1 + 1, i, none⟩ (.int .u64 v)) := by
  have far : ∀ k o, k ≠ w.heap.size + 2 → wr.heap[k]? = some o → ((wr.drewN n).setCell ⟨w.heap.size + 1 + 1, i, none⟩ (.int .u64 v)).heap[k]? = some o := fun k o hk ho => (Below.heap_setCell _ _ _ _ (by show k ≠ w.heap.size + 1 + 1; omega)).trans ho
  refine ⟨far _ _ (by omega) h.bs, far _ _ (by omega) h.bo, ?_, (h.below.trans ⟨rfl, rfl, rfl, Nat.le_refl _, fun _ _ => rfl⟩ : Below w.heap.size w (wr.drewN n)).setCell (by show w.heap.size ≤ w.heap.size + 1 + 1; omega) _, by simpa [World.setCell] using h.size⟩
  have := blk_set (w := wr.drewN n) (g := w.heap.size + 1 + 1) h.bw i (.int .u64 v)
  rw [this]
  simp [nums, List.map_set]

theorem run_index_arr (P : Program) (ty elem : TypeId) (len : Nat) (cs : Array Value) (i : Nat) (v : Value) (k : IntKind) (w : World) (hu : P.underlying ty = some (.array len elem)) (he : P.underlying elem = some (.int k)) (hz : (P.info? elem).map (·.size) = some 1) (hi : i < len) (hv : cs[i]? = some v) :
    (Instr.index ty (.agg cs) (.int .i64 (i : Int))).run P w = .ok v w := by
  have hii : (0 : Int) ≤ (i : Int) ∧ (i : Int) < (len : Int) := ⟨by omega, by omega⟩
  cases hq : P.info? elem with
  | none => simp [hq] at hz
  | some q =>
    have hs : q.size = 1 := by simpa [hq] using hz
    simp [Instr.index, asIntOf, run_underlying hu, run_underlying he, part, isAgg, sizeOf, typeInfo, hq, hs, hii, hv]
    intro hh
    omega

/-- .. with the state that the rounds turn. -/
structure BR (w : World) (s W r : List Int) (wr : World) : Prop where
  bs : wr.heap[w.heap.size]? = some (.cells (nums .u64 s).toArray 93 (0, 0))
  bo : wr.heap[w.heap.size + 1]? = some (.cells (nums .u64 [0, 0, 0, 0, 0, 0, 0, 0]).toArray 93 (0, 0))
  bw : wr.heap[w.heap.size + 2]? = some (.cells (nums .u64 W).toArray 108 (0, 0))
  br : wr.heap[w.heap.size + 3]? = some (.cells (nums .u64 r).toArray 93 (0, 0))
  below : Below w.heap.size w wr
  size : w.heap.size + 4 ≤ wr.heap.size
theorem BR.start {w : World} {s W : List Int} {wr : World} (h : BI w s W wr) : BR w s W s ((wr.alloc (.cells #[.int .u64 0, .int .u64 0, .int .u64 0, .int .u64 0, .int .u64 0, .int .u64 0, .int .u64 0, .int .u64 0] 93)).setRow (w.heap.size + 3) (nums .u64 s).toArray) := by
  have hz := h.size
  have far : ∀ k o, k < w.heap.size + 3 → wr.heap[k]? = some o → ((wr.alloc (.cells #[.int .u64 0, .int .u64 0, .int .u64 0, .int .u64 0, .int .u64 0, .int .u64 0, .int .u64 0, .int .u64 0] 93)).setRow (w.heap.size + 3) (nums .u64 s).toArray).heap[k]? = some o := fun k o hk ho => by
    rw [setRow_other _ _ _ _ (by omega), heap_at, if_neg (by omega)]; exact ho
  refine ⟨far _ _ (by omega) h.bs, far _ _ (by omega) h.bo, far _ _ (by omega) h.bw, setRow_heap _ _ _ _ _ _ (by rw [heap_at, if_pos (by omega)]), below_setRow' (h.below.alloc (by omega) _) (by omega) _, by simp; omega⟩
theorem BR.later {w : World} {s W r : List Int} {wr w2 : World} (h : BR w s W r wr) (hb : Below wr.heap.size wr w2) : BR w s W r w2 :=
  have hz := h.size
  ⟨(hb.block _ (by omega)).trans h.bs, (hb.block _ (by omega)).trans h.bo, (hb.block _ (by omega)).trans h.bw, (hb.block _ (by omega)).trans h.br, h.below.trans (hb.mono (by omega)), Nat.le_trans h.size hb.size⟩

theorem BR.at8 {w : World} {s W r r' : List Int} {wr : World} (h : BR w s W r wr) (e : r = r') : BR w s W r' wr := e ▸ h
theorem BR.put {w : World} {s W r : List Int} {wr : World} (h : BR w s W r wr) (i : Nat) (v : Int) : BR w s W (r.set i v) (wr.setCell ⟨w.heap.size + 3, i, none⟩ (.int .u64 v)) := by
  have far : ∀ k o, k ≠ w.heap.size + 3 → wr.heap[k]? = some o → (wr.setCell ⟨w.heap.size + 3, i, none⟩ (.int .u64 v)).heap[k]? = some o := fun k o hk ho => (Below.heap_setCell _ _ _ _ hk).trans ho
  refine ⟨far _ _ (by omega) h.bs, far _ _ (by omega) h.bo, far _ _ (by omega) h.bw, ?_, h.below.setCell (by show w.heap.size ≤ w.heap.size + 3; omega) _, by simpa [World.setCell] using h.size⟩
  rw [blk_set h.br i (.int .u64 v)]
  simp [nums, List.map_set]
theorem BR.puts {w : World} {s W r : List Int} {wr : World} (h : BR w s W r wr) (i : Nat) (v : Int) : BR w (s.set i v) W r (wr.setCell ⟨w.heap.size, i, none⟩ (.int .u64 v)) := by
  have far : ∀ k o, k ≠ w.heap.size → wr.heap[k]? = some o → (wr.setCell ⟨w.heap.size, i, none⟩ (.int .u64 v)).heap[k]? = some o := fun k o hk ho => (Below.heap_setCell _ _ _ _ hk).trans ho
  refine ⟨?_, far _ _ (by omega) h.bo, far _ _ (by omega) h.bw, far _ _ (by omega) h.br, h.below.setCell (Nat.le_refl _) _, by simpa [World.setCell] using h.size⟩
  rw [blk_set h.bs i (.int .u64 v)]
  simp [nums, List.map_set]
theorem BR.draw {w : World} {s W r : List Int} {wr : World} (h : BR w s W r wr) : BR w s W r wr.drew :=
  ⟨h.bs, h.bo, h.bw, h.br, h.below.drew, h.size⟩
theorem results_cell_row2 {P : Program} {fn : Func} {p q : Tmp} {ty : TypeId} (h : fn.results = #[.cell p ty, .tmp q]) (tmps : Array Value) (w : World) (g : Nat) (t : TypeId) (cs : Array Value) (fr : Nat × Nat) (d : TypeDesc)
    (hp : tmps.getD p undef = .pointer (some ⟨g, 0, none⟩)) (hg : w.heap[g]? = some (.cells cs t fr))
    (hu : P.underlying ty = some d) (hd : (match d with | .struct _ | .array _ _ => true | _ => false) = true) (hi : (P.info? ty).map (·.size) = some cs.size) :
    (results fn tmps).run P w = .ok (.tuple #[.agg cs, tmps.getD q undef]) w := by
  have hp' : tmps[p]?.getD undef = .pointer (some ⟨g, 0, none⟩) := by simpa using hp
  simp [results, h, hp', asAddr, run_loadVar_row w g t ty cs fr d hg hu hd hi]
theorem BR.copy {w : World} {s V : List Int} {x0 x1 x2 x3 x4 x5 x6 x7 : Int} {wr : World} (h : BR w s V [x0, x1, x2, x3, x4, x5, x6, x7] wr) : ∀ W : World, W.heap = wr.heap → W.os = wr.os → W.tape = wr.tape → W.output = wr.output →
    (∀ ty, (Builtin.copy_ #[117, 117] ty #[.slice (some ⟨w.heap.size + 3, 1, none⟩) 7 7, .slice (some ⟨w.heap.size + 3, 0, none⟩) 7 8]).run Try.prog W = .ok (goInt 7) (W.setRow (w.heap.size + 3) (nums .u64 [x0, x0, x1, x2, x3, x4, x5, x6]).toArray)) ∧
    Hid (BR w s V [x0, x0, x1, x2, x3, x4, x5, x6] (W.setRow (w.heap.size + 3) (nums .u64 [x0, x0, x1, x2, x3, x4, x5, x6]).toArray)) := by
  intro W e1 e2 e3 e4
  have hb : W.heap[w.heap.size + 3]? = some (.cells (nums .u64 [x0, x1, x2, x3, x4, x5, x6, x7]).toArray 93 (0, 0)) := by rw [e1]; exact h.br
  refine ⟨fun ty => ?_, ?_⟩
  · have := run_copy_row Try.prog W 117 117 ty 64 (w.heap.size + 3) 1 7 7 ⟨w.heap.size + 3, 0, none⟩ 7 8 _ 93 (nums .u64 [x0, x1, x2, x3, x4, x5, x6]) Try.underlying117 (by kernel_rfl) hb rfl
      (fun j v hj => by
        rw [show (⟨w.heap.size + 3, 0, none⟩ : Addr).add j = ⟨w.heap.size + 3, j, none⟩ by rw [add_plain], blk_cell hb]
        have hjl := (List.getElem?_eq_some_iff.1 hj).1
        rw [List.getElem?_toArray]
        rw [← hj]
        show (nums .u64 ([x0, x1, x2, x3, x4, x5, x6] ++ [x7]))[j]? = _
        simp only [nums, List.map_append]
        rw [List.getElem?_append_left (by simpa [nums] using hjl)]) (by simp [nums]) (fun v hv => by simp only [nums, List.mem_map] at hv; obtain ⟨x, _, rfl⟩ := hv; rfl)
    rw [this]
    rfl
  · have hB : Below w.heap.size w W := h.below.trans ⟨e2, e3, e4, by rw [e1]; exact Nat.le_refl _, fun k _ => by rw [e1]⟩
    refine ⟨(setRow_other _ _ _ _ (by omega)).trans (by rw [e1]; exact h.bs), (setRow_other _ _ _ _ (by omega)).trans (by rw [e1]; exact h.bo), (setRow_other _ _ _ _ (by omega)).trans (by rw [e1]; exact h.bw), setRow_heap _ _ _ _ _ _ hb, below_setRow' hB (by omega) _, by rw [setRow_size, e1]; exact h.size⟩
theorem step_copy_r {P : Program} {ops : Array Oper} {o : Oper} {a : Act} {w : World} {K : Act → World → Prop} {Q : Exit → Act → World → Prop} {E : Prop} (hgd : o.guard = none) (d s : Operand) (dT sT : TypeId)
    (ho : o.op = .call { callee := .builtin .copy, args := #[d, s], argTypes := #[dT, sT] }) {D S : Value} (hd : a.eval d = D) (hs : a.eval s = S) {m : Nat} {w1 : World}
    (hrun : ∀ ty, (Builtin.copy_ #[dT, sT] ty #[D, S]).run P w = .ok (goInt m) w1) {R : World → Prop} (hR : R w1) (h : ∀ W', R W' → K (a.put o.dst (goInt m)) W') :
    if Region.wanted o (yielded ops a.tmps) = true then Oper.wp P o a w K Q else E := by
  have hw : Region.wanted o (yielded ops a.tmps) = true := by simp [Region.wanted, hgd]
  rw [if_pos hw]
  unfold Oper.wp
  simp [execOp, ho, resolve, invoke, builtin, hd, hs, hrun, Result.andThen]
  exact h _ hR

set_option maxRecDepth 100000 in
set_option maxHeartbeats 4000000 in
theorem block_ok (s : List Int) (hs : s.length = 8) (hsB : inB 64 s) (A0 : Option Addr) (c0 : Nat) (b : List Int) (w : World) (hr : Kd.C (Kd.int .u8) w A0 b.length b) (hc : b.length ≤ c0) (hb : b.length = 128) (hbB : inB 8 b) :
    Calls Try.prog 87 #[.agg (nums .u64 s).toArray, .slice A0 b.length c0] w fun e w' => e = .returned (.tuple #[.agg (nums .u64 (blk6 s b)).toArray, .bool true]) ∧ Below w.heap.size w w' := by
  have hrb := hr
  rw [hb] at hr hc ⊢
  go_enter Try.func87, Try.ntmps87
  go_wp2_with fail
  obtain ⟨W0, hW0⟩ : ∃ W0, W0 = (((w.alloc (.cells (nums .u64 s).toArray 93)).alloc (.cells #[.int .u64 0, .int .u64 0, .int .u64 0, .int .u64 0, .int .u64 0, .int .u64 0, .int .u64 0, .int .u64 0] 93)).alloc (.cells Try.zeroCells108 108)) := ⟨_, rfl⟩
  have b0 : W0.heap[w.heap.size]? = some (.cells (nums .u64 s).toArray 93 (0, 0)) := by
    rw [hW0]; simp only [heap_at, World.size_alloc]; rw [if_neg (by omega), if_neg (by omega), if_pos (by trivial)]
  have b1 : W0.heap[w.heap.size + 1]? = some (.cells (nums .u64 [0, 0, 0, 0, 0, 0, 0, 0]).toArray 93 (0, 0)) := by
    rw [hW0]; simp only [heap_at, World.size_alloc]; rw [if_neg (by omega), if_pos (by trivial)]; rfl
  have b2 : W0.heap[w.heap.size + 2]? = some (.cells (nums .u64 (sw6 b 0)).toArray 108 (0, 0)) := by
    rw [hW0]; simp only [heap_at, World.size_alloc]; rw [if_pos (by trivial)]; kernel_rfl
  have hb0 : Below w.heap.size w W0 := by
    rw [hW0]; exact (((Below.refl _ w).alloc (Nat.le_refl _) _).alloc (by simp) _).alloc (by simp; omega) _
  have hz0 : W0.heap.size = w.heap.size + 3 := by rw [hW0]; simp
  have H0 : Hid (BI w s (sw6 b 0) W0) := ⟨b0, b1, b2, hb0, hz0⟩
  rw [← hW0]
  clear hW0 b0 b1 b2 hb0 hz0
  go_loopw [24] (fun i wr => ∃ k : Nat, k ≤ 80 ∧ i = .int .i64 k ∧ Hid (BI w s (sw6 b k) wr)) (fun i _ => 80 - (intOf i).toNat)
  case atStart => exact ⟨0, by omega, rfl, H0⟩
  case round =>
    obtain ⟨k, hk, rfl, hI⟩ := hrel
    by_cases hlt : k < 80
    · by_cases h16 : k < 16
      · obtain ⟨ad, rfl, _⟩ := (Kd.reads_of_C (d := (0 : Int)) hr).2.2 (by omega)
        have HC : Hid (∀ W, Below w.heap.size w W → ∀ j, j < 8 → W.cell? ((ad.add (8 * k)).add j) = some (.int .u8 (b.getD (8 * k + j) 0))) := by
          intro W hW j hj
          have hC1 := C_same hrb (fun i hi => hW.block i hi)
          have hC2 := Kd.C_take hC1 (show 8 * k + 8 ≤ b.length by omega)
          have hC3 := Kd.C_drop hC2 (c := c0) (m := 8 * k) (by rw [List.length_take]; omega) (by rw [List.length_take]; omega)
          rw [if_neg (by omega)] at hC3
          have hl8 : ((b.take (8 * k + 8)).drop (8 * k)).length = 8 := by simp; omega
          rw [show (Kd.int IntKind.u8).sz = 1 from rfl, Nat.mul_one, hl8] at hC3
          obtain ⟨ad', e, hc'⟩ := (Kd.reads_of_C (d := (0 : Int)) hC3).2.2 (by omega)
          cases e
          have h9 := hc' j (by omega)
          rw [h9]
          congr 2
          rw [List.getD_eq_getElem?_getD, List.getD_eq_getElem?_getD, List.getElem?_drop, List.getElem?_take_of_lt (by omega)]
        have hk1 : (8 : Int) * (k : Int) ≤ 120 := by omega
        have e1 : 8 * k ≤ 8 * k + 8 := by omega
        have e2 : 8 * k + 8 - 8 * k = 8 := by omega
        have e3 : ¬ 8 * k = c0 := by omega
        have HI := Lib.hid hI.out
        clear hI
        go_wp2_with fail
        go_loopw [37] (fun i w2 => ∃ j : Nat, j ≤ 8 ∧ i = .int .i64 j ∧ Hid (BI w s (sj6 b k j) w2)) (fun i _ => 8 - (intOf i).toNat)
        case atStart => exact ⟨0, by omega, rfl, by rw [← sj6_start b k hlt]; exact HI.out⟩
        case round =>
          obtain ⟨j, hj, rfl, hJ⟩ := hrel
          by_cases hj8 : j < 8
          · have hcb := HC.out wr hJ.out.below j hj8
            have hL := sj6_length b k j hlt
            have hcw : wr.cell? ⟨w.heap.size + 1 + 1, k, none⟩ = some (.int .u64 ((sj6 b k j).getD k 0)) := by
              rw [show w.heap.size + 1 + 1 = w.heap.size + 2 from rfl, blk_cell hJ.out.bw k, List.getElem?_toArray, nums, List.getElem?_map, List.getElem?_eq_getElem (by omega), List.getD_eq_getElem?_getD, List.getElem?_eq_getElem (by omega)]; rfl
            have hfw : wr.frozen? ⟨w.heap.size + 1 + 1, k, none⟩ = false := blk_frozen hJ.out.bw k
            have hput := Lib.hid (BI.put hJ.out 0 k)
            rw [show (sj6 b k j) = (sj6 b k j) from rfl] at hL
            clear hJ hL
            go_wp2_with fail
            go_roundw
            case rel =>
              refine ⟨j + 1, by omega, by go_num, ?_⟩
              rw [← sj6_step b k j h16 hj8 hb]
              exact hput.out _
            case measure => simp [intOf]; omega
          · obtain rfl : j = 8 := by omega
            go_wp2_with fail
            refine ⟨⟨k + 1, by omega, by go_num, ?_⟩, by simp [intOf]; omega⟩
            rw [← sj6_end b k h16]
            exact hJ
      · have l1 := hI.out.bw
        obtain ⟨L, hL⟩ : ∃ L, L = sw6 b k := ⟨_, rfl⟩
        rw [← hL] at l1
        have q1 : ∀ i, wr.cell? ⟨w.heap.size + 1 + 1, i, none⟩ = (nums .u64 L).toArray[i]? := fun i => blk_cell l1 i
        have hLl : L.length = 80 := by rw [hL]; exact sw6_length b k hk
        have q2 : ∀ i, i < 80 → wr.cell? ⟨w.heap.size + 1 + 1, i, none⟩ = some (.int .u64 (L.getD i 0)) := fun i hi => by
          rw [q1, List.getElem?_toArray, nums, List.getElem?_map, List.getElem?_eq_getElem (by omega), List.getD_eq_getElem?_getD, List.getElem?_eq_getElem (by omega)]; rfl
        have c15 := q2 (k - 15) (by omega)
        have c2 := q2 (k - 2) (by omega)
        have c16 := q2 (k - 16) (by omega)
        have c7 := q2 (k - 7) (by omega)
        have hk0 : (16 : Int) ≤ (k : Int) := by omega
        have ck := q2 k (by omega)
        have fk : wr.frozen? ⟨w.heap.size + 1 + 1, k, none⟩ = false := blk_frozen l1 k
        have HL := Lib.hid hL
        have HQ := Lib.hid q2
        clear q1 q2 l1 hL
        go_wp2_with fail
        go_quiet (fail)
        go_wp2_with fail
        have HN : Hid (k - 16 ≠ k ∧ k - 7 ≠ k ∧ k - 16 < 80 ∧ k - 7 < 80) := ⟨by omega, by omega, by omega, by omega⟩
        have k80 : (k : Int) < 80 := by omega
        have k0' : (0 : Int) ≤ (k : Int) := by omega
        have s16b : ((k - 16 : Nat) : Int) < 80 := by omega
        have s7b : ((k - 7 : Nat) : Int) < 80 := by omega
        have s16 : IntKind.i64.wrap ((k : Int) - 16) = ((k - 16 : Nat) : Int) := by rw [IntWalk.i64_in _ ⟨by omega, by omega⟩]; omega
        have s7 : IntKind.i64.wrap ((k : Int) - 7) = ((k - 7 : Nat) : Int) := by rw [IntWalk.i64_in _ ⟨by omega, by omega⟩]; omega
        go_region_held3 (fun w' => w'.cell? ⟨w.heap.size + 1 + 1, k - 16, none⟩ = some (.int .u64 (L.getD (k - 16) 0)) ∧ w'.cell? ⟨w.heap.size + 1 + 1, k - 7, none⟩ = some (.int .u64 (L.getD (k - 7) 0)))
          (first | exact ⟨cell_far (W := wr.drewN _) (HQ.out (k - 16) HN.out.2.2.1) HN.out.1, cell_far (W := wr.drewN _) (HQ.out (k - 7) HN.out.2.2.2) HN.out.2.1⟩ | go_keep)
          ((first | (go_at_call 89; with_reducible refine (turn1 _ _).mono ?_; rintro _ _ ⟨rfl, ⟨⟨n1, rfl⟩⟩⟩) | (go_at_call 89; with_reducible refine (turn8 _ _).mono ?_; rintro _ _ ⟨rfl, ⟨⟨n1, rfl⟩⟩⟩) | (go_at_call 89; with_reducible refine (turn19 _ _).mono ?_; rintro _ _ ⟨rfl, ⟨⟨n1, rfl⟩⟩⟩) | (go_at_call 89; with_reducible refine (turn61 _ _).mono ?_; rintro _ _ ⟨rfl, ⟨⟨n1, rfl⟩⟩⟩)))
        go_wp2_with fail
        go_roundw
        case rel =>
          refine ⟨k + 1, by omega, by go_num, ?_⟩
          rw [← sw6_step b k h16 hlt]
          have hput := BI.put (wr := wr) hI.out
          obtain rfl := HL.out
          exact hput _ k (sch6 (sw6 b k) k)
        case measure => simp [intOf]; omega
    · obtain rfl : k = 80 := by omega
      have HB := hI.out
      have h1c : (nums .u64 s).toArray.all (·.oneCell') = true := by simp [nums]; intro _ _; rfl
      go_wp2_with (first
        | (with_reducible refine wpList_load_row rfl 93 (.tmp 2) rfl w.heap.size (by simp [Act.eval, Act.put]) 93 (nums .u64 s).toArray (0, 0) _ HB.bs Try.underlying93 rfl (by rw [show (nums .u64 s).toArray.size = 8 by simp [nums, hs]]; kernel_rfl) ?_)
        | (with_reducible refine wpList_store_row rfl 93 (.tmp 12) (.tmp 89) rfl wr.heap.size (nums .u64 s).toArray (by simp [Act.eval, Act.put]) (by simp [Act.eval, Act.put]) 93 #[.int .u64 0, .int .u64 0, .int .u64 0, .int .u64 0, .int .u64 0, .int .u64 0, .int .u64 0, .int .u64 0] (by rw [heap_at, if_pos rfl]) (by rw [show (nums .u64 s).toArray.size = 8 by simp [nums, hs]]; kernel_rfl) (by simp [nums, hs]) h1c ?_))
      have hz := HB.size
      rw [hz]
      obtain ⟨W3, hW3⟩ : ∃ W3, W3 = (wr.alloc (.cells #[.int .u64 0, .int .u64 0, .int .u64 0, .int .u64 0, .int .u64 0, .int .u64 0, .int .u64 0, .int .u64 0] 93)).setRow (w.heap.size + 3) (nums .u64 s).toArray := ⟨_, rfl⟩
      have H3 : Hid (BR w s (sched6 b 80) s W3) := by
        rw [hW3]
        have e80 : sw6 b 80 = sched6 b 80 := by simp [sw6]
        rw [← e80]
        exact BR.start HB
      rw [← hW3]
      clear hW3 HB hI h1c
      refine (keys_any _).mono ?_
      rintro e w4 ⟨rfl, hb4⟩
      have H4 : Hid (BR w s (sched6 b 80) s w4) := H3.out.later hb4
      clear hb4
      go_wp2_with fail
      go_loopw [91] (fun i w5 => ∃ t : Nat, t ≤ 80 ∧ i = .int .i64 t ∧ Hid (BR w s (sched6 b 80) (rnds6 s (sched6 b 80) t) w5)) (fun i _ => 80 - (intOf i).toNat)
      case atStart => exact ⟨0, by omega, rfl, H4⟩
      case round =>
        obtain ⟨t, ht, rfl, hR⟩ := hrel
        by_cases ht8 : t < 80
        · have hix : (nums .u64 K6).toArray[t]? = some (.int .u64 (K6.getD t 0)) := by
            rw [List.getElem?_toArray, nums, List.getElem?_map, List.getElem?_eq_getElem (by show t < 80; exact ht8), List.getD_eq_getElem?_getD, List.getElem?_eq_getElem (by show t < 80; exact ht8)]; rfl
          have hidx : ∀ W : World, (Instr.index 108 (.agg (nums .u64 K6).toArray) (.int .i64 (t : Int))).run Try.prog W = .ok (.int .u64 (K6.getD t 0)) W := fun W => run_index_arr Try.prog 108 64 80 _ t _ .u64 W Try.underlying108 Try.underlying64 (by kernel_rfl) ht8 hix
          obtain ⟨r, hr'⟩ : ∃ r, r = rnds6 s (sched6 b 80) t := ⟨_, rfl⟩
          rw [← hr'] at hR
          have hrl : r.length = 8 := by rw [hr']; exact rnds6_length _ hs t
          obtain ⟨V, hV⟩ : ∃ V, V = sched6 b 80 := ⟨_, rfl⟩
          rw [← hV] at hR hr'
          have hVl : V.length = 80 := by rw [hV]; exact sched6_length b 80
          have cr : ∀ j, j < 8 → wr.cell? ⟨w.heap.size + 3, j, none⟩ = some (.int .u64 (r.getD j 0)) := fun j hj => by
            rw [blk_cell hR.out.br j, List.getElem?_toArray, nums, List.getElem?_map, List.getElem?_eq_getElem (by omega), List.getD_eq_getElem?_getD, List.getElem?_eq_getElem (by omega)]; rfl
          have cw : wr.cell? ⟨w.heap.size + 1 + 1, t, none⟩ = some (.int .u64 (V.getD t 0)) := by
            rw [show w.heap.size + 1 + 1 = w.heap.size + 2 from rfl, blk_cell hR.out.bw t, List.getElem?_toArray, nums, List.getElem?_map, List.getElem?_eq_getElem (by omega), List.getD_eq_getElem?_getD, List.getElem?_eq_getElem (by omega)]; rfl
          obtain ⟨x0, hx0⟩ : ∃ x, x = r.getD 0 0 := ⟨_, rfl⟩
          have c0' := cr 0 (by omega)
          rw [← hx0] at c0'
          obtain ⟨x1, hx1⟩ : ∃ x, x = r.getD 1 0 := ⟨_, rfl⟩
          have c1' := cr 1 (by omega)
          rw [← hx1] at c1'
          obtain ⟨x2, hx2⟩ : ∃ x, x = r.getD 2 0 := ⟨_, rfl⟩
          have c2' := cr 2 (by omega)
          rw [← hx2] at c2'
          obtain ⟨x3, hx3⟩ : ∃ x, x = r.getD 3 0 := ⟨_, rfl⟩
          have c3' := cr 3 (by omega)
          rw [← hx3] at c3'
          obtain ⟨x4, hx4⟩ : ∃ x, x = r.getD 4 0 := ⟨_, rfl⟩
          have c4' := cr 4 (by omega)
          rw [← hx4] at c4'
          obtain ⟨x5, hx5⟩ : ∃ x, x = r.getD 5 0 := ⟨_, rfl⟩
          have c5' := cr 5 (by omega)
          rw [← hx5] at c5'
          obtain ⟨x6, hx6⟩ : ∃ x, x = r.getD 6 0 := ⟨_, rfl⟩
          have c6' := cr 6 (by omega)
          rw [← hx6] at c6'
          obtain ⟨x7, hx7⟩ : ∃ x, x = r.getD 7 0 := ⟨_, rfl⟩
          have c7' := cr 7 (by omega)
          rw [← hx7] at c7'
          obtain ⟨y, hy⟩ : ∃ y, y = V.getD t 0 := ⟨_, rfl⟩
          rw [← hy] at cw
          obtain ⟨kk, hkk⟩ : ∃ x, x = K6.getD t 0 := ⟨_, rfl⟩
          rw [← hkk] at hidx hix
          have hre : r = [x0, x1, x2, x3, x4, x5, x6, x7] := by
            rw [hx0, hx1, hx2, hx3, hx4, hx5, hx6, hx7]
            match r, hrl with
            | [_, _, _, _, _, _, _, _], _ => rfl
          have HRE := Lib.hid hre
          have HY := Lib.hid hy
          have HK := Lib.hid hkk
          have HRL := Lib.hid hrl
          have t80 : (t : Int) < 80 := by omega
          have t0' : (0 : Int) ≤ (t : Int) := by omega
          have HR' := Lib.hid hr'
          have HV := Lib.hid hV
          clear cr hr' hV hVl hx0 hx1 hx2 hx3 hx4 hx5 hx6 hx7 hy hkk hrl hre hix
          go_wp2_with fail
          go_quiet (fail)
          go_wp2_with fail
          go_quiet ((first | (go_at_call 89; with_reducible exact turnr14 _ _ _ _) | (go_at_call 89; with_reducible exact turnr18 _ _ _ _) | (go_at_call 89; with_reducible exact turnr41 _ _ _ _)))
          go_wp2_with fail
          go_quiet ((first | (go_at_call 89; with_reducible exact turnr28 _ _ _ _) | (go_at_call 89; with_reducible exact turnr34 _ _ _ _) | (go_at_call 89; with_reducible exact turnr39 _ _ _ _)))
          go_wp2_with fail
          have HCP := Lib.hid (BR.copy (BR.at8 hR.out HRE.out))
          clear hR
          go_region_law (refine step_copy_r (m := 7) rfl (.tmp 148) (.tmp 149) 117 117 rfl (by simp [Act.eval, Act.put]) (by simp [Act.eval, Act.put]) (HCP.out (((wr.drewN _).drewN _).drewN _).drew rfl rfl rfl rfl).1 (R := fun W => Hid (BR w s V [x0, x0, x1, x2, x3, x4, x5, x6] W)) (HCP.out (((wr.drewN _).drewN _).drewN _).drew rfl rfl rfl rfl).2 ?_; intro W6 H6)
          have d0 : W6.cell? ⟨w.heap.size + 3, 0, none⟩ = some (.int .u64 x0) := blk_cell H6.out.br 0
          have d4 : W6.cell? ⟨w.heap.size + 3, 4, none⟩ = some (.int .u64 x3) := blk_cell H6.out.br 4
          have g0 : W6.frozen? ⟨w.heap.size + 3, 0, none⟩ = false := blk_frozen H6.out.br 0
          have g4 : W6.frozen? ⟨w.heap.size + 3, 4, none⟩ = false := blk_frozen H6.out.br 4
          go_wp2_with fail
          go_roundw
          case rel =>
            refine ⟨t + 1, by omega, by go_num, ?_⟩
            have e : rnds6 s (sched6 b 80) (t + 1) = rnd6 [x0, x1, x2, x3, x4, x5, x6, x7] kk y := by
              rw [← HV.out, show rnds6 s V (t + 1) = rnd6 (rnds6 s V t) (K6.getD t 0) (V.getD t 0) from rfl, ← HR'.out, HRE.out, ← HK.out, ← HY.out]
            rw [e, ← HV.out]
            exact BR.put (BR.put H6.out 0 _) 4 _
          case measure => simp [intOf]; omega
        · obtain rfl : t = 80 := by omega
          have HR := Lib.hid hR.out
          clear hR
          go_wp2_with fail
          go_loopw [161] (fun i w6 => ∃ t : Nat, t ≤ 8 ∧ i = .int .i64 t ∧ Hid (BR w (sm6 s (rnds6 s (sched6 b 80) 80) t) (sched6 b 80) (rnds6 s (sched6 b 80) 80) w6)) (fun i _ => 8 - (intOf i).toNat)
          case atStart => exact ⟨0, by omega, rfl, by rw [sm6_zero _ _ hs]; exact HR.out⟩
          case round =>
            obtain ⟨t, ht, rfl, hR⟩ := hrel
            obtain ⟨r, hr'⟩ : ∃ r, r = rnds6 s (sched6 b 80) 80 := ⟨_, rfl⟩
            have hrl : r.length = 8 := by rw [hr']; exact rnds6_length _ hs 80
            rw [← hr'] at hR
            by_cases ht8 : t < 8
            · have hsl := sm6_length s r t
              have cs : wr.cell? ⟨w.heap.size, t, none⟩ = some (.int .u64 ((sm6 s r t).getD t 0)) := by
                rw [blk_cell hR.out.bs t, List.getElem?_toArray, nums, List.getElem?_map, List.getElem?_eq_getElem (by omega), List.getD_eq_getElem?_getD, List.getElem?_eq_getElem (by omega)]; rfl
              have cr : wr.cell? ⟨w.heap.size + 3, t, none⟩ = some (.int .u64 (r.getD t 0)) := by
                rw [blk_cell hR.out.br t, List.getElem?_toArray, nums, List.getElem?_map, List.getElem?_eq_getElem (by omega), List.getD_eq_getElem?_getD, List.getElem?_eq_getElem (by omega)]; rfl
              have fs : wr.frozen? ⟨w.heap.size, t, none⟩ = false := blk_frozen hR.out.bs t
              obtain ⟨a, ha⟩ : ∃ a, a = (sm6 s r t).getD t 0 := ⟨_, rfl⟩
              obtain ⟨c, hc'⟩ : ∃ c, c = r.getD t 0 := ⟨_, rfl⟩
              rw [← ha] at cs
              rw [← hc'] at cr
              have HA := Lib.hid ha
              have HC' := Lib.hid hc'
              have HR2 := Lib.hid hr'
              have t80 : (t : Int) < 8 := by omega
              have t0' : (0 : Int) ≤ (t : Int) := by omega
              clear ha hc' hr' hrl hsl
              go_wp2_with fail
              go_still_tail 8, (by kernel_rfl)
              go_wp2_with fail
              refine ⟨⟨_, _, _, _, _, _, _, _, _, _, _, _, _, ?rel, rfl⟩, ?measure⟩
              case rel =>
                refine ⟨t + 1, by omega, by go_num, ?_⟩
                rw [← HR2.out, ← sm6_step s r t ht8, ← HA.out, ← HC'.out]
                exact BR.draw (BR.puts hR.out t _)
              case measure => simp [intOf]; omega
            · obtain rfl : t = 8 := by omega
              have HS := hR.out
              have hsm : (sm6 s r 8).length = 8 := sm6_length s r 8
              have h1c : (nums .u64 (sm6 s r 8)).toArray.all (·.oneCell') = true := by simp [nums]; intro _ _; rfl
              have hsz8 : (nums .u64 (sm6 s r 8)).toArray.size = 8 := by simp [nums, hsm]
              have hosz : (nums .u64 [0, 0, 0, 0, 0, 0, 0, 0]).toArray.size = (nums .u64 (sm6 s r 8)).toArray.size := by rw [hsz8]; rfl
              have hkz : (Try.prog.info? 93).map (·.size) = some (nums .u64 (sm6 s r 8)).toArray.size := by rw [hsz8]; kernel_rfl
              have HR2 := Lib.hid hr'
              clear hr'
              go_wp2_with (first
                | (with_reducible refine wpList_load_row rfl 93 (.tmp 2) rfl w.heap.size (by simp [Act.eval, Act.put]) 93 (nums .u64 (sm6 s r 8)).toArray (0, 0) _ HS.bs Try.underlying93 rfl hkz ?_)
                | (with_reducible refine wpList_store_row rfl 93 (.tmp 4) (.tmp 173) rfl (w.heap.size + 1) (nums .u64 (sm6 s r 8)).toArray (by simp [Act.eval, Act.put]) (by simp [Act.eval, Act.put]) 93 _ HS.bo hkz hosz h1c ?_))
              have hfin : ((wr.setRow (w.heap.size + 1) (nums .u64 (sm6 s r 8)).toArray)).heap[w.heap.size + 1]? = some (.cells (nums .u64 (sm6 s r 8)).toArray 93 (0, 0)) := setRow_heap _ _ _ _ _ _ HS.bo
              --have hl := run_loadVar_row (P := Try.prog) (wr.setRow (w.heap.size + 1) (nums .u64 (sm6 s r 8)).toArray) (w.heap.size + 1) 93 93 _ (0, 0) _ hfin Try.underlying93 rfl (by rw [hsz8]; kernel_rfl)
              refine bodyPost_ret (results_cell_row2 (p := 4) (q := 5) (ty := 93) (by kernel_rfl) _ _ (w.heap.size + 1) 93 _ (0, 0) _ rfl hfin Try.underlying93 rfl hkz) rfl ⟨?_, below_setRow' HS.below (by omega) _⟩
              show _ = Ending.returned (.tuple #[.agg _, .bool true])
              rw [blk6, ← sm6_all, HR2.out]
              rfl
end Go.Proofs.Ytincnnmojgphmaa.H
