/- Small plain facts on worlds and values that the walks of this seat share. -/
import Derived.Test.YtincnnmojgphmaaProg
import Derived.WalkKit
import Derived.KernelRfl
import Derived.Lib.Hide
import Derived.Lib.SlBytesConst
import Derived.Test.YtincnnmojgphmaaWWords
import Derived.Test.YtincnnmojgphmaaWMore
set_option linter.unusedVariables false
set_option linter.unusedSimpArgs false
namespace Go.Proofs.Ytincnnmojgphmaa.H
open Go.RowKit Go.Proofs.YtincnnmojgphmaaW.PrintWords

/-- A box of the call's own, behind a call that left all elder memory alone. -/
theorem box_cell {w w' : World} {cs : Array Value} {t : TypeId} (hb : Below (w.alloc (.cells cs t)).heap.size (w.alloc (.cells cs t)) w') (j : Nat) : w'.cell? ⟨w.heap.size, j, none⟩ = cs[j]? := by
  rw [hb.cell (p := ⟨w.heap.size, j, none⟩) (by simp)]
  exact World.cell?_alloc_at _ _ _ _ rfl
theorem box_free {w w' : World} {cs : Array Value} {t : TypeId} (hb : Below (w.alloc (.cells cs t)).heap.size (w.alloc (.cells cs t)) w') (j : Nat) : w'.frozen? ⟨w.heap.size, j, none⟩ = false := by
  rw [hb.frozen (p := ⟨w.heap.size, j, none⟩) (by simp)]
  exact World.frozen?_alloc_at _ _ _ _ rfl
theorem box_size {w w' : World} {cs : Array Value} {t : TypeId} (hb : Below (w.alloc (.cells cs t)).heap.size (w.alloc (.cells cs t)) w') : w.heap.size < w'.heap.size := by
  have := hb.size
  simp at this
  omega
theorem box_below {w w' : World} {o : Obj} (hb : Below (w.alloc o).heap.size (w.alloc o) w') : Below w.heap.size w w' :=
  ((Below.refl w.heap.size w).alloc (Nat.le_refl _) o).trans (hb.mono (by simp))

/-- A new block with a mark behind its cells. -/
theorem mark_cell (w : World) (C : Array Value) (t : TypeId) (fr : Nat × Nat) (j : Nat) : (w.alloc (.cells C t fr)).cell? ⟨w.heap.size, j, none⟩ = C[j]? := World.cell?_alloc_mark w C t fr j
theorem mark_free (w : World) (C : Array Value) (t : TypeId) (lo hi : Nat) (j : Nat) (h : j < lo) : (w.alloc (.cells C t (lo, hi))).frozen? ⟨w.heap.size, j, none⟩ = false := by
  rw [World.frozen?_alloc_mark]
  simp
  omega
theorem mark_set (w : World) (C : Array Value) (t : TypeId) (fr : Nat × Nat) (j : Nat) (v : Value) : (w.alloc (.cells C t fr)).setCell ⟨w.heap.size, j, none⟩ v = w.alloc (.cells (C.setIfInBounds j v) t fr) := by
  unfold World.setCell World.alloc
  congr 1
  apply Array.ext_getElem?
  intro k
  rw [Array.getElem?_modify]
  by_cases hk : w.heap.size = k
  · subst hk
    simp
  · have hk' : k ≠ w.heap.size := fun e => hk e.symm
    simp [hk, hk', Array.getElem?_push]

/-- Where a new block lies. -/
theorem heap_at (w : World) (o : Obj) (k : Nat) : (w.alloc o).heap[k]? = if k = w.heap.size then some o else w.heap[k]? := by
  show (w.heap.push o)[k]? = _
  rw [Array.getElem?_push]
theorem made_nums (k : IntKind) (n : Nat) : madeCells #[.int k 0] n = (nums k (List.replicate n 0)).toArray := by
  have := toList_madeCells_one (.int k 0) n
  rw [show nums k (List.replicate n 0) = List.replicate n (.int k 0) by simp [nums], ← this]

/-- A row that lies whole in one block, as one that is only read. -/
theorem V_of_block {W : World} {g c base : Nat} {e : TypeId} {k : IntKind} {xs : List Int} {cs : Array Value} {t : TypeId} {fr : Nat × Nat} {ok : Nat → Prop}
    (hb : W.heap[g]? = some (.cells cs t fr)) (hcs : ∀ j, j < xs.length → cs[j]? = some (.int k (xs.getD j 0))) (hl : xs.length ≤ c) (hm : xs.length ≤ 9223372036854775807) (hok : ok g) :
    Kd.V (Kd.int k) e W base ok (.slice (some ⟨g, 0, none⟩) xs.length c) xs := by
  refine Kd.V_mk hl fun W' hW => Kd.C_of_reads (d := (0 : Int)) (h1 := fun _ => rfl) ⟨rfl, hm, fun _ => ⟨_, rfl, fun j hj => ?_⟩⟩
  have hg : g < W.heap.size := (Array.getElem?_eq_some_iff.1 hb).1
  have h2 := (hW g hok hg).trans hb
  rw [add_plain]
  rw [World.cell?, h2]
  simpa using hcs j hj
end Go.Proofs.Ytincnnmojgphmaa.H
