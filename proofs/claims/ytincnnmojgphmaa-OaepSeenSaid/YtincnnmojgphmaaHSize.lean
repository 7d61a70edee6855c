/- The contracts of package hash's functions rows, of and Size, proved by walking their text: for every number, every memory. -/
import Derived.Test.YtincnnmojgphmaaProg
import Derived.WalkKit
import Derived.KernelRfl
import Derived.Test.YtincnnmojgphmaaHBase
set_option linter.unusedVariables false
set_option linter.unusedSimpArgs false
namespace Go.Proofs.Ytincnnmojgphmaa.H
open Go.RowKit Go.Proofs.YtincnnmojgphmaaW.PrintWords

def rowsV : Value := .agg #[.string ⟨#[]⟩, .int .i64 0, .string ⟨#[115, 104, 97, 50, 53, 54]⟩, .int .i64 32, .string ⟨#[115, 104, 97, 51, 56, 52]⟩, .int .i64 48, .string ⟨#[115, 104, 97, 53, 49, 50]⟩, .int .i64 64]
theorem hash_rows (w : World) : Calls Try.prog 71 #[] w fun e w' => e = .returned rowsV ∧ Below w.heap.size w w' := by
  go_enter Try.func71, Try.ntmps71
  go_wp2
  exact bodyPost_ret (v := rowsV) (by simp [results, Try.results71, go_sem, rowsV]) rfl ⟨rfl, (Below.refl _ _).alloc (Nat.le_refl _) _⟩

def hash_of.f (a0 : Int) : Option (ByteArray × Int) :=
  if a0 = 1 then some (⟨#[115, 104, 97, 50, 53, 54]⟩, 32) else if a0 = 2 then some (⟨#[115, 104, 97, 51, 56, 52]⟩, 48) else if a0 = 3 then some (⟨#[115, 104, 97, 53, 49, 50]⟩, 64) else some (⟨#[]⟩, 0)

theorem row_at (w : World) (i : Int) (hi : i = 0 ∨ i = 1 ∨ i = 2 ∨ i = 3) :
    ∃ s n, hash_of.f i = some (s, n) ∧ (Instr.index 98 rowsV (.int .i64 i)).run Try.prog w = .ok (.agg #[.string s, .int .i64 n]) w := by
  rcases hi with rfl | rfl | rfl | rfl
  · exact ⟨⟨#[]⟩, 0, rfl, by kernel_rfl⟩
  · exact ⟨⟨#[115, 104, 97, 50, 53, 54]⟩, 32, rfl, by kernel_rfl⟩
  · exact ⟨⟨#[115, 104, 97, 51, 56, 52]⟩, 48, rfl, by kernel_rfl⟩
  · exact ⟨⟨#[115, 104, 97, 53, 49, 50]⟩, 64, rfl, by kernel_rfl⟩

theorem hash_of.calls (a0 : Int) (r1 : ByteArray) (r2 : Int) (w : World) (h : hash_of.f a0 = some (r1, r2)) :
    Calls Try.prog 52 #[.int .i64 a0] w fun e w' => e = .returned (.agg #[.string r1, .int .i64 r2]) ∧ Below w.heap.size w w' := by
  by_cases hlo : a0 < 0
  · have hr : r1 = ⟨#[]⟩ ∧ r2 = 0 := by
      rw [hash_of.f, if_neg (by omega), if_neg (by omega), if_neg (by omega)] at h
      simpa [eq_comm] using h
    obtain ⟨rfl, rfl⟩ := hr
    clear h
    go_enter Try.func52, Try.ntmps52
    go_wp2_with fail
    exact bodyPost_ret (v := .agg #[.string ⟨#[]⟩, .int .i64 0]) (by simp [results, Try.results52, go_sem]) rfl ⟨rfl, (Below.refl _ _).alloc (Nat.le_refl _) _⟩
  by_cases hhi : 3 < a0
  · have hr : r1 = ⟨#[]⟩ ∧ r2 = 0 := by
      rw [hash_of.f, if_neg (by omega), if_neg (by omega), if_neg (by omega)] at h
      simpa [eq_comm] using h
    obtain ⟨rfl, rfl⟩ := hr
    clear h
    go_enter Try.func52, Try.ntmps52
    go_wp2_with fail
    exact bodyPost_ret (v := .agg #[.string ⟨#[]⟩, .int .i64 0]) (by simp [results, Try.results52, go_sem]) rfl ⟨rfl, (Below.refl _ _).alloc (Nat.le_refl _) _⟩
  have hi : a0 = 0 ∨ a0 = 1 ∨ a0 = 2 ∨ a0 = 3 := by omega
  have hlo' : 0 ≤ a0 := by omega
  have hhi' : a0 ≤ 3 := by omega
  clear hlo hhi
  have hidx : ∀ w : World, (Instr.index 98 rowsV (.int .i64 a0)).run Try.prog w = .ok (.agg #[.string r1, .int .i64 r2]) w := fun w => by
    obtain ⟨s, n, h1, h2⟩ := row_at w a0 hi
    rw [h1] at h
    simp only [Option.some.injEq, Prod.mk.injEq] at h
    obtain ⟨rfl, rfl⟩ := h
    exact h2
  clear hi h
  go_enter Try.func52, Try.ntmps52
  go_wp2_with (go_at_call 71; refine (hash_rows _).mono ?_; rintro e w' ⟨rfl, hb⟩; have c0 := box_cell hb 0; have c1 := box_cell hb 1; have f0 := box_free hb 0; have f1 := box_free hb 1; have z0 := box_size hb)
  exact bodyPost_ret (v := .agg #[.string r1, .int .i64 r2]) (by simp [results, Try.results52, go_sem, c0, c1, f0, f1, z0]) rfl ⟨rfl, ((box_below hb).setCell (p := ⟨w.heap.size, 0, none⟩) (Nat.le_refl _) _).setCell (p := ⟨w.heap.size, 1, none⟩) (Nat.le_refl _) _⟩

def hash_Size.f (a0 : Int) : Option Int := some (if a0 = 1 then 32 else if a0 = 2 then 48 else if a0 = 3 then 64 else 0)
theorem hash_Size.calls (a0 : Int) (r : Int) (w : World) (h : hash_Size.f a0 = some r) :
    Calls Try.prog 29 #[.int .i64 a0] w fun e w' => e = .returned (.int .i64 r) ∧ Below w.heap.size w w' := by
  have hfl : ∀ (v0 v1 : Value) (w : World), (Instr.field 83 (.agg #[v0, v1]) 1).run Try.prog w = .ok v1 w := fun _ _ _ => by kernel_rfl
  obtain ⟨s, hs⟩ : ∃ s, hash_of.f a0 = some (s, r) := by
    simp only [hash_Size.f, Option.some.injEq] at h
    subst h
    unfold hash_of.f
    repeat' split
    all_goals exact ⟨_, rfl⟩
  have H := Lib.hid hs
  clear hs h
  go_enter Try.func29, Try.ntmps29
  go_wp2_with (go_at_call 52; refine (hash_of.calls _ _ _ _ H.out).mono ?_; rintro e w' ⟨rfl, hb⟩)
  go_ret
  exact ⟨rfl, hb⟩

end Go.Proofs.Ytincnnmojgphmaa.H
