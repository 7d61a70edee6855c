/- The contracts of package hash's functions rows, of and Of, proved by walking their text: for every number, every name, every memory. -/
import Derived.Test.YtmmbbkdbebfhiaaProg
import Derived.WalkKit
import Derived.KernelRfl
import Derived.Test.YtmmbbkdbebfhiaaHBase
set_option linter.unusedVariables false
set_option linter.unusedSimpArgs false
namespace Go.Proofs.Ytmmbbkdbebfhiaa.H
open Go.RowKit Go.Proofs.YtmmbbkdbebfhiaaW.PrintWords

def rowsV : Value := .agg #[.string ⟨#[]⟩, .int .i64 0, .string ⟨#[115, 104, 97, 50, 53, 54]⟩, .int .i64 32, .string ⟨#[115, 104, 97, 51, 56, 52]⟩, .int .i64 48, .string ⟨#[115, 104, 97, 53, 49, 50]⟩, .int .i64 64]
theorem hash_rows (w : World) : Calls Try.prog 47 #[] w fun e w' => e = .returned rowsV ∧ Below w.heap.size w w' := by
  go_enter Try.func47, Try.ntmps47
  go_wp2
  exact bodyPost_ret (v := rowsV) (by simp [results, Try.results47, go_sem, rowsV]) rfl ⟨rfl, (Below.refl _ _).alloc (Nat.le_refl _) _⟩

def hash_of.f (a0 : Int) : Option (ByteArray × Int) :=
  if a0 = 1 then some (⟨#[115, 104, 97, 50, 53, 54]⟩, 32) else if a0 = 2 then some (⟨#[115, 104, 97, 51, 56, 52]⟩, 48) else if a0 = 3 then some (⟨#[115, 104, 97, 53, 49, 50]⟩, 64) else some (⟨#[]⟩, 0)

theorem row_at (w : World) (i : Int) (hi : i = 0 ∨ i = 1 ∨ i = 2 ∨ i = 3) :
    ∃ s n, hash_of.f i = some (s, n) ∧ (Instr.index 59 rowsV (.int .i64 i)).run Try.prog w = .ok (.agg #[.string s, .int .i64 n]) w := by
  rcases hi with rfl | rfl | rfl | rfl
  · exact ⟨⟨#[]⟩, 0, rfl, by kernel_rfl⟩
  · exact ⟨⟨#[115, 104, 97, 50, 53, 54]⟩, 32, rfl, by kernel_rfl⟩
  · exact ⟨⟨#[115, 104, 97, 51, 56, 52]⟩, 48, rfl, by kernel_rfl⟩
  · exact ⟨⟨#[115, 104, 97, 53, 49, 50]⟩, 64, rfl, by kernel_rfl⟩

theorem hash_of.calls (a0 : Int) (r1 : ByteArray) (r2 : Int) (w : World) (h : hash_of.f a0 = some (r1, r2)) :
    Calls Try.prog 46 #[.int .i64 a0] w fun e w' => e = .returned (.agg #[.string r1, .int .i64 r2]) ∧ Below w.heap.size w w' := by
  by_cases hlo : a0 < 0
  · have hr : r1 = ⟨#[]⟩ ∧ r2 = 0 := by
      rw [hash_of.f, if_neg (by omega), if_neg (by omega), if_neg (by omega)] at h
      simpa [eq_comm] using h
    obtain ⟨rfl, rfl⟩ := hr
    clear h
    go_enter Try.func46, Try.ntmps46
    go_wp2_with fail
    exact bodyPost_ret (v := .agg #[.string ⟨#[]⟩, .int .i64 0]) (by simp [results, Try.results46, go_sem]) rfl ⟨rfl, (Below.refl _ _).alloc (Nat.le_refl _) _⟩
  by_cases hhi : 3 < a0
  · have hr : r1 = ⟨#[]⟩ ∧ r2 = 0 := by
      rw [hash_of.f, if_neg (by omega), if_neg (by omega), if_neg (by omega)] at h
      simpa [eq_comm] using h
    obtain ⟨rfl, rfl⟩ := hr
    clear h
    go_enter Try.func46, Try.ntmps46
    go_wp2_with fail
    exact bodyPost_ret (v := .agg #[.string ⟨#[]⟩, .int .i64 0]) (by simp [results, Try.results46, go_sem]) rfl ⟨rfl, (Below.refl _ _).alloc (Nat.le_refl _) _⟩
  have hi : a0 = 0 ∨ a0 = 1 ∨ a0 = 2 ∨ a0 = 3 := by omega
  have hlo' : 0 ≤ a0 := by omega
  have hhi' : a0 ≤ 3 := by omega
  clear hlo hhi
  have hidx : ∀ w : World, (Instr.index 59 rowsV (.int .i64 a0)).run Try.prog w = .ok (.agg #[.string r1, .int .i64 r2]) w := fun w => by
    obtain ⟨s, n, h1, h2⟩ := row_at w a0 hi
    rw [h1] at h
    simp only [Option.some.injEq, Prod.mk.injEq] at h
    obtain ⟨rfl, rfl⟩ := h
    exact h2
  clear hi h
  go_enter Try.func46, Try.ntmps46
  go_wp2_with (go_at_call 47; refine (hash_rows _).mono ?_; rintro e w' ⟨rfl, hb⟩; have c0 := box_cell hb 0; have c1 := box_cell hb 1; have f0 := box_free hb 0; have f1 := box_free hb 1; have z0 := box_size hb)
  exact bodyPost_ret (v := .agg #[.string r1, .int .i64 r2]) (by simp [results, Try.results46, go_sem, c0, c1, f0, f1, z0]) rfl ⟨rfl, ((box_below hb).setCell (p := ⟨w.heap.size, 0, none⟩) (Nat.le_refl _) _).setCell (p := ⟨w.heap.size, 1, none⟩) (Nat.le_refl _) _⟩

def n1 : List UInt8 := [115, 104, 97, 50, 53, 54]
def n2 : List UInt8 := [115, 104, 97, 51, 56, 52]
def n3 : List UInt8 := [115, 104, 97, 53, 49, 50]
def hash_Of.f (a0 : ByteArray) : Option Int := some (if (n1 == a0.toList) = true then 1 else if (n2 == a0.toList) = true then 2 else if (n3 == a0.toList) = true then 3 else 0)

theorem hash_Of.calls (a0 : ByteArray) (r : Int) (w : World) (h : hash_Of.f a0 = some r) :
    Calls Try.prog 21 #[.string a0] w fun e w' => e = .returned (.int .i64 r) ∧ Below w.heap.size w w' := by
  have i0 : ∀ w : World, (Instr.index 59 rowsV (.int .i64 0)).run Try.prog w = .ok (.agg #[.string ⟨#[]⟩, .int .i64 0]) w := fun _ => by kernel_rfl
  have i1 : ∀ w : World, (Instr.index 59 rowsV (.int .i64 1)).run Try.prog w = .ok (.agg #[.string ⟨#[115, 104, 97, 50, 53, 54]⟩, .int .i64 32]) w := fun _ => by kernel_rfl
  have i2 : ∀ w : World, (Instr.index 59 rowsV (.int .i64 2)).run Try.prog w = .ok (.agg #[.string ⟨#[115, 104, 97, 51, 56, 52]⟩, .int .i64 48]) w := fun _ => by kernel_rfl
  have i3 : ∀ w : World, (Instr.index 59 rowsV (.int .i64 3)).run Try.prog w = .ok (.agg #[.string ⟨#[115, 104, 97, 53, 49, 50]⟩, .int .i64 64]) w := fun _ => by kernel_rfl
  have H := Lib.hid h
  clear h
  go_enter Try.func21, Try.ntmps21
  go_wp2_with (go_at_call 47; refine (hash_rows _).mono ?_; rintro e w' ⟨rfl, hb⟩)
  go_loopw [6] (fun i W => ∃ k : Nat, k ≤ 4 ∧ i = .int .i64 k ∧ Below w.heap.size w W ∧ Hid ((2 ≤ k → (n1 == a0.toList) = false) ∧ (3 ≤ k → (n2 == a0.toList) = false) ∧ (4 ≤ k → (n3 == a0.toList) = false))) (fun i _ => 4 - (intOf i).toNat)
  case atStart => exact ⟨0, by omega, rfl, hb, ⟨fun h => by omega, fun h => by omega, fun h => by omega⟩⟩
  case round =>
    obtain ⟨k, hk, rfl, hB, hN⟩ := hrel
    have hz := hB.size
    have hk5 : k = 0 ∨ k = 1 ∨ k = 2 ∨ k = 3 ∨ k = 4 := by omega
    rcases hk5 with rfl | rfl | rfl | rfl | rfl
    · go_wp2
      go_roundw
      case rel => exact ⟨1, by omega, rfl, hB.alloc (by omega) _, ⟨fun h => by omega, fun h => by omega, fun h => by omega⟩⟩
      case measure => simp [intOf]
    · have hlt : w.heap.size < wr.heap.size + 1 := by omega
      by_cases hq : ([115, 104, 97, 50, 53, 54] == a0.toList) = true
      · have hq' : (n1 == a0.toList) = true := hq
        have hr : Hid (r = 1) := by
          have hf := H.out
          rw [hash_Of.f] at hf
          simp only [hq', Bool.false_eq_true, if_false, if_true, Option.some.injEq] at hf
          exact hf.symm
        clear hq' hN
        go_wp2
        go_ret
        exact ⟨by rw [hr.out]; rfl, by exact (hB.alloc (by omega) _)⟩
      · have hq2 : ([115, 104, 97, 50, 53, 54] == a0.toList) = false := by simpa using hq
        clear hq
        have hN2 : Hid ((n1 == a0.toList) = false) := hq2
        go_wp2
        go_roundw
        case rel => exact ⟨2, by omega, rfl, hB.alloc (by omega) _, ⟨fun _ => hN2.out, fun h => by omega, fun h => by omega⟩⟩
        case measure => simp [intOf]
    · have hlt : w.heap.size < wr.heap.size + 1 := by omega
      by_cases hq : ([115, 104, 97, 51, 56, 52] == a0.toList) = true
      · have hq' : (n2 == a0.toList) = true := hq
        have hr : Hid (r = 2) := by
          have hf := H.out
          rw [hash_Of.f] at hf
          simp only [hN.out.1 (by omega), hq', Bool.false_eq_true, if_false, if_true, Option.some.injEq] at hf
          exact hf.symm
        clear hq' hN
        go_wp2
        go_ret
        exact ⟨by rw [hr.out]; rfl, by exact (hB.alloc (by omega) _)⟩
      · have hq2 : ([115, 104, 97, 51, 56, 52] == a0.toList) = false := by simpa using hq
        clear hq
        have hN2 : Hid ((n2 == a0.toList) = false) := hq2
        go_wp2
        go_roundw
        case rel => exact ⟨3, by omega, rfl, hB.alloc (by omega) _, ⟨fun h => hN.out.1 (by omega), fun _ => hN2.out, fun h => by omega⟩⟩
        case measure => simp [intOf]
    · have hlt : w.heap.size < wr.heap.size + 1 := by omega
      by_cases hq : ([115, 104, 97, 53, 49, 50] == a0.toList) = true
      · have hq' : (n3 == a0.toList) = true := hq
        have hr : Hid (r = 3) := by
          have hf := H.out
          rw [hash_Of.f] at hf
          simp only [hN.out.1 (by omega), hN.out.2.1 (by omega), hq', Bool.false_eq_true, if_false, if_true, Option.some.injEq] at hf
          exact hf.symm
        clear hq' hN
        go_wp2
        go_ret
        exact ⟨by rw [hr.out]; rfl, by exact (hB.alloc (by omega) _)⟩
      · have hq2 : ([115, 104, 97, 53, 49, 50] == a0.toList) = false := by simpa using hq
        clear hq
        have hN2 : Hid ((n3 == a0.toList) = false) := hq2
        go_wp2
        go_roundw
        case rel => exact ⟨4, by omega, rfl, hB.alloc (by omega) _, ⟨fun h => hN.out.1 (by omega), fun h => hN.out.2.1 (by omega), fun _ => hN2.out⟩⟩
        case measure => simp [intOf]
    · have hr : Hid (r = 0) := by
        have hf := H.out
        rw [hash_Of.f] at hf
        simp only [hN.out.1 (by omega), hN.out.2.1 (by omega), hN.out.2.2 (by omega), Bool.false_eq_true, if_false, Option.some.injEq] at hf
        exact hf.symm
      go_wp2
      go_ret
      exact ⟨by rw [hr.out]; rfl, hB⟩

def hash_Size.f (a0 : Int) : Option Int := some (if a0 = 1 then 32 else if a0 = 2 then 48 else if a0 = 3 then 64 else 0)
theorem hash_Size.calls (a0 : Int) (r : Int) (w : World) (h : hash_Size.f a0 = some r) :
    Calls Try.prog 35 #[.int .i64 a0] w fun e w' => e = .returned (.int .i64 r) ∧ Below w.heap.size w w' := by
  have hfl : ∀ (v0 v1 : Value) (w : World), (Instr.field 57 (.agg #[v0, v1]) 1).run Try.prog w = .ok v1 w := fun _ _ _ => by kernel_rfl
  obtain ⟨s, hs⟩ : ∃ s, hash_of.f a0 = some (s, r) := by
    simp only [hash_Size.f, Option.some.injEq] at h
    subst h
    unfold hash_of.f
    repeat' split
    all_goals exact ⟨_, rfl⟩
  have H := Lib.hid hs
  clear hs h
  go_enter Try.func35, Try.ntmps35
  go_wp2_with (go_at_call 46; refine (hash_of.calls _ _ _ _ H.out).mono ?_; rintro e w' ⟨rfl, hb⟩)
  go_ret
  exact ⟨rfl, hb⟩

def prefixL (h s : Int) : List Int := [48, 17 + s, 48, 13, 6, 9, 96, 134, 72, 1, 101, 3, 4, 2, h, 5, 0, 4, s]
def hash_Prefix.f (a0 : Int) : Option (List Int) := some (if a0 = 1 then prefixL 1 32 else if a0 = 2 then prefixL 2 48 else if a0 = 3 then prefixL 3 64 else [])
theorem prefix_at (a0 s : Int) (h1 : 1 ≤ a0) (h3 : a0 ≤ 3) (hs : hash_Size.f a0 = some s) (w : World) :
    Calls Try.prog 17 #[.int .i64 a0] w fun e w' => ∃ v0_ : Value, e = .returned (v0_) ∧ Kd.V (Kd.int .u8) 5 w' w.heap.size (fun k_ => (w.heap.size ≤ k_)) v0_ (prefixL a0 s) ∧ Below w.heap.size w w' := by
  have kc := fun (w : World) (C : Array Value) (n c : Nat) => Lib.run_convert_bytes_const (P := Try.prog) w 24 5 C n c Try.underlying24 Try.underlying5
  have mc := fun (w : World) (C : Array Value) (j : Nat) => mark_cell w C 5 (19, 20) j
  have ms := fun (w : World) (C : Array Value) (j : Nat) (v : Value) => mark_set w C 5 (19, 20) j v
  have m1 := fun (w : World) (C : Array Value) => mark_free w C 5 19 20 1 (by omega)
  have m14 := fun (w : World) (C : Array Value) => mark_free w C 5 19 20 14 (by omega)
  have m18 := fun (w : World) (C : Array Value) => mark_free w C 5 19 20 18 (by omega)
  have hc : (a0 = 1 ∧ s = 32) ∨ (a0 = 2 ∧ s = 48) ∨ (a0 = 3 ∧ s = 64) := by
    simp only [hash_Size.f, Option.some.injEq] at hs
    have : a0 = 1 ∨ a0 = 2 ∨ a0 = 3 := by omega
    rcases this with rfl | rfl | rfl <;> simp_all
  rcases hc with ⟨rfl, rfl⟩ | ⟨rfl, rfl⟩ | ⟨rfl, rfl⟩
  all_goals
    clear h1 h3
    have H := Lib.hid hs
    clear hs
    go_enter Try.func17, Try.ntmps17
    go_wp2_with (go_at_call 35; refine (hash_Size.calls _ _ _ H.out).mono ?_; rintro e w' ⟨rfl, hb⟩)
    go_ret
    refine ⟨_, rfl, ?_, hb.alloc hb.size _⟩
    show Kd.V _ _ _ _ _ _ _
    have e19 : ∀ h s, (prefixL h s).length = 19 := fun _ _ => rfl
    refine V_of_block (c := 19) (xs := prefixL _ _) (heap_alloc_new _ _) (fun j hj => ?_) (Nat.le_of_eq (e19 _ _)) (by rw [e19]; decide) hb.size
    match j, hj with
    | 0, _ | 1, _ | 2, _ | 3, _ | 4, _ | 5, _ | 6, _ | 7, _ | 8, _ | 9, _ | 10, _ | 11, _ | 12, _ | 13, _ | 14, _ | 15, _ | 16, _ | 17, _ | 18, _ => rfl
    | n + 19, hj => exact absurd hj (by simp [prefixL])
theorem hash_Prefix.calls (a0 : Int) (r : List Int) (w : World) (h : hash_Prefix.f a0 = some r) :
    Calls Try.prog 17 #[.int .i64 a0] w fun e w' => ∃ v0_ : Value, e = .returned (v0_) ∧ Kd.V (Kd.int .u8) 5 w' w.heap.size (fun k_ => (w.heap.size ≤ k_)) v0_ r ∧ Below w.heap.size w w' := by
  by_cases h1 : 1 ≤ a0 ∧ a0 ≤ 3
  · have hr : ∃ s, hash_Size.f a0 = some s ∧ r = prefixL a0 s := by
      simp only [hash_Prefix.f, Option.some.injEq] at h
      subst h
      have : a0 = 1 ∨ a0 = 2 ∨ a0 = 3 := by omega
      rcases this with rfl | rfl | rfl
      · exact ⟨32, rfl, rfl⟩
      · exact ⟨48, rfl, rfl⟩
      · exact ⟨64, rfl, rfl⟩
    obtain ⟨s, hs, rfl⟩ := hr
    exact prefix_at a0 s h1.1 h1.2 hs w
  · have hs : hash_Size.f a0 = some 0 := by
      rw [hash_Size.f, if_neg (by omega), if_neg (by omega), if_neg (by omega)]
    have hr : r = [] := by
      rw [hash_Prefix.f, if_neg (by omega), if_neg (by omega), if_neg (by omega)] at h
      exact (Option.some.inj h).symm
    subst hr
    clear h h1
    have H := Lib.hid hs
    clear hs
    go_enter Try.func17, Try.ntmps17
    go_wp2_with (go_at_call 35; refine (hash_Size.calls _ _ _ H.out).mono ?_; rintro e w' ⟨rfl, hb⟩)
    go_ret
    exact ⟨_, rfl, Kd.V_nil _ _ _ _ _, hb⟩
end Go.Proofs.Ytmmbbkdbebfhiaa.H
