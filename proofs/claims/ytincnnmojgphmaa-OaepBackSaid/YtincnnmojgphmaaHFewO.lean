/- few of oaep's law, by walking its text. -/
import Derived.Test.YtincnnmojgphmaaHSums
set_option linter.unusedVariables false
set_option linter.unusedSimpArgs false
namespace Go.Proofs.Ytincnnmojgphmaa.H
open Go.RowKit Go.Proofs.YtincnnmojgphmaaW.PrintWords Go.Proofs.YtincnnmojgphmaaW.PrintLast
attribute [local go_sem] Oper.semAt_some

set_option maxRecDepth 100000 in
set_option maxHeartbeats 4000000 in
theorem fewO_go (b : Nat) (T : TypeId) (xs : List (Option Addr × Nat × Nat)) (w : World) (hx : xs.length ≤ 100) (hb : w.heap[b]? = some (.cells (xs.map fun x => Value.slice x.1 x.2.1 x.2.2).toArray T (0, 0))) :
    Calls Try.prog 19 #[.slice (some ⟨b, 0, none⟩) xs.length xs.length] w fun e w' => e = .returned (.bool (decide (∀ x ∈ xs, x.2.1 ≤ 400))) ∧ Below w.heap.size w w' := by
  go_enter Try.func19, Try.ntmps19
  go_wp2
  go_loopw [7] (fun i wr => ∃ k : Nat, k ≤ xs.length ∧ i = .int .i64 k ∧ wr.heap[b]? = some (.cells (xs.map fun x => Value.slice x.1 x.2.1 x.2.2).toArray T (0, 0)) ∧ Below w.heap.size w wr ∧ ∀ x ∈ xs.take k, x.2.1 ≤ 400)
    (fun i _ => xs.length - (intOf i).toNat)
  case atStart => exact ⟨0, by omega, rfl, hb, Below.refl _ _, fun x h => by simp at h⟩
  case round =>
    obtain ⟨k, hk, rfl, hbk, hbw, hall⟩ := hrel
    by_cases hlt : k < xs.length
    · have hc := blk_cell hbk k
      rw [List.getElem?_toArray, List.getElem?_map, List.getElem?_eq_getElem hlt, Option.map_some] at hc
      have HB := Lib.hid hbk
      have HW := Lib.hid hbw
      have HA := Lib.hid hall
      clear hbk hbw hall
      by_cases h4 : xs[k].2.1 ≤ 400
      · go_wp2
        go_roundw
        case rel =>
          refine ⟨k + 1, by omega, by go_num, HB.out, HW.out, fun x h => ?_⟩
          rw [List.take_add_one, List.getElem?_eq_getElem hlt] at h
          rcases List.mem_append.1 h with h1 | h1
          · exact HA.out x h1
          · simp at h1; subst h1; exact h4
        case measure => simp [intOf]; omega
      · go_wp2
        refine bodyPost_ret (v := .bool false) (by simp [results, go_sem]) rfl ⟨?_, HW.out⟩
        congr 2
        symm
        rw [decide_eq_false_iff_not]
        exact fun hc => h4 (hc _ (List.getElem_mem hlt))
    · have HB := Lib.hid hbk
      have HW := Lib.hid hbw
      have HA := Lib.hid hall
      clear hbk hbw hall
      go_wp2
      refine bodyPost_ret (v := .bool true) (by simp [results, go_sem]) rfl ⟨?_, HW.out⟩
      congr 2
      symm
      rw [decide_eq_true_iff]
      have := HA.out
      rwa [List.take_of_length_le (by omega)] at this

def fewO1.f (l0 : List Int) : Option Bool := some (decide (l0.length ≤ 400))
theorem fewO1.calls (A0 : Option Addr) (c0 : Nat) (l0 : List Int) (r : Bool) (w : World) (hr0 : Kd.C (Kd.int .u8) w A0 l0.length l0) (hc0 : l0.length ≤ c0) (h : fewO1.f l0 = some r) :
    Calls Try.prog 19 #[.slice (some ⟨w.heap.size, 0, none⟩) 1 1] (w.alloc (.cells #[.slice A0 l0.length c0] 22)) fun e w' => e = .returned (.bool r) ∧ Below w.heap.size w w' := by
  cases h
  refine (fewO_go w.heap.size 22 [(A0, l0.length, c0)] _ (by simp) (by rw [heap_at, if_pos rfl]; rfl)).mono ?_
  rintro e w' ⟨he, hb⟩
  exact ⟨by simpa using he, box_below hb⟩
def fewO3.f (l0 l1 l2 : List Int) : Option Bool := some (decide (l0.length ≤ 400 ∧ l1.length ≤ 400 ∧ l2.length ≤ 400))
theorem fewO3.calls (A0 : Option Addr) (c0 : Nat) (l0 : List Int) (A1 : Option Addr) (c1 : Nat) (l1 : List Int) (A2 : Option Addr) (c2 : Nat) (l2 : List Int) (r : Bool) (w : World) (hr0 : Kd.C (Kd.int .u8) w A0 l0.length l0) (hc0 : l0.length ≤ c0) (hr1 : Kd.C (Kd.int .u8) w A1 l1.length l1) (hc1 : l1.length ≤ c1) (hr2 : Kd.C (Kd.int .u8) w A2 l2.length l2) (hc2 : l2.length ≤ c2) (h : fewO3.f l0 l1 l2 = some r) :
    Calls Try.prog 19 #[.slice (some ⟨w.heap.size, 0, none⟩) 3 3] (w.alloc (.cells #[.slice A0 l0.length c0, .slice A1 l1.length c1, .slice A2 l2.length c2] 22)) fun e w' => e = .returned (.bool r) ∧ Below w.heap.size w w' := by
  cases h
  refine (fewO_go w.heap.size 22 [(A0, l0.length, c0), (A1, l1.length, c1), (A2, l2.length, c2)] _ (by simp) (by rw [heap_at, if_pos rfl]; rfl)).mono ?_
  rintro e w' ⟨he, hb⟩
  exact ⟨by simpa using he, box_below hb⟩
def fewO4.f (l0 l1 l2 l3 : List Int) : Option Bool := some (decide (l0.length ≤ 400 ∧ l1.length ≤ 400 ∧ l2.length ≤ 400 ∧ l3.length ≤ 400))
theorem fewO4.calls (A0 : Option Addr) (c0 : Nat) (l0 : List Int) (A1 : Option Addr) (c1 : Nat) (l1 : List Int) (A2 : Option Addr) (c2 : Nat) (l2 : List Int) (A3 : Option Addr) (c3 : Nat) (l3 : List Int) (r : Bool) (w : World) (hr0 : Kd.C (Kd.int .u8) w A0 l0.length l0) (hc0 : l0.length ≤ c0) (hr1 : Kd.C (Kd.int .u8) w A1 l1.length l1) (hc1 : l1.length ≤ c1) (hr2 : Kd.C (Kd.int .u8) w A2 l2.length l2) (hc2 : l2.length ≤ c2) (hr3 : Kd.C (Kd.int .u8) w A3 l3.length l3) (hc3 : l3.length ≤ c3) (h : fewO4.f l0 l1 l2 l3 = some r) :
    Calls Try.prog 19 #[.slice (some ⟨w.heap.size, 0, none⟩) 4 4] (w.alloc (.cells #[.slice A0 l0.length c0, .slice A1 l1.length c1, .slice A2 l2.length c2, .slice A3 l3.length c3] 22)) fun e w' => e = .returned (.bool r) ∧ Below w.heap.size w w' := by
  cases h
  refine (fewO_go w.heap.size 22 [(A0, l0.length, c0), (A1, l1.length, c1), (A2, l2.length, c2), (A3, l3.length, c3)] _ (by simp) (by rw [heap_at, if_pos rfl]; rfl)).mono ?_
  rintro e w' ⟨he, hb⟩
  exact ⟨by simpa using he, box_below hb⟩
end Go.Proofs.Ytincnnmojgphmaa.H
