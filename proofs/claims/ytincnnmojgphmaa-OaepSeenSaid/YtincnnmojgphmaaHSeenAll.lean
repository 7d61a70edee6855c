/- few of oaep's law, by walking its text. -/
import Derived.Test.YtincnnmojgphmaaHSums
import Derived.Test.YtincnnmojgphmaaHOaep
import Derived.Test.YtincnnmojgphmaaHTrAll
import Derived.Maps.AppendAt
set_option linter.unusedVariables false
set_option linter.unusedSimpArgs false
namespace Go.Proofs.Ytincnnmojgphmaa.H
open Go.RowKit Go.Proofs.YtincnnmojgphmaaW.PrintWords Go.Proofs.YtincnnmojgphmaaW.PrintLast
attribute [local go_sem] Oper.semAt_some

set_option maxRecDepth 100000 in
set_option maxHeartbeats 4000000 in
theorem fewO_go (b : Nat) (T : TypeId) (xs : List (Option Addr × Nat × Nat)) (w : World) (hx : xs.length ≤ 100) (hb : w.heap[b]? = some (.cells (xs.map fun x => Value.slice x.1 x.2.1 x.2.2).toArray T (0, 0))) :
    Calls Try.prog 19 #[.slice (some ⟨b, 0, none⟩) xs.length xs.length] w fun e w' => e = .returned (.bool (decide (∀ x ∈ xs, x.2.1 ≤ 400))) ∧ Below w.heap.size w w' := by
  go_enter Try.func19, Try.ntmps19
  go_wp2
  go_loopw [7] (fun i wr => ∃ k : Nat, k ≤ xs.length ∧ i = .int .i64 k ∧ wr.heap[b]? = some (.cells (xs.map fun x => Value.slice x.1 x.2.1 x.2.2).toArray T (0, 0)) ∧ Below w.heap.size w wr ∧ ∀ x ∈ xs.take k, x.2.1 ≤ 400)
    (fun i _ => xs.length - (intOf i).toNat)
  case atStart => exact ⟨0, by omega, rfl, hb, Below.refl _ _, fun x h => by simp at h⟩
  case round =>
    obtain ⟨k, hk, rfl, hbk, hbw, hall⟩ := hrel
    by_cases hlt : k < xs.length
    · have hc := blk_cell hbk k
      rw [List.getElem?_toArray, List.getElem?_map, List.getElem?_eq_getElem hlt, Option.map_some] at hc
      have HB := Lib.hid hbk
      have HW := Lib.hid hbw
      have HA := Lib.hid hall
      clear hbk hbw hall
      by_cases h4 : xs[k].2.1 ≤ 400
      · go_wp2
        go_roundw
        case rel =>
          refine ⟨k + 1, by omega, by go_num, HB.out, HW.out, fun x h => ?_⟩
          rw [List.take_add_one, List.getElem?_eq_getElem hlt] at h
          rcases List.mem_append.1 h with h1 | h1
          · exact HA.out x h1
          · simp at h1; subst h1; exact h4
        case measure => simp [intOf]; omega
      · go_wp2
        refine bodyPost_ret (v := .bool false) (by simp [results, go_sem]) rfl ⟨?_, HW.out⟩
        congr 2
        symm
        rw [decide_eq_false_iff_not]
        exact fun hc => h4 (hc _ (List.getElem_mem hlt))
    · have HB := Lib.hid hbk
      have HW := Lib.hid hbw
      have HA := Lib.hid hall
      clear hbk hbw hall
      go_wp2
      refine bodyPost_ret (v := .bool true) (by simp [results, go_sem]) rfl ⟨?_, HW.out⟩
      congr 2
      symm
      rw [decide_eq_true_iff]
      have := HA.out
      rwa [List.take_of_length_le (by omega)] at this

def fewO1.f (l0 : List Int) : Option Bool := some (decide (l0.length ≤ 400))
theorem fewO1.calls (A0 : Option Addr) (c0 : Nat) (l0 : List Int) (r : Bool) (w : World) (hr0 : Kd.C (Kd.int .u8) w A0 l0.length l0) (hc0 : l0.length ≤ c0) (h : fewO1.f l0 = some r) :
    Calls Try.prog 19 #[.slice (some ⟨w.heap.size, 0, none⟩) 1 1] (w.alloc (.cells #[.slice A0 l0.length c0] 22)) fun e w' => e = .returned (.bool r) ∧ Below w.heap.size w w' := by
  cases h
  refine (fewO_go w.heap.size 22 [(A0, l0.length, c0)] _ (by simp) (by rw [heap_at, if_pos rfl]; rfl)).mono ?_
  rintro e w' ⟨he, hb⟩
  exact ⟨by simpa using he, box_below hb⟩
def fewO3.f (l0 l1 l2 : List Int) : Option Bool := some (decide (l0.length ≤ 400 ∧ l1.length ≤ 400 ∧ l2.length ≤ 400))
theorem fewO3.calls (A0 : Option Addr) (c0 : Nat) (l0 : List Int) (A1 : Option Addr) (c1 : Nat) (l1 : List Int) (A2 : Option Addr) (c2 : Nat) (l2 : List Int) (r : Bool) (w : World) (hr0 : Kd.C (Kd.int .u8) w A0 l0.length l0) (hc0 : l0.length ≤ c0) (hr1 : Kd.C (Kd.int .u8) w A1 l1.length l1) (hc1 : l1.length ≤ c1) (hr2 : Kd.C (Kd.int .u8) w A2 l2.length l2) (hc2 : l2.length ≤ c2) (h : fewO3.f l0 l1 l2 = some r) :
    Calls Try.prog 19 #[.slice (some ⟨w.heap.size, 0, none⟩) 3 3] (w.alloc (.cells #[.slice A0 l0.length c0, .slice A1 l1.length c1, .slice A2 l2.length c2] 22)) fun e w' => e = .returned (.bool r) ∧ Below w.heap.size w w' := by
  cases h
  refine (fewO_go w.heap.size 22 [(A0, l0.length, c0), (A1, l1.length, c1), (A2, l2.length, c2)] _ (by simp) (by rw [heap_at, if_pos rfl]; rfl)).mono ?_
  rintro e w' ⟨he, hb⟩
  exact ⟨by simpa using he, box_below hb⟩
def fewO4.f (l0 l1 l2 l3 : List Int) : Option Bool := some (decide (l0.length ≤ 400 ∧ l1.length ≤ 400 ∧ l2.length ≤ 400 ∧ l3.length ≤ 400))
theorem fewO4.calls (A0 : Option Addr) (c0 : Nat) (l0 : List Int) (A1 : Option Addr) (c1 : Nat) (l1 : List Int) (A2 : Option Addr) (c2 : Nat) (l2 : List Int) (A3 : Option Addr) (c3 : Nat) (l3 : List Int) (r : Bool) (w : World) (hr0 : Kd.C (Kd.int .u8) w A0 l0.length l0) (hc0 : l0.length ≤ c0) (hr1 : Kd.C (Kd.int .u8) w A1 l1.length l1) (hc1 : l1.length ≤ c1) (hr2 : Kd.C (Kd.int .u8) w A2 l2.length l2) (hc2 : l2.length ≤ c2) (hr3 : Kd.C (Kd.int .u8) w A3 l3.length l3) (hc3 : l3.length ≤ c3) (h : fewO4.f l0 l1 l2 l3 = some r) :
    Calls Try.prog 19 #[.slice (some ⟨w.heap.size, 0, none⟩) 4 4] (w.alloc (.cells #[.slice A0 l0.length c0, .slice A1 l1.length c1, .slice A2 l2.length c2, .slice A3 l3.length c3] 22)) fun e w' => e = .returned (.bool r) ∧ Below w.heap.size w w' := by
  cases h
  refine (fewO_go w.heap.size 22 [(A0, l0.length, c0), (A1, l1.length, c1), (A2, l2.length, c2), (A3, l3.length, c3)] _ (by simp) (by rw [heap_at, if_pos rfl]; rfl)).mono ?_
  rintro e w' ⟨he, hb⟩
  exact ⟨by simpa using he, box_below hb⟩
end Go.Proofs.Ytincnnmojgphmaa.H

set_option linter.unusedVariables false
set_option linter.unusedSimpArgs false
namespace Go.Proofs.Ytincnnmojgphmaa.H
open Go.RowKit Go.Proofs.YtincnnmojgphmaaW.PrintWords Go.Proofs.YtincnnmojgphmaaW.PrintLast Go.Proofs.Ytincnnmojgphmaa.Sha Go.Proofs.YtincnnmojgphmaaW.PrintMore Go.Proofs.Ytincnnmojgphmaa.PT Go.Proofs.Ytincnnmojgphmaa.PO
attribute [local go_sem] Oper.semAt_some

theorem Tr.below {W W' : World} {tb base n : Nat} {cs : List Value} {s : Int} (h : Tr W tb base n cs s) (hb : Below W.heap.size W W') : Tr W' tb base n cs s := by
  obtain ⟨v, h1, h2⟩ := h.row
  exact ⟨⟨v, (hb.block _ (Array.getElem?_eq_some_iff.1 h1).1).trans h1, owns_away3 h2 (S := fun _ => False) (Away.of_below hb) (fun k hk => hk.elim)⟩⟩
theorem Tr.lower {W : World} {tb base base' n : Nat} {cs : List Value} {s : Int} (h : Tr W tb base n cs s) (hb : base' ≤ base) : Tr W tb base' n cs s := by
  obtain ⟨v, h1, h2⟩ := h.row
  refine ⟨⟨v, h1, h2.1, ?_⟩⟩
  rcases h2.2 with h0 | ⟨g, c, cur, he, hb2, hg, hr⟩
  · exact .inl h0
  · exact .inr ⟨g, c, cur, he, Nat.le_trans hb hb2, hg, hr⟩
theorem C_footV {W W' : World} {base : Nat} {ok : Nat → Prop} {A : Option Addr} {c n : Nat} {xs : List Int} (h : Kd.V (Kd.int .u8) 5 W base ok (.slice A n c) xs) (hs : ∀ k, ok k → k < W.heap.size → W'.heap[k]? = W.heap[k]?) : Kd.C (Kd.int .u8) W' A xs.length xs := by
  obtain ⟨A', c', e, _, hf⟩ := h
  cases e
  exact hf W' hs
theorem span_t (tb base n : Nat) (cs : List Value) (sum k : Int) (w : World) (hn : n ≤ 10) (hb : tb < base) (hbs : base ≤ w.heap.size) (ht : Tr w tb base n cs sum) :
    Calls Try.prog 43 #[.pointer (some ⟨tb, 0, none⟩), .int .i64 k] w fun e w' => (∃ v, e = .returned v) ∧ Tr w' tb base (n + 1) (cs ++ [.int .i64 1, .int .i64 k, .int .i64 0]) (spanSum n sum k) ∧ Away (fun j => j = tb ∨ base ≤ j) w w' := by
  have HP : Hid (Calls Try.prog 60 #[.pointer (some ⟨tb, 0, none⟩), .agg #[.int .i64 1, .int .i64 k, .int .i64 0]] w fun e w' => (∃ v, e = .returned v) ∧ Tr w' tb base (n + 1) (cs ++ [.int .i64 1, .int .i64 k, .int .i64 0]) (spanSum n sum k) ∧ Away (fun j => j = tb ∨ base ≤ j) w w') := by
    by_cases h0 : n = 0
    · subst h0
      exact put0_ok tb base cs sum k w hb hbs ht
    · exact putN_ok tb base n h0 cs sum k w hn hb hbs ht
  clear ht
  go_enter Try.func43, Try.ntmps43
  go_wp2_with fail
  refine HP.out.mono ?_
  rintro e w2 ⟨⟨v2, rfl⟩, h2, h3⟩
  have H2 := Lib.hid h2
  have H3 := Lib.hid h3
  clear h2 h3
  go_wp2_with fail
  go_end0
  exact ⟨⟨_, rfl⟩, H2.out, H3.out⟩
set_option maxRecDepth 100000 in
set_option maxHeartbeats 2000000 in
theorem equal_t (tb base : Nat) (s0 : Int) (A1 : Option Addr) (c1 : Nat) (a : List Int) (A2 : Option Addr) (c2 : Nat) (b : List Int) (w : World) (hbs : base = w.heap.size) (htb : tb < base) (ht : Tr w tb base 0 [] s0) (h1 : ∀ W : World, (∀ k, k < base → k ≠ tb → W.heap[k]? = w.heap[k]?) → Kd.C (Kd.int .u8) W A1 a.length a) (hc1 : a.length ≤ c1) (h2 : ∀ W : World, (∀ k, k < base → k ≠ tb → W.heap[k]? = w.heap[k]?) → Kd.C (Kd.int .u8) W A2 b.length b) (hc2 : b.length ≤ c2)
    (hl : a.length = b.length) (hm : a.length ≤ 100000) (ha : inB 8 a) (hb : inB 8 b) (R : Int) (hR : R = if a = b then 1 else 0) :
    Calls Try.prog 42 #[.pointer (some ⟨tb, 0, none⟩), .slice A1 a.length c1, .slice A2 b.length c2] w fun e w' => e = .returned (.int .u64 R) ∧ Tr w' tb base 1 [.int .i64 1, .int .i64 (b.length : Int), .int .i64 0] (spanSum 0 s0 (b.length : Int)) ∧ Away (fun j => j = tb ∨ base ≤ j) w w' := by
  have HSp : Hid (Calls Try.prog 43 #[.pointer (some ⟨tb, 0, none⟩), .int .i64 (b.length : Int)] w fun e w' => (∃ v, e = .returned v) ∧ Tr w' tb base 1 [.int .i64 1, .int .i64 (b.length : Int), .int .i64 0] (spanSum 0 s0 (b.length : Int)) ∧ Away (fun j => j = tb ∨ base ≤ j) w w') := span_t tb base 0 [] s0 (b.length : Int) w (by omega) htb (by omega) ht
  have HZe : Hid (∀ (x : Int) (r : Int) (W : World), word_Zero.f x = some r → Calls Try.prog 41 #[.int .u64 x] W fun e w' => e = .returned (.int .u64 r) ∧ Drawn0 W w') := fun x r W h => word_Zero.calls x r W h
  have H1 := Lib.hid h1
  have H2 := Lib.hid h2
  clear h1 h2 ht
  rw [← hl] at hc2 H2 ⊢
  have HRR := Lib.hid hR
  clear hR
  go_enter Try.func42, Try.ntmps42
  go_wp2_with fail
  refine HSp.out.mono ?_
  rintro e w2 ⟨⟨v2, rfl⟩, ht2, ha2⟩
  have HA2 := Lib.hid ha2
  have HTF : Hid (∀ W : World, Below w2.heap.size w2 W → Tr W tb base 1 [.int .i64 1, .int .i64 (b.length : Int), .int .i64 0] (spanSum 0 s0 (b.length : Int))) := fun W hW => ht2.below hW
  have HAF : Hid (∀ W : World, Below w2.heap.size w2 W → Away (fun j => j = tb ∨ base ≤ j) w W) := fun W hW => ha2.trans (Away.of_below hW)
  have HK : Hid (∀ W : World, Below w2.heap.size w2 W → ∀ k, k < base → k ≠ tb → W.heap[k]? = w.heap[k]?) := fun W hW k hk hn => (hW.block k (by have := ha2.size; omega)).trans (ha2.block k (by omega) (fun x => by omega))
  clear ht2 ha2
  go_wp2_with fail
  go_loopw [8, 29] (fun x i wr => ∃ k : Nat, k ≤ a.length ∧ i = .int .i64 k ∧ x = .int .u64 (accE a b k) ∧ Hid (Below w2.heap.size w2 wr)) (fun _ i _ => a.length - (intOf i).toNat)
  case atStart =>
    refine ⟨0, by omega, rfl, ?_, Below.refl _ _⟩
    have h0 : Go.bits .xor .i64 (b.length : Int) (b.length : Int) = 0 := by
      rw [i64_xor_self]
    rw [h0]
    rfl
  case round =>
    obtain ⟨k, hk, rfl, rfl, hbw⟩ := hrel
    by_cases hlt : k < a.length
    · have hC1 := Kd.reads_of_C (d := (0 : Int)) (H1.out wr (HK.out wr hbw.out))
      have hC2 := Kd.reads_of_C (d := (0 : Int)) (H2.out wr (HK.out wr hbw.out))
      obtain ⟨ad1, rfl, hr1⟩ := hC1.2.2 (by omega)
      obtain ⟨ad2, rfl, hr2⟩ := hC2.2.2 (by omega)
      have q1 := hr1 k hlt
      have q2 := hr2 k hlt
      have hk64 : (k : Int) < (a.length : Int) := by omega
      have hk0 : (0 : Int) ≤ (k : Int) := by omega
      clear hr1 hr2 hC1 hC2
      go_wp2_with fail
      go_quiet (fail)
      go_wp2_with fail
      go_roundw
      case rel =>
        refine ⟨k + 1, by omega, by go_num, ?_, pw_below_drewN hbw.out _⟩
        rw [accE, List.getD_eq_getElem?_getD, List.getD_eq_getElem?_getD, List.getElem?_eq_getElem (by omega), List.getElem?_eq_getElem (by omega)]
        rfl
      case measure => simp [intOf]; omega
    · have hka : k = a.length := by omega
      have hin := accE_in a b ha hb k (by omega) (by omega)
      have hz := zero_u64 (accE a b k) hin.1 (by omega)
      have heq : (if accE a b k = 0 then (1 : Int) else 0) = if a = b then 1 else 0 := by
        have h3 := hin.2.2
        rw [List.take_of_length_le (by omega), List.take_of_length_le (by omega)] at h3
        by_cases h4 : a = b
        · rw [if_pos (h3.2 h4), if_pos h4]
        · rw [if_neg (fun x => h4 (h3.1 x)), if_neg h4]
      rw [heq, ← HRR.out] at hz
      clear heq hin hka
      have HZ2 := Lib.hid hz
      clear hz
      go_wp2_with fail
      refine (HZe.out _ _ _ HZ2.out).mono ?_
      rintro e w9 ⟨rfl, hd9⟩
      have HB9 := Lib.hid (hbw.out.trans (hd9.below.mono hbw.out.size))
      clear hd9
      go_wp2_with fail
      go_ret
      refine ⟨rfl, ?_, ?_⟩
      · rw [hl]; exact HTF.out _ HB9.out
      · exact HAF.out _ HB9.out
set_option maxRecDepth 100000 in
set_option maxHeartbeats 2000000 in
theorem decode_t (tb : Nat) (s0 : Int) (h : Int) (hh : h = 1 ∨ h = 2 ∨ h = 3) (A1 : Option Addr) (c1 : Nat) (label : List Int) (A2 : Option Addr) (c2 : Nat) (em : List Int) (w : World) (h1 : Kd.C (Kd.int .u8) w A1 label.length label) (hc1 : label.length ≤ c1) (h2 : Kd.C (Kd.int .u8) w A2 em.length em) (hc2 : em.length ≤ c2)
    (hb1 : inB 8 label) (hbE : inB 8 em) (hm1 : label.length ≤ 100000) (hlo : 2 * hlen h + 2 ≤ em.length) (hhi : em.length ≤ 1024) (htb : tb < w.heap.size) (ht : w.heap[tb]? = some (.cells #[.slice none 0 0, .int .i64 ((0 : Nat) : Int), .int .u64 s0] 76 (0, 0))) :
    Calls Try.prog 20 #[.pointer (some ⟨tb, 0, none⟩), .int .i64 h, .slice A1 label.length c1, .slice A2 em.length c2] w fun e w' => (∃ v, e = .returned v) ∧ Tr w' tb w.heap.size 2 [.int .i64 1, .int .i64 (hlen h : Int), .int .i64 0, .int .i64 1, .int .i64 ((em.length - (1 + hlen h) : Nat) : Int), .int .i64 0] (spanSum 1 (spanSum 0 s0 (hlen h : Int)) ((em.length - (1 + hlen h) : Nat) : Int)) ∧ Away (fun j => j = tb) w w' := by
  have hsz : Hid (∀ W, Calls Try.prog 29 #[.int .i64 h] W fun e w' => e = .returned (.int .i64 (hlen h : Int)) ∧ Below W.heap.size W w') := fun W => hash_Size.calls h _ W (size_at h hh)
  have hl0 : ((hlen h : Int) == 0) = false := by have := hlen_pos h; simp; omega
  have HCl : Hid (∀ (W1 : World), Below w.heap.size w W1 → Calls Try.prog 38 #[.slice A2 em.length c2] W1 fun e w' => ∃ v0_ : Value, e = .returned v0_ ∧ Kd.R (Kd.int .u8) 5 w' W1.heap.size (fun k => W1.heap.size ≤ k) v0_ em ∧ Below W1.heap.size W1 w') := by
    intro W1 hb
    refine (slices_Clone_byte_byte.calls A2 c2 em em W1 (C_same h2 (fun i hi => hb.block i hi)) hc2 (by simp [slices_Clone_byte_byte.f]; omega)).mono ?_
    rintro e w' ⟨v, rfl, hv, hb2⟩
    exact ⟨v, rfl, Kd.R_mono (Kd.R_bound hv) (fun k hk => hk.2.1), hb2⟩
  have HSm : Hid (∀ (W1 : World), Below w.heap.size w W1 → Calls Try.prog 40 #[.int .i64 h, .slice A1 label.length c1] W1 fun e w' => ∃ v0_ : Value, e = .returned (.tuple #[v0_, .int .i64 0]) ∧ Kd.V (Kd.int .u8) 5 w' W1.heap.size (fun k_ => (W1.heap.size ≤ k_)) v0_ (hsum h label) ∧ Below W1.heap.size W1 w') :=
    fun W1 hb => hash_Sum.calls h A1 c1 label (hsum h label) 0 W1 (C_same h1 (fun i hi => hb.block i hi)) hc1 (sum_at h hh label hb1 (by omega))
  obtain ⟨r1, r2, hr⟩ : ∃ r1 r2, openL h label em = (r1, r2) := ⟨_, _, rfl⟩
  have HTB := Lib.hid htb
  have HT0 := Lib.hid ht
  clear htb ht
  have HMk : Hid (∀ W, Calls Try.prog 39 #[.int .i64 h] W fun e w' => e = .returned (.func (.func 56) #[] #[.pointer (some ⟨W.heap.size, 0, none⟩)]) ∧ w' = W.alloc (.cells #[.int .i64 h] 3)) := fun W => (callsIn_wide (n := 8)).1 (masks_in 8 (by omega) h W)
  have H1 := Lib.hid h1
  have H2 := Lib.hid h2
  clear h1 h2
  go_enter Try.func20, Try.ntmps20
  go_wp2_with fail
  refine (hsz.out _).mono ?_
  rintro e w2 ⟨rfl, hb2⟩
  have HB2 := Lib.hid hb2
  clear hb2
  go_wp2_with fail
  refine (HCl.out _ HB2.out).mono ?_
  rintro e w3 ⟨v3, rfl, hv3, hb3⟩
  obtain ⟨g, c3, rfl, hg0, hg1, hgc, hrow⟩ := Row.of_R hv3 (by have := hlen_pos h; omega)
  have HB3 := Lib.hid (HB2.out.trans (hb3.mono HB2.out.size))
  have HROW := Lib.hid hrow
  have HG : Hid (w.heap.size ≤ g) := Nat.le_trans HB2.out.size hg0
  have HG1 := Lib.hid hg1
  clear hb3 hrow hg0 hg1 hv3
  go_wp2_with fail
  refine (HMk.out w3).mono ?_
  rintro e w4 ⟨rfl, hw4⟩
  have hcell4 : w4.cell? ⟨w3.heap.size, 0, none⟩ = some (.int .i64 h) := by rw [hw4]; exact blk_cell (World.alloc_heap_new w3 _) 0
  have hrow4 : Row w4 g em := HROW.out.same (by rw [hw4]; exact Below.heap_alloc _ _ _ HG1.out)
  have hbel4 : Below w.heap.size w w4 := by rw [hw4]; exact HB3.out.alloc HB3.out.size _
  have HCE4 := Lib.hid hcell4
  have HRO4 := Lib.hid hrow4
  have HB4 := Lib.hid hbel4
  clear hcell4 hrow4 hbel4 hw4
  have hs0 : (0 : Int) ≤ (hlen h : Int) := by omega
  have hs1 : (1 : Int) + (hlen h : Int) ≤ (em.length : Int) := by omega
  have hs2 : (em.length : Int) ≤ (c3 : Int) := by omega
  go_wp2_with fail
  have hw1 : IntKind.i64.wrap (1 + (hlen h : Int)) = 1 + (hlen h : Int) := by rw [IntKind.wrap_i64]; omega
  have q0 : (0 : Int) ≤ 1 + (hlen h : Int) := by omega
  have q1 : 1 + (hlen h : Int) ≤ (c3 : Int) := by omega
  have q2 : (1 : Int) ≤ max (1 + (hlen h : Int)) 0 := by omega
  have q3 : (1 : Int) ≤ 1 + (hlen h : Int) := by omega
  have q4 : (1 + (hlen h : Int)).toNat = 1 + hlen h := by omega
  have q5 : (1 + hlen h) - 1 = hlen h := by omega
  have q6 : (c3 = 1) = False := eq_false (by omega)
  have q7 : (c3 = 1 + hlen h) = False := eq_false (by have := hlen_pos h; omega)
  go_still_tail 9, (by kernel_rfl)
  change wpList _ _ _ _ _ w4.drew
  have HCE5 : Hid (w4.drew.cell? ⟨w3.heap.size, 0, none⟩ = some (.int .i64 h)) := HCE4.out
  have HRO5 : Hid (Row w4.drew g em) := HRO4.out.same rfl
  have HB5 : Hid (Below w.heap.size w w4.drew) := HB4.out.drew
  clear HCE4 HRO4 HB4
  generalize w4.drew = w5 at HCE5 HRO5 HB5 ⊢
  go_wp2_with fail
  have hsl := hlen_pos h
  have hN0 : 0 < em.length := by omega
  refine (((callsIn_wide (n := 8)).1 (masks1_in 8 (by omega) h hh w3.heap.size w5 HCE5.out g em hbE HRO5.out (by omega) hN0 1 (hlen h) (c3 - 1) (1 + hlen h) (em.length - (1 + hlen h)) (c3 - (1 + hlen h)) (by omega) (by omega) (by omega) (by omega)))).mono ?_
  rintro e w6 ⟨⟨v6, rfl⟩, hrow6, haw6⟩
  obtain ⟨E1, hE1⟩ : ∃ E1, E1 = maskE h em 1 (hlen h) (1 + hlen h) (em.length - (1 + hlen h)) := ⟨_, rfl⟩
  rw [← hE1] at hrow6
  have hl1 : E1.length = em.length := by rw [hE1]; exact maskE_length _ _ _ _ _ _ (by omega)
  have hi1 : inB 8 E1 := by rw [hE1]; exact maskE_in h hh _ hbE _ _ _ _
  have hcell6 : w6.cell? ⟨w3.heap.size, 0, none⟩ = some (.int .i64 h) := by
    rw [World.cell?_of_block (w := w5) (haw6.block _ (World.block_lt_of_cell? _ _ HCE5.out) (by have := HG1.out; show w3.heap.size ≠ g; omega))]
    exact HCE5.out
  have hb6 : Below w.heap.size w w6 := Away.below HB5.out haw6 (fun i hi => by rw [hi]; exact HG.out) HB5.out.size
  have HE1 := Lib.hid hE1
  have HCE6 := Lib.hid hcell6
  have HRO6 := Lib.hid hrow6
  have HB6 := Lib.hid hb6
  have HL1 := Lib.hid hl1
  have HI1 := Lib.hid hi1
  clear hE1 hl1 hi1 hcell6 hrow6 hb6 haw6 HCE5 HRO5 HB5
  go_wp2_with fail
  go_still_tail 9, (by kernel_rfl)
  change wpList _ _ _ _ _ w6.drew
  have HCE7 : Hid (w6.drew.cell? ⟨w3.heap.size, 0, none⟩ = some (.int .i64 h)) := HCE6.out
  have HRO7 : Hid (Row w6.drew g E1) := HRO6.out.same rfl
  have HB7 : Hid (Below w.heap.size w w6.drew) := HB6.out.drew
  clear HCE6 HRO6 HB6
  generalize w6.drew = w7 at HCE7 HRO7 HB7 ⊢
  go_wp2_with fail
  refine (((callsIn_wide (n := 8)).1 (masks1_in 8 (by omega) h hh w3.heap.size w7 HCE7.out g E1 HI1.out HRO7.out (by rw [HL1.out]; omega) (by rw [HL1.out]; omega) (1 + hlen h) (em.length - (1 + hlen h)) (c3 - (1 + hlen h)) 1 (hlen h) (c3 - 1) (by rw [HL1.out]; omega) (by rw [HL1.out]; omega) (by omega) (by omega)))).mono ?_
  rintro e w8 ⟨⟨v8, rfl⟩, hrow8, haw8⟩
  have hE2 : maskE h E1 (1 + hlen h) (em.length - (1 + hlen h)) 1 (hlen h) = decL h em := by rw [HE1.out]; rfl
  rw [hE2] at hrow8
  have hl2 : (decL h em).length = em.length := by rw [← hE2, maskE_length _ _ _ _ _ _ (by rw [HL1.out]; omega), HL1.out]
  have hi2 : inB 8 (decL h em) := by rw [← hE2]; exact maskE_in h hh _ HI1.out _ _ _ _
  have hb8 : Below w.heap.size w w8 := Away.below HB7.out haw8 (fun i hi => by rw [hi]; exact HG.out) HB7.out.size
  obtain ⟨D, hD⟩ : ∃ D, D = decL h em := ⟨_, rfl⟩
  rw [← hD] at hrow8 hl2 hi2
  have HD := Lib.hid hD
  have HRO8 := Lib.hid hrow8
  have HB8 := Lib.hid hb8
  have HL2 := Lib.hid hl2
  have HI2 := Lib.hid hi2
  clear hD hl2 hi2 hrow8 hb8 haw8 hE2 HCE7 HRO7 HB7 HE1 HL1 HI1
  go_wp2_with fail
  refine (HSm.out _ HB8.out).mono ?_
  rintro e w9 ⟨v9, rfl, hv9, hb9⟩
  obtain ⟨Ao, co, rfl⟩ := Kd.V_slice hv9
  have hVr := Kd.V_reads' hv9
  have hCF9 : ∀ W : World, (∀ k, k < w9.heap.size → k ≠ tb → W.heap[k]? = w9.heap[k]?) → Kd.C (Kd.int .u8) W Ao (hlen h) (hsum h label) := fun W hW => by
    have h0 := C_footV hv9 (W' := W) (fun k hk hlt => hW k hlt (by have := HTB.out; have := HB8.out.size; omega))
    rw [hsum_length] at h0
    exact h0
  rw [hsum_length] at hVr ⊢
  have HRO9 : Hid (Row w9 g D) := HRO8.out.same (hb9.block _ (HRO8.out.lt (by rw [HL2.out]; exact hN0)))
  have HV9 := Lib.hid hVr
  have HB9 : Hid (Below w.heap.size w w9) := HB8.out.trans (hb9.mono HB8.out.size)
  have HCF9 := Lib.hid hCF9
  clear hVr hv9 hb9 HRO8 HB8 hCF9
  have hd0 : w9.cell? ⟨g, 0, none⟩ = some (.int .u8 (D.getD 0 0)) := HRO9.out.cell 0 (by rw [HL2.out]; exact hN0)
  have hc30 : (0 : Int) < (c3 : Int) := by omega
  have hem0 : (0 : Int) < (em.length : Int) := by omega
  go_wp2_with fail
  have hdb : 0 ≤ D.getD 0 0 ∧ D.getD 0 0 < 256 := by
    rw [List.getD_eq_getElem?_getD, List.getElem?_eq_getElem (by rw [HL2.out]; exact hN0)]
    exact HI2.out _ (List.getElem_mem _)
  have hw8 : IntKind.u64.wrap (D.getD 0 0) = D.getD 0 0 := by rw [IntKind.wrap_u64]; omega
  obtain ⟨d0, hd0e⟩ : ∃ d0, d0 = D.getD 0 0 := ⟨_, rfl⟩
  rw [← hd0e] at hd0 hdb hw8
  obtain ⟨z0, hz0⟩ : ∃ z0 : Int, z0 = if d0 = 0 then 1 else 0 := ⟨_, rfl⟩
  have HZs : Hid (∀ W, Calls Try.prog 41 #[.int .u64 d0] W fun e w' => e = .returned (.int .u64 z0) ∧ w' = W) := fun W => zero_still d0 hdb.1 (by omega) z0 hz0 W
  have hs3 : (hlen h : Int) ≤ ((em.length - (1 + hlen h) : Nat) : Int) := by omega
  have hs4 : ((em.length - (1 + hlen h) : Nat) : Int) ≤ ((c3 - (1 + hlen h) : Nat) : Int) := by omega
  have hs5 : (hlen h : Int) ≤ ((c3 - (1 + hlen h) : Nat) : Int) := by omega
  have HD0 := Lib.hid hd0e
  have HZ0 := Lib.hid hz0
  clear hd0e hz0 hdb
  go_still_tail 10, (by kernel_rfl)
  still_call (HZs.out _)
  repeat still_step
  refine wpStill_nil ?_
  change wpList _ _ _ _ _ w9.drew
  have HRO10 : Hid (Row w9.drew g D) := HRO9.out.same rfl
  have HB10 : Hid (Below w.heap.size w w9.drew) := HB9.out.drew
  have HC10 : Hid (Kd.C (Kd.int .u8) w9.drew Ao (hlen h) (hsum h label)) := by
    exact Kd.C_drew HV9.out.2.2
  have HVc : Hid (hlen h ≤ co) := HV9.out.2.1
  have HCF : Hid (∀ W : World, (∀ k, k < w9.drew.heap.size → k ≠ tb → W.heap[k]? = w9.drew.heap[k]?) → Kd.C (Kd.int .u8) W Ao (hlen h) (hsum h label)) := HCF9.out
  clear HRO9 HB9 HV9 hd0 HCF9
  generalize w9.drew = w10 at HRO10 HB10 HC10 HCF ⊢
  go_wp2_with fail
  obtain ⟨R, hR⟩ : ∃ R : Int, R = if (D.drop (1 + hlen h)).take (hlen h) = hsum h label then 1 else 0 := ⟨_, rfl⟩
  have hla : ((D.drop (1 + hlen h)).take (hlen h)).length = hlen h := by rw [List.length_take, List.length_drop, HL2.out]; omega
  have hG10 : g < w10.heap.size := HRO10.out.lt (by rw [HL2.out]; exact hN0)
  have hGt : g ≠ tb := by have := HG.out; have := HTB.out; omega
  have hT10 : Tr w10 tb w10.heap.size 0 [] s0 := ⟨⟨.slice none 0 0, (HB10.out.block tb HTB.out).trans HT0.out, World.ownsRow_nil _ _ _ _⟩⟩
  have hEq := equal_t tb w10.heap.size s0 (some ⟨g, 1 + hlen h, none⟩) (c3 - (1 + hlen h)) ((D.drop (1 + hlen h)).take (hlen h)) Ao co (hsum h label) w10 rfl (Nat.lt_of_lt_of_le HTB.out HB10.out.size) hT10 (fun W hW => by rw [hla]; exact (HRO10.out.same (hW g hG10 hGt)).C _ _ (by rw [HL2.out]; omega) (by rw [HL2.out]; omega)) (by omega) (fun W hW => by rw [hsum_length]; exact HCF.out W hW) (by rw [hsum_length]; exact HVc.out) (by rw [hla, hsum_length]) (by have := hlen_le h; omega)
    (inB_take (inB_drop HI2.out _) _) (hsum_in h hh label hb1) R hR
  rw [hla, hsum_length] at hEq
  refine hEq.mono ?_
  rintro e w11 ⟨rfl, ht11, ha11⟩
  have HRO11 : Hid (Row w11 g D) := HRO10.out.same (ha11.block g hG10 (fun x => by omega))
  have HT11 := Lib.hid ht11
  have HA11 := Lib.hid ha11
  have HSp : Hid (Calls Try.prog 43 #[.pointer (some ⟨tb, 0, none⟩), .int .i64 ((em.length - (1 + hlen h) : Nat) : Int)] w11 fun e w' => (∃ v, e = .returned v) ∧ Tr w' tb w10.heap.size 2 ([.int .i64 1, .int .i64 (hlen h : Int), .int .i64 0] ++ [.int .i64 1, .int .i64 ((em.length - (1 + hlen h) : Nat) : Int), .int .i64 0]) (spanSum 1 (spanSum 0 s0 (hlen h : Int)) ((em.length - (1 + hlen h) : Nat) : Int)) ∧ Away (fun j => j = tb ∨ w10.heap.size ≤ j) w11 w') :=
    span_t tb w10.heap.size 1 _ _ _ w11 (by omega) (Nat.lt_of_lt_of_le HTB.out HB10.out.size) ha11.size ht11
  have hGG : Hid (g < w10.heap.size ∧ g ≠ tb) := ⟨hG10, hGt⟩
  clear hG10 hGt hT10 ht11 ha11
  have hok : Go.bits .and .u64 z0 R = okL h label em := by
    have hz : z0 = if D.getD 0 0 = 0 then 1 else 0 := by rw [HZ0.out, HD0.out]
    rw [hz, hR, okL, ← HD.out]
    by_cases e1 : D.getD 0 0 = 0 <;> by_cases e2 : (D.drop (1 + hlen h)).take (hlen h) = hsum h label
    · rw [if_pos e1, if_pos e2, if_pos ⟨e1, e2⟩]; decide
    · rw [if_pos e1, if_neg e2, if_neg (fun x => e2 x.2)]; decide
    · rw [if_neg e1, if_pos e2, if_neg (fun x => e1 x.1)]; decide
    · rw [if_neg e1, if_neg e2, if_neg (fun x => e1 x.1)]; decide
  obtain ⟨ok0, hok0⟩ : ∃ ok0, ok0 = okL h label em := ⟨_, rfl⟩
  rw [← hok0] at hok
  have HOK := Lib.hid hok
  have HOK0 := Lib.hid hok0
  clear hok hok0 hEq hla hR HRO10 HC10 HCF
  go_wp2_with fail
  refine HSp.out.mono ?_
  rintro e w12 ⟨⟨v12, rfl⟩, ht12, ha12⟩
  have HRO12 : Hid (Row w12 g D) := HRO11.out.same (ha12.block g (Nat.lt_of_lt_of_le hGG.out.1 HA11.out.size) (fun x => by have := hGG.out; omega))
  have HTF : Hid (∀ W : World, Below w12.heap.size w12 W → Tr W tb w.heap.size 2 [.int .i64 1, .int .i64 (hlen h : Int), .int .i64 0, .int .i64 1, .int .i64 ((em.length - (1 + hlen h) : Nat) : Int), .int .i64 0] (spanSum 1 (spanSum 0 s0 (hlen h : Int)) ((em.length - (1 + hlen h) : Nat) : Int))) := fun W hW => (ht12.below hW).lower HB10.out.size
  have HAF : Hid (∀ W : World, Below w12.heap.size w12 W → Away (fun j => j = tb) w W) := fun W hW => ⟨Nat.le_trans (Nat.le_trans HB10.out.size HA11.out.size) (Nat.le_trans ha12.size hW.size), hW.os.trans (ha12.os.trans (HA11.out.os.trans HB10.out.os)), hW.tape.trans (ha12.tape.trans (HA11.out.tape.trans HB10.out.tape)), hW.output.trans (ha12.output.trans (HA11.out.output.trans HB10.out.output)), fun j hj hs => by
    have hj10 := Nat.lt_of_lt_of_le hj HB10.out.size
    have hn : ¬ (j = tb ∨ w10.heap.size ≤ j) := fun x => x.elim hs (fun y => by omega)
    have hj11 := Nat.lt_of_lt_of_le hj10 HA11.out.size
    exact (hW.block j (Nat.lt_of_lt_of_le hj11 ha12.size)).trans ((ha12.block j hj11 hn).trans ((HA11.out.block j hj10 hn).trans (HB10.out.block j hj)))⟩
  have HB12 : Hid (Below w12.heap.size w12 w12) := Below.refl _ _
  clear ht12 ha12 HRO11 HT11 HA11 HB10
  go_wp2_with fail
  obtain ⟨db, hdb⟩ : ∃ db, db = D.drop (1 + hlen h) := ⟨_, rfl⟩
  have hdbl : db.length = em.length - (1 + hlen h) := by rw [hdb, List.length_drop, HL2.out]
  go_loopw [15, 16, 17, 18] (fun o a f i wr => ∃ I : Nat, (hlen h ≤ I ∧ I ≤ db.length) ∧ i = .int .i64 (I : Int) ∧ o = .int .u64 (scan ok0 db (hlen h) (I - hlen h)).1 ∧ a = .int .u64 ((scan ok0 db (hlen h) (I - hlen h)).2.1 : Nat) ∧ f = .int .u64 (scan ok0 db (hlen h) (I - hlen h)).2.2 ∧ Hid (Row wr g D) ∧ Hid (Below w12.heap.size w12 wr))
    (fun _ _ _ i _ => db.length - (intOf i).toNat)
  case atStart => exact ⟨hlen h, ⟨by omega, by omega⟩, rfl, by rw [HOK.out, Nat.sub_self]; rfl, by rw [Nat.sub_self]; rfl, by rw [Nat.sub_self]; rfl, HRO12, HB12⟩
  case round =>
    obtain ⟨I, ⟨hI2, hI3⟩, rfl, rfl, rfl, rfl, hro, hbw⟩ := hrel
    obtain ⟨k, hkI⟩ : ∃ k, k = I - hlen h := ⟨_, rfl⟩
    rw [← hkI]
    have hok01 : ok0 = 0 ∨ ok0 = 1 := by
      rw [HOK0.out, okL]
      split
      · exact .inr rfl
      · exact .inl rfl
    obtain ⟨hso, hsa, hsf, hsl⟩ := scan_in ok0 hok01 db (hlen h) k
    obtain ⟨o, ho⟩ : ∃ o, o = (scan ok0 db (hlen h) k).1 := ⟨_, rfl⟩
    obtain ⟨a, ha⟩ : ∃ a, a = (scan ok0 db (hlen h) k).2.1 := ⟨_, rfl⟩
    obtain ⟨f, hf⟩ : ∃ f, f = (scan ok0 db (hlen h) k).2.2 := ⟨_, rfl⟩
    rw [← ho] at hso ⊢
    rw [← ha] at hsa ⊢
    rw [← hf] at hsf ⊢
    rw [← ha, ← hf] at hsl
    have hI : I = hlen h + k := by omega
    rw [← hI] at hsa
    by_cases hlt : I < db.length
    · obtain ⟨x, hxe⟩ : ∃ x, x = db.getD I 0 := ⟨_, rfl⟩
      have hxb : 0 ≤ x ∧ x < 256 := by
        rw [hxe, List.getD_eq_getElem?_getD, List.getElem?_eq_getElem (by omega)]
        exact (by rw [hdb]; exact inB_drop HI2.out _ : inB 8 db) _ (List.getElem_mem _)
      have hcell : wr.cell? ⟨g, 1 + hlen h + I, none⟩ = some (.int .u8 x) := by
        rw [hro.out.cell _ (by rw [HL2.out]; omega), hxe, hdb]
        simp [List.getD_eq_getElem?_getD]
      have hw : IntKind.u64.wrap x = x := by rw [IntKind.wrap_u64]; omega
      have hwI : IntKind.u64.wrap (I : Int) = (I : Int) := by rw [IntKind.wrap_u64]; omega
      have hI1 : (I : Int) < ((em.length - (1 + hlen h) : Nat) : Int) := by omega
      have hI0 : (0 : Int) ≤ (I : Int) := by omega
      have hnext : scan ok0 db (hlen h) (k + 1) = if x ≠ 0 ∧ f = 0 then (if x = 1 then o else 0, I, 1) else (o, a, f) := by
        rw [scan, ← hI, ← hxe, ← ho, ← hf]
        split
        · rfl
        · rw [ho, ha, hf]
      have HNX := Lib.hid hnext
      clear hnext
      obtain ⟨z, hz⟩ : ∃ z : Int, z = if x = 0 then 1 else 0 := ⟨_, rfl⟩
      have HZs2 : Hid (∀ W, Calls Try.prog 41 #[.int .u64 x] W fun e w' => e = .returned (.int .u64 z) ∧ w' = W) := fun W => zero_still x hxb.1 (by omega) z hz W
      obtain ⟨hr, hre⟩ : ∃ hr : Int, hr = if x ≠ 0 ∧ f = 0 then 1 else 0 := ⟨_, rfl⟩
      have hhr : Go.bits .andNot .u64 (Go.bits .xor .u64 1 z) f = hr := by
        rw [hz, hre]
        by_cases e1 : x = 0 <;> rcases hsf with e2 | e2
        · rw [if_pos e1, if_neg (fun y => y.1 e1), e2]; decide
        · rw [if_pos e1, if_neg (fun y => y.1 e1), e2]; decide
        · rw [if_neg e1, if_pos ⟨e1, e2⟩, e2]; decide
        · rw [if_neg e1, if_neg (fun y => by rw [e2] at y; exact absurd y.2 (by decide)), e2]; decide
      have hr01 : hr = 0 ∨ hr = 1 := by
        rw [hre]
        split
        · exact .inr rfl
        · exact .inl rfl
      have hs1 : word_Select.f hr (I : Int) (a : Int) = some (((if hr = 1 then I else a : Nat)) : Int) := select_val hr hr01 I a (by omega) (by omega)
      obtain ⟨a', ha'⟩ : ∃ a' : Nat, a' = if hr = 1 then I else a := ⟨_, rfl⟩
      rw [← ha'] at hs1
      obtain ⟨eq1, heq1⟩ : ∃ eq1 : Int, eq1 = if x = 1 then 1 else 0 := ⟨_, rfl⟩
      have hq1 : word_Equal.f x 1 = some eq1 := by rw [heq1]; exact equal_val x hxb.1 hxb.2
      have he01 : ∃ m : Nat, eq1 = (m : Int) ∧ m ≤ 1 := by
        rw [heq1]
        split
        · exact ⟨1, rfl, by omega⟩
        · exact ⟨0, rfl, by omega⟩
      obtain ⟨sl, hsl2⟩ : ∃ sl : Int, sl = if hr = 1 then eq1 else 1 := ⟨_, rfl⟩
      have hs2 : word_Select.f hr eq1 1 = some sl := by
        obtain ⟨m, hm1, hm2⟩ := he01
        have h9 := select_val hr hr01 m 1 (by omega) (by omega)
        rw [hsl2, hm1]
        refine h9.trans ?_
        congr 1
        by_cases e : hr = 1
        · rw [if_pos e, if_pos e]
        · rw [if_neg e, if_neg e]; rfl
      have hand : Go.bits .and .u64 o sl = (if x ≠ 0 ∧ f = 0 then (if x = 1 then o else 0) else o) := by
        rw [hsl2, hre, heq1]
        by_cases e1 : x ≠ 0 ∧ f = 0
        · rw [if_pos e1, if_pos e1, if_pos rfl]
          by_cases e3 : x = 1
          · rw [if_pos e3, if_pos e3]; rcases hso with e | e <;> rw [e] <;> decide
          · rw [if_neg e3, if_neg e3]; rcases hso with e | e <;> rw [e] <;> decide
        · rw [if_neg e1, if_neg e1, if_neg (by decide)]; rcases hso with e | e <;> rw [e] <;> decide
      have hor : Go.bits .or .u64 f hr = if x ≠ 0 ∧ f = 0 then 1 else f := by
        rw [hre]
        by_cases e1 : x ≠ 0 ∧ f = 0
        · rw [if_pos e1, if_pos e1, e1.2]; decide
        · rw [if_neg e1, if_neg e1]; rcases hsf with e | e <;> rw [e] <;> decide
      have hN2 : scan ok0 db (hlen h) (k + 1) = (Go.bits .and .u64 o sl, a', Go.bits .or .u64 f hr) := by
        rw [HNX.out, hand, hor, ha', hre]
        by_cases e1 : x ≠ 0 ∧ f = 0
        · rw [if_pos e1, if_pos e1, if_pos e1, if_pos e1, if_pos rfl]
        · rw [if_neg e1, if_neg e1, if_neg e1, if_neg e1, if_neg (by decide)]
      have hk1 : I + 1 - hlen h = k + 1 := by omega
      rw [← hk1] at hN2
      have HN2 := Lib.hid hN2
      have HII : Hid (hlen h ≤ I + 1 ∧ I + 1 ≤ db.length) := ⟨by omega, by omega⟩
      have HS1 : Hid (∀ W, Calls Try.prog 44 #[.int .u64 hr, .int .u64 (I : Int), .int .u64 (a : Int)] W fun e w' => e = .returned (.int .u64 (a' : Int)) ∧ Drawn0 W w') := fun W => word_Select.calls _ _ _ _ W hs1
      have HS2 : Hid (∀ W, Calls Try.prog 44 #[.int .u64 hr, .int .u64 eq1, .int .u64 1] W fun e w' => e = .returned (.int .u64 sl) ∧ Drawn0 W w') := fun W => word_Select.calls _ _ _ _ W hs2
      have HQ1 : Hid (∀ W, Calls Try.prog 45 #[.int .u64 x, .int .u64 1] W fun e w' => e = .returned (.int .u64 eq1) ∧ Drawn0 W w') := fun W => word_Equal.calls _ _ _ W hq1
      have HHR := Lib.hid hhr
      clear hsl ho ha hf hxe hI hkI hz hre hhr hr01 hs1 ha' heq1 hq1 he01 hsl2 hs2 hand hor hN2 hk1 hso hsf HNX
      go_wp2_with fail
      refine (HZs2.out _).mono ?_
      rintro e w13 ⟨rfl, rfl⟩
      go_wp2_with fail
      rw [HHR.out]
      refine (HS1.out _).mono ?_
      rintro e w14 ⟨rfl, hd14⟩
      have HRO14 : Hid (Row w14 g D) := hro.out.same (hd14.below.block _ (hro.out.lt (by rw [HL2.out]; exact hN0)))
      have hcell14 : w14.cell? ⟨g, 1 + hlen h + I, none⟩ = some (.int .u8 x) := (hd14.below.cell (p := ⟨g, 1 + hlen h + I, none⟩) (World.block_lt_of_cell? _ _ hcell)).trans hcell
      have HB14 : Hid (Below w12.heap.size w12 w14) := hbw.out.trans (hd14.below.mono hbw.out.size)
      clear hd14 hcell
      go_wp2_with fail
      refine (HQ1.out _).mono ?_
      rintro e w15 ⟨rfl, hd15⟩
      go_wp2_with fail
      refine (HS2.out _).mono ?_
      rintro e w16 ⟨rfl, hd16⟩
      have HRO16 : Hid (Row w16 g D) := (HRO14.out.same (hd15.below.block _ (HRO14.out.lt (by rw [HL2.out]; exact hN0)))).same (hd16.below.block _ (Nat.lt_of_lt_of_le (HRO14.out.lt (by rw [HL2.out]; exact hN0)) hd15.below.size))
      have HB15 : Below w12.heap.size w12 w15 := HB14.out.trans (hd15.below.mono HB14.out.size)
      have HB16 : Hid (Below w12.heap.size w12 w16) := HB15.trans (hd16.below.mono HB15.size)
      clear hd15 hd16 HB15
      go_wp2_with fail
      go_roundw
      case rel => exact ⟨I + 1, HII.out, by go_num, by rw [HN2.out], by rw [HN2.out], by rw [HN2.out], HRO16, HB16⟩
      case measure => simp [intOf]; omega
    · have hIe : I = db.length := by omega
      have hke : k = db.length - hlen h := by omega
      have hres : (r1, r2) = if o = 1 ∧ f = 1 then (db.drop (a + 1), 0) else ([], 230) := by
        rw [← hr, openL, ← HD.out, ← hdb, ← HOK0.out, ← hke, ← ho, ← ha, ← hf]
      have hal : a < db.length ∨ f = 0 := hsl.imp (fun x => by omega) id
      clear ho ha hf hI hkI hIe hke
      by_cases hof : o = 1 ∧ f = 1
      · rw [if_pos hof] at hres
        obtain ⟨rfl, rfl⟩ := hof
        cases hres
        have ha1 : a < db.length := hal.resolve_right (by decide)
        have q8 : IntKind.u64.wrap ((a : Int) + 1) = (a : Int) + 1 := by rw [IntKind.wrap_u64]; omega
        have q9 : (a : Int) + 1 ≤ ((em.length - (1 + hlen h) : Nat) : Int) := by omega
        have q10 : (0 : Int) ≤ (a : Int) + 1 := by omega
        have q11 : ((a : Int) + 1).toNat = a + 1 := by omega
        have hll : (db.drop (a + 1)).length = em.length - (1 + hlen h) - (a + 1) := by rw [List.length_drop, hdbl]
        have hld : db.drop (a + 1) = (D.drop (1 + hlen h + (a + 1))).take (em.length - (1 + hlen h) - (a + 1)) := by
          rw [hdb, List.drop_drop, List.take_of_length_le]
          rw [List.length_drop, HL2.out]
          omega
        have hCl2 : ∀ (A : Option Addr) (c : Nat), Kd.C (Kd.int .u8) wr A (db.drop (a + 1)).length (db.drop (a + 1)) → (db.drop (a + 1)).length ≤ c → Calls Try.prog 38 #[.slice A (em.length - (1 + hlen h) - (a + 1)) c] wr fun e w' => ∃ v0_ : Value, e = .returned v0_ ∧ Kd.R (Kd.int .u8) 5 w' wr.heap.size (fun _ => True) v0_ (db.drop (a + 1)) ∧ Below wr.heap.size wr w' := by
          intro A c hC hc
          have := slices_Clone_byte_byte.calls A c _ (db.drop (a + 1)) wr hC hc (by simp [slices_Clone_byte_byte.f]; omega)
          rw [hll] at this
          exact this.mono (by
            rintro e w' ⟨v, rfl, hv, hb⟩
            exact ⟨v, rfl, Kd.R_mono hv (fun _ _ => trivial), hb⟩)
        have HCl2 := Lib.hid hCl2
        have HLL := Lib.hid hll
        have HLD := Lib.hid hld
        clear hal hso hsf hsl hCl2 hll hld
        by_cases hcap : c3 - (1 + hlen h) = a + 1
        · have hlz : em.length - (1 + hlen h) - (a + 1) = 0 := by omega
          have hC0 : Kd.C (Kd.int .u8) wr (some ⟨g, 1 + hlen h, none⟩) (db.drop (a + 1)).length (db.drop (a + 1)) := by
            rw [HLD.out, hlz, List.take_zero]
            exact hro.out.C (1 + hlen h) 0 (by rw [HL2.out]; omega) (by rw [HL2.out]; omega)
          have q12 : (c3 - (1 + hlen h) = a + 1) = True := eq_true hcap
          have HC0 := Lib.hid hC0
          have HLz := Lib.hid hlz
          clear hC0 hlz
          go_wp2_with fail
          refine (HCl2.out _ _ HC0.out (by rw [HLL.out, HLz.out]; omega)).mono ?_
          rintro e w20 ⟨v20, rfl, hv20, hb20⟩
          have HR20 := Lib.hid (Kd.R_lower hv20 hbw.out.size)
          have HB20 := Lib.hid (hbw.out.trans (hb20.mono hbw.out.size))
          clear hv20 hb20
          go_wp2_with fail
          go_ret2
          exact ⟨⟨_, rfl⟩, HTF.out _ HB20.out, HAF.out _ HB20.out⟩
        · have hC0 : Kd.C (Kd.int .u8) wr (some ⟨g, 1 + hlen h + (a + 1), none⟩) (db.drop (a + 1)).length (db.drop (a + 1)) := by
            rw [HLL.out, HLD.out]
            exact hro.out.C _ _ (by rw [HL2.out]; omega) (by rw [HL2.out]; omega)
          have q12 : (c3 - (1 + hlen h) = a + 1) = False := eq_false hcap
          have HC0 := Lib.hid hC0
          have HCP : Hid (em.length - (1 + hlen h) - (a + 1) ≤ c3 - (1 + hlen h) - (a + 1)) := by show _ ≤ _; omega
          clear hC0 hcap
          go_wp2_with fail
          refine (HCl2.out _ _ HC0.out (by rw [HLL.out]; exact HCP.out)).mono ?_
          rintro e w20 ⟨v20, rfl, hv20, hb20⟩
          have HR20 := Lib.hid (Kd.R_lower hv20 hbw.out.size)
          have HB20 := Lib.hid (hbw.out.trans (hb20.mono hbw.out.size))
          clear hv20 hb20
          go_wp2_with fail
          go_ret2
          exact ⟨⟨_, rfl⟩, HTF.out _ HB20.out, HAF.out _ HB20.out⟩
      · rw [if_neg hof] at hres
        cases hres
        have hand0 : Go.bits .and .u64 o f = 0 := by
          rcases hso with e1 | e1 <;> rcases hsf with e2 | e2
          · rw [e1, e2]; decide
          · rw [e1, e2]; decide
          · rw [e1, e2]; decide
          · exact absurd ⟨e1, e2⟩ hof
        clear hal hso hsf hsl hof
        go_wp2_with fail
        go_ret2
        exact ⟨⟨_, rfl⟩, HTF.out _ hbw.out, HAF.out _ hbw.out⟩

end Go.Proofs.Ytincnnmojgphmaa.H

set_option linter.unusedVariables false
set_option linter.unusedSimpArgs false
namespace Go.Proofs.Ytincnnmojgphmaa.H
open Go.RowKit Go.Proofs.YtincnnmojgphmaaW.PrintWords Go.Proofs.YtincnnmojgphmaaW.PrintLast Go.Proofs.Ytincnnmojgphmaa.Sha Go.Proofs.YtincnnmojgphmaaW.PrintMore Go.Proofs.Ytincnnmojgphmaa.PT
attribute [local go_sem] Oper.semAt_some

theorem many_ok (tb n : Nat) (v : Value) (s : Int) (w : World) (h : w.heap[tb]? = some (.cells #[v, .int .i64 (n : Int), .int .u64 s] 76 (0, 0))) :
    Calls Try.prog 49 #[.pointer (some ⟨tb, 0, none⟩)] w fun e w' => e = .returned (.int .i64 (n : Int)) ∧ w' = w := by
  have c1 : w.cell? ⟨tb, 1, none⟩ = some (.int .i64 (n : Int)) := blk_cell h 1
  clear h
  go_enter Try.func49, Try.ntmps49
  go_wp2_with fail
  go_ret
  exact ⟨rfl, rfl⟩
theorem tsum_ok (tb n : Nat) (v : Value) (s : Int) (w : World) (h : w.heap[tb]? = some (.cells #[v, .int .i64 (n : Int), .int .u64 s] 76 (0, 0))) :
    Calls Try.prog 50 #[.pointer (some ⟨tb, 0, none⟩)] w fun e w' => e = .returned (.int .u64 (if n = 0 then 14695981039346656037 else s)) ∧ w' = w := by
  have c1 : w.cell? ⟨tb, 1, none⟩ = some (.int .i64 (n : Int)) := blk_cell h 1
  have c2 : w.cell? ⟨tb, 2, none⟩ = some (.int .u64 s) := blk_cell h 2
  clear h
  by_cases h0 : n = 0
  · subst h0
    go_enter Try.func50, Try.ntmps50
    go_wp2_with fail
    go_ret
    exact ⟨rfl, rfl⟩
  · rw [if_neg h0]
    have hn : ¬ (n : Int) = 0 := by omega
    go_enter Try.func50, Try.ntmps50
    go_wp2_with fail
    go_ret
    exact ⟨rfl, rfl⟩
set_option maxRecDepth 100000 in
theorem clone_two (ad : Addr) (c : Nat) (cs : List Value) (w : World) (hl : cs.length = 6) (h1 : ∀ u ∈ cs, u.oneCell' = true) (hr : ∀ j u, cs[j]? = some u → w.cell? (ad.add j) = some u) :
    Calls Try.prog 70 #[.slice (some ad) 2 c] w fun e w' => ∃ v, e = .returned v ∧ w'.ownsRow w.heap.size 81 3 v 2 cs ∧ Below w.heap.size w w' := by
  have hq : ∀ W : World, (binOp .eql 74 (.slice (some ad) 2 c) (.slice none 0 0)).run Try.prog W = .ok (.bool false) W := fun W => by
    first | rfl | kernel_rfl | (simp [binOp, Try.underlying74, go_sem])
  obtain ⟨ii, hii⟩ := Option.isSome_iff_exists.1 (show (Try.prog.info? 81).isSome = true by kernel_rfl)
  have h3 := infoEvt
  rw [hii] at h3
  simp only [Option.map_some, Option.some.injEq, Prod.mk.injEq] at h3
  have HII := Lib.hid hii
  have H31 := Lib.hid h3.1
  have H32 := Lib.hid h3.2.1
  have H33 := Lib.hid h3.2.2
  clear h3 hii
  have HOW : Hid ((w.alloc (.cells #[] 81)).ownsRow w.heap.size 81 3 (.slice (some ⟨w.heap.size, 0, none⟩) 0 0) 0 []) := ⟨rfl, .inr ⟨w.heap.size, 0, #[], rfl, Nat.le_refl _, World.alloc_heap_new w _, Nat.le_refl _, by decide, rfl, rfl⟩⟩
  have HNW : Hid (∀ j u, cs[j]? = some u → (w.alloc (.cells #[] 81)).cell? (ad.add j) = some u) := fun j u hj => by
    have h0 := hr j u hj
    rw [World.cell?_of_block (w := w) (Below.heap_alloc w _ _ (World.block_lt_of_cell? w _ h0))]
    exact h0
  have HSZ : Hid (w.heap.size ≤ (w.alloc (.cells #[] 81)).heap.size) := by show _ ≤ _; simp
  have HB0 : Hid (Below w.heap.size w (w.alloc (.cells #[] 81))) := (Below.refl _ w).alloc (Nat.le_refl _) _
  have H1 := Lib.hid h1
  clear hr h1
  go_enter Try.func70, Try.ntmps70
  go_wp2_with (first | (refine wpList_append_own_at _ rfl (.tmp 5) (.tmp 6) 74 rfl w.heap.size 81 ii (.agg #[.int .i64 0, .int .i64 0, .int .i64 0]) 3 24 Try.underlying74 HII.out H31.out H32.out H33.out rfl (by decide) (.slice (some ⟨w.heap.size, 0, none⟩) 0 0) 0 [] rfl HOW.out ad 2 c cs rfl (by rw [hl]) HNW.out H1.out (by decide) (by decide) HSZ.out ?_; intro v' w9 hown9 hg9 hnil9 hat9; (have HO9 := Lib.hid hown9); (have HG9 := Lib.hid hg9); clear hown9 hg9 hnil9 hat9))
  go_ret
  refine ⟨_, rfl, ?_, ?_⟩
  · have := HO9.out
    rw [List.nil_append] at this
    exact this
  · have h1 := HB0.out
    exact ⟨HG9.out.os.trans h1.os, HG9.out.tape.trans h1.tape, HG9.out.output.trans h1.output, Nat.le_trans h1.size HG9.out.size, fun k hk => (HG9.out.block k (Nat.lt_of_lt_of_le hk h1.size) (by simp [Value.ownBlock]; omega)).trans (h1.block k hk)⟩
theorem own_reads {W : World} {base : Nat} {v : Value} {cs : List Value} (h : W.ownsRow base 81 3 v 2 cs) : ∃ g c, v = .slice (some ⟨g, 0, none⟩) 2 c ∧ base ≤ g ∧ g < W.heap.size ∧ ∀ j u, cs[j]? = some u → W.cell? ⟨g, j, none⟩ = some u := by
  rcases h.2 with ⟨_, h0⟩ | ⟨g, c, cur, he, hb, hg, hn, hm, hsz, htk⟩
  · cases h0
  · refine ⟨g, c, he, hb, (Array.getElem?_eq_some_iff.1 hg).1, fun j u hj => ?_⟩
    rw [blk_cell hg]
    have hlt := (List.getElem?_eq_some_iff.1 hj).1
    rw [← htk] at hj
    rw [List.getElem?_take] at hj
    split at hj
    · simpa using hj
    · cases hj
set_option maxRecDepth 100000 in
theorem events_zero (tb : Nat) (s : Int) (w : World) (h : w.heap[tb]? = some (.cells #[.slice none 0 0, .int .i64 ((0 : Nat) : Int), .int .u64 s] 76 (0, 0))) :
    Calls Try.prog 51 #[.pointer (some ⟨tb, 0, none⟩)] w fun e w' => e = .returned (.slice none 0 0) ∧ w' = w := by
  have hq : ∀ W : World, (binOp .eql 74 (.slice none 0 0) (.slice none 0 0)).run Try.prog W = .ok (.bool true) W := fun W => by
    first | rfl | kernel_rfl | (simp [binOp, Try.underlying74, go_sem])
  have HC : Hid (Calls Try.prog 70 #[.slice none 0 0] w fun e w' => e = .returned (.slice none 0 0) ∧ w' = w) := by
    go_enter Try.func70, Try.ntmps70
    go_wp2_with fail
    go_ret
    exact ⟨rfl, rfl⟩
  have c0 : w.cell? ⟨tb, 0, none⟩ = some (.slice none 0 0) := blk_cell h 0
  clear h hq
  go_enter Try.func51, Try.ntmps51
  go_wp2_with fail
  refine HC.out.mono ?_
  rintro e w2 ⟨rfl, rfl⟩
  go_wp2_with fail
  go_ret
  exact ⟨rfl, rfl⟩
set_option maxRecDepth 100000 in
theorem events_two (tb g c n : Nat) (s : Int) (cs : List Value) (w : World) (h : w.heap[tb]? = some (.cells #[.slice (some ⟨g, 0, none⟩) 2 c, .int .i64 (n : Int), .int .u64 s] 76 (0, 0))) (hl : cs.length = 6) (h1 : ∀ u ∈ cs, u.oneCell' = true) (hr : ∀ j u, cs[j]? = some u → w.cell? ⟨g, j, none⟩ = some u) :
    Calls Try.prog 51 #[.pointer (some ⟨tb, 0, none⟩)] w fun e w' => ∃ v, e = .returned v ∧ w'.ownsRow w.heap.size 81 3 v 2 cs ∧ Below w.heap.size w w' := by
  have HC : Hid (Calls Try.prog 70 #[.slice (some ⟨g, 0, none⟩) 2 c] w fun e w' => ∃ v, e = .returned v ∧ w'.ownsRow w.heap.size 81 3 v 2 cs ∧ Below w.heap.size w w') :=
    clone_two ⟨g, 0, none⟩ c cs w hl h1 (fun j u hj => by
      rw [show (⟨g, 0, none⟩ : Addr).add j = ⟨g, j, none⟩ by unfold Addr.add; split <;> simp_all]
      exact hr j u hj)
  have c0 : w.cell? ⟨tb, 0, none⟩ = some (.slice (some ⟨g, 0, none⟩) 2 c) := blk_cell h 0
  clear h hr h1 hl
  go_enter Try.func51, Try.ntmps51
  go_wp2_with fail
  refine HC.out.mono ?_
  rintro e w2 ⟨v, rfl, ho, hb⟩
  have HO := Lib.hid ho
  have HB := Lib.hid hb
  clear ho hb
  go_wp2_with fail
  go_ret
  exact ⟨v, rfl, HO.out, HB.out⟩
set_option maxRecDepth 100000 in
set_option maxHeartbeats 2000000 in
theorem same_zero (ta tc : Nat) (s : Int) (w : World) (ha : w.heap[ta]? = some (.cells #[.slice none 0 0, .int .i64 ((0 : Nat) : Int), .int .u64 s] 76 (0, 0))) (hc : w.heap[tc]? = some (.cells #[.slice none 0 0, .int .i64 ((0 : Nat) : Int), .int .u64 s] 76 (0, 0))) :
    Calls Try.prog 28 #[.pointer (some ⟨ta, 0, none⟩), .pointer (some ⟨tc, 0, none⟩)] w fun e w' => e = .returned (.bool true) ∧ Below w.heap.size w w' := by
  have HM1 : Hid (Calls Try.prog 49 #[.pointer (some ⟨ta, 0, none⟩)] w fun e w' => e = .returned (.int .i64 0) ∧ w' = w) := many_ok ta 0 _ s w ha
  have HM2 : Hid (Calls Try.prog 49 #[.pointer (some ⟨tc, 0, none⟩)] w fun e w' => e = .returned (.int .i64 0) ∧ w' = w) := many_ok tc 0 _ s w hc
  have HS1 : Hid (Calls Try.prog 50 #[.pointer (some ⟨ta, 0, none⟩)] w fun e w' => e = .returned (.int .u64 14695981039346656037) ∧ w' = w) := tsum_ok ta 0 _ s w ha
  have HS2 : Hid (Calls Try.prog 50 #[.pointer (some ⟨tc, 0, none⟩)] w fun e w' => e = .returned (.int .u64 14695981039346656037) ∧ w' = w) := tsum_ok tc 0 _ s w hc
  have HE1 : Hid (Calls Try.prog 51 #[.pointer (some ⟨ta, 0, none⟩)] w fun e w' => e = .returned (.slice none 0 0) ∧ w' = w) := events_zero ta s w ha
  have HE2 : Hid (Calls Try.prog 51 #[.pointer (some ⟨tc, 0, none⟩)] w fun e w' => e = .returned (.slice none 0 0) ∧ w' = w) := events_zero tc s w hc
  clear ha hc
  go_enter Try.func28, Try.ntmps28
  go_wp2_with fail
  refine HM1.out.mono ?_
  rintro e w2 ⟨rfl, rfl⟩
  go_wp2_with fail
  refine HM2.out.mono ?_
  rintro e w3 ⟨rfl, rfl⟩
  go_wp2_with fail
  refine HS1.out.mono ?_
  rintro e w4 ⟨rfl, rfl⟩
  go_wp2_with fail
  refine HS2.out.mono ?_
  rintro e w5 ⟨rfl, rfl⟩
  go_wp2_with fail
  refine HE1.out.mono ?_
  rintro e w6 ⟨rfl, rfl⟩
  go_wp2_with fail
  refine HE2.out.mono ?_
  rintro e w7 ⟨rfl, rfl⟩
  go_wp2_with fail
  go_loopw [27] (fun i wr => i = .int .i64 0 ∧ Hid (Below w7.heap.size w7 wr)) (fun _ _ => 0)
  case atStart => exact ⟨rfl, Below.refl _ _⟩
  case round =>
    obtain ⟨rfl, hb⟩ := hrel
    go_wp2_with fail
    go_ret
    exact ⟨rfl, hb.out⟩
set_option maxRecDepth 100000 in
set_option maxHeartbeats 2000000 in
theorem same_two (ta tc ba bc : Nat) (s a b : Int) (w : World) (ha : Tr w ta ba 2 [.int .i64 1, .int .i64 a, .int .i64 0, .int .i64 1, .int .i64 b, .int .i64 0] s) (hc : Tr w tc bc 2 [.int .i64 1, .int .i64 a, .int .i64 0, .int .i64 1, .int .i64 b, .int .i64 0] s) :
    Calls Try.prog 28 #[.pointer (some ⟨ta, 0, none⟩), .pointer (some ⟨tc, 0, none⟩)] w fun e w' => e = .returned (.bool true) ∧ Below w.heap.size w w' := by
  obtain ⟨va, hva, hoa⟩ := ha.row
  obtain ⟨vc, hvc, hoc⟩ := hc.row
  obtain ⟨ga, ca, rfl, _, hga, hra⟩ := own_reads hoa
  obtain ⟨gc, cc, rfl, _, hgc, hrc⟩ := own_reads hoc
  have HM1 : Hid (Calls Try.prog 49 #[.pointer (some ⟨ta, 0, none⟩)] w fun e w' => e = .returned (.int .i64 2) ∧ w' = w) := many_ok ta 2 _ s w hva
  have HM2 : Hid (Calls Try.prog 49 #[.pointer (some ⟨tc, 0, none⟩)] w fun e w' => e = .returned (.int .i64 2) ∧ w' = w) := many_ok tc 2 _ s w hvc
  have HS1 : Hid (Calls Try.prog 50 #[.pointer (some ⟨ta, 0, none⟩)] w fun e w' => e = .returned (.int .u64 s) ∧ w' = w) := tsum_ok ta 2 _ s w hva
  have HS2 : Hid (Calls Try.prog 50 #[.pointer (some ⟨tc, 0, none⟩)] w fun e w' => e = .returned (.int .u64 s) ∧ w' = w) := tsum_ok tc 2 _ s w hvc
  have h1 : ∀ u ∈ ([.int .i64 1, .int .i64 a, .int .i64 0, .int .i64 1, .int .i64 b, .int .i64 0] : List Value), u.oneCell' = true := by simp [Value.oneCell']
  have HE1 : Hid (Calls Try.prog 51 #[.pointer (some ⟨ta, 0, none⟩)] w fun e w' => ∃ v, e = .returned v ∧ w'.ownsRow w.heap.size 81 3 v 2 [.int .i64 1, .int .i64 a, .int .i64 0, .int .i64 1, .int .i64 b, .int .i64 0] ∧ Below w.heap.size w w') := events_two ta ga ca 2 s _ w hva rfl h1 hra
  have HE2 : Hid (∀ W, Below w.heap.size w W → Calls Try.prog 51 #[.pointer (some ⟨tc, 0, none⟩)] W fun e w' => ∃ v, e = .returned v ∧ w'.ownsRow W.heap.size 81 3 v 2 [.int .i64 1, .int .i64 a, .int .i64 0, .int .i64 1, .int .i64 b, .int .i64 0] ∧ Below W.heap.size W w') := fun W hW =>
    events_two tc gc cc 2 s _ W ((hW.block _ (Array.getElem?_eq_some_iff.1 hvc).1).trans hvc) rfl h1 (fun j u hj => (hW.cell (p := ⟨gc, j, none⟩) hgc).trans (hrc j u hj))
  clear hva hoa hvc hoc hra hrc hga hgc h1 ha hc
  go_enter Try.func28, Try.ntmps28
  go_wp2_with fail
  refine HM1.out.mono ?_
  rintro e w2 ⟨rfl, rfl⟩
  go_wp2_with fail
  refine HM2.out.mono ?_
  rintro e w3 ⟨rfl, rfl⟩
  go_wp2_with fail
  refine HS1.out.mono ?_
  rintro e w4 ⟨rfl, rfl⟩
  go_wp2_with fail
  refine HS2.out.mono ?_
  rintro e w5 ⟨rfl, rfl⟩
  go_wp2_with fail
  refine HE1.out.mono ?_
  rintro e w6 ⟨v6, rfl, ho6, hb6⟩
  obtain ⟨g6, c6, rfl, hb6g, hg6, hr6⟩ := own_reads ho6
  have HR6 := Lib.hid hr6
  have HG6 := Lib.hid hg6
  have HB6 := Lib.hid hb6
  clear ho6 hb6 hr6 hg6 hb6g
  go_wp2_with fail
  refine (HE2.out _ HB6.out).mono ?_
  rintro e w7 ⟨v7, rfl, ho7, hb7⟩
  obtain ⟨g7, c7, rfl, hb7g, hg7, hr7⟩ := own_reads ho7
  have HRA : Hid (∀ W : World, Below w7.heap.size w7 W → ∀ j u, ([.int .i64 1, .int .i64 a, .int .i64 0, .int .i64 1, .int .i64 b, .int .i64 0] : List Value)[j]? = some u → W.cell? ⟨g6, j, none⟩ = some u) := fun W hW j u hj =>
    (hW.cell (p := ⟨g6, j, none⟩) (Nat.lt_of_lt_of_le HG6.out hb7.size)).trans ((hb7.cell (p := ⟨g6, j, none⟩) HG6.out).trans (HR6.out j u hj))
  have HRC : Hid (∀ W : World, Below w7.heap.size w7 W → ∀ j u, ([.int .i64 1, .int .i64 a, .int .i64 0, .int .i64 1, .int .i64 b, .int .i64 0] : List Value)[j]? = some u → W.cell? ⟨g7, j, none⟩ = some u) := fun W hW j u hj =>
    (hW.cell (p := ⟨g7, j, none⟩) hg7).trans (hr7 j u hj)
  have HB7 : Hid (Below w5.heap.size w5 w7) := HB6.out.trans (hb7.mono HB6.out.size)
  clear ho7 hb7 hr7 hg7 hb7g
  go_wp2_with fail
  go_loopw [27] (fun i wr => ∃ k : Nat, k ≤ 2 ∧ i = .int .i64 k ∧ Hid (Below w7.heap.size w7 wr)) (fun i _ => 2 - (intOf i).toNat)
  case atStart => exact ⟨0, by omega, rfl, Below.refl _ _⟩
  case round =>
    obtain ⟨k, hk, rfl, hb⟩ := hrel
    have hra := HRA.out wr hb.out
    have hrc := HRC.out wr hb.out
    rcases Nat.lt_or_ge k 1 with h | h
    · obtain rfl : k = 0 := by omega
      have a0 := hra 0 _ rfl
      have a1 := hra 1 _ rfl
      have a2 := hra 2 _ rfl
      clear hra hrc
      go_wp2_with fail
      obtain ⟨W9, hW9⟩ : ∃ W9, W9 = wr.alloc (.cells #[.int .i64 1, .int .i64 a, .int .i64 0] 81) := ⟨_, rfl⟩
      have hB9 : Below w7.heap.size w7 W9 := by rw [hW9]; exact hb.out.alloc hb.out.size _
      have hn9 : W9.heap[wr.heap.size]? = some (.cells #[.int .i64 1, .int .i64 a, .int .i64 0] 81 (0, 0)) := by rw [hW9]; exact World.alloc_heap_new wr _
      have hrc := HRC.out W9 hB9
      have b0 := hrc 0 _ rfl
      have b1 := hrc 1 _ rfl
      have b2 := hrc 2 _ rfl
      have n0 : W9.cell? ⟨wr.heap.size, 0, none⟩ = some (.int .i64 1) := blk_cell hn9 0
      have n1 : W9.cell? ⟨wr.heap.size, 1, none⟩ = some (.int .i64 a) := blk_cell hn9 1
      have n2 : W9.cell? ⟨wr.heap.size, 2, none⟩ = some (.int .i64 0) := blk_cell hn9 2
      have HB9 := Lib.hid hB9
      rw [← hW9]
      clear hW9 hB9 hn9 hrc a0 a1 a2 hb
      go_quiet (fail)
      go_wp2_with fail
      go_roundw
      case rel => exact ⟨1, by omega, rfl, pw_below_drewN HB9.out _⟩
      case measure => simp [intOf]
    · rcases Nat.lt_or_ge k 2 with h2 | h2
      · obtain rfl : k = 1 := by omega
        have a0 := hra 3 _ rfl
        have a1 := hra 4 _ rfl
        have a2 := hra 5 _ rfl
        clear hra hrc
        go_wp2_with fail
        obtain ⟨W9, hW9⟩ : ∃ W9, W9 = wr.alloc (.cells #[.int .i64 1, .int .i64 b, .int .i64 0] 81) := ⟨_, rfl⟩
        have hB9 : Below w7.heap.size w7 W9 := by rw [hW9]; exact hb.out.alloc hb.out.size _
        have hn9 : W9.heap[wr.heap.size]? = some (.cells #[.int .i64 1, .int .i64 b, .int .i64 0] 81 (0, 0)) := by rw [hW9]; exact World.alloc_heap_new wr _
        have hrc := HRC.out W9 hB9
        have b0 := hrc 3 _ rfl
        have b1 := hrc 4 _ rfl
        have b2 := hrc 5 _ rfl
        have n0 : W9.cell? ⟨wr.heap.size, 0, none⟩ = some (.int .i64 1) := blk_cell hn9 0
        have n1 : W9.cell? ⟨wr.heap.size, 1, none⟩ = some (.int .i64 b) := blk_cell hn9 1
        have n2 : W9.cell? ⟨wr.heap.size, 2, none⟩ = some (.int .i64 0) := blk_cell hn9 2
        have HB9 := Lib.hid hB9
        rw [← hW9]
        clear hW9 hB9 hn9 hrc a0 a1 a2 hb
        go_quiet (fail)
        go_wp2_with fail
        go_roundw
        case rel => exact ⟨2, by omega, rfl, pw_below_drewN HB9.out _⟩
        case measure => simp [intOf]
      · obtain rfl : k = 2 := by omega
        clear hra hrc
        go_wp2_with fail
        go_ret
        exact ⟨rfl, HB7.out.trans (hb.out.mono HB7.out.size)⟩
end Go.Proofs.Ytincnnmojgphmaa.H

set_option linter.unusedVariables false
set_option linter.unusedSimpArgs false
namespace Go.Proofs.Ytincnnmojgphmaa.H
open Go.RowKit Go.Proofs.YtincnnmojgphmaaW.PrintWords Go.Proofs.YtincnnmojgphmaaW.PrintLast Go.Proofs.Ytincnnmojgphmaa.Sha Go.Proofs.YtincnnmojgphmaaW.PrintMore Go.Proofs.Ytincnnmojgphmaa.PT Go.Proofs.Ytincnnmojgphmaa.PO
attribute [local go_sem] Oper.semAt_some

set_option maxRecDepth 100000 in
theorem decode_hash_t (tb : Nat) (h : Int) (hz : hash_Size.f h = some 0) (A1 : Option Addr) (c1 : Nat) (label : List Int) (A2 : Option Addr) (c2 : Nat) (em : List Int) (w : World) :
    Calls Try.prog 20 #[.pointer (some ⟨tb, 0, none⟩), .int .i64 h, .slice A1 label.length c1, .slice A2 em.length c2] w fun e w' => (∃ v, e = .returned v) ∧ Below w.heap.size w w' := by
  have hsz : Hid (∀ W, Calls Try.prog 29 #[.int .i64 h] W fun e w' => e = .returned (.int .i64 0) ∧ Below W.heap.size W w') := fun W => hash_Size.calls h _ W hz
  clear hz
  go_enter Try.func20, Try.ntmps20
  go_wp2_with fail
  refine (hsz.out _).mono ?_
  rintro e w2 ⟨rfl, hb2⟩
  have HB2 := Lib.hid hb2
  clear hb2
  go_wp2_with fail
  go_ret2
  exact ⟨⟨_, rfl⟩, HB2.out⟩
set_option maxRecDepth 100000 in
theorem decode_short_t (tb : Nat) (h : Int) (hh : h = 1 ∨ h = 2 ∨ h = 3) (A1 : Option Addr) (c1 : Nat) (label : List Int) (A2 : Option Addr) (c2 : Nat) (em : List Int) (w : World) (hm : em.length ≤ 140737488355328) (hbad : em.length < 2 * hlen h + 2 ∨ 1024 < em.length) :
    Calls Try.prog 20 #[.pointer (some ⟨tb, 0, none⟩), .int .i64 h, .slice A1 label.length c1, .slice A2 em.length c2] w fun e w' => (∃ v, e = .returned v) ∧ Below w.heap.size w w' := by
  have hsz : Hid (∀ W, Calls Try.prog 29 #[.int .i64 h] W fun e w' => e = .returned (.int .i64 (hlen h : Int)) ∧ Below W.heap.size W w') := fun W => hash_Size.calls h _ W (size_at h hh)
  have hl0 : ((hlen h : Int) == 0) = false := by have := hlen_pos h; simp; omega
  have hw1 : IntKind.i64.wrap (2 * (hlen h : Int)) = 2 * (hlen h : Int) := by have := hlen_le h; rw [IntKind.wrap_i64]; omega
  have hw2 : IntKind.i64.wrap (2 * (hlen h : Int) + 2) = 2 * (hlen h : Int) + 2 := by have := hlen_le h; rw [IntKind.wrap_i64]; omega
  go_enter Try.func20, Try.ntmps20
  go_wp2_with fail
  refine (hsz.out _).mono ?_
  rintro e w2 ⟨rfl, hb2⟩
  have HB2 := Lib.hid hb2
  clear hb2
  by_cases h1 : em.length < 2 * hlen h + 2
  · have q1 : (em.length : Int) < 2 * (hlen h : Int) + 2 := by omega
    clear hbad h1
    go_wp2_with fail
    go_ret2
    exact ⟨⟨_, rfl⟩, HB2.out⟩
  · have q1 : ¬ (em.length : Int) < 2 * (hlen h : Int) + 2 := by omega
    have q2 : (1024 : Int) < (em.length : Int) := by omega
    clear hbad h1
    go_wp2_with fail
    go_ret2
    exact ⟨⟨_, rfl⟩, HB2.out⟩
/-- What a Decode writes down: nothing, or the two spans. -/
def Seen (h : Int) (L : Nat) (W : World) (tb B : Nat) : Prop :=
  if (h = 1 ∨ h = 2 ∨ h = 3) ∧ ¬ (L < 2 * hlen h + 2 ∨ 1024 < L) then
    ∃ base, B ≤ base ∧ Tr W tb base 2 [.int .i64 1, .int .i64 (hlen h : Int), .int .i64 0, .int .i64 1, .int .i64 ((L - (1 + hlen h) : Nat) : Int), .int .i64 0] (spanSum 1 (spanSum 0 14695981039346656037 (hlen h : Int)) ((L - (1 + hlen h) : Nat) : Int))
  else W.heap[tb]? = some (.cells #[.slice none 0 0, .int .i64 ((0 : Nat) : Int), .int .u64 14695981039346656037] 76 (0, 0))
theorem decode_seen (tb : Nat) (h : Int) (A1 : Option Addr) (c1 : Nat) (label : List Int) (A2 : Option Addr) (c2 : Nat) (em : List Int) (w : World) (h1 : Kd.C (Kd.int .u8) w A1 label.length label) (hc1 : label.length ≤ c1) (h2 : Kd.C (Kd.int .u8) w A2 em.length em) (hc2 : em.length ≤ c2)
    (hb1 : inB 8 label) (hbE : inB 8 em) (hm1 : label.length ≤ 100000) (hmE : em.length ≤ 100000) (htb : tb < w.heap.size) (ht : w.heap[tb]? = some (.cells #[.slice none 0 0, .int .i64 ((0 : Nat) : Int), .int .u64 14695981039346656037] 76 (0, 0))) :
    Calls Try.prog 20 #[.pointer (some ⟨tb, 0, none⟩), .int .i64 h, .slice A1 label.length c1, .slice A2 em.length c2] w fun e w' => (∃ v, e = .returned v) ∧ Seen h em.length w' tb w.heap.size ∧ Away (fun j => j = tb) w w' := by
  by_cases hh : h = 1 ∨ h = 2 ∨ h = 3
  · by_cases hs : em.length < 2 * hlen h + 2 ∨ 1024 < em.length
    · refine (decode_short_t tb h hh A1 c1 label A2 c2 em w (by omega) hs).mono ?_
      rintro e w' ⟨he, hb⟩
      refine ⟨he, ?_, Away.of_below hb⟩
      unfold Seen
      rw [if_neg (fun x => x.2 hs)]
      exact (hb.block _ htb).trans ht
    · refine (decode_t tb _ h hh A1 c1 label A2 c2 em w h1 hc1 h2 hc2 hb1 hbE hm1 (by omega) (by omega) htb ht).mono ?_
      rintro e w' ⟨he, htr, ha⟩
      refine ⟨he, ?_, ha⟩
      unfold Seen
      rw [if_pos ⟨hh, hs⟩]
      exact ⟨_, Nat.le_refl _, htr⟩
  · refine (decode_hash_t tb h (size_none h hh) A1 c1 label A2 c2 em w).mono ?_
    rintro e w' ⟨he, hb⟩
    refine ⟨he, ?_, Away.of_below hb⟩
    unfold Seen
    rw [if_neg (fun x => hh x.1)]
    exact (hb.block _ htb).trans ht
theorem seen_same (h : Int) (L ta tc Ba Bc : Nat) (w : World) (ha : Seen h L w ta Ba) (hc : Seen h L w tc Bc) :
    Calls Try.prog 28 #[.pointer (some ⟨ta, 0, none⟩), .pointer (some ⟨tc, 0, none⟩)] w fun e w' => e = .returned (.bool true) ∧ Below w.heap.size w w' := by
  unfold Seen at ha hc
  by_cases hg : (h = 1 ∨ h = 2 ∨ h = 3) ∧ ¬ (L < 2 * hlen h + 2 ∨ 1024 < L)
  · rw [if_pos hg] at ha hc
    obtain ⟨ba, _, ha⟩ := ha
    obtain ⟨bc, _, hc⟩ := hc
    exact same_two ta tc ba bc _ _ _ w ha hc
  · rw [if_neg hg] at ha hc
    exact same_zero ta tc _ w ha hc
theorem Seen.away {h : Int} {L ta tc B : Nat} {W W' : World} (hs : Seen h L W ta B) (ha : Away (fun j => j = tc) W W') (hne : ta ≠ tc) (hB : tc < B) : Seen h L W' ta B := by
  unfold Seen at hs ⊢
  split at hs
  · obtain ⟨b, hb, htr⟩ := hs
    rename_i hg
    rw [if_pos hg]
    obtain ⟨v, h1, h2⟩ := htr.row
    exact ⟨b, hb, ⟨⟨v, ha.blk h1 hne, owns_away3 h2 ha (fun k hk => by omega)⟩⟩⟩
  · rename_i hg
    rw [if_neg hg]
    exact ha.blk hs hne
set_option maxRecDepth 100000 in
set_option maxHeartbeats 4000000 in
theorem oaepSeen_ok (h : Int) (A1 : Option Addr) (c1 : Nat) (label : List Int) (A2 : Option Addr) (c2 : Nat) (other : List Int) (A3 : Option Addr) (c3 : Nat) (a : List Int) (A4 : Option Addr) (c4 : Nat) (b : List Int) (w : World)
    (h1 : Kd.C (Kd.int .u8) w A1 label.length label) (hc1 : label.length ≤ c1) (h2 : Kd.C (Kd.int .u8) w A2 other.length other) (hc2 : other.length ≤ c2) (h3 : Kd.C (Kd.int .u8) w A3 a.length a) (hc3 : a.length ≤ c3) (h4 : Kd.C (Kd.int .u8) w A4 b.length b) (hc4 : b.length ≤ c4)
    (hb1 : inB 8 label) (hb2 : inB 8 other) (hb3 : inB 8 a) (hb4 : inB 8 b) :
    Calls Try.prog 10 #[.int .i64 h, .slice A1 label.length c1, .slice A2 other.length c2, .slice A3 a.length c3, .slice A4 b.length c4] w fun e w' => e = .returned (.bool true) ∧ Below w.heap.size w w' := by
  have HAw : Hid (∀ W, Calls Try.prog 18 #[] W fun e w' => e = .returned (.bool true) ∧ Below W.heap.size W w') := fun W => awake24_ok W
  have HFe : Hid (∀ W, Below w.heap.size w W → Calls Try.prog 19 #[.slice (some ⟨W.heap.size, 0, none⟩) 4 4] (W.alloc (.cells #[.slice A1 label.length c1, .slice A2 other.length c2, .slice A3 a.length c3, .slice A4 b.length c4] 22)) fun e w' => e = .returned (.bool (decide (label.length ≤ 400 ∧ other.length ≤ 400 ∧ a.length ≤ 400 ∧ b.length ≤ 400))) ∧ Below W.heap.size W w') := fun W hW =>
    (fewO4.calls A1 c1 label A2 c2 other A3 c3 a A4 c4 b _ W (C_same h1 (fun i hi => hW.block i hi)) hc1 (C_same h2 (fun i hi => hW.block i hi)) hc2 (C_same h3 (fun i hi => hW.block i hi)) hc3 (C_same h4 (fun i hi => hW.block i hi)) hc4 rfl).mono (by
      rintro e w' ⟨rfl, hb⟩
      exact ⟨rfl, hb⟩)
  have H1 := Lib.hid h1
  have H2 := Lib.hid h2
  have H3 := Lib.hid h3
  have H4 := Lib.hid h4
  clear h1 h2 h3 h4
  go_enter Try.func10, Try.ntmps10
  go_wp2_with fail
  refine (HAw.out _).mono ?_
  rintro e w2 ⟨rfl, hb2'⟩
  have HB2 := Lib.hid hb2'
  clear hb2'
  go_wp2_with fail
  refine (HFe.out _ HB2.out).mono ?_
  rintro e w3 ⟨rfl, hb3'⟩
  have HB3 := Lib.hid (HB2.out.trans (hb3'.mono HB2.out.size))
  clear hb3'
  by_cases hl : label.length ≤ 400 ∧ other.length ≤ 400 ∧ a.length ≤ 400 ∧ b.length ≤ 400
  · have hd1 : decide (label.length ≤ 400 ∧ other.length ≤ 400 ∧ a.length ≤ 400 ∧ b.length ≤ 400) = true := decide_eq_true hl
    rw [hd1]
    have HL := Lib.hid hl
    clear hd1 hl HFe
    by_cases hab : a.length = b.length
    · have hab' : (a.length : Int) = (b.length : Int) := by omega
      have HAB := Lib.hid hab
      have HTN : Hid (∀ W, Calls Try.prog 27 #[] W fun e w' => e = .returned (.pointer (some ⟨W.heap.size, 0, none⟩)) ∧ w' = W.alloc (.cells #[.slice none 0 0, .int .i64 0, .int .u64 14695981039346656037] 76)) := fun W => tnew_ok W
      clear hab
      go_wp2_with fail
      refine (HTN.out _).mono ?_
      rintro e w4 ⟨rfl, hw4⟩
      have HW4 := Lib.hid hw4
      clear hw4
      go_wp2_with fail
      refine (HTN.out _).mono ?_
      rintro e w5 ⟨rfl, hw5⟩
      have HW5 := Lib.hid hw5
      clear hw5
      obtain ⟨t1, ht1⟩ : ∃ t1, t1 = w3.heap.size := ⟨_, rfl⟩
      obtain ⟨t2, ht2⟩ : ∃ t2, t2 = w4.heap.size := ⟨_, rfl⟩
      have hz4 : w4.heap.size = w3.heap.size + 1 := by rw [HW4.out]; simp
      have hz5 : w5.heap.size = w4.heap.size + 1 := by rw [HW5.out]; simp
      have hT1 : w5.heap[t1]? = some (.cells #[.slice none 0 0, .int .i64 ((0 : Nat) : Int), .int .u64 14695981039346656037] 76 (0, 0)) := by
        rw [HW5.out, ht1]
        refine (Below.heap_alloc w4 _ _ (by omega)).trans ?_
        rw [HW4.out]
        exact World.alloc_heap_new w3 _
      have hT2 : w5.heap[t2]? = some (.cells #[.slice none 0 0, .int .i64 ((0 : Nat) : Int), .int .u64 14695981039346656037] 76 (0, 0)) := by
        rw [HW5.out, ht2]
        exact World.alloc_heap_new w4 _
      have hB5 : Below w.heap.size w w5 := by
        rw [HW5.out]
        refine Below.alloc ?_ (by have := HB3.out.size; omega) _
        rw [HW4.out]
        exact HB3.out.alloc HB3.out.size _
      have HTT : Hid (t1 < t2 ∧ t2 < w5.heap.size ∧ w.heap.size ≤ t1) := ⟨by omega, by omega, by have := HB3.out.size; omega⟩
      have HT1 := Lib.hid hT1
      have HT2 := Lib.hid hT2
      have HB5 := Lib.hid hB5
      rw [← ht1]
      try rw [← ht2]
      clear ht1 ht2 hz4 hz5 hT1 hT2 hB5
      go_wp2_with fail
      refine (decode_seen t1 h A1 c1 label A3 c3 a w5 (C_same H1.out (fun i hi => HB5.out.block i hi)) hc1 (C_same H3.out (fun i hi => HB5.out.block i hi)) hc3 hb1 hb3 (by have := HL.out; omega) (by have := HL.out; omega) (Nat.lt_trans HTT.out.1 HTT.out.2.1) HT1.out).mono ?_
      rintro e w6 ⟨⟨v6, rfl⟩, hs6, ha6⟩
      have HS6 := Lib.hid hs6
      have HB6 : Hid (Below w.heap.size w w6) := Away.below HB5.out ha6 (fun i hi => by rw [hi]; exact HTT.out.2.2) HB5.out.size
      have HT26 : Hid (w6.heap[t2]? = some (.cells #[.slice none 0 0, .int .i64 ((0 : Nat) : Int), .int .u64 14695981039346656037] 76 (0, 0))) := ha6.blk HT2.out (by show t2 ≠ t1; have := HTT.out; omega)
      have HZ6 : Hid (w5.heap.size ≤ w6.heap.size) := ha6.size
      clear hs6 ha6
      go_wp2_with fail
      refine (decode_seen t2 h A2 c2 other A4 c4 b w6 (C_same H2.out (fun i hi => HB6.out.block i hi)) hc2 (C_same H4.out (fun i hi => HB6.out.block i hi)) hc4 hb2 hb4 (by have := HL.out; omega) (by have := HL.out; omega) (Nat.lt_of_lt_of_le HTT.out.2.1 HZ6.out) HT26.out).mono ?_
      rintro e w7 ⟨⟨v7, rfl⟩, hs7, ha7⟩
      have hs1 := HS6.out.away ha7 (by have := HTT.out; omega) HTT.out.2.1
      rw [HAB.out] at hs1
      have HSm : Hid (Calls Try.prog 28 #[.pointer (some ⟨t1, 0, none⟩), .pointer (some ⟨t2, 0, none⟩)] w7 fun e w' => e = .returned (.bool true) ∧ Below w7.heap.size w7 w') := seen_same h b.length t1 t2 _ _ w7 hs1 hs7
      have HB7 : Hid (Below w.heap.size w w7) := Away.below HB6.out ha7 (fun i hi => by rw [hi]; have := HTT.out; omega) HB6.out.size
      clear hs1 hs7 ha7
      go_wp2_with fail
      refine HSm.out.mono ?_
      rintro e w8 ⟨rfl, hb8⟩
      have HB8 : Hid (Below w.heap.size w w8) := HB7.out.trans (hb8.mono HB7.out.size)
      clear hb8
      go_wp2_with fail
      go_ret
      exact ⟨rfl, HB8.out⟩
    · have hab' : ¬ (a.length : Int) = (b.length : Int) := by omega
      go_wp2_with fail
      go_ret
      exact ⟨rfl, HB3.out⟩
  · have hd1 : decide (label.length ≤ 400 ∧ other.length ≤ 400 ∧ a.length ≤ 400 ∧ b.length ≤ 400) = false := decide_eq_false hl
    rw [hd1]
    go_wp2_with fail
    go_ret
    exact ⟨rfl, HB3.out⟩
def sconcelaw24_OaepSeen.f (a0 : Int) (l1 l2 l3 l4 : List Int) : Option Bool := if inB 8 l1 ∧ inB 8 l2 ∧ inB 8 l3 ∧ inB 8 l4 then some true else none
theorem sconcelaw24_OaepSeen.calls (a0 : Int) (A1 : Option Addr) (c1 : Nat) (l1 : List Int) (A2 : Option Addr) (c2 : Nat) (l2 : List Int) (A3 : Option Addr) (c3 : Nat) (l3 : List Int) (A4 : Option Addr) (c4 : Nat) (l4 : List Int) (r : Bool) (w : World) (hr1 : Kd.C (Kd.int .u8) w A1 l1.length l1) (hc1 : l1.length ≤ c1) (hr2 : Kd.C (Kd.int .u8) w A2 l2.length l2) (hc2 : l2.length ≤ c2) (hr3 : Kd.C (Kd.int .u8) w A3 l3.length l3) (hc3 : l3.length ≤ c3) (hr4 : Kd.C (Kd.int .u8) w A4 l4.length l4) (hc4 : l4.length ≤ c4) (h : sconcelaw24_OaepSeen.f a0 l1 l2 l3 l4 = some r) :
    Calls Try.prog 10 #[.int .i64 a0, .slice A1 l1.length c1, .slice A2 l2.length c2, .slice A3 l3.length c3, .slice A4 l4.length c4] w fun e w' => e = .returned (.bool r) ∧ Below w.heap.size w w' := by
  unfold sconcelaw24_OaepSeen.f at h
  split at h
  case isFalse => cases h
  rename_i hh
  cases h
  exact oaepSeen_ok a0 A1 c1 l1 A2 c2 l2 A3 c3 l3 A4 c4 l4 w hr1 hc1 hr2 hc2 hr3 hc3 hr4 hc4 hh.1 hh.2.1 hh.2.2.1 hh.2.2.2
end Go.Proofs.Ytincnnmojgphmaa.H
