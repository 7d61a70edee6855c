/- Traces: a new one, and what a Span writes down, by walking their texts. -/
import Derived.Test.YtincnnmojgphmaaHMgf
import Derived.Test.YtincnnmojgphmaaPXx1
import Derived.StillTailTactics
import Derived.Maps.AppendAt
set_option linter.unusedVariables false
set_option linter.unusedSimpArgs false
namespace Go.Proofs.Ytincnnmojgphmaa.H
open Go.RowKit Go.Proofs.YtincnnmojgphmaaW.PrintWords Go.Proofs.YtincnnmojgphmaaW.PrintLast Go.Proofs.Ytincnnmojgphmaa.Sha Go.Proofs.YtincnnmojgphmaaW.PrintMore Go.Proofs.Ytincnnmojgphmaa.PT Go.Proofs.Ytincnnmojgphmaa.PX
attribute [local go_sem] Oper.semAt_some

/-- A trace of n events that lies in the block tb, its row in no block below base. -/
structure Tr (W : World) (tb base n : Nat) (cs : List Value) (sum : Int) : Prop where
  row : ∃ v, W.heap[tb]? = some (.cells #[v, .int .i64 (n : Int), .int .u64 sum] 76 (0, 0)) ∧ W.ownsRow base 81 3 v n cs
def spanSum (n : Nat) (sum k : Int) : Int := (trace_mixed.f 5 (if n = 0 then 14695981039346656037 else sum) [1, k, 0]).getD 0

theorem owns_away3 {A B : World} {S : Nat → Prop} {base e n : Nat} {v : Value} {xs : List Value} (h : A.ownsRow base e 3 v n xs) (ha : Away S A B) (hs : ∀ k, S k → k < base) : B.ownsRow base e 3 v n xs := by
  refine ⟨h.1, ?_⟩
  rcases h.2 with h0 | ⟨g, c, cur, he, hb, hg, hr⟩
  · exact .inl h0
  · exact .inr ⟨g, c, cur, he, hb, ha.blk hg (fun k => by have := hs g k; omega), hr⟩
theorem owns_heap {A B : World} {base e m n : Nat} {v : Value} {xs : List Value} (h : A.ownsRow base e m v n xs) (hh : B.heap = A.heap) : B.ownsRow base e m v n xs := by
  unfold World.ownsRow at h ⊢
  rw [hh]
  exact h
theorem ints3 {W : World} {B : Nat} {T : TypeId} {x0 x1 x2 : Int} (h : W.heap[B]? = some (.cells #[.int .i64 x0, .int .i64 x1, .int .i64 x2] T (0, 0))) : Kd.C (Kd.int .i64) W (some ⟨B, 0, none⟩) ([x0, x1, x2] : List Int).length [x0, x1, x2] := by
  refine Kd.C_of_reads (d := (0 : Int)) (h1 := fun _ => rfl) ⟨rfl, by simp, fun _ => ⟨_, rfl, fun j hj => ?_⟩⟩
  have hadd : (⟨B, 0, none⟩ : Addr).add j = ⟨B, j, none⟩ := by unfold Addr.add; split <;> simp_all
  rw [hadd, blk_cell h]
  match j, hj with
  | 0, _ => rfl
  | 1, _ => rfl
  | 2, _ => rfl
theorem tnew_ok (w : World) : Calls Try.prog 27 #[] w fun e w' => e = .returned (.pointer (some ⟨w.heap.size, 0, none⟩)) ∧ w' = w.alloc (.cells #[.slice none 0 0, .int .i64 0, .int .u64 14695981039346656037] 76) := by
  go_enter Try.func27, Try.ntmps27
  go_wp2_with fail
  go_ret
  exact ⟨rfl, rfl⟩
theorem infoEvt : (Try.prog.info? 81).map (fun i => (i.zero, i.size, i.bytes)) = some (some (.agg #[.int .i64 0, .int .i64 0, .int .i64 0]), 3, 24) := by kernel_rfl
theorem mixed_some (s a b c : Int) : ∃ r, trace_mixed.f 5 s [a, b, c] = some r := ⟨_, by
  unfold trace_mixed.f
  simp [trace_mixed.l0, rd, wrap64]
  rfl⟩
end Go.Proofs.Ytincnnmojgphmaa.H

set_option linter.unusedVariables false
set_option linter.unusedSimpArgs false
namespace Go.Proofs.Ytincnnmojgphmaa.H
open Go.RowKit Go.Proofs.YtincnnmojgphmaaW.PrintWords Go.Proofs.YtincnnmojgphmaaW.PrintLast Go.Proofs.Ytincnnmojgphmaa.Sha Go.Proofs.YtincnnmojgphmaaW.PrintMore Go.Proofs.Ytincnnmojgphmaa.PT Go.Proofs.Ytincnnmojgphmaa.PX
attribute [local go_sem] Oper.semAt_some

set_option maxRecDepth 100000 in
set_option maxHeartbeats 4000000 in
theorem putN_ok (tb base n : Nat) (hn1 : n ≠ 0) (cs : List Value) (sum k : Int) (w : World) (hn : n ≤ 10) (hb : tb < base) (hbs : base ≤ w.heap.size) (ht : Tr w tb base n cs sum) :
    Calls Try.prog 60 #[.pointer (some ⟨tb, 0, none⟩), .agg #[.int .i64 1, .int .i64 k, .int .i64 0]] w fun e w' => (∃ v, e = .returned v) ∧ Tr w' tb base (n + 1) (cs ++ [.int .i64 1, .int .i64 k, .int .i64 0]) (spanSum n sum k) ∧ Away (fun j => j = tb ∨ base ≤ j) w w' := by
  obtain ⟨v, hv, hown⟩ := ht.row
  have c0 : w.cell? ⟨tb, 0, none⟩ = some v := blk_cell hv 0
  have c1 : w.cell? ⟨tb, 1, none⟩ = some (.int .i64 (n : Int)) := blk_cell hv 1
  have c2 : w.cell? ⟨tb, 2, none⟩ = some (.int .u64 sum) := blk_cell hv 2
  have f0 : w.frozen? ⟨tb, 0, none⟩ = false := blk_frozen hv 0
  have f1 : w.frozen? ⟨tb, 1, none⟩ = false := blk_frozen hv 1
  have f2 : w.frozen? ⟨tb, 2, none⟩ = false := blk_frozen hv 2
  have htl : tb < w.heap.size := by omega
  have HV := Lib.hid hv
  have HO := Lib.hid hown
  obtain ⟨Av, cv, hvs⟩ : ∃ A c, v = .slice A n c := by
    rcases hown.2 with ⟨h0, h1⟩ | ⟨g, c, cur, he, _⟩
    · rw [h1]; exact ⟨none, 0, h0⟩
    · exact ⟨_, _, he⟩
  subst hvs
  have hn1000 : (n : Int) < 1000 := by omega
  clear hv hown ht
  go_enter Try.func60, Try.ntmps60
  obtain ⟨ii, hii⟩ := Option.isSome_iff_exists.1 (show (Try.prog.info? 81).isSome = true by kernel_rfl)
  have h3 := infoEvt
  rw [hii] at h3
  simp only [Option.map_some, Option.some.injEq, Prod.mk.injEq] at h3
  have HII := Lib.hid hii
  have H31 := Lib.hid h3.1
  have H32 := Lib.hid h3.2.1
  have H33 := Lib.hid h3.2.2
  clear h3 hii
  have hn0 : ¬ (n : Int) = 0 := by omega
  go_wp2_with fail
  obtain ⟨W5, hW5⟩ : ∃ W5, W5 = w.alloc (.cells #[.int .i64 1, .int .i64 k, .int .i64 0] 81) := ⟨_, rfl⟩
  have hb5 : W5.heap[tb]? = some (.cells #[.slice Av n cv, .int .i64 (n : Int), .int .u64 sum] 76 (0, 0)) := by
    rw [hW5]
    exact (Below.heap_alloc w _ _ htl).trans HV.out
  have hz5 : W5.heap.size = w.heap.size + 1 := by rw [hW5]; simp [World.setCell]
  have he5 : W5.heap[w.heap.size]? = some (.cells #[.int .i64 1, .int .i64 k, .int .i64 0] 81 (0, 0)) := by
    rw [hW5]
    first
      | exact World.alloc_heap_new w _
      | exact (Below.heap_setCell _ _ _ _ (by show w.heap.size ≠ tb; omega)).trans (World.alloc_heap_new w _)
  have ha5 : Away (fun j => j = tb) w W5 := by
    rw [hW5]
    first
      | exact (Away.refl _ w).alloc _
      | exact ((Away.refl (fun j => j = tb) w).alloc _).setCell (p := ⟨tb, 2, none⟩) (Or.inl rfl) _
  have c0' : W5.cell? ⟨tb, 0, none⟩ = some (.slice Av n cv) := blk_cell hb5 0
  have f0' : W5.frozen? ⟨tb, 0, none⟩ = false := blk_frozen hb5 0
  have e0 : W5.cell? ⟨w.heap.size, 0, none⟩ = some (.int .i64 1) := blk_cell he5 0
  have e1 : W5.cell? ⟨w.heap.size, 1, none⟩ = some (.int .i64 k) := blk_cell he5 1
  have e2 : W5.cell? ⟨w.heap.size, 2, none⟩ = some (.int .i64 0) := blk_cell he5 2
  have HB5 := Lib.hid hb5
  have HE5 := Lib.hid he5
  have HA5 := Lib.hid ha5
  have HZ5 := Lib.hid hz5
  have HOW : Hid (∀ W' : World, W'.heap = (W5.alloc (.cells #[.int .i64 1, .int .i64 k, .int .i64 0] 81)).heap → W'.ownsRow base 81 3 (.slice Av n cv) n cs) := fun W' hW' =>
    owns_heap (owns_away3 HO.out (S := fun j => j = tb) (ha5.alloc (.cells #[.int .i64 1, .int .i64 k, .int .i64 0] 81)) (fun j hj => by rw [hj]; exact hb)) hW'
  have HNW : Hid (∀ W' : World, W'.heap = (W5.alloc (.cells #[.int .i64 1, .int .i64 k, .int .i64 0] 81)).heap → ∀ j u, ([Value.int .i64 1, .int .i64 k, .int .i64 0])[j]? = some u → W'.cell? ((⟨W5.heap.size, 0, none⟩ : Addr).add j) = some u) := fun W' hW' =>
    World.news_of_block (t := 81) (by rw [hW']; exact World.alloc_heap_new W5 _)
  have HSZ : Hid (∀ W' : World, W'.heap = (W5.alloc (.cells #[.int .i64 1, .int .i64 k, .int .i64 0] 81)).heap → W'.heap.size = W5.heap.size + 1) := fun W' hW' => by rw [hW']; simp
  have HBS : Hid (∀ W' : World, W'.heap = (W5.alloc (.cells #[.int .i64 1, .int .i64 k, .int .i64 0] 81)).heap → base ≤ W'.heap.size) := fun W' hW' => by rw [hW']; simp; omega
  have HT6 : Hid (∀ W' : World, W'.heap = (W5.alloc (.cells #[.int .i64 1, .int .i64 k, .int .i64 0] 81)).heap → W'.heap[tb]? = some (.cells #[.slice Av n cv, .int .i64 (n : Int), .int .u64 sum] 76 (0, 0))) := fun W' hW' => by
    rw [hW']
    exact (Below.heap_alloc W5 _ _ (by omega)).trans HB5.out
  have HNE : Hid (some tb ≠ (Value.slice Av n cv).ownBlock) := by
    show _ ≠ _
    rcases HO.out.2 with ⟨h9, _⟩ | ⟨g9, c9, cur9, he9, hb9, _⟩
    · rw [h9]; simp [Value.ownBlock]
    · rw [he9]; simp [Value.ownBlock]; omega
  have HOE : Hid (∀ g, (Value.slice Av n cv).ownBlock = some g → base ≤ g ∧ g < w.heap.size) := by
    intro g9 hg9
    rcases HO.out.2 with ⟨h9, _⟩ | ⟨g8, c9, cur9, he9, hb9, hh9, _⟩
    · rw [h9] at hg9; cases hg9
    · rw [he9] at hg9
      cases hg9
      exact ⟨hb9, (Array.getElem?_eq_some_iff.1 hh9).1⟩
  have HE6 : Hid (∀ W' : World, W'.heap = (W5.alloc (.cells #[.int .i64 1, .int .i64 k, .int .i64 0] 81)).heap → W'.heap[w.heap.size]? = some (.cells #[.int .i64 1, .int .i64 k, .int .i64 0] 81 (0, 0))) := fun W' hW' => by
    rw [hW']
    exact (Below.heap_alloc W5 _ _ (by omega)).trans HE5.out
  have c0a : (W5.alloc (.cells #[.int .i64 1, .int .i64 k, .int .i64 0] 81)).cell? ⟨tb, 0, none⟩ = some (.slice Av n cv) := blk_cell (HT6.out _ rfl) 0
  rw [← hW5]
  clear hW5 hb5 he5 ha5 hz5 c0 c1 c2 f0 f1 f2 HV HO
  rename_i Q1 K1 hK1
  have key : ∀ (x2 x4 x5 x6 x7 x8 x9 x10 x11 x12 x13 x14 x15 x16 x17 x18 x19 x20 x21 x22 x23 x24 x25 x26 : Value) (g cap : Nat) (w7 : World), w7.heap[tb]? = some (.cells #[.slice (some ⟨g, 0, none⟩) (n + 1) cap, .int .i64 (n : Int), .int .u64 sum] 76 (0, 0)) → w7.heap[w.heap.size]? = some (.cells #[.int .i64 1, .int .i64 k, .int .i64 0] 81 (0, 0)) → w7.ownsRow base 81 3 (.slice (some ⟨g, 0, none⟩) (n + 1) cap) (n + 1) (cs ++ [.int .i64 1, .int .i64 k, .int .i64 0]) → Away (fun j => j = tb ∨ base ≤ j) w w7 → K1 { tmps := #[.pointer (some ⟨tb, 0, none⟩), .agg #[.int .i64 1, .int .i64 k, .int .i64 0], x2, .pointer (some ⟨w.heap.size, 0, none⟩), x4, x5, x6, x7, x8, x9, x10, x11, x12, x13, x14, x15, x16, x17, x18, x19, x20, x21, x22, x23, x24, x25, x26, .slice (some ⟨g, 0, none⟩) (n + 1) cap, .pointer (some ⟨tb, 0, none⟩), .pointer (some ⟨tb, 0, none⟩), undef, undef, undef, undef, undef, undef, undef, undef, undef, undef, undef, undef, undef, undef, undef, undef, undef, undef, undef, undef, undef, undef], defers := [] } w7 := by
    intro x2 x4 x5 x6 x7 x8 x9 x10 x11 x12 x13 x14 x15 x16 x17 x18 x19 x20 x21 x22 x23 x24 x25 x26 g cap w7 hb7 he7 ho7 ha7
    apply hK1
    clear HOW HNW HSZ HBS HT6 HNE HOE HE6 HB5 HE5 HA5 HZ5 c0' f0' c0a e0 e1 e2 HII H31 H32 H33
    have hz7 : w.heap.size < w7.heap.size := (Array.getElem?_eq_some_iff.1 he7).1
    have k1 : w7.cell? ⟨tb, 1, none⟩ = some (.int .i64 (n : Int)) := blk_cell hb7 1
    have kf1 : w7.frozen? ⟨tb, 1, none⟩ = false := blk_frozen hb7 1
    have HB7 := Lib.hid hb7
    have HE7 := Lib.hid he7
    have HO7 := Lib.hid ho7
    have HA7 := Lib.hid ha7
    clear hb7 he7 ho7 ha7
    have hwn : wrap64 ((n : Int) + 1) = (n : Int) + 1 := by unfold wrap64; omega
    go_wp2_with fail
    obtain ⟨w8, hw8⟩ : ∃ w8, w8 = w7.setCell ⟨tb, 1, none⟩ (.int .i64 ((n : Int) + 1)) := ⟨_, rfl⟩
    have hb8 : w8.heap[tb]? = some (.cells #[.slice (some ⟨g, 0, none⟩) (n + 1) cap, .int .i64 ((n : Int) + 1), .int .u64 sum] 76 (0, 0)) := by rw [hw8]; exact blk_set HB7.out 1 _
    have he8 : w8.heap[w.heap.size]? = some (.cells #[.int .i64 1, .int .i64 k, .int .i64 0] 81 (0, 0)) := by
      rw [hw8]
      exact (Below.heap_setCell _ _ _ _ (by show w.heap.size ≠ tb; omega)).trans HE7.out
    have ho8 : w8.ownsRow base 81 3 (.slice (some ⟨g, 0, none⟩) (n + 1) cap) (n + 1) (cs ++ [.int .i64 1, .int .i64 k, .int .i64 0]) := by
      rw [hw8]
      exact owns_away3 HO7.out (S := fun j => j = tb) ((Away.refl (fun j => j = tb) w7).setCell (p := ⟨tb, 1, none⟩) (Or.inl rfl) _) (fun j hj => by rw [hj]; exact hb)
    have ha8 : Away (fun j => j = tb ∨ base ≤ j) w w8 := by
      rw [hw8]
      exact HA7.out.setCell (p := ⟨tb, 1, none⟩) (Or.inl (Or.inl rfl)) _
    have hz8 : w8.heap.size = w7.heap.size := by rw [hw8]; simp [World.setCell]
    obtain ⟨rs, hrs⟩ := mixed_some sum 1 k 0
    have hbA : (w8.alloc (.cells #[.int .i64 1, .int .i64 k, .int .i64 0] 3)).heap[tb]? = some (.cells #[.slice (some ⟨g, 0, none⟩) (n + 1) cap, .int .i64 ((n : Int) + 1), .int .u64 sum] 76 (0, 0)) := (Below.heap_alloc w8 _ _ (by omega)).trans hb8
    have heA : (w8.alloc (.cells #[.int .i64 1, .int .i64 k, .int .i64 0] 3)).heap[w.heap.size]? = some (.cells #[.int .i64 1, .int .i64 k, .int .i64 0] 81 (0, 0)) := (Below.heap_alloc w8 _ _ (by omega)).trans he8
    have HMx : Hid (∀ W : World, W.heap = (w8.alloc (.cells #[.int .i64 1, .int .i64 k, .int .i64 0] 3)).heap → Calls Try.prog 78 #[.int .u64 sum, .slice (some ⟨w8.heap.size, 0, none⟩) 3 3] W fun e w' => e = .returned (.int .u64 rs) ∧ Drawn0 W w') := fun W hW =>
      trace_mixed.calls 5 sum (some ⟨w8.heap.size, 0, none⟩) 3 [1, k, 0] rs W (ints3 (T := 3) (by rw [hW]; exact World.alloc_heap_new w8 _)) (by simp) hrs
    have k2 : w8.cell? ⟨tb, 2, none⟩ = some (.int .u64 sum) := blk_cell hb8 2
    have kf2 : w8.frozen? ⟨tb, 2, none⟩ = false := blk_frozen hb8 2
    have e0 : w8.cell? ⟨w.heap.size, 0, none⟩ = some (.int .i64 1) := blk_cell he8 0
    have e1 : w8.cell? ⟨w.heap.size, 1, none⟩ = some (.int .i64 k) := blk_cell he8 1
    have e2 : w8.cell? ⟨w.heap.size, 2, none⟩ = some (.int .i64 0) := blk_cell he8 2
    have k2a : (w8.alloc (.cells #[.int .i64 1, .int .i64 k, .int .i64 0] 3)).cell? ⟨tb, 2, none⟩ = some (.int .u64 sum) := blk_cell hbA 2
    have e0a : (w8.alloc (.cells #[.int .i64 1, .int .i64 k, .int .i64 0] 3)).cell? ⟨w.heap.size, 0, none⟩ = some (.int .i64 1) := blk_cell heA 0
    have e1a : (w8.alloc (.cells #[.int .i64 1, .int .i64 k, .int .i64 0] 3)).cell? ⟨w.heap.size, 1, none⟩ = some (.int .i64 k) := blk_cell heA 1
    have e2a : (w8.alloc (.cells #[.int .i64 1, .int .i64 k, .int .i64 0] 3)).cell? ⟨w.heap.size, 2, none⟩ = some (.int .i64 0) := blk_cell heA 2
    have HBA := Lib.hid hbA
    have HO8 := Lib.hid ho8
    have HA8 := Lib.hid ha8
    have HRS := Lib.hid hrs
    have hT9 : Hid (∀ W W' : World, W.heap = (w8.alloc (.cells #[.int .i64 1, .int .i64 k, .int .i64 0] 3)).heap → Drawn0 W W' → (W.os = w8.os ∧ W.tape = w8.tape ∧ W.output = w8.output) → W'.heap[tb]? = some (.cells #[.slice (some ⟨g, 0, none⟩) (n + 1) cap, .int .i64 ((n : Int) + 1), .int .u64 sum] 76 (0, 0)) ∧ W'.heap = (w8.alloc (.cells #[.int .i64 1, .int .i64 k, .int .i64 0] 3)).heap ∧ W'.os = w8.os ∧ W'.tape = w8.tape ∧ W'.output = w8.output) := fun W W' hW hd ho9 => by
      obtain ⟨nn, rfl⟩ := hd.out
      refine ⟨?_, hW, ho9.1, ho9.2.1, ho9.2.2⟩
      show W.heap[tb]? = _
      rw [hW]; exact HBA.out
    have HFIN : Hid (∀ w9 : World, (w9.heap[tb]? = some (.cells #[.slice (some ⟨g, 0, none⟩) (n + 1) cap, .int .i64 ((n : Int) + 1), .int .u64 sum] 76 (0, 0)) ∧ w9.heap = (w8.alloc (.cells #[.int .i64 1, .int .i64 k, .int .i64 0] 3)).heap ∧ w9.os = w8.os ∧ w9.tape = w8.tape ∧ w9.output = w8.output) →
        Tr (w9.setCell ⟨tb, 2, none⟩ (.int .u64 rs)) tb base (n + 1) (cs ++ [.int .i64 1, .int .i64 k, .int .i64 0]) (spanSum n sum k) ∧ Away (fun j => j = tb ∨ base ≤ j) w (w9.setCell ⟨tb, 2, none⟩ (.int .u64 rs))) := by
      intro w9 h9
      have hAA : Away (fun j => j = tb ∨ base ≤ j) w (w8.alloc (.cells #[.int .i64 1, .int .i64 k, .int .i64 0] 3)) := ha8.alloc _
      have hOO : (w8.alloc (.cells #[.int .i64 1, .int .i64 k, .int .i64 0] 3)).ownsRow base 81 3 (.slice (some ⟨g, 0, none⟩) (n + 1) cap) (n + 1) (cs ++ [.int .i64 1, .int .i64 k, .int .i64 0]) := owns_away3 ho8 (S := fun _ => False) ((Away.refl (fun _ => False) w8).alloc _) (fun j hj => hj.elim)
      have h2 : spanSum n sum k = rs := by
        unfold spanSum
        rw [if_neg hn1, hrs]
        rfl
      refine ⟨⟨⟨.slice (some ⟨g, 0, none⟩) (n + 1) cap, ?_, ?_⟩⟩, ?_⟩
      · have h1 := blk_set h9.1 2 (.int .u64 rs)
        rw [h2]
        rw [show ((n + 1 : Nat) : Int) = (n : Int) + 1 by omega]
        exact h1
      · exact owns_away3 (owns_heap hOO h9.2.1) (S := fun j => j = tb) ((Away.refl (fun j => j = tb) w9).setCell (p := ⟨tb, 2, none⟩) (Or.inl rfl) _) (fun j hj => by rw [hj]; exact hb)
      · have hA9 : Away (fun j => j = tb ∨ base ≤ j) w w9 := ⟨by rw [h9.2.1]; exact hAA.size, h9.2.2.1.trans hAA.os, h9.2.2.2.1.trans hAA.tape, h9.2.2.2.2.trans hAA.output, fun j hj hs => by rw [h9.2.1]; exact hAA.block j hj hs⟩
        exact hA9.setCell (p := ⟨tb, 2, none⟩) (Or.inl (Or.inl rfl)) _
    rw [← hw8]
    have HZ8 := Lib.hid hz8
    have HZ7 := Lib.hid hz7
    clear hw8 hb8 he8 ho8 ha8 hrs hbA heA hz8 hz7 HB7 HE7 HO7 HA7 k1 kf1 hwn
    go_region_law (first
      | (go_simp; go_at_call 78; (with_reducible refine (HMx.out _ ?hW).mono ?_); (case hW => rfl); rintro _ w9 ⟨rfl, hd9⟩; (have h9 := hT9.out _ _ (by rfl) hd9 (by exact ⟨rfl, rfl, rfl⟩)); (have k29 := blk_cell h9.1 2); (have kf29 := blk_frozen h9.1 2); (have H9 := Lib.hid h9); clear hd9 h9))
    all_goals (
      go_end0
      exact ⟨⟨_, rfl⟩, HFIN.out _ H9.out⟩)
  go_region_law (first
    | (refine step_append_lies _ rfl (.tmp 24) (.tmp 26) 74 rfl base 81 ii (.agg #[.int .i64 0, .int .i64 0, .int .i64 0]) 3 24 Try.underlying74 HII.out H31.out H32.out H33.out rfl (by decide) (.slice Av n cv) n cs rfl (HOW.out _ rfl) ⟨W5.heap.size, 0, none⟩ 1 1 [.int .i64 1, .int .i64 k, .int .i64 0] rfl rfl (HNW.out _ rfl) (by simp [Value.oneCell']) (by omega) (by show _ ≤ _; unfold maxLen; omega) (by omega) (HBS.out _ rfl) (W5.heap.size + 1) (HSZ.out _ rfl) ?_; intro g cap w6 hown6 hg6 hgg6 hgl6; (have hb6 := (hg6.block tb (Nat.lt_of_lt_of_le hb (HBS.out _ rfl)) (HNE.out)).trans (HT6.out _ rfl)); (have c06 := blk_cell hb6 0); (have f06 := blk_frozen hb6 0); (have HB6 := Lib.hid hb6); (have HG6 := Lib.hid hg6); (have HO6 := Lib.hid hown6); (have HGG := Lib.hid hgg6); (have HGL := Lib.hid hgl6); clear hown6 hg6 hgg6 hgl6 hb6))
  all_goals (
    obtain ⟨w7, hw7⟩ : ∃ w7, w7 = w6.setCell ⟨tb, 0, none⟩ (.slice (some ⟨g, 0, none⟩) (n + 1) cap) := ⟨_, rfl⟩
    have hb7 : w7.heap[tb]? = some (.cells #[.slice (some ⟨g, 0, none⟩) (n + 1) cap, .int .i64 (n : Int), .int .u64 sum] 76 (0, 0)) := by rw [hw7]; exact blk_set HB6.out 0 _
    have hne7 : some w.heap.size ≠ (Value.slice Av n cv).ownBlock := fun h9 => by
      have := HOE.out w.heap.size h9.symm
      omega
    have he7 : w7.heap[w.heap.size]? = some (.cells #[.int .i64 1, .int .i64 k, .int .i64 0] 81 (0, 0)) := by
      rw [hw7]
      exact (Below.heap_setCell _ _ _ _ (by show w.heap.size ≠ tb; omega)).trans ((HG6.out.block w.heap.size (by rw [show ∀ W' : World, W'.drew.heap.size = W'.heap.size from fun _ => rfl, HSZ.out _ rfl]; have := HZ5.out; omega) hne7).trans (HE6.out _ rfl))
    have ho7 : w7.ownsRow base 81 3 (.slice (some ⟨g, 0, none⟩) (n + 1) cap) (n + 1) (cs ++ [.int .i64 1, .int .i64 k, .int .i64 0]) := by
      rw [hw7]
      exact owns_away3 HO6.out (S := fun j => j = tb) ((Away.refl (fun j => j = tb) w6).setCell (p := ⟨tb, 0, none⟩) (Or.inl rfl) _) (fun j hj => by rw [hj]; exact hb)
    have ha7 : Away (fun j => j = tb ∨ base ≤ j) w w7 := by
      have hsz6 := HG6.out.size
      rw [show ∀ W' : World, W'.drew.heap.size = W'.heap.size from fun _ => rfl, HSZ.out _ rfl, HZ5.out] at hsz6
      have h6 : Away (fun j => j = tb ∨ base ≤ j) w w6 := ⟨by omega, HG6.out.os.trans HA5.out.os, HG6.out.tape.trans HA5.out.tape, HG6.out.output.trans HA5.out.output, fun j hj hs => by
        have e9 : some j ≠ (Value.slice Av n cv).ownBlock := fun h9 => hs (Or.inr (HOE.out j h9.symm).1)
        have e8 := HG6.out.block j (by rw [show ∀ W' : World, W'.drew.heap.size = W'.heap.size from fun _ => rfl, HSZ.out _ rfl, HZ5.out]; omega) e9
        exact e8.trans ((Below.heap_alloc W5 _ _ (by have := HZ5.out; omega)).trans (HA5.out.block j hj (fun h9 => hs (Or.inl h9))))⟩
      rw [hw7]
      exact h6.setCell (p := ⟨tb, 0, none⟩) (Or.inl (Or.inl rfl)) _
    clear c06 f06 hne7
    rw [← hw7]
    exact key _ _ _ _ _ _ _ _ _ _ _ _ _ _ _ _ _ _ _ _ _ _ _ _ g cap w7 hb7 he7 ho7 ha7)
end Go.Proofs.Ytincnnmojgphmaa.H

set_option linter.unusedVariables false
set_option linter.unusedSimpArgs false
namespace Go.Proofs.Ytincnnmojgphmaa.H
open Go.RowKit Go.Proofs.YtincnnmojgphmaaW.PrintWords Go.Proofs.YtincnnmojgphmaaW.PrintLast Go.Proofs.Ytincnnmojgphmaa.Sha Go.Proofs.YtincnnmojgphmaaW.PrintMore Go.Proofs.Ytincnnmojgphmaa.PT Go.Proofs.Ytincnnmojgphmaa.PX
attribute [local go_sem] Oper.semAt_some

set_option maxRecDepth 100000 in
set_option maxHeartbeats 4000000 in
theorem put0_ok (tb base : Nat) (cs : List Value) (sum k : Int) (w : World) (hb : tb < base) (hbs : base ≤ w.heap.size) (ht : Tr w tb base 0 cs sum) :
    Calls Try.prog 60 #[.pointer (some ⟨tb, 0, none⟩), .agg #[.int .i64 1, .int .i64 k, .int .i64 0]] w fun e w' => (∃ v, e = .returned v) ∧ Tr w' tb base 1 (cs ++ [.int .i64 1, .int .i64 k, .int .i64 0]) (spanSum 0 sum k) ∧ Away (fun j => j = tb ∨ base ≤ j) w w' := by
  obtain ⟨v, hv, hown⟩ := ht.row
  have c0 : w.cell? ⟨tb, 0, none⟩ = some v := blk_cell hv 0
  have c1 : w.cell? ⟨tb, 1, none⟩ = some (.int .i64 ((0 : Nat) : Int)) := blk_cell hv 1
  have c2 : w.cell? ⟨tb, 2, none⟩ = some (.int .u64 sum) := blk_cell hv 2
  have f0 : w.frozen? ⟨tb, 0, none⟩ = false := blk_frozen hv 0
  have f1 : w.frozen? ⟨tb, 1, none⟩ = false := blk_frozen hv 1
  have f2 : w.frozen? ⟨tb, 2, none⟩ = false := blk_frozen hv 2
  have htl : tb < w.heap.size := by omega
  have HV := Lib.hid hv
  have HO := Lib.hid hown
  obtain ⟨Av, cv, hvs⟩ : ∃ A c, v = .slice A 0 c := by
    rcases hown.2 with ⟨h0, h1⟩ | ⟨g, c, cur, he, _⟩
    · rw [h1]; exact ⟨none, 0, h0⟩
    · exact ⟨_, _, he⟩
  subst hvs
  skip
  clear hv hown ht
  go_enter Try.func60, Try.ntmps60
  obtain ⟨ii, hii⟩ := Option.isSome_iff_exists.1 (show (Try.prog.info? 81).isSome = true by kernel_rfl)
  have h3 := infoEvt
  rw [hii] at h3
  simp only [Option.map_some, Option.some.injEq, Prod.mk.injEq] at h3
  have HII := Lib.hid hii
  have H31 := Lib.hid h3.1
  have H32 := Lib.hid h3.2.1
  have H33 := Lib.hid h3.2.2
  clear h3 hii
  skip
  go_wp2_with fail
  obtain ⟨W5, hW5⟩ : ∃ W5, W5 = (w.setCell ⟨tb, 2, none⟩ (.int .u64 14695981039346656037)).alloc (.cells #[.int .i64 1, .int .i64 k, .int .i64 0] 81) := ⟨_, rfl⟩
  have hb5 : W5.heap[tb]? = some (.cells #[.slice Av 0 cv, .int .i64 ((0 : Nat) : Int), .int .u64 14695981039346656037] 76 (0, 0)) := by
    rw [hW5]
    exact (Below.heap_alloc (w.setCell ⟨tb, 2, none⟩ (.int .u64 14695981039346656037)) _ _ (by simp [World.setCell]; omega)).trans (blk_set HV.out 2 _)
  have hz5 : W5.heap.size = w.heap.size + 1 := by rw [hW5]; simp [World.setCell]
  have he5 : W5.heap[w.heap.size]? = some (.cells #[.int .i64 1, .int .i64 k, .int .i64 0] 81 (0, 0)) := by
    rw [hW5]
    have h9 := World.alloc_heap_new (w.setCell ⟨tb, 2, none⟩ (.int .u64 14695981039346656037)) (.cells #[.int .i64 1, .int .i64 k, .int .i64 0] 81)
    rw [show (w.setCell ⟨tb, 2, none⟩ (.int .u64 14695981039346656037)).heap.size = w.heap.size by simp [World.setCell]] at h9
    exact h9
  have ha5 : Away (fun j => j = tb) w W5 := by
    rw [hW5]
    exact ((Away.refl (fun j => j = tb) w).setCell (p := ⟨tb, 2, none⟩) (Or.inl rfl) _).alloc _
  have c0' : W5.cell? ⟨tb, 0, none⟩ = some (.slice Av 0 cv) := blk_cell hb5 0
  have f0' : W5.frozen? ⟨tb, 0, none⟩ = false := blk_frozen hb5 0
  have e0 : W5.cell? ⟨w.heap.size, 0, none⟩ = some (.int .i64 1) := blk_cell he5 0
  have e1 : W5.cell? ⟨w.heap.size, 1, none⟩ = some (.int .i64 k) := blk_cell he5 1
  have e2 : W5.cell? ⟨w.heap.size, 2, none⟩ = some (.int .i64 0) := blk_cell he5 2
  have HB5 := Lib.hid hb5
  have HE5 := Lib.hid he5
  have HA5 := Lib.hid ha5
  have HZ5 := Lib.hid hz5
  have HOW : Hid (∀ W' : World, W'.heap = (W5.alloc (.cells #[.int .i64 1, .int .i64 k, .int .i64 0] 81)).heap → W'.ownsRow base 81 3 (.slice Av 0 cv) 0 cs) := fun W' hW' =>
    owns_heap (owns_away3 HO.out (S := fun j => j = tb) (ha5.alloc (.cells #[.int .i64 1, .int .i64 k, .int .i64 0] 81)) (fun j hj => by rw [hj]; exact hb)) hW'
  have HNW : Hid (∀ W' : World, W'.heap = (W5.alloc (.cells #[.int .i64 1, .int .i64 k, .int .i64 0] 81)).heap → ∀ j u, ([Value.int .i64 1, .int .i64 k, .int .i64 0])[j]? = some u → W'.cell? ((⟨W5.heap.size, 0, none⟩ : Addr).add j) = some u) := fun W' hW' =>
    World.news_of_block (t := 81) (by rw [hW']; exact World.alloc_heap_new W5 _)
  have HSZ : Hid (∀ W' : World, W'.heap = (W5.alloc (.cells #[.int .i64 1, .int .i64 k, .int .i64 0] 81)).heap → W'.heap.size = W5.heap.size + 1) := fun W' hW' => by rw [hW']; simp
  have HBS : Hid (∀ W' : World, W'.heap = (W5.alloc (.cells #[.int .i64 1, .int .i64 k, .int .i64 0] 81)).heap → base ≤ W'.heap.size) := fun W' hW' => by rw [hW']; simp; omega
  have HT6 : Hid (∀ W' : World, W'.heap = (W5.alloc (.cells #[.int .i64 1, .int .i64 k, .int .i64 0] 81)).heap → W'.heap[tb]? = some (.cells #[.slice Av 0 cv, .int .i64 ((0 : Nat) : Int), .int .u64 14695981039346656037] 76 (0, 0))) := fun W' hW' => by
    rw [hW']
    exact (Below.heap_alloc W5 _ _ (by omega)).trans HB5.out
  have HNE : Hid (some tb ≠ (Value.slice Av 0 cv).ownBlock) := by
    show _ ≠ _
    rcases HO.out.2 with ⟨h9, _⟩ | ⟨g9, c9, cur9, he9, hb9, _⟩
    · rw [h9]; simp [Value.ownBlock]
    · rw [he9]; simp [Value.ownBlock]; omega
  have HOE : Hid (∀ g, (Value.slice Av 0 cv).ownBlock = some g → base ≤ g ∧ g < w.heap.size) := by
    intro g9 hg9
    rcases HO.out.2 with ⟨h9, _⟩ | ⟨g8, c9, cur9, he9, hb9, hh9, _⟩
    · rw [h9] at hg9; cases hg9
    · rw [he9] at hg9
      cases hg9
      exact ⟨hb9, (Array.getElem?_eq_some_iff.1 hh9).1⟩
  have HE6 : Hid (∀ W' : World, W'.heap = (W5.alloc (.cells #[.int .i64 1, .int .i64 k, .int .i64 0] 81)).heap → W'.heap[w.heap.size]? = some (.cells #[.int .i64 1, .int .i64 k, .int .i64 0] 81 (0, 0))) := fun W' hW' => by
    rw [hW']
    exact (Below.heap_alloc W5 _ _ (by omega)).trans HE5.out
  have c0a : (W5.alloc (.cells #[.int .i64 1, .int .i64 k, .int .i64 0] 81)).cell? ⟨tb, 0, none⟩ = some (.slice Av 0 cv) := blk_cell (HT6.out _ rfl) 0
  rw [← hW5]
  clear hW5 hb5 he5 ha5 hz5 c0 c1 c2 f0 f1 f2 HV HO
  rename_i Q1 K1 hK1
  have key : ∀ (x2 x4 x5 x6 x7 x8 x9 x10 x11 x12 x13 x14 x15 x16 x17 x18 x19 x20 x21 x22 x23 x24 x25 x26 : Value) (g cap : Nat) (w7 : World), w7.heap[tb]? = some (.cells #[.slice (some ⟨g, 0, none⟩) 1 cap, .int .i64 ((0 : Nat) : Int), .int .u64 14695981039346656037] 76 (0, 0)) → w7.heap[w.heap.size]? = some (.cells #[.int .i64 1, .int .i64 k, .int .i64 0] 81 (0, 0)) → w7.ownsRow base 81 3 (.slice (some ⟨g, 0, none⟩) 1 cap) 1 (cs ++ [.int .i64 1, .int .i64 k, .int .i64 0]) → Away (fun j => j = tb ∨ base ≤ j) w w7 → K1 { tmps := #[.pointer (some ⟨tb, 0, none⟩), .agg #[.int .i64 1, .int .i64 k, .int .i64 0], x2, .pointer (some ⟨w.heap.size, 0, none⟩), x4, x5, x6, x7, x8, x9, x10, x11, x12, x13, x14, x15, x16, x17, x18, x19, x20, x21, x22, x23, x24, x25, x26, .slice (some ⟨g, 0, none⟩) 1 cap, .pointer (some ⟨tb, 0, none⟩), .pointer (some ⟨tb, 0, none⟩), undef, undef, undef, undef, undef, undef, undef, undef, undef, undef, undef, undef, undef, undef, undef, undef, undef, undef, undef, undef, undef, undef], defers := [] } w7 := by
    intro x2 x4 x5 x6 x7 x8 x9 x10 x11 x12 x13 x14 x15 x16 x17 x18 x19 x20 x21 x22 x23 x24 x25 x26 g cap w7 hb7 he7 ho7 ha7
    apply hK1
    clear HOW HNW HSZ HBS HT6 HNE HOE HE6 HB5 HE5 HA5 HZ5 c0' f0' c0a e0 e1 e2 HII H31 H32 H33
    have hz7 : w.heap.size < w7.heap.size := (Array.getElem?_eq_some_iff.1 he7).1
    have k1 : w7.cell? ⟨tb, 1, none⟩ = some (.int .i64 ((0 : Nat) : Int)) := blk_cell hb7 1
    have kf1 : w7.frozen? ⟨tb, 1, none⟩ = false := blk_frozen hb7 1
    have HB7 := Lib.hid hb7
    have HE7 := Lib.hid he7
    have HO7 := Lib.hid ho7
    have HA7 := Lib.hid ha7
    clear hb7 he7 ho7 ha7
    have hwn : wrap64 1 = ((0 : Nat) : Int) + 1 := by unfold wrap64; omega
    go_wp2_with fail
    obtain ⟨w8, hw8⟩ : ∃ w8, w8 = w7.setCell ⟨tb, 1, none⟩ (.int .i64 1) := ⟨_, rfl⟩
    have hb8 : w8.heap[tb]? = some (.cells #[.slice (some ⟨g, 0, none⟩) 1 cap, .int .i64 1, .int .u64 14695981039346656037] 76 (0, 0)) := by rw [hw8]; exact blk_set HB7.out 1 _
    have he8 : w8.heap[w.heap.size]? = some (.cells #[.int .i64 1, .int .i64 k, .int .i64 0] 81 (0, 0)) := by
      rw [hw8]
      exact (Below.heap_setCell _ _ _ _ (by show w.heap.size ≠ tb; omega)).trans HE7.out
    have ho8 : w8.ownsRow base 81 3 (.slice (some ⟨g, 0, none⟩) 1 cap) 1 (cs ++ [.int .i64 1, .int .i64 k, .int .i64 0]) := by
      rw [hw8]
      exact owns_away3 HO7.out (S := fun j => j = tb) ((Away.refl (fun j => j = tb) w7).setCell (p := ⟨tb, 1, none⟩) (Or.inl rfl) _) (fun j hj => by rw [hj]; exact hb)
    have ha8 : Away (fun j => j = tb ∨ base ≤ j) w w8 := by
      rw [hw8]
      exact HA7.out.setCell (p := ⟨tb, 1, none⟩) (Or.inl (Or.inl rfl)) _
    have hz8 : w8.heap.size = w7.heap.size := by rw [hw8]; simp [World.setCell]
    obtain ⟨rs, hrs⟩ := mixed_some 14695981039346656037 1 k 0
    have hbA : (w8.alloc (.cells #[.int .i64 1, .int .i64 k, .int .i64 0] 3)).heap[tb]? = some (.cells #[.slice (some ⟨g, 0, none⟩) 1 cap, .int .i64 1, .int .u64 14695981039346656037] 76 (0, 0)) := (Below.heap_alloc w8 _ _ (by omega)).trans hb8
    have heA : (w8.alloc (.cells #[.int .i64 1, .int .i64 k, .int .i64 0] 3)).heap[w.heap.size]? = some (.cells #[.int .i64 1, .int .i64 k, .int .i64 0] 81 (0, 0)) := (Below.heap_alloc w8 _ _ (by omega)).trans he8
    have HMx : Hid (∀ W : World, W.heap = (w8.alloc (.cells #[.int .i64 1, .int .i64 k, .int .i64 0] 3)).heap → Calls Try.prog 78 #[.int .u64 14695981039346656037, .slice (some ⟨w8.heap.size, 0, none⟩) 3 3] W fun e w' => e = .returned (.int .u64 rs) ∧ Drawn0 W w') := fun W hW =>
      trace_mixed.calls 5 14695981039346656037 (some ⟨w8.heap.size, 0, none⟩) 3 [1, k, 0] rs W (ints3 (T := 3) (by rw [hW]; exact World.alloc_heap_new w8 _)) (by simp) hrs
    have k2 : w8.cell? ⟨tb, 2, none⟩ = some (.int .u64 14695981039346656037) := blk_cell hb8 2
    have kf2 : w8.frozen? ⟨tb, 2, none⟩ = false := blk_frozen hb8 2
    have e0 : w8.cell? ⟨w.heap.size, 0, none⟩ = some (.int .i64 1) := blk_cell he8 0
    have e1 : w8.cell? ⟨w.heap.size, 1, none⟩ = some (.int .i64 k) := blk_cell he8 1
    have e2 : w8.cell? ⟨w.heap.size, 2, none⟩ = some (.int .i64 0) := blk_cell he8 2
    have k2a : (w8.alloc (.cells #[.int .i64 1, .int .i64 k, .int .i64 0] 3)).cell? ⟨tb, 2, none⟩ = some (.int .u64 14695981039346656037) := blk_cell hbA 2
    have e0a : (w8.alloc (.cells #[.int .i64 1, .int .i64 k, .int .i64 0] 3)).cell? ⟨w.heap.size, 0, none⟩ = some (.int .i64 1) := blk_cell heA 0
    have e1a : (w8.alloc (.cells #[.int .i64 1, .int .i64 k, .int .i64 0] 3)).cell? ⟨w.heap.size, 1, none⟩ = some (.int .i64 k) := blk_cell heA 1
    have e2a : (w8.alloc (.cells #[.int .i64 1, .int .i64 k, .int .i64 0] 3)).cell? ⟨w.heap.size, 2, none⟩ = some (.int .i64 0) := blk_cell heA 2
    have HBA := Lib.hid hbA
    have HO8 := Lib.hid ho8
    have HA8 := Lib.hid ha8
    have HRS := Lib.hid hrs
    have hT9 : Hid (∀ W W' : World, W.heap = (w8.alloc (.cells #[.int .i64 1, .int .i64 k, .int .i64 0] 3)).heap → Drawn0 W W' → (W.os = w8.os ∧ W.tape = w8.tape ∧ W.output = w8.output) → W'.heap[tb]? = some (.cells #[.slice (some ⟨g, 0, none⟩) 1 cap, .int .i64 1, .int .u64 14695981039346656037] 76 (0, 0)) ∧ W'.heap = (w8.alloc (.cells #[.int .i64 1, .int .i64 k, .int .i64 0] 3)).heap ∧ W'.os = w8.os ∧ W'.tape = w8.tape ∧ W'.output = w8.output) := fun W W' hW hd ho9 => by
      obtain ⟨nn, rfl⟩ := hd.out
      refine ⟨?_, hW, ho9.1, ho9.2.1, ho9.2.2⟩
      show W.heap[tb]? = _
      rw [hW]; exact HBA.out
    have HFIN : Hid (∀ w9 : World, (w9.heap[tb]? = some (.cells #[.slice (some ⟨g, 0, none⟩) 1 cap, .int .i64 1, .int .u64 14695981039346656037] 76 (0, 0)) ∧ w9.heap = (w8.alloc (.cells #[.int .i64 1, .int .i64 k, .int .i64 0] 3)).heap ∧ w9.os = w8.os ∧ w9.tape = w8.tape ∧ w9.output = w8.output) →
        Tr (w9.setCell ⟨tb, 2, none⟩ (.int .u64 rs)) tb base 1 (cs ++ [.int .i64 1, .int .i64 k, .int .i64 0]) (spanSum 0 sum k) ∧ Away (fun j => j = tb ∨ base ≤ j) w (w9.setCell ⟨tb, 2, none⟩ (.int .u64 rs))) := by
      intro w9 h9
      have hAA : Away (fun j => j = tb ∨ base ≤ j) w (w8.alloc (.cells #[.int .i64 1, .int .i64 k, .int .i64 0] 3)) := ha8.alloc _
      have hOO : (w8.alloc (.cells #[.int .i64 1, .int .i64 k, .int .i64 0] 3)).ownsRow base 81 3 (.slice (some ⟨g, 0, none⟩) 1 cap) 1 (cs ++ [.int .i64 1, .int .i64 k, .int .i64 0]) := owns_away3 ho8 (S := fun _ => False) ((Away.refl (fun _ => False) w8).alloc _) (fun j hj => hj.elim)
      have h2 : spanSum 0 sum k = rs := by
        unfold spanSum
        rw [if_pos rfl, hrs]
        rfl
      refine ⟨⟨⟨.slice (some ⟨g, 0, none⟩) 1 cap, ?_, ?_⟩⟩, ?_⟩
      · have h1 := blk_set h9.1 2 (.int .u64 rs)
        rw [h2]
        skip
        exact h1
      · exact owns_away3 (owns_heap hOO h9.2.1) (S := fun j => j = tb) ((Away.refl (fun j => j = tb) w9).setCell (p := ⟨tb, 2, none⟩) (Or.inl rfl) _) (fun j hj => by rw [hj]; exact hb)
      · have hA9 : Away (fun j => j = tb ∨ base ≤ j) w w9 := ⟨by rw [h9.2.1]; exact hAA.size, h9.2.2.1.trans hAA.os, h9.2.2.2.1.trans hAA.tape, h9.2.2.2.2.trans hAA.output, fun j hj hs => by rw [h9.2.1]; exact hAA.block j hj hs⟩
        exact hA9.setCell (p := ⟨tb, 2, none⟩) (Or.inl (Or.inl rfl)) _
    rw [← hw8]
    have HZ8 := Lib.hid hz8
    have HZ7 := Lib.hid hz7
    clear hw8 hb8 he8 ho8 ha8 hrs hbA heA hz8 hz7 HB7 HE7 HO7 HA7 k1 kf1 hwn
    go_region_law (first
      | (go_simp; go_at_call 78; (with_reducible refine (HMx.out _ ?hW).mono ?_); (case hW => rfl); rintro _ w9 ⟨rfl, hd9⟩; (have h9 := hT9.out _ _ (by rfl) hd9 (by exact ⟨rfl, rfl, rfl⟩)); (have k29 := blk_cell h9.1 2); (have kf29 := blk_frozen h9.1 2); (have H9 := Lib.hid h9); clear hd9 h9))
    all_goals (
      go_end0
      exact ⟨⟨_, rfl⟩, HFIN.out _ H9.out⟩)
  go_region_law (first
    | (refine step_append_lies _ rfl (.tmp 24) (.tmp 26) 74 rfl base 81 ii (.agg #[.int .i64 0, .int .i64 0, .int .i64 0]) 3 24 Try.underlying74 HII.out H31.out H32.out H33.out rfl (by decide) (.slice Av 0 cv) 0 cs rfl (HOW.out _ rfl) ⟨W5.heap.size, 0, none⟩ 1 1 [.int .i64 1, .int .i64 k, .int .i64 0] rfl rfl (HNW.out _ rfl) (by simp [Value.oneCell']) (by omega) (by show _ ≤ _; unfold maxLen; omega) (by omega) (HBS.out _ rfl) (W5.heap.size + 1) (HSZ.out _ rfl) ?_; intro g cap w6 hown6 hg6 hgg6 hgl6; (have hb6 := (hg6.block tb (Nat.lt_of_lt_of_le hb (HBS.out _ rfl)) (HNE.out)).trans (HT6.out _ rfl)); (have c06 := blk_cell hb6 0); (have f06 := blk_frozen hb6 0); (have HB6 := Lib.hid hb6); (have HG6 := Lib.hid hg6); (have HO6 := Lib.hid hown6); (have HGG := Lib.hid hgg6); (have HGL := Lib.hid hgl6); clear hown6 hg6 hgg6 hgl6 hb6))
  all_goals (
    obtain ⟨w7, hw7⟩ : ∃ w7, w7 = w6.setCell ⟨tb, 0, none⟩ (.slice (some ⟨g, 0, none⟩) 1 cap) := ⟨_, rfl⟩
    have hb7 : w7.heap[tb]? = some (.cells #[.slice (some ⟨g, 0, none⟩) 1 cap, .int .i64 ((0 : Nat) : Int), .int .u64 14695981039346656037] 76 (0, 0)) := by rw [hw7]; exact blk_set HB6.out 0 _
    have hne7 : some w.heap.size ≠ (Value.slice Av 0 cv).ownBlock := fun h9 => by
      have := HOE.out w.heap.size h9.symm
      omega
    have he7 : w7.heap[w.heap.size]? = some (.cells #[.int .i64 1, .int .i64 k, .int .i64 0] 81 (0, 0)) := by
      rw [hw7]
      exact (Below.heap_setCell _ _ _ _ (by show w.heap.size ≠ tb; omega)).trans ((HG6.out.block w.heap.size (by rw [show ∀ W' : World, W'.drew.heap.size = W'.heap.size from fun _ => rfl, HSZ.out _ rfl]; have := HZ5.out; omega) hne7).trans (HE6.out _ rfl))
    have ho7 : w7.ownsRow base 81 3 (.slice (some ⟨g, 0, none⟩) 1 cap) 1 (cs ++ [.int .i64 1, .int .i64 k, .int .i64 0]) := by
      rw [hw7]
      exact owns_away3 HO6.out (S := fun j => j = tb) ((Away.refl (fun j => j = tb) w6).setCell (p := ⟨tb, 0, none⟩) (Or.inl rfl) _) (fun j hj => by rw [hj]; exact hb)
    have ha7 : Away (fun j => j = tb ∨ base ≤ j) w w7 := by
      have hsz6 := HG6.out.size
      rw [show ∀ W' : World, W'.drew.heap.size = W'.heap.size from fun _ => rfl, HSZ.out _ rfl, HZ5.out] at hsz6
      have h6 : Away (fun j => j = tb ∨ base ≤ j) w w6 := ⟨by omega, HG6.out.os.trans HA5.out.os, HG6.out.tape.trans HA5.out.tape, HG6.out.output.trans HA5.out.output, fun j hj hs => by
        have e9 : some j ≠ (Value.slice Av 0 cv).ownBlock := fun h9 => hs (Or.inr (HOE.out j h9.symm).1)
        have e8 := HG6.out.block j (by rw [show ∀ W' : World, W'.drew.heap.size = W'.heap.size from fun _ => rfl, HSZ.out _ rfl, HZ5.out]; omega) e9
        exact e8.trans ((Below.heap_alloc W5 _ _ (by have := HZ5.out; omega)).trans (HA5.out.block j hj (fun h9 => hs (Or.inl h9))))⟩
      rw [hw7]
      exact h6.setCell (p := ⟨tb, 0, none⟩) (Or.inl (Or.inl rfl)) _
    clear c06 f06 hne7
    rw [← hw7]
    exact key _ _ _ _ _ _ _ _ _ _ _ _ _ _ _ _ _ _ _ _ _ _ _ _ g cap w7 hb7 he7 ho7 ha7)
end Go.Proofs.Ytincnnmojgphmaa.H
