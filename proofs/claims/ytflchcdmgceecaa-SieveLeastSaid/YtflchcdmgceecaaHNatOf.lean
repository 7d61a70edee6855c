/- The contract of nat.Of and of its iterator, by walking their text: any bytes as a number of so many words, or refused. -/
import Derived.Test.YtflchcdmgceecaaQNat
import Derived.Test.YtflchcdmgceecaaHBase
import Derived.Test.YtflchcdmgceecaaHRange
import Derived.OwnWalkIn
import Derived.TacticsInMore
import Derived.LoopNIn
import Derived.LoopIn
import Derived.Shelf.Abstract
import Derived.Shelf.RegionOpen
set_option linter.unusedVariables false
set_option linter.unusedSimpArgs false
namespace Go.Proofs.Ytflchcdmgceecaa.H
open Go.RowKit Go.Proofs.YtflchcdmgceecaaW.PrintWords Go.Proofs.YtflchcdmgceecaaW.PrintLast Go.Proofs.Ytflchcdmgceecaa.PA Go.Proofs.Ytflchcdmgceecaa.Num
attribute [local go_sem] Oper.semAt_some

theorem get_at (A0 : Option Addr) (n c : Nat) (l : List Int) (w : World) (hn : n = l.length) (hC : Kd.C (Kd.int .u8) w A0 l.length l) (hc : n ≤ c) (hb : inB 8 l) (h8 : n ≤ 8) :
    Calls Try.prog 82 #[.slice A0 n c] w fun e w' => e = .returned (.int .u64 (be l : Nat)) ∧ Below w.heap.size w w' := by
  subst hn
  exact word_Get.calls 9 A0 c l _ w hC hc (Q.get_spec l hb h8 9 (by omega))

/-- Bytes that lie in elder memory are read the same where that memory is the same. -/
theorem C_same {w W : World} {k : IntKind} {A : Option Addr} {n : Nat} {xs : List Int} (h : Kd.C (Kd.int k) w A n xs) (hs : ∀ b, b < w.heap.size → W.heap[b]? = w.heap[b]?) : Kd.C (Kd.int k) W A n xs := by
  have h1 := Kd.reads_of_C (d := (0 : Int)) h
  refine Kd.C_of_reads (d := (0 : Int)) (h1 := fun _ => rfl) ⟨h1.1, h1.2.1, fun hn => ?_⟩
  obtain ⟨ad, e, hc⟩ := h1.2.2 hn
  refine ⟨ad, e, fun j hj => ?_⟩
  have h2 := hc j hj
  rw [World.cell?_of_block (w := w) (hs _ (World.block_lt_of_cell? w _ h2))]
  exact h2

/-- The word number i of bytes, the lowest ahead. -/
def wordAt (l : List Int) (i : Nat) : Int := (be ((l.take (l.length - 8 * i)).drop (l.length - 8 * i - 8)) : Nat)
def wordsAt (l : List Int) (i : Nat) : Option (Nat × Int) := if 8 * i < l.length then some (i, wordAt l i) else none
def encW (x : Nat × Int) : Array Value := #[.int .i64 (x.1 : Int), .int .u64 x.2]

set_option maxRecDepth 100000 in
set_option maxHeartbeats 2000000 in
theorem from1_iter (n : Nat) (hn : 1 ≤ n) (Bb : Nat) (A : Option Addr) (c : Nat) (l : List Int) (w w0 : World) (hw : Below w0.heap.size w0 w) (hC : Kd.C (Kd.int .u8) w0 A l.length l) (hc : l.length ≤ c) (hm : l.length * 1 ≤ 140737488351232) (hb : inB 8 l)
    (hBb : w.cell? ⟨Bb, 0, none⟩ = some (.slice A l.length c)) (hf : w.frozen? ⟨Bb, 0, none⟩ = false) (hB0 : w0.heap.size ≤ Bb) :
    IterC n Try.prog 81 #[.pointer (some ⟨Bb, 0, none⟩)] encW (fun k => k = Bb) (fun k => k < w0.heap.size ∨ k = Bb) (wordsAt l) ((l.length + 7) / 8) w := by
  intro lp J Jx W hW hJ hJx hN hY h0
  have hBlt : Bb < w.heap.size := World.block_lt_of_cell? w _ hBb
  have hBW : W.cell? ⟨Bb, 0, none⟩ = some (.slice A l.length c) := (hW.cell (p := ⟨Bb, 0, none⟩) hBlt).trans hBb
  have hfW : W.frozen? ⟨Bb, 0, none⟩ = false := (hW.frozen (p := ⟨Bb, 0, none⟩) hBlt).trans hf
  have hsW : ∀ k, k < w0.heap.size → W.heap[k]? = w0.heap[k]? := fun k hk => (hW.block k (Nat.lt_of_lt_of_le hk hw.size)).trans (hw.block k hk)
  have hszW : Bb < W.heap.size := Nat.lt_of_lt_of_le hBlt hW.size
  refine callsIn_of_wp Try.func81 rfl trivial ?_ rfl
  simp only [Try.ntmps81, List.size_toArray, List.length_cons, List.length_nil, Nat.reduceAdd, Nat.reduceSub, Array.replicate_succ, Array.replicate_zero, List.push_toArray, List.append_toArray, List.nil_append, List.cons_append]
  gi_wp2
  gi_loopw [3] (fun i wr => ∃ k : Nat, k ≤ (l.length + 7) / 8 ∧ i = .int .i64 k ∧ J k wr ∧ wr.cell? ⟨Bb, 0, none⟩ = some (.slice A (l.length - 8 * k) c) ∧ wr.frozen? ⟨Bb, 0, none⟩ = false ∧ Bb < wr.heap.size ∧ Hid (∀ k, k < w0.heap.size → wr.heap[k]? = w0.heap[k]?))
    (fun i _ => (l.length + 7) / 8 - (intOf i).toNat)
  case atStart => exact ⟨0, Nat.zero_le _, rfl, h0, by simpa using hBW, hfW, hszW, hsW⟩
  case round =>
    obtain ⟨k, hk, rfl, hJk, hcell, hfr, hsz, hs⟩ := hrel
    by_cases hlt : 8 * k < l.length
    · have hCr : Kd.C (Kd.int .u8) wr A l.length l := C_same hC hs.out
      obtain ⟨ad, rfl, _⟩ := (Kd.reads_of_C (d := (0 : Int)) hCr).2.2 (by omega)
      obtain ⟨m, hm⟩ : ∃ m, m = l.length - 8 * k := ⟨_, rfl⟩
      obtain ⟨cut, hcut⟩ : ∃ cut, cut = m - 8 := ⟨_, rfl⟩
      have hmlt : 0 < m := by omega
      have hml : m ≤ l.length := by omega
      have hCt := Kd.C_take hCr (show m ≤ l.length by omega)
      have hCd := Kd.C_drop hCt (c := c) (m := cut) (by rw [List.length_take]; omega) (by rw [List.length_take]; omega)
      have hcc : cut < c := by omega
      have hcm : cut ≤ m := by omega
      have hcm8 : m - cut ≤ 8 := by omega
      rw [if_neg (by omega)] at hCd
      have hx : wordsAt l k = some (k, wordAt l k) := by rw [wordsAt, if_pos hlt]
      have HX : Hid (∀ (W1 : World), J k W1 → YieldAt Fence.wide (n - 1) Try.prog lp #[.int .i64 (k : Int), .int .u64 (be ((l.take m).drop cut) : Nat)] W1 fun e W' =>
          (e = .returned (.bool true) ∧ J (k + 1) W' ∧ Keep (fun k => k < w0.heap.size ∨ k = Bb) W1 W') ∨ (e = .returned (.bool false) ∧ Jx (k + 1) W')) := fun W1 hj => by
        have := hY k _ W1 hx (by omega) hj
        rw [encW, wordAt, ← hm, ← hcut] at this
        exact this
      rw [← hm] at hcell
      have HM : Hid (m = l.length - 8 * k) := hm
      have HC : Hid (cut = m - 8) := hcut
      have hmax : max ((m : Int) - 8) 0 = (cut : Int) := by omega
      have hlen : (List.drop cut (List.take m l)).length = m - cut := by rw [List.length_drop, List.length_take]; omega
      have HL := Lib.hid hlen
      have hbs : inB 8 (List.drop cut (List.take m l)) := inB_drop (inB_take hb _) _
      have HCD : Hid (Kd.C (Kd.int .u8) wr (some (ad.add cut)) (List.drop cut (List.take m l)).length (List.drop cut (List.take m l))) := by
        rw [show (Kd.int IntKind.u8).sz = 1 from rfl, Nat.mul_one] at hCd
        exact hCd
      clear hm hcut hx hY hlen hCd hCt
      gi_wp2_with (fail)
      refine ⟨trivial, ?_⟩
      refine (callsIn_wide.2 (get_at (some (ad.add cut)) (m - cut) (c - cut) (List.drop cut (List.take m l)) wr HL.out.symm HCD.out (by omega) hbs hcm8)).mono ?_
      rintro e w2 ⟨rfl, hb2⟩
      have hc2 := (hb2.cell (p := ⟨Bb, 0, none⟩) hsz).trans hcell
      have hf2 := (hb2.frozen (p := ⟨Bb, 0, none⟩) hsz).trans hfr
      have hz2 : Bb < w2.heap.size := Nat.lt_of_lt_of_le hsz hb2.size
      have hs2 : Hid (∀ k, k < w0.heap.size → w2.heap[k]? = w0.heap[k]?) := fun i hi => (hb2.block i (by omega)).trans (hs.out i hi)
      obtain ⟨fn, tmps, assign, body, hy, hR⟩ := HX.out w2 (hJ _ _ _ hJk (Away.of_below hb2))
      have HR := Lib.hid hR
      clear hR
      gi_wp2
      refine HR.out.mono ?_
      rintro e W3 (⟨rfl, hJ3, hk3⟩ | ⟨rfl, hJx3⟩)
      · have hc3 : W3.cell? ⟨Bb, 0, none⟩ = some (.slice (some ad) m c) := (World.cell?_of_block (w := w2) (hk3.block Bb hz2 (.inr rfl))).trans hc2
        have hf3 : W3.frozen? ⟨Bb, 0, none⟩ = false := (World.frozen?_of_block (w := w2) (hk3.block Bb hz2 (.inr rfl))).trans hf2
        have hz3 : Bb < W3.heap.size := Nat.lt_of_lt_of_le hz2 hk3.size
        have hs3 : Hid (∀ k, k < w0.heap.size → W3.heap[k]? = w0.heap[k]?) := fun i hi => (hk3.block i (by omega) (.inl hi)).trans (hs2.out i hi)
        have HK3 := Lib.hid hk3
        clear hk3
        gi_wp2
        go_roundw
        case rel =>
          refine ⟨k + 1, by omega, by go_num, hJ _ _ _ hJ3 (Away.setCell (p := ⟨Bb, 0, none⟩) (Away.refl (fun k => k = Bb) W3) (Or.inl rfl) _), ?_, (World.frozen?_setCell _ _ _ _).trans hf3, by simpa using hz3, fun i hi => (Below.heap_setCell _ _ _ _ (by show i ≠ Bb; omega)).trans (hs3.out i hi)⟩
          rw [show l.length - 8 * (k + 1) = cut from by have := HM.out; have := HC.out; omega]
          exact World.cell?_setCell_same _ _ _ hc3
        case measure => simp [intOf]; omega
      · gi_wp2
        refine bodyPost_ret (results_none rfl _ _ _) rfl ?_
        exact ⟨⟨_, rfl⟩, .inr ⟨_, hJx3⟩⟩
    · have hm0 : Hid (l.length - 8 * k = 0) := by show _ = 0; omega
      have hcell' : wr.cell? ⟨Bb, 0, none⟩ = some (.slice A 0 c) := by rw [hcell, hm0.out]
      clear hcell
      gi_wp2
      go_end0
      exact ⟨⟨_, rfl⟩, .inl ⟨k, hk, by rw [wordsAt, if_neg (by omega)], hJk⟩⟩

theorem from_in (n : Nat) (a : Option Addr) (len cap : Nat) (w : World) :
    CallsIn Fence.wide n Try.prog 58 #[.slice a len cap] w fun e w' => e = .returned (.func (.func 81) #[] #[.pointer (some ⟨w.heap.size, 0, none⟩)]) ∧ w' = w.alloc (.cells #[.slice a len cap] 22) := by
  refine callsIn_of_wp Try.func58 rfl trivial ?_ rfl
  simp only [Try.ntmps58, List.size_toArray, List.length_cons, List.length_nil, Nat.reduceAdd, Nat.reduceSub, Array.replicate_succ, Array.replicate_zero, List.push_toArray, List.append_toArray, List.nil_append, List.cons_append]
  gi_wp2
  go_ret
  exact ⟨rfl, rfl⟩

/-- The first i words of n, the others 0. -/
def firstW (l : List Int) (N i : Nat) : List Int := (List.range N).map fun j => if j < i then wordAt l j else 0
theorem firstW_length (l : List Int) (N i : Nat) : (firstW l N i).length = N := by simp [firstW]
theorem firstW_zero (l : List Int) (N : Nat) : firstW l N 0 = List.replicate N 0 := by
  apply List.ext_getElem
  · simp [firstW]
  · intro j h1 h2
    simp [firstW]
theorem firstW_set (l : List Int) (N i : Nat) (h : i < N) : (firstW l N i).set i (wordAt l i) = firstW l N (i + 1) := by
  apply List.ext_getElem
  · simp [firstW]
  · intro j h1 h2
    rw [List.getElem_set]
    simp only [firstW, List.getElem_map, List.getElem_range]
    by_cases hj : i = j
    · subst hj; simp
    · rw [if_neg hj]
      by_cases h3 : j < i
      · rw [if_pos h3, if_pos (by omega)]
      · rw [if_neg h3, if_neg (by omega)]
theorem firstW_past (l : List Int) (N i : Nat) (h : N ≤ i) : firstW l N (i + 1) = firstW l N i := by
  simp only [firstW]
  apply List.map_congr_left
  intro j hj
  rw [List.mem_range] at hj
  rw [if_pos (by omega), if_pos (by omega)]

structure OfI (w : World) (l : List Int) (N i : Nat) (W : World) : Prop where
  n : W.heap[w.heap.size]? = some (.cells #[.int .i64 (N : Int)] 3 (0, 0))
  r : W.heap[w.heap.size + 1]? = some (.cells #[.slice none 0 0] 25 (0, 0))
  e : W.heap[w.heap.size + 2]? = some (.cells #[.int .i64 0] 26 (0, 0))
  x : W.heap[w.heap.size + 3]? = some (.cells (nums .u64 (firstW l N i)).toArray 41 (0, 0))
  b : W.heap[w.heap.size + 4]? = some (.cells #[.slice (some ⟨w.heap.size + 3, 0, none⟩) N N] 25 (0, 0))
  below : Below w.heap.size w W
  size : w.heap.size + 6 ≤ W.heap.size
  zero : ∀ j, j < i → N ≤ j → wordAt l j = 0
  le : i ≤ (l.length + 7) / 8
structure OfX (w : World) (l : List Int) (N : Nat) (W : World) : Prop where
  r : W.heap[w.heap.size + 1]? = some (.cells #[.slice none 0 0] 25 (0, 0))
  e : W.heap[w.heap.size + 2]? = some (.cells #[.int .i64 1] 26 (0, 0))
  below : Below w.heap.size w W
  size : w.heap.size + 6 ≤ W.heap.size
  bad : ∃ j, N ≤ j ∧ 8 * j < l.length ∧ wordAt l j ≠ 0
theorem OfI.away {w : World} {l : List Int} {N i : Nat} {A B : World} {S : Nat → Prop} (h : OfI w l N i A) (ha : Away S A B) (hs : ∀ k, S k → w.heap.size + 5 ≤ k) : OfI w l N i B :=
  have no : ∀ k, k < w.heap.size + 5 → ¬ S k := fun k hk hS => by have := hs k hS; omega
  ⟨ha.blk h.n (no _ (by omega)), ha.blk h.r (no _ (by omega)), ha.blk h.e (no _ (by omega)), ha.blk h.x (no _ (by omega)), ha.blk h.b (no _ (by omega)), Away.below h.below ha (fun k hk => by have := hs k hk; omega) (by have := h.size; omega), Nat.le_trans h.size ha.size, h.zero, h.le⟩
theorem OfX.away {w : World} {l : List Int} {N : Nat} {A B : World} {S : Nat → Prop} (h : OfX w l N A) (ha : Away S A B) (hs : ∀ k, S k → w.heap.size + 5 ≤ k) : OfX w l N B :=
  have no : ∀ k, k < w.heap.size + 5 → ¬ S k := fun k hk hS => by have := hs k hS; omega
  ⟨ha.blk h.r (no _ (by omega)), ha.blk h.e (no _ (by omega)), Away.below h.below ha (fun k hk => by have := hs k hk; omega) (by have := h.size; omega), Nat.le_trans h.size ha.size, h.bad⟩

theorem OfI.skip {w : World} {l : List Int} {N i : Nat} {W : World} (h : OfI w l N i W) (h8 : 8 * i < l.length) (hN : N ≤ i) (h0 : wordAt l i = 0) : OfI w l N (i + 1) W :=
  ⟨h.n, h.r, h.e, by rw [firstW_past l N i hN]; exact h.x, h.b, h.below, h.size, fun j hj hn => by
    rcases Nat.lt_or_ge j i with h1 | h1
    · exact h.zero j h1 hn
    · obtain rfl : j = i := by omega
      exact h0, by omega⟩
theorem OfI.store {w : World} {l : List Int} {N i : Nat} {W : World} (h : OfI w l N i W) (h8 : 8 * i < l.length) (hN : i < N) : OfI w l N (i + 1) (W.setCell ⟨w.heap.size + 1 + 1 + 1, i, none⟩ (.int .u64 (wordAt l i))) := by
  have far : ∀ k o, k ≠ w.heap.size + 3 → W.heap[k]? = some o → (W.setCell ⟨w.heap.size + 1 + 1 + 1, i, none⟩ (.int .u64 (wordAt l i))).heap[k]? = some o := fun k o hk ho => (Below.heap_setCell _ _ _ _ (by show k ≠ w.heap.size + 1 + 1 + 1; omega)).trans ho
  refine ⟨far _ _ (by omega) h.n, far _ _ (by omega) h.r, far _ _ (by omega) h.e, ?_, far _ _ (by omega) h.b, h.below.setCell (by show w.heap.size ≤ w.heap.size + 1 + 1 + 1; omega) _, by simpa [World.setCell] using h.size, fun j hj hn => h.zero j (by omega) hn, by omega⟩
  have := blk_set h.x i (.int .u64 (wordAt l i))
  rw [show w.heap.size + 1 + 1 + 1 = w.heap.size + 3 from rfl, this, ← firstW_set l N i hN]
  simp [nums, List.map_set]
theorem OfI.bad {w : World} {l : List Int} {N i : Nat} {W : World} (h : OfI w l N i W) (h8 : 8 * i < l.length) (hN : N ≤ i) (h0 : wordAt l i ≠ 0) : OfX w l N ((W.setCell ⟨w.heap.size + 1, 0, none⟩ (.slice none 0 0)).setCell ⟨w.heap.size + 1 + 1, 0, none⟩ (.int .i64 1)) := by
  have h1 := blk_set h.r 0 (.slice none 0 0)
  have h2 : (W.setCell ⟨w.heap.size + 1, 0, none⟩ (.slice none 0 0)).heap[w.heap.size + 2]? = some (.cells #[.int .i64 0] 26 (0, 0)) := (Below.heap_setCell _ _ _ _ (by show w.heap.size + 2 ≠ w.heap.size + 1; omega)).trans h.e
  have h3 := blk_set h2 0 (.int .i64 1)
  refine ⟨(Below.heap_setCell _ _ _ _ (by show w.heap.size + 1 ≠ w.heap.size + 1 + 1; omega)).trans h1, h3, (h.below.setCell (by show w.heap.size ≤ w.heap.size + 1; omega) _).setCell (by show w.heap.size ≤ w.heap.size + 1 + 1; omega) _, by simpa [World.setCell] using h.size, i, hN, h8, h0⟩

theorem below_putObj {b r : Nat} {w W : World} (h : Below b w W) (hr : b ≤ r) (o : Obj) : Below b w (W.putObj r o) := by
  exact h.trans ⟨rfl, rfl, rfl, by simp [World.putObj], fun k hk => by simp [World.putObj, Array.getElem?_setIfInBounds, show r ≠ k by omega]⟩

/-- What comes of it. -/
def natOf (l : List Int) (N : Nat) : List Int × Int := if ∃ j, j < (l.length + 7) / 8 ∧ N ≤ j ∧ wordAt l j ≠ 0 then ([], 1) else (firstW l N ((l.length + 7) / 8), 0)

set_option maxRecDepth 100000 in
set_option maxHeartbeats 2000000 in
theorem of_in (n : Nat) (hn : 4 ≤ n) (A : Option Addr) (c : Nat) (l : List Int) (N : Nat) (hN : N ≤ 300) (w : World) (hC : Kd.C (Kd.int .u8) w A l.length l) (hc : l.length ≤ c) (hm : l.length * 1 ≤ 140737488351232) (hb : inB 8 l) :
    CallsIn Fence.wide n Try.prog 16 #[.slice A l.length c, .int .i64 (N : Int)] w fun e w' => ∃ v, e = .returned (.tuple #[v, .int .i64 (natOf l N).2]) ∧ Kd.R (Kd.int .u64) 41 w' w.heap.size (fun _ => True) v (natOf l N).1 ∧ Below w.heap.size w w' := by
  have hmk : ∀ W : World, (Instr.makeSlice 25 (.int .i64 (N : Int)) (.int .i64 (N : Int))).run Try.prog W = .ok (.slice (some ⟨W.heap.size, 0, none⟩) N N) (W.alloc (.cells (madeCells #[.int .u64 0] N) 41)) := print_make 25 41 .u64 8 Try.underlying25 (by kernel_rfl) (by decide) N (by omega)
  have hN0 : (0 : Int) ≤ (N : Int) := by omega
  have hN1 : (N : Int) ≤ 300 := by omega
  refine callsIn_of_wp_marks Try.func16 rfl trivial ?_ rfl
  simp only [Try.ntmps16, List.size_toArray, List.length_cons, List.length_nil, Nat.reduceAdd, Nat.reduceSub, Array.replicate_succ, Array.replicate_zero, List.push_toArray, List.append_toArray, List.nil_append, List.cons_append]
  gi_wp2_with fail
  refine ⟨trivial, fun _ => by omega, ?_⟩
  refine (from_in (n - 1) _ _ _ _).mono ?_
  rintro e w' ⟨rfl, rfl⟩
  obtain ⟨B, hB⟩ : ∃ B, B = w.heap.size := ⟨_, rfl⟩
  obtain ⟨W0, hW0⟩ : ∃ W0, W0 = ((((((w.alloc (.cells #[.int .i64 (N : Int)] 3)).alloc (.cells #[.slice none 0 0] 25)).alloc (.cells #[.int .i64 0] 26)).alloc (.cells (madeCells #[.int .u64 0] N) 41)).alloc (.cells #[.slice (some ⟨w.heap.size + 1 + 1 + 1, 0, none⟩) N N] 25)).alloc (.cells #[.slice A l.length c] 22)) := ⟨_, rfl⟩
  have hbw : Below w.heap.size w W0 := by
    rw [hW0]; exact ((((((Below.refl _ w).alloc (Nat.le_refl _) _).alloc (by simp) _).alloc (by simp; omega) _).alloc (by simp; omega) _).alloc (by simp; omega) _).alloc (by simp; omega) _
  have hz0 : W0.heap.size = w.heap.size + 6 := by rw [hW0]; simp
  have hcb : W0.cell? ⟨w.heap.size + 5, 0, none⟩ = some (.slice A l.length c) := by rw [hW0, World.cell?_alloc_at _ _ _ _ (by simp)]; rfl
  have hfb : W0.frozen? ⟨w.heap.size + 5, 0, none⟩ = false := by rw [hW0]; exact World.frozen?_alloc_at _ _ _ _ (by simp)
  have h0 : OfI w l N 0 W0 := by
    refine ⟨?_, ?_, ?_, ?_, ?_, hbw, by omega, fun j hj => by omega, by omega⟩ <;> (rw [hW0]; simp only [heap_at, World.size_alloc, firstW_zero, made_nums]; (repeat (first | rw [if_pos (by omega)] | rw [if_neg (by omega)])); try simp only [if_true])
  have HB := Lib.hid hbw
  have HZ := Lib.hid hz0
  have H0 := Lib.hid h0
  rw [← hW0]
  clear hW0 hmk h0 hz0 hbw
  gi_wp2
  refine wpIn_iter (gf := 81) (lb := #[.pointer (some ⟨w.heap.size + 5, 0, none⟩)]) rfl (enters_of Try.func81 (by kernel_rfl) rfl)
    (from1_iter (n - 1) (by omega) (w.heap.size + 5) A c l W0 w HB.out hC hc hm hb hcb hfb (by omega)) (Below.refl _ _) (fun k hk => by have := HZ.out; omega) (fun _ => rfl)
    (OfI w l N) (fun c i W => c = .ret ∧ OfX w l N W) (fun i A B h ha => h.away ha (fun k hk => by have := HZ.out; omega)) (fun c i A B h ha => ⟨h.1, h.2.away ha (fun k hk => by have := HZ.out; omega)⟩) H0.out
    (fun W h => by rw [wordsAt, if_neg (by omega)]) ?a1 ?assign ?body (fun k hk => by have := HZ.out; omega) ?done ?stop
  case assign =>
    intro l x W K hK
    simp only [encW, List.zip_toArray, List.zip_cons_cons, List.zip_nil_right, List.foldl_toArray, List.foldl_toArray', List.foldl_cons, List.foldl_nil, List.setIfInBounds_toArray, List.set_cons_succ, List.set_cons_zero]
    gi_wp2
    exact hK
  case body =>
    rintro lp i x W hx hi hI hz
    obtain ⟨rfl, h8⟩ : x = (i, wordAt l i) ∧ 8 * i < l.length := by
      unfold wordsAt at hx
      split at hx
      · exact ⟨(Option.some.inj hx).symm, by assumption⟩
      · cases hx
    have hcn : W.cell? ⟨w.heap.size, 0, none⟩ = some (.int .i64 (N : Int)) := blk_cell hI.n 0
    have hcr : W.cell? ⟨w.heap.size + 1, 0, none⟩ = some (.slice none 0 0) := blk_cell hI.r 0
    have hce : W.cell? ⟨w.heap.size + 1 + 1, 0, none⟩ = some (.int .i64 0) := blk_cell hI.e 0
    have hfr : W.frozen? ⟨w.heap.size + 1, 0, none⟩ = false := blk_frozen hI.r 0
    have hfe : W.frozen? ⟨w.heap.size + 1 + 1, 0, none⟩ = false := blk_frozen hI.e 0
    have hcb : W.cell? ⟨w.heap.size + 1 + 1 + 1 + 1, 0, none⟩ = some (.slice (some ⟨w.heap.size + 1 + 1 + 1, 0, none⟩) N N) := blk_cell hI.b 0
    have hfx : W.frozen? ⟨w.heap.size + 1 + 1 + 1, i, none⟩ = false := blk_frozen hI.x i
    have HI := Lib.hid hI
    have HZW := Lib.hid hz
    clear hx hI hz
    by_cases hlt : i < N
    · have hcx : W.cell? ⟨w.heap.size + 1 + 1 + 1, i, none⟩ = some (.int .u64 ((firstW l N i).getD i 0)) := by
        rw [blk_cell HI.out.x i, List.getElem?_toArray, nums, List.getElem?_map, List.getElem?_eq_getElem (by rw [firstW_length]; exact hlt)]
        simp [List.getD_eq_getElem?_getD, List.getElem?_eq_getElem (show i < (firstW l N i).length by rw [firstW_length]; exact hlt)]
      gi_wp2
      exact ⟨(Keep.refl _ _).setCell (by show ¬ (w.heap.size + 1 + 1 + 1 = W0.heap.size ∨ w.heap.size + 1 + 1 + 1 = W0.heap.size + 1); have := HZ.out; omega) _, (Keep.refl _ _).setCell (by show ¬ (w.heap.size + 1 + 1 + 1 < w.heap.size ∨ w.heap.size + 1 + 1 + 1 = w.heap.size + 5); omega) _, HI.out.store h8 hlt⟩
    · have hge : N ≤ i := by omega
      by_cases hw0 : wordAt l i = 0
      · have hb0 : (wordAt l i != 0) = false := by simp [hw0]
        have HW := Lib.hid hw0
        clear hw0
        gi_wp2
        exact ⟨Keep.refl _ _, Keep.refl _ _, HI.out.skip h8 hge HW.out⟩
      · have hb0 : (wordAt l i != 0) = true := by simpa using hw0
        have HW := Lib.hid hw0
        clear hw0
        gi_wp2
        exact ⟨((Keep.refl _ _).setCell (by show ¬ (w.heap.size + 1 = W0.heap.size ∨ w.heap.size + 1 = W0.heap.size + 1); have := HZ.out; omega) _).setCell (by show ¬ (w.heap.size + 1 + 1 = W0.heap.size ∨ w.heap.size + 1 + 1 = W0.heap.size + 1); have := HZ.out; omega) _, rfl, HI.out.bad h8 hge HW.out⟩
  case done =>
    rintro m W hm' hx hI hK
    have hcr : W.cell? ⟨w.heap.size + 1, 0, none⟩ = some (.slice none 0 0) := blk_cell hI.r 0
    have hce : W.cell? ⟨w.heap.size + 1 + 1, 0, none⟩ = some (.int .i64 0) := blk_cell hI.e 0
    have hfr : W.frozen? ⟨w.heap.size + 1, 0, none⟩ = false := blk_frozen hI.r 0
    have hfe : W.frozen? ⟨w.heap.size + 1 + 1, 0, none⟩ = false := blk_frozen hI.e 0
    have hcb : W.cell? ⟨w.heap.size + 1 + 1 + 1 + 1, 0, none⟩ = some (.slice (some ⟨w.heap.size + 1 + 1 + 1, 0, none⟩) N N) := blk_cell hI.b 0
    have HI := Lib.hid hI
    have HKD := Lib.hid hK
    have HX := Lib.hid hx
    clear hI hK hx
    gi_wp2
    have hb1 := HI.out.below
    have hz1 := HI.out.size
    have hz0 := HZ.out
    refine ⟨by simp, .inl ⟨_, _, rfl, run_takeDeferred (ds := []) ?_, ?_⟩⟩
    · rw [Below.heap_setCell _ _ _ _ (by show W0.heap.size ≠ w.heap.size + 1 + 1; omega), Below.heap_setCell _ _ _ _ (by show W0.heap.size ≠ w.heap.size + 1; omega)]
      exact HKD.out
    · obtain ⟨W2, hW2⟩ : ∃ W2, W2 = ((W.setCell ⟨w.heap.size + 1, 0, none⟩ (.slice (some ⟨w.heap.size + 1 + 1 + 1, 0, none⟩) N N)).setCell ⟨w.heap.size + 1 + 1, 0, none⟩ (.int .i64 0)) := ⟨_, rfl⟩
      have r1 : W2.heap[w.heap.size + 1]? = some (.cells #[.slice (some ⟨w.heap.size + 1 + 1 + 1, 0, none⟩) N N] 25 (0, 0)) := by
        rw [hW2, Below.heap_setCell _ _ _ _ (by show w.heap.size + 1 ≠ w.heap.size + 1 + 1; omega)]
        exact blk_set HI.out.r 0 _
      have r2 : W2.heap[w.heap.size + 1 + 1]? = some (.cells #[.int .i64 0] 26 (0, 0)) := by
        rw [hW2]
        refine blk_set (cs := #[.int .i64 0]) ?_ 0 (.int .i64 0)
        rw [Below.heap_setCell _ _ _ _ (by show w.heap.size + 1 + 1 ≠ w.heap.size + 1; omega)]
        exact HI.out.e
      have r3 : W2.heap[w.heap.size + 1 + 1 + 1]? = some (.cells (nums .u64 (firstW l N m)).toArray 41 (0, 0)) := by
        rw [hW2, Below.heap_setCell _ _ _ _ (by show w.heap.size + 1 + 1 + 1 ≠ w.heap.size + 1 + 1; omega), Below.heap_setCell _ _ _ _ (by show w.heap.size + 1 + 1 + 1 ≠ w.heap.size + 1; omega)]
        exact HI.out.x
      have hb2 : Below w.heap.size w W2 := by
        rw [hW2]; exact (hb1.setCell (by show w.heap.size ≤ w.heap.size + 1; omega) _).setCell (by show w.heap.size ≤ w.heap.size + 1 + 1; omega) _
      have hz2 : w.heap.size + 6 ≤ W2.heap.size := by rw [hW2]; simpa [World.setCell] using hz1
      rw [← hW2]
      clear hW2
      have hp : ∀ k, k ≠ W0.heap.size → (W2.putObj W0.heap.size (.deferred none)).heap[k]? = W2.heap[k]? := fun k hk => by
        simp [World.putObj, Array.getElem?_setIfInBounds, Ne.symm hk]
      have c1 := blk_cell ((hp (w.heap.size + 1) (by omega)).trans r1) 0
      have c2 := blk_cell ((hp (w.heap.size + 1 + 1) (by omega)).trans r2) 0
      have hl := firstW_length l N m
      have hm2 : m = (l.length + 7) / 8 := by
        have : ¬ 8 * m < l.length := fun h => by have := HX.out; rw [wordsAt, if_pos h] at this; cases this
        have := HI.out.le
        omega
      have hno : natOf l N = (firstW l N m, 0) := by
        rw [natOf, if_neg, hm2]
        rintro ⟨j, hj, hn, hne⟩
        exact hne (HI.out.zero j (by omega) hn)
      refine ⟨.tuple #[.slice (some ⟨w.heap.size + 1 + 1 + 1, 0, none⟩) N N, .int .i64 0], by simp [results, go_sem, c1, c2], ?_⟩
      rw [hno]
      show ∃ v, _ ∧ Kd.R (Kd.int .u64) _ _ _ _ v (firstW l N m) ∧ _
      generalize hL : firstW l N m = L at hl r3
      refine ⟨_, rfl, Kd.R_of_own ⟨?_, .inr ⟨w.heap.size + 1 + 1 + 1, N, _, by rw [hl], by omega, (hp _ (by omega)).trans r3, by omega, ?_, ?_, ?_⟩⟩ (fun _ _ => trivial), ?_⟩
      · simp [encs]
      · exact Nat.le_trans hN (by decide)
      · simp [nums, hl]
      · simp [encs, nums]; exact List.take_of_length_le (by simp)
      · exact below_putObj hb2 (by omega) _
  case stop =>
    rintro cc i W ⟨rfl, hX⟩ hK
    have HX := Lib.hid hX
    have HKD := Lib.hid hK
    clear hX hK
    gi_wp2
    have hb1 := HX.out.below
    have hz1 := HX.out.size
    have hz0 := HZ.out
    refine ⟨by simp, .inl ⟨_, _, rfl, run_takeDeferred (ds := []) HKD.out, ?_⟩⟩
    have hp : ∀ k, k ≠ W0.heap.size → (W.putObj W0.heap.size (.deferred none)).heap[k]? = W.heap[k]? := fun k hk => by
      simp [World.putObj, Array.getElem?_setIfInBounds, Ne.symm hk]
    have c1 := blk_cell ((hp (w.heap.size + 1) (by omega)).trans HX.out.r) 0
    have c2 := blk_cell ((hp (w.heap.size + 1 + 1) (by omega)).trans HX.out.e) 0
    have hno : natOf l N = ([], 1) := by
      rw [natOf, if_pos]
      obtain ⟨j, h1, h2, h3⟩ := HX.out.bad
      exact ⟨j, by omega, h1, h3⟩
    refine ⟨.tuple #[.slice none 0 0, .int .i64 1], by simp [results, go_sem, c1, c2], ?_⟩
    rw [hno]
    refine ⟨_, rfl, Kd.R_of_own (World.ownsRow_nil _ _ _ _) (fun _ _ => trivial), ?_⟩
    exact below_putObj HX.out.below (by omega) _

theorem be_take {l : List Int} (h : inB 8 l) (m : Nat) : be (l.take m) = be l / 256 ^ (l.length - m) := by
  have e := be_append (l.take m) (l.drop m)
  rw [List.take_append_drop, List.length_drop] at e
  have h1 := be_lt (inB_drop h m)
  rw [List.length_drop] at h1
  rw [e, Nat.add_mul_div_left _ _ (Nat.pow_pos (by decide)), Nat.div_eq_of_lt h1, Nat.zero_add]
theorem be_drop {l : List Int} (h : inB 8 l) (m : Nat) : be (l.drop m) = be l % 256 ^ (l.length - m) := by
  have e := be_append (l.take m) (l.drop m)
  rw [List.take_append_drop, List.length_drop] at e
  have h1 := be_lt (inB_drop h m)
  rw [List.length_drop] at h1
  rw [e, Nat.add_mul_mod_self_left, Nat.mod_eq_of_lt h1]
theorem p256 (k : Nat) : 256 ^ k = 2 ^ (8 * k) := by rw [Nat.pow_mul]
theorem wordAt_eq {l : List Int} (h : inB 8 l) (i : Nat) (h8 : 8 * i < l.length) : wordAt l i = ((be l / 2 ^ (64 * i) % 2 ^ 64 : Nat) : Int) := by
  unfold wordAt
  congr 1
  rw [be_drop (inB_take h _), be_take h, List.length_take]
  rw [show l.length - (l.length - 8 * i) = 8 * i from by omega, p256, p256, show 8 * (8 * i) = 64 * i by omega]
  by_cases h9 : l.length - 8 * i ≤ 8
  · have hlt : be l < 2 ^ (64 * i + 64) := by
      have := be_lt h
      rw [p256] at this
      exact Nat.lt_of_lt_of_le this (Nat.pow_le_pow_right (by decide) (by omega))
    have h2 : be l / 2 ^ (64 * i) < 2 ^ (8 * (min (l.length - 8 * i) l.length - (l.length - 8 * i - 8))) := by
      have := be_lt h
      rw [p256] at this
      rw [Nat.div_lt_iff_lt_mul (pow_pos' _), ← Nat.pow_add]
      exact Nat.lt_of_lt_of_le this (Nat.pow_le_pow_right (by decide) (by omega))
    rw [Nat.mod_eq_of_lt h2, Nat.mod_eq_of_lt]
    rw [Nat.div_lt_iff_lt_mul (pow_pos' _), ← Nat.pow_add, Nat.add_comm]
    exact hlt
  · rw [show min (l.length - 8 * i) l.length - (l.length - 8 * i - 8) = 8 by omega]
theorem wordAt_far {l : List Int} (h : inB 8 l) (i : Nat) (h8 : l.length ≤ 8 * i) : be l / 2 ^ (64 * i) % 2 ^ 64 = 0 := by
  have := be_lt h
  rw [p256] at this
  rw [Nat.div_eq_of_lt (Nat.lt_of_lt_of_le this (Nat.pow_le_pow_right (by decide) (by omega)))]
theorem firstW_digs {l : List Int} (h : inB 8 l) (N : Nat) : firstW l N ((l.length + 7) / 8) = ints (digs 64 N (be l)) := by
  apply List.ext_getElem
  · rw [firstW_length, ints_length, digs_length]
  · intro j h1 h2
    rw [firstW_length] at h1
    have e := getD_digs 64 N (be l) j h1
    simp only [firstW, ints, List.getElem_map, List.getElem_range]
    rw [List.getD_eq_getElem?_getD, List.getElem?_eq_getElem (by rw [digs_length]; exact h1), Option.getD_some] at e
    rw [e]
    by_cases hj : j < (l.length + 7) / 8
    · rw [if_pos hj, wordAt_eq h j (by omega)]; rfl
    · rw [if_neg hj, wordAt_far h j (by omega)]; rfl
theorem natOf_eq {l : List Int} (h : inB 8 l) (N : Nat) : natOf l N = if be l < 2 ^ (64 * N) then (ints (digs 64 N (be l)), 0) else ([], 1) := by
  unfold natOf
  rw [firstW_digs h]
  by_cases hb : be l < 2 ^ (64 * N)
  · rw [if_pos hb, if_neg]
    rintro ⟨j, hj, hn, hne⟩
    rw [wordAt_eq h j (by omega), Nat.div_eq_of_lt (Nat.lt_of_lt_of_le hb (Nat.pow_le_pow_right (by decide) (by omega)))] at hne
    exact hne rfl
  · rw [if_neg hb, if_pos]
    have hlen : be l < 2 ^ (64 * ((l.length + 7) / 8)) := by
      have := be_lt h
      rw [p256] at this
      exact Nat.lt_of_lt_of_le this (Nat.pow_le_pow_right (by decide) (by omega))
    have key : ∀ d, (∀ j, j < N + d → N ≤ j → be l / 2 ^ (64 * j) % 2 ^ 64 = 0) → 2 ^ (64 * (N + d)) ≤ be l := by
      intro d
      induction d with
      | zero => intro _; simpa using (by omega : 2 ^ (64 * N) ≤ be l)
      | succ d ih =>
        intro hz
        have h1 := ih (fun j hj hn => hz j (by omega) hn)
        have h2 := hz (N + d) (by omega) (by omega)
        have h3 : 1 ≤ be l / 2 ^ (64 * (N + d)) := (Nat.le_div_iff_mul_le (pow_pos' _)).2 (by simpa using h1)
        have h4 : 2 ^ 64 ≤ be l / 2 ^ (64 * (N + d)) := by
          rcases Nat.lt_or_ge (be l / 2 ^ (64 * (N + d))) (2 ^ 64) with h5 | h5
          · rw [Nat.mod_eq_of_lt h5] at h2; omega
          · exact h5
        have h5 := (Nat.le_div_iff_mul_le (pow_pos' _)).1 h4
        rw [← Nat.pow_add] at h5
        rwa [show 64 * (N + (d + 1)) = 64 + 64 * (N + d) by omega]
    by_cases hN : N ≤ (l.length + 7) / 8
    · rcases Classical.em (∃ j, j < (l.length + 7) / 8 ∧ N ≤ j ∧ wordAt l j ≠ 0) with hx | hx
      · exact hx
      · exfalso
        have := key ((l.length + 7) / 8 - N) (fun j hj hn => by
          rcases Classical.em (wordAt l j = 0) with h0 | h0
          · rw [wordAt_eq h j (by omega)] at h0
            exact Int.ofNat_eq_zero.1 h0
          · exact absurd ⟨j, by omega, hn, h0⟩ hx)
        rw [show N + ((l.length + 7) / 8 - N) = (l.length + 7) / 8 by omega] at this
        omega
    · exfalso
      exact hb (Nat.lt_of_lt_of_le hlen (Nat.pow_le_pow_right (by decide) (by omega)))

/-- nat.Of, in closed form (bytes of any sane length). -/
def nat_Of.f (l0 : List Int) (a1 : Int) : Option (List Int × Int) :=
  if inB 8 l0 ∧ l0.length ≤ 140737488351232 then
    (if 300 < a1 then some ([], 2) else if a1 < 0 then some ([], 1) else if be l0 < 2 ^ (64 * a1.toNat) then some (ints (digs 64 a1.toNat (be l0)), 0) else some ([], 1))
  else none

set_option maxRecDepth 100000 in
set_option maxHeartbeats 2000000 in
theorem nat_Of.calls (A0 : Option Addr) (c0 : Nat) (l0 : List Int) (a1 : Int) (r1 : List Int) (r2 : Int) (w : World) (hr0 : Kd.C (Kd.int .u8) w A0 l0.length l0) (hc0 : l0.length ≤ c0) (h : nat_Of.f l0 a1 = some (r1, r2)) :
    Calls Try.prog 16 #[.slice A0 l0.length c0, .int .i64 a1] w fun e w' => ∃ v0_ : Value, e = .returned (.tuple #[v0_, .int .i64 r2]) ∧ Kd.R (Kd.int .u64) 41 w' w.heap.size (fun _ => True) v0_ r1 ∧ Below w.heap.size w w' := by
  unfold nat_Of.f at h
  split at h
  case isFalse => cases h
  rename_i hh
  refine (callsIn_wide (n := 4)).1 ?_
  by_cases h1 : 300 < a1
  · rw [if_pos h1] at h
    cases h
    refine callsIn_of_wp_marks Try.func16 rfl trivial ?_ rfl
    simp only [Try.ntmps16, List.size_toArray, List.length_cons, List.length_nil, Nat.reduceAdd, Nat.reduceSub, Array.replicate_succ, Array.replicate_zero, List.push_toArray, List.append_toArray, List.nil_append, List.cons_append]
    gi_wp2_with fail
    refine ⟨.tuple #[.slice none 0 0, .int .i64 2], ?_, _, rfl, Kd.R_of_own (World.ownsRow_nil _ _ _ _) (fun _ _ => trivial), ?_⟩
    · simp [results, go_sem]
    · exact (((Below.refl _ w).alloc (Nat.le_refl _) _).alloc (by simp) _).alloc (by simp; omega) _
  · rw [if_neg h1] at h
    by_cases h2 : a1 < 0
    · rw [if_pos h2] at h
      cases h
      refine callsIn_of_wp_marks Try.func16 rfl trivial ?_ rfl
      simp only [Try.ntmps16, List.size_toArray, List.length_cons, List.length_nil, Nat.reduceAdd, Nat.reduceSub, Array.replicate_succ, Array.replicate_zero, List.push_toArray, List.append_toArray, List.nil_append, List.cons_append]
      gi_wp2_with fail
      refine ⟨.tuple #[.slice none 0 0, .int .i64 1], ?_, _, rfl, Kd.R_of_own (World.ownsRow_nil _ _ _ _) (fun _ _ => trivial), ?_⟩
      · simp [results, go_sem]
      · exact (((Below.refl _ w).alloc (Nat.le_refl _) _).alloc (by simp) _).alloc (by simp; omega) _
    · rw [if_neg h2] at h
      obtain ⟨N, rfl⟩ : ∃ N : Nat, a1 = (N : Int) := ⟨a1.toNat, by omega⟩
      have := of_in 4 (by omega) A0 c0 l0 N (by omega) w hr0 hc0 (by omega) hh.1
      rw [natOf_eq hh.1] at this
      rw [Int.toNat_natCast] at h
      by_cases h3 : be l0 < 2 ^ (64 * N)
      · rw [if_pos h3] at h this
        cases h
        exact this
      · rw [if_neg h3] at h this
        cases h
        exact this
end Go.Proofs.Ytflchcdmgceecaa.H
