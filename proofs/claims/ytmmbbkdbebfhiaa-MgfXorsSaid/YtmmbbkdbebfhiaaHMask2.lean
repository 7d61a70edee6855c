/- mgf.Mask, by walking its text. -/
import Derived.Test.YtmmbbkdbebfhiaaHMask
import Derived.Test.YtmmbbkdbebfhiaaHHash
set_option linter.unusedVariables false
set_option linter.unusedSimpArgs false
namespace Go.Proofs.Ytmmbbkdbebfhiaa.H
open Go.RowKit Go.Proofs.YtmmbbkdbebfhiaaW.PrintWords Go.Proofs.YtmmbbkdbebfhiaaW.PrintLast Go.Proofs.Ytmmbbkdbebfhiaa.Sha Go.Proofs.YtmmbbkdbebfhiaaW.PrintMore Go.Proofs.Ytmmbbkdbebfhiaa.PT
attribute [local go_sem] Oper.semAt_some

/-- The first i blocks of the mask, one behind the other. -/
def outI (h : Int) (l : List Int) : Nat → List Int
  | 0 => []
  | i + 1 => outI h l i ++ blkOf h l i
theorem blkOf_length (h : Int) (l : List Int) (i : Nat) : (blkOf h l i).length = hlen h := hsum_length _ _
theorem outI_length (h : Int) (l : List Int) (i : Nat) : (outI h l i).length = i * hlen h := by
  induction i with
  | zero => simp [outI]
  | succ i ih => rw [outI, List.length_append, ih, blkOf_length, Nat.succ_mul]
theorem hlen_pos (h : Int) : 32 ≤ hlen h := by unfold hlen; split <;> (try split) <;> omega
theorem hlen_le (h : Int) : hlen h ≤ 64 := by unfold hlen; split <;> (try split) <;> omega

/-- The walk ahead of round i. -/
structure MI (w : World) (Bn X : Nat) (h : Int) (l : List Int) (n i : Nat) (W : World) : Prop where
  nn : W.heap[Bn]? = some (.cells #[.int .i64 (n : Int)] 3 (0, 0))
  own : W.ownsRow w.heap.size 5 1 (.slice (some ⟨X, 0, none⟩) (outI h l i).length (n + 64)) (outI h l i).length (encs (Value.int .u8) (outI h l i))
  o : W.heap[X + 1]? = some (.cells #[.slice (some ⟨X, 0, none⟩) (outI h l i).length (n + 64)] 24 (0, 0))
  below : Below w.heap.size w W
  size : X + 4 ≤ W.heap.size
  lt : i = 0 ∨ (i - 1) * hlen h < n
theorem owns_blk {W W' : World} {base e X m cap : Nat} {xs : List Value} (h : W.ownsRow base e 1 (.slice (some ⟨X, 0, none⟩) m cap) m xs) (hs : W'.heap[X]? = W.heap[X]?) : W'.ownsRow base e 1 (.slice (some ⟨X, 0, none⟩) m cap) m xs := by
  refine ⟨h.1, ?_⟩
  rcases h.2 with h0 | ⟨g, c, cur, he, hb, hg, hr⟩
  · exact .inl h0
  · have hX : X = g := by
      simp only [Value.slice.injEq, Option.some.injEq, Addr.mk.injEq, and_true, true_and] at he
      exact he.1
    subst hX
    exact .inr ⟨X, c, cur, he, hb, hs.trans hg, hr⟩
theorem owns_lt {W : World} {base e X m cap : Nat} {xs : List Value} (h : W.ownsRow base e 1 (.slice (some ⟨X, 0, none⟩) m cap) m xs) : X < W.heap.size := by
  rcases h.2 with ⟨h0, _⟩ | ⟨g, c, cur, he, hb, hg, hr⟩
  · simp at h0
  · simp only [Value.slice.injEq, Option.some.injEq, Addr.mk.injEq, and_true, true_and] at he
    rw [he.1]
    exact (Array.getElem?_eq_some_iff.1 hg).1
theorem MI.away {w : World} {Bn X : Nat} {h : Int} {l : List Int} {n i : Nat} {A B : World} {S : Nat → Prop} (k : MI w Bn X h l n i A) (hB : Bn < X) (hX : w.heap.size ≤ X) (ha : Away S A B) (hs : ∀ k, S k → X + 4 ≤ k) : MI w Bn X h l n i B :=
  have no : ∀ k, k < X + 4 → ¬ S k := fun k hk hS => by have := hs k hS; omega
  ⟨ha.blk k.nn (no _ (by omega)), owns_blk k.own (ha.block _ (owns_lt k.own) (no _ (by omega))), ha.blk k.o (no _ (by omega)), Away.below k.below ha (fun k hk => by have := hs k hk; omega) (by have := k.size; omega), Nat.le_trans k.size ha.size, k.lt⟩
theorem hand_put {h : Int} {l : List Int} {i : Nat} {x : Array Value} {W : World} {r : Nat} {q : Loop} (o : Obj) (hx : HandB h l i x W) (hq : W.heap[r]? = some (.loop q)) : HandB h l i x (W.putObj r o) := by
  obtain ⟨A, c, rfl, hC⟩ := hx
  refine ⟨A, c, rfl, ?_⟩
  have h1 := Kd.reads_of_C (d := (0 : Int)) hC
  refine Kd.C_of_reads (d := (0 : Int)) (h1 := fun _ => rfl) ⟨h1.1, h1.2.1, fun hn => ?_⟩
  obtain ⟨ad, e, hc⟩ := h1.2.2 hn
  refine ⟨ad, e, fun j hj => ?_⟩
  have h2 := hc j hj
  rw [World.cell?_of_block (w := W) (World.putObj_heap_other ?_)]
  · exact h2
  · intro e2
    have e3 : (ad.add j).block = r := e2
    rw [← e3] at hq
    simp [World.cell?, World.cells?, hq] at h2
theorem size_at (h : Int) (hh : h = 1 ∨ h = 2 ∨ h = 3) : hash_Size.f h = some (hlen h : Int) := by
  rcases hh with rfl | rfl | rfl <;> simp [hash_Size.f, hlen]

set_option maxRecDepth 100000 in
set_option maxHeartbeats 4000000 in
theorem mask_in (n : Nat) (hn : 4 ≤ n) (h : Int) (hh : h = 1 ∨ h = 2 ∨ h = 3) (A : Option Addr) (c : Nat) (l : List Int) (w : World) (hC : Kd.C (Kd.int .u8) w A l.length l) (hc : l.length ≤ c) (hm : l.length ≤ 100000) (hb : inB 8 l) (m : Nat) (hm0 : m ≤ 10000) :
    CallsIn Fence.wide n Try.prog 38 #[.int .i64 h, .slice A l.length c, .int .i64 (m : Int)] w fun e w' => ∃ (i : Nat) (v : Value), e = .returned (.tuple #[v, .int .i64 0]) ∧ m ≤ i * hlen h ∧ Kd.V (Kd.int .u8) 5 w' w.heap.size (fun k => w.heap.size ≤ k) v ((outI h l i).take m) ∧ Below w.heap.size w w' := by
  have hmk := make_cap (m + 64) (by omega)
  have hmk' : (((m + 64 : Nat) : Int)) = (m : Int) + 64 := by omega
  rw [hmk'] at hmk
  clear hmk'
  have hN0 : (0 : Int) ≤ (m : Int) := by omega
  have hN1 : (m : Int) ≤ 10000 := by omega
  have hsz : Hid (∀ W, Calls Try.prog 35 #[.int .i64 h] W fun e w' => e = .returned (.int .i64 (hlen h : Int)) ∧ Below W.heap.size W w') := fun W => by
    first | exact hash_Size.calls h _ W (size_at h hh) | exact (hash_Size.calls h _ W (size_at h hh)).mono (fun e w' hx => ⟨hx.1, hx.2.below⟩)
  have hl0 : ((hlen h : Int) == 0) = false := by have := hlen_pos h; simp; omega
  refine callsIn_of_wp_marks Try.func38 rfl trivial ?_ rfl
  simp only [Try.ntmps38, List.size_toArray, List.length_cons, List.length_nil, Nat.reduceAdd, Nat.reduceSub, Array.replicate_succ, Array.replicate_zero, List.push_toArray, List.append_toArray, List.nil_append, List.cons_append]
  gi_wp2_with fail
  refine ⟨trivial, fun _ => by omega, ?_⟩
  refine (callsIn_wide.2 (hsz.out _)).mono ?_
  rintro e w1 ⟨rfl, hb1⟩
  have hcn1 : w1.heap[w.heap.size]? = some (.cells #[.int .i64 (m : Int)] 3 (0, 0)) := (hb1.block _ (by simp)).trans (heap_alloc_new _ _)
  have hc1 := blk_cell hcn1 0
  have hc1' : w1.cell? ⟨w.heap.size, 0, none⟩ = some (.int .i64 (m : Int)) := hc1
  have hz1 : w.heap.size < w1.heap.size := Nat.lt_of_lt_of_le (by simp) hb1.size
  have HB1 : Hid (Below w.heap.size w w1) := ((Below.refl w.heap.size w).alloc (Nat.le_refl _) _).trans (hb1.mono (by simp))
  have HN1 := Lib.hid hcn1
  clear hb1 hc1 hcn1
  gi_wp2_with fail
  refine ⟨trivial, fun _ => by omega, ?_⟩
  refine (blocks_in (n - 1) _ _ _ _ _).mono ?_
  rintro e w' ⟨rfl, rfl⟩
  obtain ⟨W0, hW0⟩ : ∃ W0, W0 = ((((w1.alloc (.cells (madeCells #[.int .u8 0] (m + 64)) 5)).alloc (.cells #[.slice (some ⟨w1.heap.size, 0, none⟩) 0 (m + 64)] 24)).alloc (.cells #[.int .i64 h] 3)).alloc (.cells #[.slice A l.length c] 24)) := ⟨_, rfl⟩
  have hz0 : W0.heap.size = w1.heap.size + 4 := by rw [hW0]; simp
  have hb0 : Below w1.heap.size w1 W0 := by
    rw [hW0]; exact ((((Below.refl _ w1).alloc (Nat.le_refl _) _).alloc (by simp) _).alloc (by simp; omega) _).alloc (by simp; omega) _
  have hbw : Below w.heap.size w W0 := HB1.out.trans (hb0.mono (Nat.le_of_lt hz1))
  have hcbh : W0.cell? ⟨w1.heap.size + 1 + 1, 0, none⟩ = some (.int .i64 h) := by
    rw [hW0, World.cell?_alloc_past _ _ _ (by simp), World.cell?_alloc_at _ _ _ _ (by simp)]; rfl
  have hcbs : W0.cell? ⟨w1.heap.size + 1 + 1 + 1, 0, none⟩ = some (.slice A l.length c) := by
    rw [hW0, World.cell?_alloc_at _ _ _ _ (by simp)]; rfl
  have h0 : MI w w.heap.size w1.heap.size h l m 0 W0 := by
    refine ⟨(hb0.block _ hz1).trans HN1.out, ?_, ?_, hbw, by omega, .inl rfl⟩
    · refine ⟨rfl, .inr ⟨w1.heap.size, m + 64, madeCells #[.int .u8 0] (m + 64), rfl, Nat.le_of_lt hz1, ?_, Nat.zero_le _, Nat.le_trans (show m + 64 ≤ 140737488355328 by omega) (by decide), by simp [size_madeCells], by simp [encs, outI]⟩⟩
      rw [hW0]; simp only [heap_at, World.size_alloc]; (repeat (first | rw [if_pos (by omega)] | rw [if_neg (by omega)])); try simp only [if_true]
    · rw [hW0]; simp only [heap_at, World.size_alloc]; (repeat (first | rw [if_pos (by omega)] | rw [if_neg (by omega)])); try rfl
  have HB := Lib.hid hbw
  have HZ := Lib.hid hz0
  have H0 := Lib.hid h0
  rw [← hW0]
  clear hW0 hmk h0 hz0 hbw hb0 HB1 HN1 hc1'
  gi_wp2
  have hlp := hlen_pos h
  have hll := hlen_le h
  refine wpIn_iterR (gf := 66) (lb := #[.pointer (some ⟨w1.heap.size + 1 + 1, 0, none⟩), .pointer (some ⟨w1.heap.size + 1 + 1 + 1, 0, none⟩)]) rfl (enters_of Try.func66 (by kernel_rfl) rfl)
    (blocks1_iter (n - 1) (by omega) h hh (w1.heap.size + 1 + 1) (w1.heap.size + 1 + 1 + 1) A c l W0 w HB.out hC hc hm hb hcbh hcbs (by omega) (by omega) (m + 1) (by omega)) (Below.refl _ _)
    (fun i x W hx => by obtain ⟨A', c', rfl, _⟩ := hx; rfl) (fun i x W q o hx hq => hand_put o hx hq)
    (MI w w.heap.size w1.heap.size h l m) (fun cc i W => cc = .exit 1 ∧ ∃ j, MI w w.heap.size w1.heap.size h l m j W ∧ m ≤ j * hlen h)
    (fun i A B k ha => k.away hz1 (Nat.le_of_lt hz1) ha (fun k hk => by have := HZ.out; omega)) (fun cc i A B k ha => ⟨k.1, by obtain ⟨j, k1, k2⟩ := k.2; exact ⟨j, k1.away hz1 (Nat.le_of_lt hz1) ha (fun k hk => by have := HZ.out; omega), k2⟩⟩) H0.out
    (fun W k => by
      have h1 := k.lt
      simp only [Nat.add_sub_cancel] at h1
      have h2 : m * 32 ≤ m * hlen h := Nat.mul_le_mul_left _ hlp
      omega) (fun x => { tmps := #[.int .i64 h, .slice A l.length c, .int .i64 (m : Int), undef, undef, .pointer (some ⟨w.heap.size, 0, none⟩), .slice none 0 0, .int .i64 0, .pointer (some ⟨w1.heap.size + 1, 0, none⟩), x[0]?.getD undef, .bool false, .int .i64 h, .int .i64 (hlen h : Int), .bool false, .bool (decide ((m : Int) < 0)), .int .i64 (m : Int), .bool (decide ((m : Int) < 0)), .bool (decide (10000 < (m : Int))), .int .i64 (m : Int), .bool (decide (10000 < (m : Int))), .int .i64 (m : Int), .int .i64 ((m : Int) + 64), .slice (some ⟨w1.heap.size, 0, none⟩) 0 (m + 64), .int .i64 h, .slice A l.length c, .func (.func 66) #[] #[.pointer (some ⟨w1.heap.size + 1 + 1, 0, none⟩), .pointer (some ⟨w1.heap.size + 1 + 1 + 1, 0, none⟩)], x[0]?.getD undef, undef, undef, undef, undef, undef, undef, undef, undef, undef, undef, undef], defers := [] }) ?assign ?body (fun k hk => by have := HZ.out; omega) ?stop
  case assign =>
    intro l' x W K hx hK
    obtain ⟨v, rfl⟩ : ∃ v, x = #[v] := by
      cases x with | mk xs => match xs, hx with | [v], _ => exact ⟨v, rfl⟩
    simp only [List.zip_toArray, List.zip_cons_cons, List.zip_nil_right, List.foldl_toArray, List.foldl_toArray', List.foldl_cons, List.foldl_nil, List.setIfInBounds_toArray, List.set_cons_succ, List.set_cons_zero]
    gi_wp2
    exact hK
  case body =>
    --DEV<
    rintro lp i x W ⟨A5, c5, rfl, hC5⟩ hi hI hz
    have hcn : W.cell? ⟨w.heap.size, 0, none⟩ = some (.int .i64 (m : Int)) := blk_cell hI.nn 0
    have hco : W.cell? ⟨w1.heap.size + 1, 0, none⟩ = some (.slice (some ⟨w1.heap.size, 0, none⟩) (outI h l i).length (m + 64)) := blk_cell hI.o 0
    have hfo : W.frozen? ⟨w1.heap.size + 1, 0, none⟩ = false := blk_frozen hI.o 0
    obtain ⟨lo, hlo⟩ : ∃ lo, lo = (outI h l i).length := ⟨_, rfl⟩
    have hOw := hI.own
    rw [← hlo] at hco hOw
    have HOw := Lib.hid hOw
    have HI := Lib.hid hI
    have HZW := Lib.hid hz
    have hC5r := Kd.reads_of_C (d := (0 : Int)) hC5
    obtain ⟨ad, rfl, hcell5⟩ := hC5r.2.2 (by omega)
    have hb5 : (blkOf h l i).length = hlen h := blkOf_length h l i
    obtain ⟨ii, hii⟩ := Option.isSome_iff_exists.1 (show (Try.prog.info? 5).isSome = true by kernel_rfl)
    have h3 := infoU8
    rw [hii] at h3
    simp only [Option.map_some, Option.some.injEq, Prod.mk.injEq] at h3
    have N1 : Hid ((encs (Value.int .u8) (blkOf h l i)).length = hlen h * 1) := by show _ = _; simp [encs, hb5]
    have N2 : Hid (∀ j u, (encs (Value.int .u8) (blkOf h l i))[j]? = some u → W.cell? (ad.add j) = some u) := by
      intro j u hu
      simp only [encs, List.getElem?_map] at hu
      obtain ⟨y, hy, rfl⟩ := Option.map_eq_some_iff.1 hu
      have hj : j < hlen h := by rw [← hb5]; exact (List.getElem?_eq_some_iff.1 hy).1
      have := hcell5 j hj
      rw [this, List.getD_eq_getElem?_getD, hy]; rfl
    have N3 : Hid (∀ u ∈ encs (Value.int .u8) (blkOf h l i), u.oneCell' = true) := by
      intro u hu
      simp only [encs, List.mem_map] at hu
      obtain ⟨y, _, rfl⟩ := hu
      rfl
    have HII := Lib.hid hii
    have H32 := Lib.hid h3.2.1
    have HLO := Lib.hid hlo
    clear hI hz hC5 hOw hC5r hcell5 hb5 h3 hii hlo
    by_cases hge : m ≤ lo
    · have hge' : decide ((m : Int) ≤ (lo : Int)) = true := decide_eq_true (by omega)
      have hge2 : decide (m ≤ lo) = true := decide_eq_true hge
      have HG := Lib.hid hge
      clear hge
      gi_wp2
      refine ⟨Keep.refl _ _, rfl, i, HI.out, ?_⟩
      rw [← outI_length h l i, ← HLO.out]
      exact HG.out
    · have hge' : decide ((m : Int) ≤ (lo : Int)) = false := decide_eq_false (by omega)
      have hge2 : decide (m ≤ lo) = false := decide_eq_false hge
      have HG : Hid (lo + hlen h ≤ m + 64) := by show _ ≤ _; omega
      have HLT : Hid (w1.heap.size + 1 < W.heap.size) := by have := HI.out.size; show _ < _; omega
      have HG2 : Hid (lo < m) := by show _ < _; omega
      clear hge
      gi_wp2_with (refine wpListIn_append_fits W rfl (.tmp 31) (.tmp 32) 24 rfl w.heap.size 5 ii 1 Try.underlying24 HII.out H32.out w1.heap.size lo (m + 64) (encs (Value.int .u8) (outI h l i)) rfl HOw.out ad (hlen h) c5 (encs (Value.int .u8) (blkOf h l i)) rfl N1.out N2.out N3.out HG.out ?_; intro w9 hown9 hg9; (have ho9 : w9.heap[w1.heap.size + 1]? = W.heap[w1.heap.size + 1]? := hg9.block _ HLT.out (by simp)); (have hco9 : w9.cell? ⟨w1.heap.size + 1, 0, none⟩ = some (.slice (some ⟨w1.heap.size, 0, none⟩) lo (m + 64)) := (World.cell?_of_block (w := W) ho9).trans hco); (have hfo9 : w9.frozen? ⟨w1.heap.size + 1, 0, none⟩ = false := (World.frozen?_of_block (w := W) ho9).trans hfo); (have HOW9 := Lib.hid hown9); (have HG9 := Lib.hid hg9); clear hown9 hg9 ho9)
      have hz0 := HZ.out
      refine ⟨?_, ?_, ?_⟩
      · exact (Keep.setCell ⟨HG9.out.size, fun k hk ht => HG9.out.block k hk (by simp; rcases ht with rfl | rfl <;> omega)⟩ (by show ¬ (w1.heap.size + 1 = W0.heap.size ∨ w1.heap.size + 1 = W0.heap.size + 1); omega) _)
      · exact (Keep.setCell ⟨HG9.out.size, fun k hk ht => HG9.out.block k hk (by simp; rcases ht with ht | rfl | rfl <;> omega)⟩ (by show ¬ (w1.heap.size + 1 < w.heap.size ∨ w1.heap.size + 1 = w1.heap.size + 1 + 1 ∨ w1.heap.size + 1 = w1.heap.size + 1 + 1 + 1); omega) _)
      · have hlen1 : (outI h l (i + 1)).length = lo + hlen h := by rw [outI, List.length_append, blkOf_length, HLO.out]
        have hne : ∀ k, k ≠ w1.heap.size + 1 → (w9.setCell ⟨w1.heap.size + 1, 0, none⟩ (.slice (some ⟨w1.heap.size, 0, none⟩) (lo + hlen h) (m + 64))).heap[k]? = w9.heap[k]? := fun k hk => Below.heap_setCell _ _ _ _ hk
        have hW4 := HI.out.size
        have h9z := HG9.out.size
        refine ⟨?_, ?_, ?_, ?_, ?_, .inr ?_⟩
        · exact (hne _ (by omega)).trans ((HG9.out.block _ (by omega) (by simp; omega)).trans HI.out.nn)
        · rw [hlen1]
          refine owns_blk ?_ (hne _ (by omega))
          have := HOW9.out
          rw [show encs (Value.int .u8) (outI h l (i + 1)) = encs (Value.int .u8) (outI h l i) ++ encs (Value.int .u8) (blkOf h l i) by simp [encs, outI]]
          exact this
        · rw [hlen1]
          have h1 : w9.heap[w1.heap.size + 1]? = some (.cells #[.slice (some ⟨w1.heap.size, 0, none⟩) lo (m + 64)] 24 (0, 0)) := by
            rw [HG9.out.block _ HLT.out (by simp), HI.out.o, HLO.out]
          exact blk_set h1 0 _
        · have hb9 : Below w.heap.size w w9 := ⟨HG9.out.os.trans HI.out.below.os, HG9.out.tape.trans HI.out.below.tape, HG9.out.output.trans HI.out.below.output, Nat.le_trans HI.out.below.size h9z, fun k hk => (HG9.out.block k (by omega) (by simp; omega)).trans (HI.out.below.block k hk)⟩
          exact hb9.setCell (by show w.heap.size ≤ w1.heap.size + 1; omega) _
        · simp [World.setCell]; omega
        · rw [Nat.add_sub_cancel, ← outI_length h l i, ← HLO.out]
          exact HG2.out
--DEV>
  case stop =>
    rintro cc i W ⟨rfl, j, hI, hj⟩ hK
    have hcn : W.cell? ⟨w.heap.size, 0, none⟩ = some (.int .i64 (m : Int)) := blk_cell hI.nn 0
    have hco : W.cell? ⟨w1.heap.size + 1, 0, none⟩ = some (.slice (some ⟨w1.heap.size, 0, none⟩) (outI h l j).length (m + 64)) := blk_cell hI.o 0
    obtain ⟨lo, hlo⟩ : ∃ lo, lo = (outI h l j).length := ⟨_, rfl⟩
    rw [← hlo] at hco
    have HI := Lib.hid hI
    have HKD := Lib.hid hK
    have HLO := Lib.hid hlo
    have HJ := Lib.hid hj
    clear hI hK hlo hj
    gi_wp2
    have hz0 := HZ.out
    have hzW := HI.out.size
    have hp : ∀ k, k ≠ W0.heap.size → (W.putObj W0.heap.size (.deferred none)).heap[k]? = W.heap[k]? := fun k hk => by
      simp [World.putObj, Array.getElem?_setIfInBounds, Ne.symm hk]
    have hbp : Below w.heap.size w (W.putObj W0.heap.size (.deferred none)) := HI.out.below.trans ⟨rfl, rfl, rfl, by simp [World.putObj], fun k hk => hp k (by omega)⟩
    have hjl : m ≤ (outI h l j).length := by rw [outI_length]; exact HJ.out
    have hR := Kd.R_of_own (h1 := fun _ => rfl) (ok := fun _ => True) (owns_blk HI.out.own (hp _ (by omega))) (fun _ _ => trivial)
    have h1 := Kd.V_mono (ok' := fun k => w.heap.size ≤ k) (Kd.R_V (base' := w.heap.size) (Kd.R_bound hR)) (fun k hk => hk.2.1)
    have h2 := (Kd.V_at h1).2.2
    have h3 := Kd.F_take h2 (m := m) hjl
    have h4 : ((outI h l j).take m).length = m := by rw [List.length_take]; omega
    have h5 := Kd.V_mk (e := 5) (base := w.heap.size) (c := m) (by rw [h4]; exact Nat.le_refl _) h3
    rw [h4] at h5
    refine ⟨by simp, .inl ⟨_, _, rfl, run_takeDeferred (ds := []) HKD.out, ?_⟩⟩
    refine ⟨.tuple #[.slice (some ⟨w1.heap.size, 0, none⟩) m m, .int .i64 0], by simp [results, go_sem], j, _, rfl, HJ.out, h5, hbp⟩
end Go.Proofs.Ytmmbbkdbebfhiaa.H
