/- sieve.Factor, by walking its text. -/
import Derived.Test.YtflchcdmgceecaaHPrimes
import Derived.Test.YtflchcdmgceecaaPMx3
set_option linter.unusedVariables false
set_option linter.unusedSimpArgs false
namespace Go.Proofs.Ytflchcdmgceecaa.H
open Go.RowKit Go.Proofs.YtflchcdmgceecaaW.PrintWords Go.Proofs.YtflchcdmgceecaaW.PrintLast Go.Proofs.YtflchcdmgceecaaW.PrintMore Go.Proofs.Ytflchcdmgceecaa.Q Go.Proofs.Ytflchcdmgceecaa.PM
attribute [local go_sem] Oper.semAt_some

/-- The first of some numbers that divides. -/
def factorF (k : Nat) (l : List Int) : List Nat → Option Int
  | [] => some 0
  | p :: r => (product_Small.f k l (p : Int)).bind fun t => if t.1 = 0 then some (p : Int) else factorF k l r

theorem C_samF {w W : World} {k : IntKind} {A : Option Addr} {n : Nat} {xs : List Int} (h : Kd.C (Kd.int k) w A n xs) (hs : ∀ b, b < w.heap.size → W.heap[b]? = w.heap[b]?) : Kd.C (Kd.int k) W A n xs := by
  have h1 := Kd.reads_of_C (d := (0 : Int)) h
  refine Kd.C_of_reads (d := (0 : Int)) (h1 := fun _ => rfl) ⟨h1.1, h1.2.1, fun hn => ?_⟩
  obtain ⟨ad, e, hc⟩ := h1.2.2 hn
  refine ⟨ad, e, fun j hj => ?_⟩
  have h2 := hc j hj
  rw [World.cell?_of_block (w := w) (hs _ (World.block_lt_of_cell? w _ h2))]
  exact h2

structure FI (k : Nat) (l : List Int) (r : Int) (L : List Nat) (A : Option Addr) (c : Nat) (w : World) (i : Nat) (W : World) : Prop where
  cx : W.heap[w.heap.size]? = some (.cells #[.slice A l.length c] 25 (0, 0))
  cr : W.heap[w.heap.size + 1]? = some (.cells #[.int .i64 0] 3 (0, 0))
  below : Below w.heap.size w W
  size : w.heap.size + 3 ≤ W.heap.size
  left : factorF k l (L.drop i) = some r
structure FX (r : Int) (w W : World) : Prop where
  cr : W.heap[w.heap.size + 1]? = some (.cells #[.int .i64 r] 3 (0, 0))
  below : Below w.heap.size w W
  size : w.heap.size + 3 ≤ W.heap.size
theorem FI.away {k : Nat} {l : List Int} {r : Int} {L : List Nat} {Ad : Option Addr} {c : Nat} {w : World} {i : Nat} {A B : World} {S : Nat → Prop} (h : FI k l r L Ad c w i A) (ha : Away S A B) (hs : ∀ k, S k → w.heap.size + 2 ≤ k) : FI k l r L Ad c w i B :=
  ⟨ha.blk h.cx (fun x => by have := hs _ x; omega), ha.blk h.cr (fun x => by have := hs _ x; omega), Away.below h.below ha (fun j x => by have := hs _ x; omega) (by have := h.size; omega), Nat.le_trans h.size ha.size, h.left⟩
theorem FX.away {r : Int} {w : World} {A B : World} {S : Nat → Prop} (h : FX r w A) (ha : Away S A B) (hs : ∀ k, S k → w.heap.size + 2 ≤ k) : FX r w B :=
  ⟨ha.blk h.cr (fun x => by have := hs _ x; omega), Away.below h.below ha (fun j x => by have := hs _ x; omega) (by have := h.size; omega), Nat.le_trans h.size ha.size⟩

set_option maxRecDepth 100000 in
set_option maxHeartbeats 2000000 in
theorem factor_in (n : Nat) (hn : 4 ≤ n) (k : Nat) (A : Option Addr) (c : Nat) (l : List Int) (a r : Int) (w : World) (hC : Kd.C (Kd.int .u64) w A l.length l) (hc : l.length ≤ c) (h : factorF k l (primesTo (capOf a + 1)) = some r) :
    CallsIn Fence.wide n Try.prog 41 #[.slice A l.length c, .int .i64 a] w fun e w' => e = .returned (.int .i64 r) ∧ Below w.heap.size w w' := by
  refine callsIn_of_wp_marks Try.func41 rfl trivial ?_ rfl
  simp only [Try.ntmps41, List.size_toArray, List.length_cons, List.length_nil, Nat.reduceAdd, Nat.reduceSub, Array.replicate_succ, Array.replicate_zero, List.push_toArray, List.append_toArray, List.nil_append, List.cons_append]
  gi_wp2_with fail
  refine ⟨trivial, fun _ => by omega, ?_⟩
  refine (each_in (n - 1) _ _).mono ?_
  rintro e w' ⟨rfl, rfl⟩
  obtain ⟨W0, hW0⟩ : ∃ W0, W0 = (((w.alloc (.cells #[.slice A l.length c] 25)).alloc (.cells #[.int .i64 0] 3)).alloc (.cells #[.int .i64 a] 3)) := ⟨_, rfl⟩
  have hbw : Below w.heap.size w W0 := by
    rw [hW0]; exact (((Below.refl _ w).alloc (Nat.le_refl _) _).alloc (by simp) _).alloc (by simp; omega) _
  have hz0 : W0.heap.size = w.heap.size + 3 := by rw [hW0]; simp
  have hcx : W0.heap[w.heap.size]? = some (.cells #[.slice A l.length c] 25 (0, 0)) := by
    rw [hW0]; simp only [heap_at, World.size_alloc]; rw [if_neg (by omega), if_neg (by omega), if_pos (by trivial)]
  have hcr : W0.heap[w.heap.size + 1]? = some (.cells #[.int .i64 0] 3 (0, 0)) := by
    rw [hW0]; simp only [heap_at, World.size_alloc]; rw [if_neg (by omega), if_pos (by trivial)]
  have hcn : W0.heap[w.heap.size + 2]? = some (.cells #[.int .i64 a] 3 (0, 0)) := by
    rw [hW0]; simp only [heap_at, World.size_alloc]; rw [if_pos (by trivial)]
  have h0 : FI k l r (primesTo (capOf a + 1)) A c w 0 W0 := ⟨hcx, hcr, hbw, by omega, by rw [List.drop_zero]; exact h⟩
  have HZ := Lib.hid hz0
  have H0 := Lib.hid h0
  have HCN := Lib.hid hcn
  have HBW := Lib.hid hbw
  have HC := Lib.hid hC
  try rw [show ((w.alloc (.cells #[.slice A l.length c] 25)).alloc (.cells #[.int .i64 0] 3)).heap.size = w.heap.size + 2 by simp]
  rw [← hW0]
  clear hW0 h0 hz0 hcx hcr hcn hbw h hC
  gi_wp2
  refine wpIn_iterZ (gf := 86) (lb := #[.pointer (some ⟨w.heap.size + 2, 0, none⟩)]) rfl (enters_of Try.func86 (by kernel_rfl) rfl)
    (each1_iter (n - 1) (by omega) (w.heap.size + 2) a W0 (capOf a) rfl HCN.out (W0.heap.size + 2)) (Below.refl _ _) (fun k hk => by have := HZ.out; omega) (fun _ => rfl)
    (FI k l r (primesTo (capOf a + 1)) A c w) (fun cc i W => cc = .ret ∧ FX r w W) (fun i A B h ha => h.away ha (fun k hk => by have := HZ.out; omega)) (fun cc i A B h ha => ⟨h.1, h.2.away ha (fun k hk => by have := HZ.out; omega)⟩) H0.out
    (fun W h => List.getElem?_eq_none (Nat.le_refl _)) ?a1 ?assign ?body (fun k hk => by have := HZ.out; omega) ?done ?stop
  case assign =>
    intro lp x W K hK
    simp only [encP, List.zip_toArray, List.zip_cons_cons, List.zip_nil_right, List.foldl_toArray, List.foldl_toArray', List.foldl_cons, List.foldl_nil, List.setIfInBounds_toArray, List.set_cons_succ, List.set_cons_zero]
    gi_wp2
    exact hK
  case body =>
    rintro lp i x W hx hi hI hz
    have hx' : x ≤ 10000 := by
      have h1 := List.mem_of_getElem? hx
      have h2 := (List.mem_filter.1 h1).1
      rw [List.mem_range] at h2
      have : capOf a ≤ 10000 := by unfold capOf; split <;> omega
      omega
    have hdr : (primesTo (capOf a + 1)).drop i = x :: (primesTo (capOf a + 1)).drop (i + 1) := by
      obtain ⟨h3, h4⟩ := List.getElem?_eq_some_iff.1 hx
      rw [List.drop_eq_getElem_cons h3, h4]
    have hlf := hI.left
    rw [hdr, factorF] at hlf
    obtain ⟨⟨t1, t2⟩, ht, hlf⟩ := Option.bind_eq_some_iff.1 hlf
    have hcx : W.cell? ⟨w.heap.size, 0, none⟩ = some (.slice A l.length c) := blk_cell hI.cx 0
    have hcr : W.cell? ⟨w.heap.size + 1, 0, none⟩ = some (.int .i64 0) := blk_cell hI.cr 0
    have hfr : W.frozen? ⟨w.heap.size + 1, 0, none⟩ = false := blk_frozen hI.cr 0
    have HI := Lib.hid hI
    have HZW := Lib.hid hz
    have HT := Lib.hid ht
    have HL := Lib.hid hlf
    have HCW : Hid (Kd.C (Kd.int .u64) W A l.length l) := C_samF HC.out (fun b hb => hI.below.block b hb)
    have hxw : IntKind.u64.wrap (x : Int) = (x : Int) := by rw [IntKind.wrap_u64]; omega
    clear hI hz hdr hx hi ht hlf
    gi_wp2
    refine ⟨trivial, fun _ => by omega, ?_⟩
    refine (callsIn_wide.2 (product_Small.calls k A c l x t1 t2 W HCW.out hc HT.out)).mono ?_
    rintro e w2 ⟨rfl, hdr⟩
    have hb2 := hdr.below
    have hI := HI.out
    have hcr2' : w2.heap[w.heap.size + 1]? = some (.cells #[.int .i64 0] 3 (0, 0)) := (hb2.block _ (by have := hI.size; omega)).trans hI.cr
    have hcr2 : w2.cell? ⟨w.heap.size + 1, 0, none⟩ = some (.int .i64 0) := blk_cell hcr2' 0
    have hfr2 : w2.frozen? ⟨w.heap.size + 1, 0, none⟩ = false := blk_frozen hcr2' 0
    have HB2 := Lib.hid hb2
    have HC2 := Lib.hid hcr2'
    clear hI hb2 hcr2'
    gi_wp2
    · have hI := HI.out
      have hl := HL.out
      have hz0 := HZ.out
      have hz1 := HI.out.size
      have hzw := HZW.out
      have hb2 := HB2.out
      have hk : ∀ k, k ≠ w.heap.size + 1 → k < W.heap.size → (w2.setCell ⟨w.heap.size + 1, 0, none⟩ (.int .i64 (x : Int))).heap[k]? = W.heap[k]? := fun k hk hlt => (Below.heap_setCell _ _ _ _ hk).trans (hb2.block k hlt)
      have hs2 : W.heap.size ≤ (w2.setCell ⟨w.heap.size + 1, 0, none⟩ (.int .i64 (x : Int))).heap.size := by
        have := hb2.size
        simp [World.setCell]; omega
      refine ⟨⟨hs2, fun k hk' ht => hk k (by omega) hk'⟩, rfl, ?_⟩
      have hr : r = (x : Int) := by
        have h1 : t1 = 0 := by rename_i q; simpa using q
        rw [if_pos h1] at hl
        exact (Option.some.inj hl).symm
      rw [hr]
      refine ⟨blk_set HC2.out 0 _, ?_, by omega⟩
      exact ((hI.below.trans (hb2.mono (by omega)))).setCell (by show w.heap.size ≤ w.heap.size + 1; omega) _
    · have hI := HI.out
      have hl := HL.out
      have hb2 := HB2.out
      have hz0 := HZ.out
      have hz1 := HI.out.size
      have hzw := HZW.out
      have h0 : ¬ t1 = 0 := by rename_i q; simpa using q
      rw [if_neg h0] at hl
      refine ⟨⟨hb2.size, fun k hk' ht => hb2.block k hk'⟩, ⟨hb2.size, fun k hk' ht => hb2.block k hk'⟩, ?_⟩
      exact ⟨(hb2.block _ (by omega)).trans hI.cx, (hb2.block _ (by omega)).trans hI.cr, hI.below.trans (hb2.mono (by omega)), Nat.le_trans hz1 hb2.size, hl⟩
  case done =>
    rintro m W hm hx hI hK
    have hcr : W.cell? ⟨w.heap.size + 1, 0, none⟩ = some (.int .i64 0) := blk_cell hI.cr 0
    have hfr : W.frozen? ⟨w.heap.size + 1, 0, none⟩ = false := blk_frozen hI.cr 0
    have HI := Lib.hid hI
    have HKD := Lib.hid hK
    have HX := Lib.hid hx
    clear hI hK hx
    gi_wp2
    have hz0 := HZ.out
    have hz1 := HI.out.size
    have hKD : (W.setCell ⟨w.heap.size + 1, 0, none⟩ (.int .i64 0)).heap[W0.heap.size]? = some (.deferred (some [])) := (Below.heap_setCell _ _ _ _ (by show W0.heap.size ≠ w.heap.size + 1; omega)).trans HKD.out
    refine ⟨by simp, .inl ⟨_, _, rfl, run_takeDeferred (ds := []) hKD, ?_⟩⟩
    have hr : r = 0 := by
      have h1 := List.getElem?_eq_none_iff.1 HX.out
      have h2 := HI.out.left
      rw [List.drop_eq_nil_of_le h1] at h2
      exact (Option.some.inj h2).symm
    have hp : ∀ k, k ≠ W0.heap.size → ((W.setCell ⟨w.heap.size + 1, 0, none⟩ (.int .i64 0)).putObj W0.heap.size (.deferred none)).heap[k]? = (W.setCell ⟨w.heap.size + 1, 0, none⟩ (.int .i64 0)).heap[k]? := fun k hk => by
      simp [World.putObj, Array.getElem?_setIfInBounds, Ne.symm hk]
    have hc1 : ((W.setCell ⟨w.heap.size + 1, 0, none⟩ (.int .i64 0)).putObj W0.heap.size (.deferred none)).cell? ⟨w.heap.size + 1, 0, none⟩ = some (.int .i64 0) :=
      blk_cell ((hp _ (by omega)).trans (blk_set HI.out.cr 0 (.int .i64 0))) 0
    refine ⟨.int .i64 r, by rw [hr]; simp [results, hc1, go_sem], rfl, ?_⟩
    exact below_putObjP (HI.out.below.setCell (by show w.heap.size ≤ w.heap.size + 1; omega) _) (by omega) _
  case stop =>
    rintro cc i W h hK
    obtain ⟨rfl, hF⟩ := h
    have HF := Lib.hid hF
    have HKD := Lib.hid hK
    clear hF hK
    gi_wp2
    have hz0 := HZ.out
    have hz1 := HF.out.size
    refine ⟨by simp, .inl ⟨_, _, rfl, run_takeDeferred (ds := []) HKD.out, ?_⟩⟩
    have hp : ∀ k, k ≠ W0.heap.size → (W.putObj W0.heap.size (.deferred none)).heap[k]? = W.heap[k]? := fun k hk => by
      simp [World.putObj, Array.getElem?_setIfInBounds, Ne.symm hk]
    have hc1 : (W.putObj W0.heap.size (.deferred none)).cell? ⟨w.heap.size + 1, 0, none⟩ = some (.int .i64 r) :=
      blk_cell ((hp _ (by omega)).trans HF.out.cr) 0
    refine ⟨.int .i64 r, by simp [results, hc1, go_sem], rfl, ?_⟩
    exact below_putObjP HF.out.below (by omega) _
theorem factorF_mono (k : Nat) (l : List Int) : ∀ ps : List Nat, LeO (factorF k l ps) (factorF (k + 1) l ps)
  | [] => fun r h => h
  | p :: ps => fun r h => by
    rw [factorF] at h ⊢
    obtain ⟨t, ht, h⟩ := Option.bind_eq_some_iff.1 h
    rw [product_Small.mono _ _ _ _ ht, Option.bind_some]
    split at h
    · rename_i h0; rw [if_pos h0]; exact h
    · rename_i h0; rw [if_neg h0]; exact factorF_mono k l ps r h
def sieve_Factor.f (k : Nat) (l0 : List Int) (a1 : Int) : Option Int := factorF k l0 (primesTo (capOf a1 + 1))
theorem sieve_Factor.mono : ∀ a0 a1 k, LeO (sieve_Factor.f k a0 a1) (sieve_Factor.f (k + 1) a0 a1) := fun a0 a1 k => factorF_mono k a0 _
theorem sieve_Factor.calls (k : Nat) (A0 : Option Addr) (c0 : Nat) (l0 : List Int) (a1 : Int) (r : Int) (w : World) (hr0 : Kd.C (Kd.int .u64) w A0 l0.length l0) (hc0 : l0.length ≤ c0) (h : sieve_Factor.f k l0 a1 = some r) :
    Calls Try.prog 41 #[.slice A0 l0.length c0, .int .i64 a1] w fun e w' => e = .returned (.int .i64 r) ∧ Below w.heap.size w w' :=
  (callsIn_wide (n := 4)).1 (factor_in 4 (by omega) k A0 c0 l0 a1 r w hr0 hc0 h)
end Go.Proofs.Ytflchcdmgceecaa.H
