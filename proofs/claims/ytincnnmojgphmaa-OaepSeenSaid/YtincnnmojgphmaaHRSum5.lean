/- The reference's Sum of chapter 11, by walking its text. -/
import Derived.Test.YtincnnmojgphmaaSha25
import Derived.Test.YtincnnmojgphmaaHRef5
import Derived.Test.YtincnnmojgphmaaHRSum
set_option linter.unusedVariables false
set_option linter.unusedSimpArgs false
namespace Go.Proofs.Ytincnnmojgphmaa.H.R11
open Go.RowKit Go.Proofs.YtincnnmojgphmaaW.PrintWords Go.Proofs.YtincnnmojgphmaaW.PrintLast Go.Proofs.Ytincnnmojgphmaa.Sha Go.Proofs.YtincnnmojgphmaaW.PrintMore Go.Proofs.Ytincnnmojgphmaa.H Go.Proofs.Ytincnnmojgphmaa.PS
attribute [local go_sem] Oper.semAt_some max2_int min2_int max_two min_two

/-- Eight words stored one by one. -/
def put8 (W : World) (g : Nat) (y0 y1 y2 y3 y4 y5 y6 y7 : Int) : World := (((((((W.setCell ⟨g, 0, none⟩ (.int .u32 y0)).setCell ⟨g, 1, none⟩ (.int .u32 y1)).setCell ⟨g, 2, none⟩ (.int .u32 y2)).setCell ⟨g, 3, none⟩ (.int .u32 y3)).setCell ⟨g, 4, none⟩ (.int .u32 y4)).setCell ⟨g, 5, none⟩ (.int .u32 y5)).setCell ⟨g, 6, none⟩ (.int .u32 y6)).setCell ⟨g, 7, none⟩ (.int .u32 y7)
theorem put8_at {W : World} {g : Nat} {T : TypeId} {x0 x1 x2 x3 x4 x5 x6 x7 : Int} (y0 y1 y2 y3 y4 y5 y6 y7 : Int) (h : W.heap[g]? = some (.cells #[.int .u32 x0, .int .u32 x1, .int .u32 x2, .int .u32 x3, .int .u32 x4, .int .u32 x5, .int .u32 x6, .int .u32 x7] T (0, 0))) : (put8 W g y0 y1 y2 y3 y4 y5 y6 y7).heap[g]? = some (.cells #[.int .u32 y0, .int .u32 y1, .int .u32 y2, .int .u32 y3, .int .u32 y4, .int .u32 y5, .int .u32 y6, .int .u32 y7] T (0, 0)) := by
  have h0 : (W.setCell ⟨g, 0, none⟩ (.int .u32 y0)).heap[g]? = some (.cells #[.int .u32 y0, .int .u32 x1, .int .u32 x2, .int .u32 x3, .int .u32 x4, .int .u32 x5, .int .u32 x6, .int .u32 x7] T (0, 0)) := blk_set h 0 (.int .u32 y0)
  have h1 : ((W.setCell ⟨g, 0, none⟩ (.int .u32 y0)).setCell ⟨g, 1, none⟩ (.int .u32 y1)).heap[g]? = some (.cells #[.int .u32 y0, .int .u32 y1, .int .u32 x2, .int .u32 x3, .int .u32 x4, .int .u32 x5, .int .u32 x6, .int .u32 x7] T (0, 0)) := blk_set h0 1 (.int .u32 y1)
  have h2 : (((W.setCell ⟨g, 0, none⟩ (.int .u32 y0)).setCell ⟨g, 1, none⟩ (.int .u32 y1)).setCell ⟨g, 2, none⟩ (.int .u32 y2)).heap[g]? = some (.cells #[.int .u32 y0, .int .u32 y1, .int .u32 y2, .int .u32 x3, .int .u32 x4, .int .u32 x5, .int .u32 x6, .int .u32 x7] T (0, 0)) := blk_set h1 2 (.int .u32 y2)
  have h3 : ((((W.setCell ⟨g, 0, none⟩ (.int .u32 y0)).setCell ⟨g, 1, none⟩ (.int .u32 y1)).setCell ⟨g, 2, none⟩ (.int .u32 y2)).setCell ⟨g, 3, none⟩ (.int .u32 y3)).heap[g]? = some (.cells #[.int .u32 y0, .int .u32 y1, .int .u32 y2, .int .u32 y3, .int .u32 x4, .int .u32 x5, .int .u32 x6, .int .u32 x7] T (0, 0)) := blk_set h2 3 (.int .u32 y3)
  have h4 : (((((W.setCell ⟨g, 0, none⟩ (.int .u32 y0)).setCell ⟨g, 1, none⟩ (.int .u32 y1)).setCell ⟨g, 2, none⟩ (.int .u32 y2)).setCell ⟨g, 3, none⟩ (.int .u32 y3)).setCell ⟨g, 4, none⟩ (.int .u32 y4)).heap[g]? = some (.cells #[.int .u32 y0, .int .u32 y1, .int .u32 y2, .int .u32 y3, .int .u32 y4, .int .u32 x5, .int .u32 x6, .int .u32 x7] T (0, 0)) := blk_set h3 4 (.int .u32 y4)
  have h5 : ((((((W.setCell ⟨g, 0, none⟩ (.int .u32 y0)).setCell ⟨g, 1, none⟩ (.int .u32 y1)).setCell ⟨g, 2, none⟩ (.int .u32 y2)).setCell ⟨g, 3, none⟩ (.int .u32 y3)).setCell ⟨g, 4, none⟩ (.int .u32 y4)).setCell ⟨g, 5, none⟩ (.int .u32 y5)).heap[g]? = some (.cells #[.int .u32 y0, .int .u32 y1, .int .u32 y2, .int .u32 y3, .int .u32 y4, .int .u32 y5, .int .u32 x6, .int .u32 x7] T (0, 0)) := blk_set h4 5 (.int .u32 y5)
  have h6 : (((((((W.setCell ⟨g, 0, none⟩ (.int .u32 y0)).setCell ⟨g, 1, none⟩ (.int .u32 y1)).setCell ⟨g, 2, none⟩ (.int .u32 y2)).setCell ⟨g, 3, none⟩ (.int .u32 y3)).setCell ⟨g, 4, none⟩ (.int .u32 y4)).setCell ⟨g, 5, none⟩ (.int .u32 y5)).setCell ⟨g, 6, none⟩ (.int .u32 y6)).heap[g]? = some (.cells #[.int .u32 y0, .int .u32 y1, .int .u32 y2, .int .u32 y3, .int .u32 y4, .int .u32 y5, .int .u32 y6, .int .u32 x7] T (0, 0)) := blk_set h5 6 (.int .u32 y6)
  have h7 : ((((((((W.setCell ⟨g, 0, none⟩ (.int .u32 y0)).setCell ⟨g, 1, none⟩ (.int .u32 y1)).setCell ⟨g, 2, none⟩ (.int .u32 y2)).setCell ⟨g, 3, none⟩ (.int .u32 y3)).setCell ⟨g, 4, none⟩ (.int .u32 y4)).setCell ⟨g, 5, none⟩ (.int .u32 y5)).setCell ⟨g, 6, none⟩ (.int .u32 y6)).setCell ⟨g, 7, none⟩ (.int .u32 y7)).heap[g]? = some (.cells #[.int .u32 y0, .int .u32 y1, .int .u32 y2, .int .u32 y3, .int .u32 y4, .int .u32 y5, .int .u32 y6, .int .u32 y7] T (0, 0)) := blk_set h6 7 (.int .u32 y7)
  exact h7
theorem put8_other (W : World) (g k : Nat) (y0 y1 y2 y3 y4 y5 y6 y7 : Int) (h : k ≠ g) : (put8 W g y0 y1 y2 y3 y4 y5 y6 y7).heap[k]? = W.heap[k]? := by
  unfold put8
  exact (Below.heap_setCell _ _ _ _ h).trans ((Below.heap_setCell _ _ _ _ h).trans ((Below.heap_setCell _ _ _ _ h).trans ((Below.heap_setCell _ _ _ _ h).trans ((Below.heap_setCell _ _ _ _ h).trans ((Below.heap_setCell _ _ _ _ h).trans ((Below.heap_setCell _ _ _ _ h).trans (Below.heap_setCell _ _ _ _ h)))))))
theorem put8_size (W : World) (g : Nat) (y0 y1 y2 y3 y4 y5 y6 y7 : Int) : (put8 W g y0 y1 y2 y3 y4 y5 y6 y7).heap.size = W.heap.size := by simp [put8, World.setCell]
theorem put8_below {B g : Nat} {w W : World} (h : Below B w W) (hg : B ≤ g) (y0 y1 y2 y3 y4 y5 y6 y7 : Int) : Below B w (put8 W g y0 y1 y2 y3 y4 y5 y6 y7) := by
  unfold put8
  exact (((((((h.setCell hg _).setCell hg _).setCell hg _).setCell hg _).setCell hg _).setCell hg _).setCell hg _).setCell hg _
/-- The walk behind k blocks: the state's block g, and the memory that the bytes lie in. -/
structure WG (w : World) (g : Nat) (s D : List Int) (w5 : World) (k : Nat) (wr : World) : Prop where
  bs : wr.heap[g]? = some (.cells (nums .u32 (fold5 s D k)).toArray 89 (0, 0))
  below : Below w.heap.size w wr
  same : ∀ j, j < w5.heap.size → wr.heap[j]? = w5.heap[j]?
  size : w5.heap.size ≤ wr.heap.size
theorem cells8 {W : World} {g : Nat} {T : TypeId} {x0 x1 x2 x3 x4 x5 x6 x7 : Int} (h : W.heap[g]? = some (.cells #[.int .u32 x0, .int .u32 x1, .int .u32 x2, .int .u32 x3, .int .u32 x4, .int .u32 x5, .int .u32 x6, .int .u32 x7] T (0, 0))) : W.cell? ⟨g, 0, none⟩ = some (.int .u32 x0) ∧ W.cell? ⟨g, 1, none⟩ = some (.int .u32 x1) ∧ W.cell? ⟨g, 2, none⟩ = some (.int .u32 x2) ∧ W.cell? ⟨g, 3, none⟩ = some (.int .u32 x3) ∧ W.cell? ⟨g, 4, none⟩ = some (.int .u32 x4) ∧ W.cell? ⟨g, 5, none⟩ = some (.int .u32 x5) ∧ W.cell? ⟨g, 6, none⟩ = some (.int .u32 x6) ∧ W.cell? ⟨g, 7, none⟩ = some (.int .u32 x7) ∧ W.frozen? ⟨g, 0, none⟩ = false ∧ W.frozen? ⟨g, 1, none⟩ = false ∧ W.frozen? ⟨g, 2, none⟩ = false ∧ W.frozen? ⟨g, 3, none⟩ = false ∧ W.frozen? ⟨g, 4, none⟩ = false ∧ W.frozen? ⟨g, 5, none⟩ = false ∧ W.frozen? ⟨g, 6, none⟩ = false ∧ W.frozen? ⟨g, 7, none⟩ = false :=
  ⟨(blk_cell h 0).trans rfl, (blk_cell h 1).trans rfl, (blk_cell h 2).trans rfl, (blk_cell h 3).trans rfl, (blk_cell h 4).trans rfl, (blk_cell h 5).trans rfl, (blk_cell h 6).trans rfl, (blk_cell h 7).trans rfl, blk_frozen h 0, blk_frozen h 1, blk_frozen h 2, blk_frozen h 3, blk_frozen h 4, blk_frozen h 5, blk_frozen h 6, blk_frozen h 7⟩
set_option maxRecDepth 100000 in
set_option maxHeartbeats 4000000 in
theorem rsum_any (A0 : Option Addr) (c0 : Nat) (b : List Int) (w : World) (hr : Kd.C (Kd.int .u8) w A0 b.length b) (hc : b.length ≤ c0) (hbB : inB 8 b) (hbl : b.length ≤ 140737488351232) :
    Calls Try.prog 47 #[.slice A0 b.length c0] w fun e w' => ∃ v0_ : Value, e = .returned v0_ ∧ Kd.R (Kd.int .u8) 5 w' w.heap.size (fun _ => True) v0_ (sum5 b) ∧ Below w.heap.size w w' := by
  have hb0 : (b.length : Int) ≤ 140737488351232 := by omega
  have HL := Lib.hid hbl
  have HR := Lib.hid hr
  obtain ⟨s, hse⟩ : ∃ s, s = S5 := ⟨_, rfl⟩
  have hs : s.length = 8 := by rw [hse]; exact S5_length
  have hsB : inB 32 s := by rw [hse]; exact S5_in
  have HST : Hid (∀ w, Calls Try.prog 65 #[] w fun e w' => e = .returned (.agg (nums .u32 s).toArray) ∧ Below w.heap.size w w') := by rw [hse]; exact rstart5_any
  have HSE := Lib.hid hse
  clear hr hse
  go_enter Try.func47, Try.ntmps47
  go_wp2_with (first | ((with_reducible refine gate_builtin (b := .append) (xs := #[.const (.slice none 0 0), .tmp 9]) rfl ?_); at_builtin; refine Kd.R_append_rows (Kd.int .u8) (w0 := w) w.heap.size rfl (.const (.slice none 0 0)) (.tmp 9) 22 5 (.int .u8 0) 1 rfl Try.underlying22 infoU8 rfl (by decide) (by omega) (.slice none 0 0) ([] : List Int) b _ _ _ (fun _ => True) (fun _ => False) rfl rfl ?aO ?aR (fun _ _ h => h) (fun _ h => h.elim) ?aF ?aB ?aS ?aL ?_; (case aR => exact HR.out); (case aB => exact Below.refl _ _); (case aF => exact (fun _ _ => trivial)); (case aO => exact Kd.R_nil _ _ _ _ _); (case aS => exact Nat.le_refl _); (case aL => have := HL.out; simp; omega); intro v3 w3 ho hb3 hg3 hat3))
  have HO3 := Lib.hid ho
  have HB3 := Lib.hid hb3
  clear ho hb3 hg3 hat3
  refine (sconceref11_Pad.calls 200 b.length (pd5 b.length) w3 (rpad5 _ b.length (by rw [if_neg (by omega)]) (by have := HL.out; omega) 200 (Nat.le_refl _))).mono ?_
  rintro e w4 ⟨vp, rfl, hRp, hbp⟩
  obtain ⟨Ap, cp, hvp, hlp, hCp⟩ := Kd.R_reads hRp
  subst hvp
  obtain ⟨Ao, co, hvo⟩ := Kd.R_slice HO3.out
  subst hvo
  have HO4 := Lib.hid (Kd.R_below HO3.out hbp)
  have HB4 : Hid (Below w.heap.size w w4) := HB3.out.trans (hbp.mono HB3.out.size)
  have HCp := Lib.hid hCp
  clear hbp hRp hCp hlp HO3 HB3
  have HPL : Hid ((pd5 b.length).length ≤ 72) := by rw [pd5_length]; exact padL5_le _
  go_wp2_with (first | ((with_reducible refine gate_builtin (b := .append) (xs := #[.tmp 10, .tmp 13]) rfl ?_); at_builtin; refine Kd.R_append_rows (Kd.int .u8) (w0 := w) w.heap.size rfl (.tmp 10) (.tmp 13) 22 5 (.int .u8 0) 1 rfl Try.underlying22 infoU8 rfl (by decide) (by omega) _ ([] ++ b) (pd5 b.length) _ _ _ (fun _ => True) (fun _ => False) rfl rfl ?aO ?aR (fun _ _ h => h) (fun _ h => h.elim) ?aF ?aB ?aS ?aL ?_; (case aR => exact HCp.out); (case aB => exact HB4.out); (case aF => exact (fun _ _ => trivial)); (case aO => exact HO4.out); (case aS => exact HB4.out.size); (case aL => have := HL.out; have := HPL.out; simp only [List.nil_append]; omega); intro v5 w5 ho hb5 hg5 hat5))
  obtain ⟨A5, c5, hv5, hl5, hC5⟩ := Kd.R_reads ho
  subst hv5
  obtain ⟨D, hD⟩ : ∃ D, D = [] ++ b ++ pd5 b.length := ⟨_, rfl⟩
  have hDa : D = all5 b := by rw [hD, all5, List.nil_append]
  rw [← hD] at ho hl5 hC5
  rw [← hD]
  obtain ⟨nb, hnb⟩ : ∃ nb, nb = D.length / 64 := ⟨_, rfl⟩
  have hDl : D.length = 64 * nb := by
    have e1 : D.length = b.length + padL5 b.length := by rw [hDa, all5_length]
    have e2 := padL5_mod b.length
    omega
  have hDB : inB 8 D := by rw [hDa]; exact inB_append hbB (pd5_in _)
  have hDm : D.length ≤ 140737488355328 := by rw [hDa, all5_length]; have := HL.out; have := padL5_le b.length; omega
  have hD1 : 64 ≤ D.length := by
    have e1 : D.length = b.length + padL5 b.length := by rw [hDa, all5_length]
    have e2 := padL5_mod b.length
    have e3 : 9 ≤ padL5 b.length := by unfold padL5; omega
    omega
  obtain ⟨T, hT⟩ : ∃ T, T = D.length := ⟨_, rfl⟩
  rw [← hT] at hl5 hC5 hDl hDm hD1
  rw [← hT]
  have HC5 := Lib.hid hC5
  have HDa := Lib.hid hDa
  have HD8 := Lib.hid hDB
  have HDl := Lib.hid hDl
  have HT := Lib.hid hT
  have hl5' : (T : Int) ≤ (c5 : Int) := by omega
  have HB5 := Lib.hid hb5
  have hT0 : (T : Int) ≤ 140737488355328 := by omega
  clear hD hDa hDB hnb hDl hC5 ho hg5 hat5 HCp HO4 HB4 hb5 hT
  refine (HST.out w5).mono ?_
  rintro e w6 ⟨rfl, hb6⟩
  have HB6 := Lib.hid hb6
  clear hb6
  have hsz : (nums .u32 s).toArray.size = 8 := by simp [nums, hs]
  have HSZ : Hid ((Try.prog.info? 89).map (·.size) = some (nums .u32 s).toArray.size) := by
    show (Try.prog.info? 89).map (·.size) = some (nums .u32 s).toArray.size
    rw [hsz]; kernel_rfl
  have HOZ : Hid ((#[.int .u32 0, .int .u32 0, .int .u32 0, .int .u32 0, .int .u32 0, .int .u32 0, .int .u32 0, .int .u32 0] : Array Value).size = (nums .u32 s).toArray.size) := by rw [hsz]; exact rfl
  have H1C : Hid ((nums .u32 s).toArray.all (·.oneCell') = true) := by show (nums .u32 s).toArray.all (·.oneCell') = true; simp [nums]; intro _ _; rfl
  clear hsz
  go_wp2_with (first | (with_reducible refine wpList_store_row rfl 89 (.tmp 4) (.tmp 15) rfl w6.heap.size (nums .u32 s).toArray (by simp [Act.eval, Act.put]) (by simp [Act.eval, Act.put]) 89 #[.int .u32 0, .int .u32 0, .int .u32 0, .int .u32 0, .int .u32 0, .int .u32 0, .int .u32 0, .int .u32 0] (by rw [heap_at, if_pos rfl]) HSZ.out HOZ.out H1C.out ?_))
  obtain ⟨g, hg⟩ : ∃ g, g = w6.heap.size := ⟨_, rfl⟩
  have hg5 : w5.heap.size ≤ g := by rw [hg]; exact HB6.out.size
  have hgw : Hid (w.heap.size ≤ g) := Nat.le_trans HB5.out.size hg5
  obtain ⟨w7, hw7⟩ : ∃ w7, w7 = (w6.alloc (.cells #[.int .u32 0, .int .u32 0, .int .u32 0, .int .u32 0, .int .u32 0, .int .u32 0, .int .u32 0, .int .u32 0] 89)).setRow w6.heap.size (nums .u32 s).toArray := ⟨_, rfl⟩
  have H7 : Hid (WG w g s D w5 0 w7) := by
    rw [hw7]
    refine ⟨?_, ?_, fun j hj => ?_, ?_⟩
    · rw [hg]; exact setRow_heap _ _ _ _ _ _ (by rw [heap_at, if_pos rfl])
    · exact below_setRow' ((HB5.out.trans (HB6.out.mono HB5.out.size)).alloc (Nat.le_trans HB5.out.size HB6.out.size) _) (by rw [← hg]; exact hgw.out) _
    · have := HB6.out.size
      rw [setRow_other _ _ _ _ (by omega), heap_at, if_neg (by omega)]
      exact HB6.out.block j hj
    · rw [setRow_size]; simp; have := HB6.out.size; omega
  rw [← hw7, ← hg]
  have hg5' := Lib.hid hg5
  clear hw7 hg hg5
  go_loopw [5] (fun i wr => ∃ (m k : Nat), i = .int .i64 m ∧ k ≤ nb ∧ Hid (m = 64 * k) ∧ Hid (WG w g s D w5 k wr)) (fun i _ => T - (intOf i).toNat)
  case atStart => exact ⟨0, 0, rfl, by omega, rfl, H7⟩
  case round =>
    obtain ⟨m, k, rfl, hk, hm, hW⟩ := hrel
    by_cases hlt : m < T
    · have hkn : k < nb := by have := hm.out; have := HDl.out; omega
      have hm1 : m + 64 ≤ T := by have := hm.out; have := HDl.out; omega
      have hDi : (D.drop m).length = T - m := by rw [List.length_drop, HT.out]
      obtain ⟨S, hS⟩ : ∃ S, S = fold5 s D k := ⟨_, rfl⟩
      have hSl : S.length = 8 := by rw [hS]; exact fold5_length D hs k
      have hSi : inB 32 S := by rw [hS]; exact fold5_in D hsB k
      have hbk : (((D.drop m).take 64)).length = 64 := by rw [List.length_take, hDi]; omega
      obtain ⟨ad0, hA5, _⟩ := (Kd.reads_of_C (d := (0 : Int)) HC5.out).2.2 (by omega)
      subst hA5
      have HCw : Hid (∀ W : World, W.heap = wr.heap → Kd.C (Kd.int .u8) W (some (ad0.add m)) (D.drop m).length (D.drop m)) := fun W hWe => by
        have hC1 : Kd.C (Kd.int .u8) W (some ad0) D.length D := by
          rw [← HT.out]
          refine C_blk HC5.out fun ad e => ?_
          rw [hWe]
          have h1 := Kd.reads_of_C (d := (0 : Int)) HC5.out
          obtain ⟨ad', e', hc'⟩ := h1.2.2 (by omega)
          have e2 : ad = ad' := by rw [e] at e'; exact Option.some.inj e'
          subst e2
          have hlt2 := World.block_lt_of_cell? _ _ (hc' 0 (by omega))
          rw [addr_block] at hlt2
          exact hW.out.same _ hlt2
        have hC2 := Kd.C_drop hC1 (m := m) (c := c5) (by rw [← HT.out]; omega) (by rw [← HT.out]; omega)
        rw [if_neg (by omega)] at hC2
        simpa [show (Kd.int IntKind.u8).sz = 1 from rfl] using hC2
      obtain ⟨y0, y1, y2, y3, y4, y5, y6, y7, hY⟩ := eight (blk5_length S ((D.drop m).take 64))
      obtain ⟨x0, x1, x2, x3, x4, x5, x6, x7, hSe⟩ := eight hSl
      have HBk : Hid (∀ W : World, W.heap = wr.heap → Calls Try.prog 66 #[.agg #[.int .u32 x0, .int .u32 x1, .int .u32 x2, .int .u32 x3, .int .u32 x4, .int .u32 x5, .int .u32 x6, .int .u32 x7], .slice (some (ad0.add m)) 64 (c5 - m)] W fun e w' => e = .returned (.tuple #[.agg #[.int .u32 y0, .int .u32 y1, .int .u32 y2, .int .u32 y3, .int .u32 y4, .int .u32 y5, .int .u32 y6, .int .u32 y7], .bool true]) ∧ Below W.heap.size W w') := fun W hWe => by
        have hC2 := Kd.C_take (HCw.out W hWe) (m := 64) (by rw [hDi]; omega)
        have := block_ok S hSl hSi (some (ad0.add m)) (c5 - m) ((D.drop m).take 64) W hC2 (by rw [hbk]; omega) hbk (inB_take (inB_drop HD8.out _) _)
        rw [hbk, hY, hSe] at this
        exact this
      have HS := Lib.hid hS
      have HY := Lib.hid hY
      have hbs := hW.out.bs
      rw [← hS, hSe] at hbs
      have HBS := Lib.hid hbs
      have m1 : (m : Int) < (T : Int) := by omega
      have m2 : ((m : Int) + 64).toNat = m + 64 := by omega
      have m3 : ¬ m = c5 := by omega
      have m4 : m ≤ m + 64 := by omega
      have m5 : m + 64 - m = 64 := by omega
      have m6 : (m : Int) + 64 ≤ (c5 : Int) := by omega
      have m7 : IntKind.i64.wrap ((m : Int) + 64) = (m : Int) + 64 := IntWalk.i64_in _ ⟨by omega, by omega⟩
      have m8 : m + 64 ≤ c5 := by omega
      have m9 : (0 : Int) ≤ (m : Int) + 64 := by omega
      have m10 : ¬ c5 = m := by omega
      clear hS hY hSl hSi hbk hbs hSe hDi
      obtain ⟨q0, q1, q2, q3, q4, q5, q6, q7, f0, f1, f2, f3, f4, f5, f6, f7⟩ := cells8 HBS.out
      go_wp2_with fail
      go_region_law (first | (go_simp; go_at_call 66; (with_reducible refine (HBk.out _ ?hW).mono ?_); (case hW => exact rfl); rintro _ w8 ⟨rfl, hb8⟩; (have hsw8 := (hb8.block _ (Array.getElem?_eq_some_iff.1 HBS.out).1).trans HBS.out); (obtain ⟨p0, p1, p2, p3, p4, p5, p6, p7, g0, g1, g2, g3, g4, g5, g6, g7⟩ := cells8 hsw8)))
      have HW8 : Hid (WG w g s D w5 (k + 1) (put8 w8 g y0 y1 y2 y3 y4 y5 y6 y7)) := by
        have hz8 : wr.heap.size ≤ w8.heap.size := hb8.size
        refine ⟨?_, put8_below (hW.out.below.trans (Below.mono (show Below wr.heap.size wr w8 from (Below.refl _ _).drew.trans hb8) hW.out.below.size)) hgw.out y0 y1 y2 y3 y4 y5 y6 y7, fun j hj => ?_, ?_⟩
        · rw [put8_at y0 y1 y2 y3 y4 y5 y6 y7 hsw8, show fold5 s D (k + 1) = blk5 (fold5 s D k) ((D.drop (64 * k)).take 64) from rfl, ← HS.out, ← hm.out, HY.out]
          rfl
        · have hne : j ≠ g := by have := hg5'.out; omega
          rw [put8_other _ _ _ y0 y1 y2 y3 y4 y5 y6 y7 hne]
          have h1 := hb8.block j (show j < wr.heap.size from Nat.lt_of_lt_of_le hj hW.out.size)
          exact h1.trans (hW.out.same j hj)
        · rw [put8_size]
          exact Nat.le_trans hW.out.size hz8
      clear hb8 hsw8 hW
      go_wp2_with fail
      go_roundw
      case rel => exact ⟨m + 64, k + 1, by go_num, by omega, by have := hm.out; show m + 64 = 64 * (k + 1); omega, HW8⟩
      case measure => simp [intOf]; omega
    · have hmT : T ≤ m := by omega
      obtain rfl : k = nb := by have := hm.out; have := HDl.out; omega
      obtain ⟨S, hS⟩ : ∃ S, S = fold5 s D k := ⟨_, rfl⟩
      have hSl : S.length = 8 := by rw [hS]; exact fold5_length D hs k
      have hSi : inB 32 S := by rw [hS]; exact fold5_in D hsB k
      have hbs := hW.out.bs
      rw [← hS] at hbs
      have HBW := Lib.hid hW.out.below
      have hSz : (nums .u32 S).toArray.size = 8 := by simp [nums, hSl]
      have hkz : (Try.prog.info? 89).map (·.size) = some (nums .u32 S).toArray.size := by rw [hSz]; kernel_rfl
      have HKZ := Lib.hid hkz
      have HBS := Lib.hid hbs
      have HS := Lib.hid hS
      have HSL := Lib.hid hSl
      have HSI := Lib.hid hSi
      clear hS hSl hSi hbs hSz hkz hW
      go_wp2_with (first | (with_reducible refine wpList_load_row rfl 89 (.tmp 4) rfl g (by simp [Act.eval, Act.put]) 89 (nums .u32 S).toArray (0, 0) _ HBS.out Try.underlying89 rfl HKZ.out ?_))
      go_loopw [6, 33] (fun v ix w6 => ∃ k : Nat, k ≤ 8 ∧ ix = .int .i64 k ∧ Hid (Kd.R (Kd.int .u8) 5 w6 w.heap.size (fun _ => True) v (out5 (S.take k))) ∧ Hid (Below w.heap.size w w6)) (fun _ ix _ => 8 - (intOf ix).toNat)
      case atStart => exact ⟨0, by omega, rfl, Kd.R_nil _ _ _ _ _, HBW⟩
      case round =>
        obtain ⟨k, hk, rfl, hR, hB⟩ := hrel
        by_cases hk8 : k < 8
        · have hix : (nums .u32 S).toArray[k]? = some (.int .u32 (S.getD k 0)) := B5.nums_at (by rw [HSL.out]; exact hk8)
          have hidx : ∀ W : World, (Instr.index 89 (.agg (nums .u32 S).toArray) (.int .i64 (k : Int))).run Try.prog W = .ok (.int .u32 (S.getD k 0)) W := fun W => run_index_arr Try.prog 89 88 8 _ k _ .u32 W Try.underlying89 Try.underlying88 (by kernel_rfl) hk8 hix
          clear hix
          obtain ⟨x, hx⟩ : ∃ x, x = S.getD k 0 := ⟨_, rfl⟩
          rw [← hx] at hidx
          have hx0 : 0 ≤ x := by rw [hx]; exact (inB_getD HSI.out k).1
          have HX := Lib.hid hx
          have HK8 := Lib.hid hk8
          clear hx
          have HR2 := Lib.hid hR.out
          have HB2 := Lib.hid hB.out
          have HLO : Hid ((out5 (S.take k)).length ≤ 32) := by
            show (out5 (S.take k)).length ≤ 32
            rw [out5_length, List.length_take, HSL.out]; omega
          clear hR hB
          go_wp2_with (first
            | ((with_reducible refine gate_dst (N := 48) rfl ?_); refine Kd.R_lit (Kd.int .u8) _ 5 ?hg (N := 48) ?hd (xs := bytes5 x) (inner := [.int .u8 (x / 16777216 % 256), .int .u8 (x / 65536 % 256), .int .u8 (x / 256 % 256), .int .u8 (x % 256)]) (ok := fun _ => True) (okp := fun _ => True) ?hr ?hp (fun _ hk => hk) trivial (Below.refl _ _) (Nat.le_refl _) (by simp [bytes5]) ?_; (case hd => rfl); (case hg => rfl); (case hr => first | (go_simp; done) | (go_simp; rfl)); (case hp => exact (Reps.one (show Kd.M (Kd.int .u8) _ _ _ _ [.int .u8 (x / 16777216 % 256)] from rfl) (Reps.one (show Kd.M (Kd.int .u8) _ _ _ _ [.int .u8 (x / 65536 % 256)] from rfl) (Reps.one (show Kd.M (Kd.int .u8) _ _ _ _ [.int .u8 (x / 256 % 256)] from rfl) (Reps.one (show Kd.M (Kd.int .u8) _ _ _ _ [.int .u8 (x % 256)] from rfl) (Reps.none _ _)))))); intro v9 w9 ho9 hb9 hg9 hn9; clear hg9 hn9; (have HR9 := Lib.hid (Kd.R_below HR2.out hb9)); (have HB9 : Hid (Below w.heap.size w w9) := HB2.out.trans (hb9.mono HB2.out.size)); (obtain ⟨A9, c9, hv9, hl9, hC9⟩ := Kd.R_reads ho9); (have HC9 := Lib.hid hC9); subst hv9; clear ho9 hb9 hl9 hC9)
            | ((with_reducible refine gate_builtin (b := .append) (xs := #[.tmp 36, .tmp 48]) rfl ?_); at_builtin; refine Kd.R_append_rows (Kd.int .u8) (w0 := w) w.heap.size rfl (.tmp 36) (.tmp 48) 22 5 (.int .u8 0) 1 rfl Try.underlying22 infoU8 rfl (by decide) (by omega) _ (out5 (S.take k)) (bytes5 x) _ _ _ (fun _ => True) (fun _ => False) rfl rfl ?aO ?aR (fun _ _ h => h) (fun _ h => h.elim) ?aF ?aB ?aS ?aL ?_; (case aR => exact HC9.out); (case aB => exact HB9.out); (case aF => exact (fun _ _ => trivial)); (case aO => exact HR9.out); (case aS => exact HB9.out.size); (case aL => have := HLO.out; simp [bytes5]; omega); intro v8 w8 ho hb hg hat; (have HR4 := Lib.hid ho); (have HB4 := Lib.hid hb); clear ho hb hg hat))
          go_roundw
          case rel => exact ⟨k + 1, by have := HK8.out; omega, by go_num, by rw [← out5_step S k (by rw [HSL.out]; exact HK8.out), ← HX.out]; exact HR4, HB4⟩
          case measure => have := HK8.out; simp [intOf]; omega
        · obtain rfl : k = 8 := by omega
          have HR3 := Lib.hid hR.out
          have HB3 := Lib.hid hB.out
          clear hR hB
          have hfin : out5 (S.take 8) = sum5 b := by
            rw [List.take_of_length_le (by rw [HSL.out]; exact Nat.le_refl _), sum5, st5, HS.out, HDa.out, HSE.out]
            congr 2
            have h1 := HDl.out
            have h2 := HT.out
            rw [HDa.out, all5_length] at h2
            omega
          have HF := Lib.hid hfin
          clear hfin
          go_wp2_with fail
          go_ret
          exact ⟨_, rfl, by rw [← HF.out]; exact HR3.out, HB3.out⟩
end Go.Proofs.Ytincnnmojgphmaa.H.R11
namespace Go.Proofs.Ytincnnmojgphmaa.H
open Go.RowKit Go.Proofs.YtincnnmojgphmaaW.PrintWords Go.Proofs.Ytincnnmojgphmaa.Sha
def sconceref11_Sum.f (l0 : List Int) : Option (List Int) := if inB 8 l0 ∧ l0.length ≤ 140737488351232 then some (sum5 l0) else none
theorem sconceref11_Sum.calls (A0 : Option Addr) (c0 : Nat) (l0 : List Int) (r : List Int) (w : World) (hr0 : Kd.C (Kd.int .u8) w A0 l0.length l0) (hc0 : l0.length ≤ c0) (h : sconceref11_Sum.f l0 = some r) :
    Calls Try.prog 47 #[.slice A0 l0.length c0] w fun e w' => ∃ v0_ : Value, e = .returned v0_ ∧ Kd.R (Kd.int .u8) 5 w' w.heap.size (fun _ => True) v0_ r ∧ Below w.heap.size w w' := by
  unfold sconceref11_Sum.f at h
  split at h
  · rename_i hb
    obtain rfl := Option.some.inj h
    exact R11.rsum_any A0 c0 l0 w hr0 hc0 hb.1 hb.2
  · cases h
end Go.Proofs.Ytincnnmojgphmaa.H
