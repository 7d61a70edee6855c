/- The reference's Sum of chapter 12, by walking its text. -/
import Derived.Test.YtincnnmojgphmaaSha25
import Derived.Test.YtincnnmojgphmaaHRef
set_option linter.unusedVariables false
set_option linter.unusedSimpArgs false
namespace Go.Proofs.Ytincnnmojgphmaa.H.R12
open Go.RowKit Go.Proofs.YtincnnmojgphmaaW.PrintWords Go.Proofs.YtincnnmojgphmaaW.PrintLast Go.Proofs.Ytincnnmojgphmaa.Sha Go.Proofs.YtincnnmojgphmaaW.PrintMore Go.Proofs.Ytincnnmojgphmaa.H Go.Proofs.Ytincnnmojgphmaa.PS
attribute [local go_sem] Oper.semAt_some max2_int min2_int max_two min_two

/-- The walk behind k blocks: the state's block g, and the memory that the bytes lie in. -/
structure WG (w : World) (g : Nat) (s D : List Int) (w5 : World) (k : Nat) (wr : World) : Prop where
  bs : wr.heap[g]? = some (.cells (nums .u64 (fold6 s D k)).toArray 93 (0, 0))
  below : Below w.heap.size w wr
  same : ∀ j, j < w5.heap.size → wr.heap[j]? = w5.heap[j]?
  size : w5.heap.size ≤ wr.heap.size
theorem cells8 {W : World} {g : Nat} {T : TypeId} {x0 x1 x2 x3 x4 x5 x6 x7 : Int} (h : W.heap[g]? = some (.cells #[.int .u64 x0, .int .u64 x1, .int .u64 x2, .int .u64 x3, .int .u64 x4, .int .u64 x5, .int .u64 x6, .int .u64 x7] T (0, 0))) : W.cell? ⟨g, 0, none⟩ = some (.int .u64 x0) ∧ W.cell? ⟨g, 1, none⟩ = some (.int .u64 x1) ∧ W.cell? ⟨g, 2, none⟩ = some (.int .u64 x2) ∧ W.cell? ⟨g, 3, none⟩ = some (.int .u64 x3) ∧ W.cell? ⟨g, 4, none⟩ = some (.int .u64 x4) ∧ W.cell? ⟨g, 5, none⟩ = some (.int .u64 x5) ∧ W.cell? ⟨g, 6, none⟩ = some (.int .u64 x6) ∧ W.cell? ⟨g, 7, none⟩ = some (.int .u64 x7) ∧ W.frozen? ⟨g, 0, none⟩ = false ∧ W.frozen? ⟨g, 1, none⟩ = false ∧ W.frozen? ⟨g, 2, none⟩ = false ∧ W.frozen? ⟨g, 3, none⟩ = false ∧ W.frozen? ⟨g, 4, none⟩ = false ∧ W.frozen? ⟨g, 5, none⟩ = false ∧ W.frozen? ⟨g, 6, none⟩ = false ∧ W.frozen? ⟨g, 7, none⟩ = false :=
  ⟨(blk_cell h 0).trans rfl, (blk_cell h 1).trans rfl, (blk_cell h 2).trans rfl, (blk_cell h 3).trans rfl, (blk_cell h 4).trans rfl, (blk_cell h 5).trans rfl, (blk_cell h 6).trans rfl, (blk_cell h 7).trans rfl, blk_frozen h 0, blk_frozen h 1, blk_frozen h 2, blk_frozen h 3, blk_frozen h 4, blk_frozen h 5, blk_frozen h 6, blk_frozen h 7⟩
set_option maxRecDepth 100000 in
set_option maxHeartbeats 4000000 in
theorem rsum_any (sh : Bool) (A0 : Option Addr) (c0 : Nat) (b : List Int) (w : World) (hr : Kd.C (Kd.int .u8) w A0 b.length b) (hc : b.length ≤ c0) (hbB : inB 8 b) (hbl : b.length ≤ 140737488351232) :
    Calls Try.prog 48 #[.slice A0 b.length c0, .bool sh] w fun e w' => ∃ v0_ : Value, e = .returned v0_ ∧ Kd.R (Kd.int .u8) 5 w' w.heap.size (fun _ => True) v0_ (if sh = true then (sum6 (S6 sh) b).take 48 else sum6 (S6 sh) b) ∧ Below w.heap.size w w' := by
  have hb0 : (b.length : Int) ≤ 140737488351232 := by omega
  have HL := Lib.hid hbl
  have HR := Lib.hid hr
  obtain ⟨s, hse⟩ : ∃ s, s = S6 sh := ⟨_, rfl⟩
  have hs : s.length = 8 := by rw [hse]; exact S6_length _
  have hsB : inB 64 s := by rw [hse]; exact S6_in _
  have HST : Hid (∀ w, Calls Try.prog 68 #[.bool sh] w fun e w' => e = .returned (.agg (nums .u64 s).toArray) ∧ Below w.heap.size w w') := by rw [hse]; exact rstart_any sh
  rw [← hse]
  have HSE := Lib.hid hse
  clear hr hse
  go_enter Try.func48, Try.ntmps48
  go_wp2_with (first | ((with_reducible refine gate_builtin (b := .append) (xs := #[.const (.slice none 0 0), .tmp 12]) rfl ?_); at_builtin; refine Kd.R_append_rows (Kd.int .u8) (w0 := w) w.heap.size rfl (.const (.slice none 0 0)) (.tmp 12) 22 5 (.int .u8 0) 1 rfl Try.underlying22 infoU8 rfl (by decide) (by omega) (.slice none 0 0) ([] : List Int) b _ _ _ (fun _ => True) (fun _ => False) rfl rfl ?aO ?aR (fun _ _ h => h) (fun _ h => h.elim) ?aF ?aB ?aS ?aL ?_; (case aR => exact HR.out); (case aB => exact Below.refl _ _); (case aF => exact (fun _ _ => trivial)); (case aO => exact Kd.R_nil _ _ _ _ _); (case aS => exact Nat.le_refl _); (case aL => have := HL.out; simp; omega); intro v3 w3 ho hb3 hg3 hat3))
  have HO3 := Lib.hid ho
  have HB3 := Lib.hid hb3
  clear ho hb3 hg3 hat3
  refine (sconceref12_Pad.calls 200 b.length (pd6 b.length) w3 (rpad6 _ b.length (by rw [if_neg (by omega)]) (by have := HL.out; omega) 200 (Nat.le_refl _))).mono ?_
  rintro e w4 ⟨vp, rfl, hRp, hbp⟩
  obtain ⟨Ap, cp, hvp, hlp, hCp⟩ := Kd.R_reads hRp
  subst hvp
  obtain ⟨Ao, co, hvo⟩ := Kd.R_slice HO3.out
  subst hvo
  have HO4 := Lib.hid (Kd.R_below HO3.out hbp)
  have HB4 : Hid (Below w.heap.size w w4) := HB3.out.trans (hbp.mono HB3.out.size)
  have HCp := Lib.hid hCp
  clear hbp hRp hCp hlp HO3 HB3
  have HPL : Hid ((pd6 b.length).length ≤ 144) := by rw [pd6_length]; exact padL_le _
  go_wp2_with (first | ((with_reducible refine gate_builtin (b := .append) (xs := #[.tmp 13, .tmp 16]) rfl ?_); at_builtin; refine Kd.R_append_rows (Kd.int .u8) (w0 := w) w.heap.size rfl (.tmp 13) (.tmp 16) 22 5 (.int .u8 0) 1 rfl Try.underlying22 infoU8 rfl (by decide) (by omega) _ ([] ++ b) (pd6 b.length) _ _ _ (fun _ => True) (fun _ => False) rfl rfl ?aO ?aR (fun _ _ h => h) (fun _ h => h.elim) ?aF ?aB ?aS ?aL ?_; (case aR => exact HCp.out); (case aB => exact HB4.out); (case aF => exact (fun _ _ => trivial)); (case aO => exact HO4.out); (case aS => exact HB4.out.size); (case aL => have := HL.out; have := HPL.out; simp only [List.nil_append]; omega); intro v5 w5 ho hb5 hg5 hat5))
  obtain ⟨A5, c5, hv5, hl5, hC5⟩ := Kd.R_reads ho
  subst hv5
  obtain ⟨D, hD⟩ : ∃ D, D = [] ++ b ++ pd6 b.length := ⟨_, rfl⟩
  have hDa : D = all6 b := by rw [hD, all6, List.nil_append]
  rw [← hD] at ho hl5 hC5
  rw [← hD]
  obtain ⟨nb, hnb⟩ : ∃ nb, nb = D.length / 128 := ⟨_, rfl⟩
  have hDl : D.length = 128 * nb := by
    have e1 : D.length = b.length + padL b.length := by rw [hDa, all6_length]
    have e2 := padL_mod b.length
    omega
  have hDB : inB 8 D := by rw [hDa]; exact inB_append hbB (pd6_in _ (by have := HL.out; omega))
  have hDm : D.length ≤ 140737488355328 := by rw [hDa, all6_length]; have := HL.out; have := padL_le b.length; omega
  have hD1 : 128 ≤ D.length := by
    have e1 : D.length = b.length + padL b.length := by rw [hDa, all6_length]
    have e2 := padL_mod b.length
    have e3 : 17 ≤ padL b.length := by unfold padL; omega
    omega
  obtain ⟨T, hT⟩ : ∃ T, T = D.length := ⟨_, rfl⟩
  rw [← hT] at hl5 hC5 hDl hDm hD1
  rw [← hT]
  have HC5 := Lib.hid hC5
  have HDa := Lib.hid hDa
  have HD8 := Lib.hid hDB
  have HDl := Lib.hid hDl
  have HT := Lib.hid hT
  have hl5' : (T : Int) ≤ (c5 : Int) := by omega
  have HB5 := Lib.hid hb5
  have hT0 : (T : Int) ≤ 140737488355328 := by omega
  clear hD hDa hDB hnb hDl hC5 ho hg5 hat5 HCp HO4 HB4 hb5 hT
  refine (HST.out w5).mono ?_
  rintro e w6 ⟨rfl, hb6⟩
  have HB6 := Lib.hid hb6
  clear hb6
  have hsz : (nums .u64 s).toArray.size = 8 := by simp [nums, hs]
  have HSZ : Hid ((Try.prog.info? 93).map (·.size) = some (nums .u64 s).toArray.size) := by
    show (Try.prog.info? 93).map (·.size) = some (nums .u64 s).toArray.size
    rw [hsz]; kernel_rfl
  have HOZ : Hid ((#[.int .u64 0, .int .u64 0, .int .u64 0, .int .u64 0, .int .u64 0, .int .u64 0, .int .u64 0, .int .u64 0] : Array Value).size = (nums .u64 s).toArray.size) := by rw [hsz]; exact rfl
  have H1C : Hid ((nums .u64 s).toArray.all (·.oneCell') = true) := by show (nums .u64 s).toArray.all (·.oneCell') = true; simp [nums]; intro _ _; rfl
  clear hsz
  go_wp2_with (first | (with_reducible refine wpList_store_row rfl 93 (.tmp 6) (.tmp 19) rfl w6.heap.size (nums .u64 s).toArray (by simp [Act.eval, Act.put]) (by simp [Act.eval, Act.put]) 93 #[.int .u64 0, .int .u64 0, .int .u64 0, .int .u64 0, .int .u64 0, .int .u64 0, .int .u64 0, .int .u64 0] (by rw [heap_at, if_pos rfl]) HSZ.out HOZ.out H1C.out ?_))
  obtain ⟨g, hg⟩ : ∃ g, g = w6.heap.size := ⟨_, rfl⟩
  have hg5 : w5.heap.size ≤ g := by rw [hg]; exact HB6.out.size
  have hgw : Hid (w.heap.size ≤ g) := Nat.le_trans HB5.out.size hg5
  obtain ⟨w7, hw7⟩ : ∃ w7, w7 = (w6.alloc (.cells #[.int .u64 0, .int .u64 0, .int .u64 0, .int .u64 0, .int .u64 0, .int .u64 0, .int .u64 0, .int .u64 0] 93)).setRow w6.heap.size (nums .u64 s).toArray := ⟨_, rfl⟩
  have H7 : Hid (WG w g s D w5 0 w7) := by
    rw [hw7]
    refine ⟨?_, ?_, fun j hj => ?_, ?_⟩
    · rw [hg]; exact setRow_heap _ _ _ _ _ _ (by rw [heap_at, if_pos rfl])
    · exact below_setRow' ((HB5.out.trans (HB6.out.mono HB5.out.size)).alloc (Nat.le_trans HB5.out.size HB6.out.size) _) (by rw [← hg]; exact hgw.out) _
    · have := HB6.out.size
      rw [setRow_other _ _ _ _ (by omega), heap_at, if_neg (by omega)]
      exact HB6.out.block j hj
    · rw [setRow_size]; simp; have := HB6.out.size; omega
  rw [← hw7, ← hg]
  have hg5' := Lib.hid hg5
  clear hw7 hg hg5
  go_loopw [7] (fun i wr => ∃ (m k : Nat), i = .int .i64 m ∧ k ≤ nb ∧ Hid (m = 128 * k) ∧ Hid (WG w g s D w5 k wr)) (fun i _ => T - (intOf i).toNat)
  case atStart => exact ⟨0, 0, rfl, by omega, rfl, H7⟩
  case round =>
    obtain ⟨m, k, rfl, hk, hm, hW⟩ := hrel
    by_cases hlt : m < T
    · have hkn : k < nb := by have := hm.out; have := HDl.out; omega
      have hm1 : m + 128 ≤ T := by have := hm.out; have := HDl.out; omega
      have hDi : (D.drop m).length = T - m := by rw [List.length_drop, HT.out]
      obtain ⟨S, hS⟩ : ∃ S, S = fold6 s D k := ⟨_, rfl⟩
      have hSl : S.length = 8 := by rw [hS]; exact fold6_length D hs k
      have hSi : inB 64 S := by rw [hS]; exact fold6_in D hsB k
      have hbk : (((D.drop m).take 128)).length = 128 := by rw [List.length_take, hDi]; omega
      obtain ⟨ad0, hA5, _⟩ := (Kd.reads_of_C (d := (0 : Int)) HC5.out).2.2 (by omega)
      subst hA5
      have HCw : Hid (∀ W : World, W.heap = wr.heap → Kd.C (Kd.int .u8) W (some (ad0.add m)) (D.drop m).length (D.drop m)) := fun W hWe => by
        have hC1 : Kd.C (Kd.int .u8) W (some ad0) D.length D := by
          rw [← HT.out]
          refine C_blk HC5.out fun ad e => ?_
          rw [hWe]
          have h1 := Kd.reads_of_C (d := (0 : Int)) HC5.out
          obtain ⟨ad', e', hc'⟩ := h1.2.2 (by omega)
          have e2 : ad = ad' := by rw [e] at e'; exact Option.some.inj e'
          subst e2
          have hlt2 := World.block_lt_of_cell? _ _ (hc' 0 (by omega))
          rw [addr_block] at hlt2
          exact hW.out.same _ hlt2
        have hC2 := Kd.C_drop hC1 (m := m) (c := c5) (by rw [← HT.out]; omega) (by rw [← HT.out]; omega)
        rw [if_neg (by omega)] at hC2
        simpa [show (Kd.int IntKind.u8).sz = 1 from rfl] using hC2
      obtain ⟨y0, y1, y2, y3, y4, y5, y6, y7, hY⟩ := eight (blk6_length S ((D.drop m).take 128))
      obtain ⟨x0, x1, x2, x3, x4, x5, x6, x7, hSe⟩ := eight hSl
      have HBk : Hid (∀ W : World, W.heap = wr.heap → Calls Try.prog 69 #[.agg #[.int .u64 x0, .int .u64 x1, .int .u64 x2, .int .u64 x3, .int .u64 x4, .int .u64 x5, .int .u64 x6, .int .u64 x7], .slice (some (ad0.add m)) 128 (c5 - m)] W fun e w' => e = .returned (.tuple #[.agg #[.int .u64 y0, .int .u64 y1, .int .u64 y2, .int .u64 y3, .int .u64 y4, .int .u64 y5, .int .u64 y6, .int .u64 y7], .bool true]) ∧ Below W.heap.size W w') := fun W hWe => by
        have hC2 := Kd.C_take (HCw.out W hWe) (m := 128) (by rw [hDi]; omega)
        have := block_ok S hSl hSi (some (ad0.add m)) (c5 - m) ((D.drop m).take 128) W hC2 (by rw [hbk]; omega) hbk (inB_take (inB_drop HD8.out _) _)
        rw [hbk, hY, hSe] at this
        exact this
      have HS := Lib.hid hS
      have HY := Lib.hid hY
      have hbs := hW.out.bs
      rw [← hS, hSe] at hbs
      have HBS := Lib.hid hbs
      have m1 : (m : Int) < (T : Int) := by omega
      have m2 : ((m : Int) + 128).toNat = m + 128 := by omega
      have m3 : ¬ m = c5 := by omega
      have m4 : m ≤ m + 128 := by omega
      have m5 : m + 128 - m = 128 := by omega
      have m6 : (m : Int) + 128 ≤ (c5 : Int) := by omega
      have m7 : IntKind.i64.wrap ((m : Int) + 128) = (m : Int) + 128 := IntWalk.i64_in _ ⟨by omega, by omega⟩
      have m8 : m + 128 ≤ c5 := by omega
      have m9 : (0 : Int) ≤ (m : Int) + 128 := by omega
      have m10 : ¬ c5 = m := by omega
      clear hS hY hSl hSi hbk hbs hSe hDi
      obtain ⟨q0, q1, q2, q3, q4, q5, q6, q7, f0, f1, f2, f3, f4, f5, f6, f7⟩ := cells8 HBS.out
      go_wp2_with fail
      go_region_law (first | (go_simp; go_at_call 69; (with_reducible refine (HBk.out _ ?hW).mono ?_); (case hW => exact rfl); rintro _ w8 ⟨rfl, hb8⟩; (have hsw8 := (hb8.block _ (Array.getElem?_eq_some_iff.1 HBS.out).1).trans HBS.out); (obtain ⟨p0, p1, p2, p3, p4, p5, p6, p7, g0, g1, g2, g3, g4, g5, g6, g7⟩ := cells8 hsw8)))
      have HW8 : Hid (WG w g s D w5 (k + 1) (put8 w8 g y0 y1 y2 y3 y4 y5 y6 y7)) := by
        have hz8 : wr.heap.size ≤ w8.heap.size := hb8.size
        refine ⟨?_, put8_below (hW.out.below.trans (Below.mono (show Below wr.heap.size wr w8 from (Below.refl _ _).drew.trans hb8) hW.out.below.size)) hgw.out y0 y1 y2 y3 y4 y5 y6 y7, fun j hj => ?_, ?_⟩
        · rw [put8_at y0 y1 y2 y3 y4 y5 y6 y7 hsw8, show fold6 s D (k + 1) = blk6 (fold6 s D k) ((D.drop (128 * k)).take 128) from rfl, ← HS.out, ← hm.out, HY.out]
          rfl
        · have hne : j ≠ g := by have := hg5'.out; omega
          rw [put8_other _ _ _ y0 y1 y2 y3 y4 y5 y6 y7 hne]
          have h1 := hb8.block j (show j < wr.heap.size from Nat.lt_of_lt_of_le hj hW.out.size)
          exact h1.trans (hW.out.same j hj)
        · rw [put8_size]
          exact Nat.le_trans hW.out.size hz8
      clear hb8 hsw8 hW
      go_wp2_with fail
      go_roundw
      case rel => exact ⟨m + 128, k + 1, by go_num, by omega, by have := hm.out; show m + 128 = 128 * (k + 1); omega, HW8⟩
      case measure => simp [intOf]; omega
    · have hmT : T ≤ m := by omega
      obtain rfl : k = nb := by have := hm.out; have := HDl.out; omega
      obtain ⟨S, hS⟩ : ∃ S, S = fold6 s D k := ⟨_, rfl⟩
      have hSl : S.length = 8 := by rw [hS]; exact fold6_length D hs k
      have hSi : inB 64 S := by rw [hS]; exact fold6_in D hsB k
      have hbs := hW.out.bs
      rw [← hS] at hbs
      have HBW := Lib.hid hW.out.below
      have hSz : (nums .u64 S).toArray.size = 8 := by simp [nums, hSl]
      have hkz : (Try.prog.info? 93).map (·.size) = some (nums .u64 S).toArray.size := by rw [hSz]; kernel_rfl
      have HKZ := Lib.hid hkz
      have HBS := Lib.hid hbs
      have HS := Lib.hid hS
      have HSL := Lib.hid hSl
      have HSI := Lib.hid hSi
      clear hS hSl hSi hbs hSz hkz hW
      go_wp2_with (first | (with_reducible refine wpList_load_row rfl 93 (.tmp 6) rfl g (by simp [Act.eval, Act.put]) 93 (nums .u64 S).toArray (0, 0) _ HBS.out Try.underlying93 rfl HKZ.out ?_))
      go_loopw [8, 37] (fun v ix w6 => ∃ k : Nat, k ≤ 8 ∧ ix = .int .i64 k ∧ Hid (Kd.R (Kd.int .u8) 5 w6 w.heap.size (fun _ => True) v (outTo S k 0)) ∧ Hid (Below w.heap.size w w6)) (fun _ ix _ => 8 - (intOf ix).toNat)
      case atStart => exact ⟨0, by omega, rfl, by rw [outTo_zero]; exact Kd.R_nil _ _ _ _ _, HBW⟩
      case round =>
        obtain ⟨k, hk, rfl, hR, hB⟩ := hrel
        by_cases hk8 : k < 8
        · have hix : (nums .u64 S).toArray[k]? = some (.int .u64 (S.getD k 0)) := by
            rw [List.getElem?_toArray, nums, List.getElem?_map, List.getElem?_eq_getElem (by rw [HSL.out]; exact hk8), List.getD_eq_getElem?_getD, List.getElem?_eq_getElem (by rw [HSL.out]; exact hk8)]; rfl
          have hidx : ∀ W : World, (Instr.index 93 (.agg (nums .u64 S).toArray) (.int .i64 (k : Int))).run Try.prog W = .ok (.int .u64 (S.getD k 0)) W := fun W => run_index_arr Try.prog 93 64 8 _ k _ .u64 W Try.underlying93 Try.underlying64 (by kernel_rfl) hk8 hix
          clear hix
          obtain ⟨x, hx⟩ : ∃ x, x = S.getD k 0 := ⟨_, rfl⟩
          rw [← hx] at hidx
          have hx0 : 0 ≤ x := by rw [hx]; exact (inB_getD HSI.out k).1
          have HX := Lib.hid hx
          have HK8 := Lib.hid hk8
          clear hx
          have HR2 := Lib.hid hR.out
          have HB2 := Lib.hid hB.out
          have hdk : decide ((k : Int) < 8) = true := decide_eq_true (by omega)
          clear hR hB hk8
          go_wp2_with fail
          go_loopw [8, 11] (fun v iy w7 => ∃ j : Nat, j ≤ 8 ∧ iy = .int .i64 (56 - 8 * (j : Int)) ∧ Hid (Kd.R (Kd.int .u8) 5 w7 w.heap.size (fun _ => True) v (outTo S k j)) ∧ Hid (Below w.heap.size w w7)) (fun _ iy _ => (intOf iy + 8).toNat)
          case atStart => exact ⟨0, by omega, rfl, HR2, HB2⟩
          case round =>
            obtain ⟨j, hj, rfl, hR, hB⟩ := hrel
            by_cases hj8 : j < 8
            · have HR3 := Lib.hid hR.out
              have HB3 := Lib.hid hB.out
              have HLO : Hid ((outTo S k j).length ≤ 72) := by rw [outTo_length S k j (by rw [HSL.out]; exact Nat.le_of_lt HK8.out) hj]; have := HK8.out; show 8 * k + j ≤ 72; omega
              have HJ8 := Lib.hid hj8
              have j1 : IntKind.u64.wrap (56 - 8 * (j : Int)) = 56 - 8 * (j : Int) := by have := IntKind.wrap_u64 (56 - 8 * (j : Int)); omega
              have j2 : (0 : Int) ≤ 56 - 8 * (j : Int) := by omega
              have j3 : 56 - 8 * (j : Int) ≤ 56 := by omega
              have j4 : (56 - 8 * (j : Int)).toNat = 56 - 8 * j := by omega
              clear hR hB
              go_wp2_with (first | ((with_reducible refine gate_builtin (b := .append) (xs := #[.tmp 44, .tmp 50]) rfl ?_); at_builtin; refine Kd.R_append (Kd.int .u8) (w0 := w) w.heap.size rfl (.tmp 44) (.tmp 50) 22 5 (.int .u8 0) 1 rfl Try.underlying22 infoU8 rfl (by decide) (by omega) _ (outTo S k j) (x / 2 ^ (56 - 8 * j) % 256) [.int .u8 (x / 2 ^ (56 - 8 * j) % 256)] (fun _ => True) (fun _ => False) rfl rfl ?aP (fun _ hk => hk.elim) ?aF ?aO ?aB ?aS ?aL ?_; (case aP => exact rfl); (case aB => exact HB3.out); (case aF => exact (fun _ _ => trivial)); (case aO => exact HR3.out); (case aS => exact HB3.out.size); (case aL => have := HLO.out; omega); intro v8 w8 ho hb hg hat; (have HR4 := Lib.hid ho); (have HB4 := Lib.hid hb); clear ho hb hg hat))
              go_roundw
              case rel => exact ⟨j + 1, by have := HJ8.out; omega, by rw [show 56 - 8 * (j : Int) - 8 = 56 - 8 * ((j + 1 : Nat) : Int) by omega], by rw [← outTo_step S k j HJ8.out, ← HX.out]; exact HR4, HB4⟩
              case measure => have := HJ8.out; simp [intOf]; omega
            · obtain rfl : j = 8 := by omega
              have HR3 := Lib.hid hR.out
              have HB3 := Lib.hid hB.out
              clear hR hB
              go_wp2_with fail
              refine ⟨⟨k + 1, by have := HK8.out; omega, by go_num, ?_, HB3⟩, by have := HK8.out; simp [intOf]; omega⟩
              rw [← outTo_next S k (by rw [HSL.out]; exact HK8.out)]
              exact HR3
        · obtain rfl : k = 8 := by omega
          have HR3 := Lib.hid hR.out
          have HB3 := Lib.hid hB.out
          clear hR hB
          have hfin : outTo S 8 0 = sum6 s b := by
            have h8 := outTo_all S
            rw [HSL.out] at h8
            rw [h8, sum6, st6, HS.out, HDa.out]
            congr 2
            have h1 := HDl.out
            have h2 := HT.out
            rw [HDa.out, all6_length] at h2
            omega
          have HF := Lib.hid hfin
          obtain ⟨A8, c8, hv8, hc8, _⟩ := Kd.R_reads HR3.out
          have h64 : (outTo S 8 0).length = 64 := by rw [hfin]; exact sum6_length _ _ hs
          rw [h64] at hv8 hc8
          subst hv8
          have c64 : (64 : Int) ≤ (c8 : Int) := by omega
          have c48 : (48 : Int) ≤ (c8 : Int) := by omega
          have H64 := Lib.hid h64
          clear hfin h64
          cases sh
          · go_wp2_with fail
            go_ret
            exact ⟨_, rfl, by rw [← HF.out]; exact HR3.out, HB3.out⟩
          · go_wp2_with fail
            go_ret
            refine ⟨_, rfl, ?_, HB3.out⟩
            rw [← HF.out]
            exact Kd.R_take HR3.out (by rw [H64.out]; decide)
end Go.Proofs.Ytincnnmojgphmaa.H.R12
namespace Go.Proofs.Ytincnnmojgphmaa.H
open Go.RowKit Go.Proofs.YtincnnmojgphmaaW.PrintWords Go.Proofs.Ytincnnmojgphmaa.Sha
def sconceref12_Sum.f (l0 : List Int) (a1 : Bool) : Option (List Int) := if inB 8 l0 ∧ l0.length ≤ 140737488351232 then some (if a1 = true then (sum6 (S6 a1) l0).take 48 else sum6 (S6 a1) l0) else none
theorem sconceref12_Sum.calls (A0 : Option Addr) (c0 : Nat) (l0 : List Int) (a1 : Bool) (r : List Int) (w : World) (hr0 : Kd.C (Kd.int .u8) w A0 l0.length l0) (hc0 : l0.length ≤ c0) (h : sconceref12_Sum.f l0 a1 = some r) :
    Calls Try.prog 48 #[.slice A0 l0.length c0, .bool a1] w fun e w' => ∃ v0_ : Value, e = .returned v0_ ∧ Kd.R (Kd.int .u8) 5 w' w.heap.size (fun _ => True) v0_ r ∧ Below w.heap.size w w' := by
  unfold sconceref12_Sum.f at h
  split at h
  · rename_i hb
    obtain rfl := Option.some.inj h
    exact R12.rsum_any a1 A0 c0 l0 w hr0 hc0 hb.1 hb.2
  · cases h
end Go.Proofs.Ytincnnmojgphmaa.H
