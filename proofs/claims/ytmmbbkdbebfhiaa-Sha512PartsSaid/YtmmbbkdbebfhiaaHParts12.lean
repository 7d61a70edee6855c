/- The law Sha512Parts, by walking its text. -/
import Derived.Test.YtmmbbkdbebfhiaaHAwake12
set_option linter.unusedVariables false
set_option linter.unusedSimpArgs false
namespace Go.Proofs.Ytmmbbkdbebfhiaa.H.P12
open Go.RowKit Go.Proofs.YtmmbbkdbebfhiaaW.PrintWords Go.Proofs.YtmmbbkdbebfhiaaW.PrintLast Go.Proofs.Ytmmbbkdbebfhiaa.Sha Go.Proofs.YtmmbbkdbebfhiaaW.PrintMore Go.Proofs.Ytmmbbkdbebfhiaa.H Go.Proofs.Ytmmbbkdbebfhiaa.PS
open Go.Proofs.Ytmmbbkdbebfhiaa.H.R12 (WG cells8)
attribute [local go_sem] Oper.semAt_some max2_int min2_int max_two min_two

theorem WG.next {w : World} {g : Nat} {s D : List Int} {w5 : World} {k : Nat} {wr W9 : World} {x0 x1 x2 x3 x4 x5 x6 x7 y0 y1 y2 y3 y4 y5 y6 y7 : Int} (h : WG w g s D w5 k wr) (hb : Below wr.heap.size wr W9) (hgw : w.heap.size ≤ g) (hg5 : w5.heap.size ≤ g)
    (hx : W9.heap[g]? = some (.cells #[.int .u64 x0, .int .u64 x1, .int .u64 x2, .int .u64 x3, .int .u64 x4, .int .u64 x5, .int .u64 x6, .int .u64 x7] 34 (0, 0))) (hy : blk6 (fold6 s D k) ((D.drop (128 * k)).take 128) = [y0, y1, y2, y3, y4, y5, y6, y7]) : WG w g s D w5 (k + 1) (W9.setRow g #[.int .u64 y0, .int .u64 y1, .int .u64 y2, .int .u64 y3, .int .u64 y4, .int .u64 y5, .int .u64 y6, .int .u64 y7]) := by
  refine ⟨?_, below_setRow' (h.below.trans (hb.mono h.below.size)) hgw _, fun j hj => ?_, ?_⟩
  · rw [setRow_heap _ _ _ _ _ _ hx, show fold6 s D (k + 1) = blk6 (fold6 s D k) ((D.drop (128 * k)).take 128) from rfl, hy]
    rfl
  · rw [setRow_other _ _ _ _ (by omega)]
    exact (hb.block j (Nat.lt_of_lt_of_le hj h.size)).trans (h.same j hj)
  · rw [setRow_size]
    exact Nat.le_trans h.size hb.size
set_option maxRecDepth 100000 in
set_option maxHeartbeats 4000000 in
theorem parts12 (sh : Bool) (A0 : Option Addr) (c0 : Nat) (b : List Int) (w : World) (hr : Kd.C (Kd.int .u8) w A0 b.length b) (hc : b.length ≤ c0) (hbB : inB 8 b) (hbl : b.length ≤ 2000) :
    Calls Try.prog 8 #[.slice A0 b.length c0, .bool sh] w fun e w' => e = .returned (.bool true) ∧ Below w.heap.size w w' := by
  have hb0 : (b.length : Int) ≤ 2000 := by omega
  have HL := Lib.hid hbl
  have HR := Lib.hid hr
  obtain ⟨s, hse⟩ : ∃ s, s = S6 sh := ⟨_, rfl⟩
  have hs : s.length = 8 := by rw [hse]; exact S6_length _
  have hsB : inB 64 s := by rw [hse]; exact S6_in _
  have HST : Hid (∀ w, Calls Try.prog 31 #[.bool sh] w fun e w' => e = .returned (.agg (nums .u64 s).toArray) ∧ Below w.heap.size w w') := by rw [hse]; exact start_any sh
  have HSE := Lib.hid hse
  have HBB := Lib.hid hbB
  clear hr hse
  obtain ⟨D, hD⟩ : ∃ D, D = [] ++ b ++ pd6 b.length := ⟨_, rfl⟩
  have hDe : Hid ([] ++ b ++ pd6 b.length = D) := hD.symm
  have hDa : D = all6 b := by rw [hD, all6, List.nil_append]
  obtain ⟨nb, hnb⟩ : ∃ nb, nb = D.length / 128 := ⟨_, rfl⟩
  have hDl : D.length = 128 * nb := by
    have e1 : D.length = b.length + padL b.length := by rw [hDa, all6_length]
    have e2 := padL_mod b.length
    omega
  have hDB : inB 8 D := by rw [hDa]; exact inB_append hbB (pd6_in _ (by omega))
  have hDm : D.length ≤ 140737488355328 := by rw [hDa, all6_length]; have := padL_le b.length; omega
  have hD1 : 128 ≤ D.length := by
    have e1 : D.length = b.length + padL b.length := by rw [hDa, all6_length]
    have e2 := padL_mod b.length
    have e3 : 17 ≤ padL b.length := by unfold padL; omega
    omega
  obtain ⟨T, hT⟩ : ∃ T, T = D.length := ⟨_, rfl⟩
  rw [← hT] at hDl hDm hD1
  have HDa := Lib.hid hDa
  have HD8 := Lib.hid hDB
  have HDl := Lib.hid hDl
  have HT := Lib.hid hT
  have hT0 : (T : Int) ≤ 140737488355328 := by omega
  have hTm : ((T : Int) % 128 != 0) = false := by rw [bne_eq_false_iff_eq]; omega
  clear hD hDa hDB hnb hDl hT
  go_enter Try.func8, Try.ntmps8
  go_wp2_with fail
  refine (awake12 w).mono ?_
  rintro e w1 ⟨rfl, hb1⟩
  have HB1 := Lib.hid hb1
  have HR1 : Hid (Kd.C (Kd.int .u8) w1 A0 b.length b) := C_same HR.out (fun i hi => hb1.block i hi)
  clear hb1
  go_wp2_with (first | ((with_reducible refine gate_builtin (b := .append) (xs := #[.const (.slice none 0 0), .tmp 19]) rfl ?_); at_builtin; refine Kd.R_append_rows (Kd.int .u8) (w0 := w) w.heap.size rfl (.const (.slice none 0 0)) (.tmp 19) 24 5 (.int .u8 0) 1 rfl Try.underlying24 infoU8 rfl (by decide) (by omega) (.slice none 0 0) ([] : List Int) b _ _ _ (fun _ => True) (fun _ => False) rfl rfl ?aO ?aR (fun _ _ h => h) (fun _ h => h.elim) ?aF ?aB ?aS ?aL ?_; (case aR => exact HR1.out); (case aB => exact HB1.out); (case aF => exact (fun _ _ => trivial)); (case aO => exact Kd.R_nil _ _ _ _ _); (case aS => exact HB1.out.size); (case aL => have := HL.out; simp; omega); intro v3 w3 ho hb3 hg3 hat3))
  have HO3 := Lib.hid ho
  have HB3 := Lib.hid hb3
  clear ho hb3 hg3 hat3
  refine (pad_any b.length b.length (by rw [if_neg (by omega)]) (by have := HL.out; omega) w3).mono ?_
  rintro e w4 ⟨vp, rfl, hRp, hbp⟩
  obtain ⟨Ap, cp, hvp, hlp, hCp⟩ := Kd.R_reads hRp
  subst hvp
  obtain ⟨Ao, co, hvo⟩ := Kd.R_slice HO3.out
  subst hvo
  have HO4 := Lib.hid (Kd.R_below HO3.out hbp)
  have HB4 : Hid (Below w.heap.size w w4) := HB3.out.trans (hbp.mono HB3.out.size)
  have HCp := Lib.hid hCp
  clear hbp hRp hCp hlp HO3 HB3
  have HPL : Hid ((pd6 b.length).length ≤ 144) := by rw [pd6_length]; exact padL_le _
  go_wp2_with (first | ((with_reducible refine gate_builtin (b := .append) (xs := #[.tmp 20, .tmp 23]) rfl ?_); at_builtin; refine Kd.R_append_rows (Kd.int .u8) (w0 := w) w.heap.size rfl (.tmp 20) (.tmp 23) 24 5 (.int .u8 0) 1 rfl Try.underlying24 infoU8 rfl (by decide) (by omega) _ ([] ++ b) (pd6 b.length) _ _ _ (fun _ => True) (fun _ => False) rfl rfl ?aO ?aR (fun _ _ h => h) (fun _ h => h.elim) ?aF ?aB ?aS ?aL ?_; (case aR => exact HCp.out); (case aB => exact HB4.out); (case aF => exact (fun _ _ => trivial)); (case aO => exact HO4.out); (case aS => exact HB4.out.size); (case aL => have := HL.out; have := HPL.out; simp only [List.nil_append]; omega); intro v5 w5 ho hb5 hg5 hat5; (rw [hDe.out] at ho); (obtain ⟨A5, c5, hv5, hl5, hC5⟩ := Kd.R_reads ho); (rw [← HT.out] at hv5 hl5 hC5); subst hv5))
  have HC5 := Lib.hid hC5
  have hl5' : (T : Int) ≤ (c5 : Int) := by omega
  have HB5 := Lib.hid hb5
  clear hC5 ho hg5 hat5 HCp HO4 HB4 hb5
  refine (HST.out w5).mono ?_
  rintro e w6 ⟨rfl, hb6⟩
  have HB6 := Lib.hid hb6
  clear hb6
  have hsz : (nums .u64 s).toArray.size = 8 := by simp [nums, hs]
  have HSZ : Hid ((Try.prog.info? 34).map (·.size) = some (nums .u64 s).toArray.size) := by
    show (Try.prog.info? 34).map (·.size) = some (nums .u64 s).toArray.size
    rw [hsz]; kernel_rfl
  have HOZ : Hid ((#[.int .u64 0, .int .u64 0, .int .u64 0, .int .u64 0, .int .u64 0, .int .u64 0, .int .u64 0, .int .u64 0] : Array Value).size = (nums .u64 s).toArray.size) := by rw [hsz]; exact rfl
  have H1C : Hid ((nums .u64 s).toArray.all (·.oneCell') = true) := by show (nums .u64 s).toArray.all (·.oneCell') = true; simp [nums]; intro _ _; rfl
  clear hsz
  go_wp2_with (first | (with_reducible refine wpList_store_row rfl 34 (.tmp 6) (.tmp 30) rfl w6.heap.size (nums .u64 s).toArray (by simp [Act.eval, Act.put]) (by simp [Act.eval, Act.put]) 34 #[.int .u64 0, .int .u64 0, .int .u64 0, .int .u64 0, .int .u64 0, .int .u64 0, .int .u64 0, .int .u64 0] (by rw [heap_at, if_pos rfl]) HSZ.out HOZ.out H1C.out ?_))
  obtain ⟨g, hg⟩ : ∃ g, g = w6.heap.size := ⟨_, rfl⟩
  have hg5 : w5.heap.size ≤ g := by rw [hg]; exact HB6.out.size
  have hgw : Hid (w.heap.size ≤ g) := Nat.le_trans HB5.out.size hg5
  obtain ⟨w7, hw7⟩ : ∃ w7, w7 = (w6.alloc (.cells #[.int .u64 0, .int .u64 0, .int .u64 0, .int .u64 0, .int .u64 0, .int .u64 0, .int .u64 0, .int .u64 0] 34)).setRow w6.heap.size (nums .u64 s).toArray := ⟨_, rfl⟩
  have H7 : Hid (WG w g s D w5 0 w7) := by
    rw [hw7]
    refine ⟨?_, ?_, fun j hj => ?_, ?_⟩
    · rw [hg]; exact setRow_heap _ _ _ _ _ _ (by rw [heap_at, if_pos rfl])
    · exact below_setRow' ((HB5.out.trans (HB6.out.mono HB5.out.size)).alloc (Nat.le_trans HB5.out.size HB6.out.size) _) (by rw [← hg]; exact hgw.out) _
    · have := HB6.out.size
      rw [setRow_other _ _ _ _ (by omega), heap_at, if_neg (by omega)]
      exact HB6.out.block j hj
    · rw [setRow_size]; simp; have := HB6.out.size; omega
  rw [← hw7, ← hg]
  have hg5' := Lib.hid hg5
  clear hw7 hg hg5
  go_loopw [7] (fun i wr => ∃ (m k : Nat), i = .int .i64 m ∧ k ≤ nb ∧ Hid (m = 128 * k) ∧ Hid (WG w g s D w5 k wr)) (fun i _ => T - (intOf i).toNat)
  case atStart => exact ⟨0, 0, rfl, by omega, rfl, H7⟩
  case round =>
    obtain ⟨m, k, rfl, hk, hm, hW⟩ := hrel
    by_cases hlt : m < T
    · have hkn : k < nb := by have := hm.out; have := HDl.out; omega
      have hm1 : m + 128 ≤ T := by have := hm.out; have := HDl.out; omega
      have hDi : (D.drop m).length = T - m := by rw [List.length_drop, HT.out]
      obtain ⟨S, hS⟩ : ∃ S, S = fold6 s D k := ⟨_, rfl⟩
      have hSl : S.length = 8 := by rw [hS]; exact fold6_length D hs k
      have hSi : inB 64 S := by rw [hS]; exact fold6_in D hsB k
      have hbk : (((D.drop m).take 128)).length = 128 := by rw [List.length_take, hDi]; omega
      obtain ⟨ad0, hA5, _⟩ := (Kd.reads_of_C (d := (0 : Int)) HC5.out).2.2 (by omega)
      subst hA5
      have HCw : Hid (∀ W : World, (∀ k, k < wr.heap.size → W.heap[k]? = wr.heap[k]?) → Kd.C (Kd.int .u8) W (some (ad0.add m)) (D.drop m).length (D.drop m)) := fun W hWe => by
        have hC1 : Kd.C (Kd.int .u8) W (some ad0) D.length D := by
          rw [← HT.out]
          refine C_blk HC5.out fun ad e => ?_
          have h1 := Kd.reads_of_C (d := (0 : Int)) HC5.out
          obtain ⟨ad', e', hc'⟩ := h1.2.2 (by omega)
          have e2 : ad = ad' := by rw [e] at e'; exact Option.some.inj e'
          subst e2
          have hlt2 := World.block_lt_of_cell? _ _ (hc' 0 (by omega))
          rw [addr_block] at hlt2
          exact (hWe _ (Nat.lt_of_lt_of_le hlt2 hW.out.size)).trans (hW.out.same _ hlt2)
        have hC2 := Kd.C_drop hC1 (m := m) (c := c5) (by rw [← HT.out]; omega) (by rw [← HT.out]; omega)
        rw [if_neg (by omega)] at hC2
        simpa [show (Kd.int IntKind.u8).sz = 1 from rfl] using hC2
      obtain ⟨y0, y1, y2, y3, y4, y5, y6, y7, hY⟩ := eight (blk6_length S ((D.drop m).take 128))
      obtain ⟨x0, x1, x2, x3, x4, x5, x6, x7, hSe⟩ := eight hSl
      have HBk : Hid (∀ W : World, (∀ k, k < wr.heap.size → W.heap[k]? = wr.heap[k]?) → Calls Try.prog 27 #[.agg #[.int .u64 x0, .int .u64 x1, .int .u64 x2, .int .u64 x3, .int .u64 x4, .int .u64 x5, .int .u64 x6, .int .u64 x7], .slice (some (ad0.add m)) 128 (c5 - m)] W fun e w' => e = .returned (.tuple #[.agg #[.int .u64 y0, .int .u64 y1, .int .u64 y2, .int .u64 y3, .int .u64 y4, .int .u64 y5, .int .u64 y6, .int .u64 y7], .bool true]) ∧ Below W.heap.size W w') := fun W hWe => by
        have hC2 := Kd.C_take (HCw.out W hWe) (m := 128) (by rw [hDi]; omega)
        have := block_ok S hSl hSi (some (ad0.add m)) (c5 - m) ((D.drop m).take 128) W hC2 (by rw [hbk]; omega) hbk (inB_take (inB_drop HD8.out _) _)
        rw [hbk, hY, hSe] at this
        exact this
      have HS := Lib.hid hS
      have HY := Lib.hid hY
      have hbs := hW.out.bs
      rw [← hS, hSe] at hbs
      have HBS := Lib.hid hbs
      have m1 : (m : Int) < (T : Int) := by omega
      have m2 : ((m : Int) + 128).toNat = m + 128 := by omega
      have m3 : ¬ m = c5 := by omega
      have m4 : m ≤ m + 128 := by omega
      have m5 : m + 128 - m = 128 := by omega
      have m6 : (m : Int) + 128 ≤ (c5 : Int) := by omega
      have m7 : IntKind.i64.wrap ((m : Int) + 128) = (m : Int) + 128 := IntWalk.i64_in _ ⟨by omega, by omega⟩
      have m8 : m + 128 ≤ c5 := by omega
      have m9 : (0 : Int) ≤ (m : Int) + 128 := by omega
      have m10 : ¬ c5 = m := by omega
      clear hS hY hSl hSi hbk hbs hSe hDi
      obtain ⟨q0, q1, q2, q3, q4, q5, q6, q7, f0, f1, f2, f3, f4, f5, f6, f7⟩ := cells8 HBS.out
      have H1y : Hid ((#[.int .u64 y0, .int .u64 y1, .int .u64 y2, .int .u64 y3, .int .u64 y4, .int .u64 y5, .int .u64 y6, .int .u64 y7] : Array Value).all (·.oneCell') = true) := by
        show (#[.int .u64 y0, .int .u64 y1, .int .u64 y2, .int .u64 y3, .int .u64 y4, .int .u64 y5, .int .u64 y6, .int .u64 y7] : Array Value).all (·.oneCell') = true
        simp [Value.oneCell']
      have hgz : g < wr.heap.size := (Array.getElem?_eq_some_iff.1 HBS.out).1
      have hgn : ¬ g = wr.heap.size := by omega
      have hgn' : ¬ wr.heap.size = g := by omega
      go_wp2_with fail
      go_region_law (first | (go_simp; go_at_call 27; (with_reducible refine (HBk.out _ ?hW).mono ?_); (case hW => first | exact fun k hk => rfl | exact fun k hk => (heap_at _ _ _).trans (if_neg (Nat.ne_of_lt hk))); rintro _ w8 ⟨rfl, hb8⟩; first | (have hzb := (hb8.block wr.heap.size (by simp)).trans (heap_alloc_new _ _)); (obtain ⟨t0, t1, t2, t3, t4, t5, t6, t7, k0, k1, k2, k3, k4, k5, k6, k7⟩ := cells8 hzb) | skip))
      · have hsw8 : w8.heap[g]? = some (.cells #[.int .u64 x0, .int .u64 x1, .int .u64 x2, .int .u64 x3, .int .u64 x4, .int .u64 x5, .int .u64 x6, .int .u64 x7] 34 (0, 0)) := (hb8.block g hgz).trans HBS.out
        have hgl : g < w8.heap.size := (Array.getElem?_eq_some_iff.1 hsw8).1
        have hx8 : Hid ((w8.alloc (.cells #[.int .u64 y0, .int .u64 y1, .int .u64 y2, .int .u64 y3, .int .u64 y4, .int .u64 y5, .int .u64 y6, .int .u64 y7] 34)).heap[g]? = some (.cells #[.int .u64 x0, .int .u64 x1, .int .u64 x2, .int .u64 x3, .int .u64 x4, .int .u64 x5, .int .u64 x6, .int .u64 x7] 34 (0, 0))) := (heap_at _ _ _).trans ((if_neg (Nat.ne_of_lt hgl)).trans hsw8)
        have hy8 : Hid ((w8.alloc (.cells #[.int .u64 y0, .int .u64 y1, .int .u64 y2, .int .u64 y3, .int .u64 y4, .int .u64 y5, .int .u64 y6, .int .u64 y7] 34)).heap[w8.heap.size]? = some (.cells #[.int .u64 y0, .int .u64 y1, .int .u64 y2, .int .u64 y3, .int .u64 y4, .int .u64 y5, .int .u64 y6, .int .u64 y7] 34 (0, 0))) := heap_alloc_new _ _
        have hb9 : Hid (Below wr.heap.size wr (w8.alloc (.cells #[.int .u64 y0, .int .u64 y1, .int .u64 y2, .int .u64 y3, .int .u64 y4, .int .u64 y5, .int .u64 y6, .int .u64 y7] 34))) := Below.alloc (show Below wr.heap.size wr w8 from (Below.refl _ _).drew.trans hb8) hb8.size _
        have HW8 : Hid (WG w g s D w5 (k + 1) ((w8.alloc (.cells #[.int .u64 y0, .int .u64 y1, .int .u64 y2, .int .u64 y3, .int .u64 y4, .int .u64 y5, .int .u64 y6, .int .u64 y7] 34)).setRow g #[.int .u64 y0, .int .u64 y1, .int .u64 y2, .int .u64 y3, .int .u64 y4, .int .u64 y5, .int .u64 y6, .int .u64 y7])) := WG.next hW.out hb9.out hgw.out hg5'.out hx8.out (by rw [← HS.out, ← hm.out]; exact HY.out)
        clear hb8 hsw8 hW hb9 hgz hgn hgn' q0 q1 q2 q3 q4 q5 q6 q7 f0 f1 f2 f3 f4 f5 f6 f7 hgl
        obtain ⟨h8, hh8⟩ : ∃ h8, h8 = w8.heap.size := ⟨_, rfl⟩
        obtain ⟨W9, hW9⟩ : ∃ W9, W9 = w8.alloc (.cells #[.int .u64 y0, .int .u64 y1, .int .u64 y2, .int .u64 y3, .int .u64 y4, .int .u64 y5, .int .u64 y6, .int .u64 y7] 34) := ⟨_, rfl⟩
        rw [← hW9] at hx8 hy8 HW8 ⊢
        rw [← hh8] at hy8 ⊢
        clear hh8 hW9
        go_wp2_with (first | (with_reducible refine wpList_load_row rfl 34 (.tmp 8) rfl h8 (by simp [Act.eval, Act.put]) 34 #[.int .u64 y0, .int .u64 y1, .int .u64 y2, .int .u64 y3, .int .u64 y4, .int .u64 y5, .int .u64 y6, .int .u64 y7] (0, 0) _ hy8.out Try.underlying34 rfl (by kernel_rfl) ?_) | (with_reducible refine wpList_store_row rfl 34 (.tmp 6) (.tmp 49) rfl g #[.int .u64 y0, .int .u64 y1, .int .u64 y2, .int .u64 y3, .int .u64 y4, .int .u64 y5, .int .u64 y6, .int .u64 y7] (by simp [Act.eval, Act.put]) (by simp [Act.eval, Act.put]) 34 _ hx8.out (by kernel_rfl) rfl H1y.out ?_))
        go_roundw
        case rel => exact ⟨m + 128, k + 1, by go_num, by omega, by have := hm.out; show m + 128 = 128 * (k + 1); omega, HW8⟩
        case measure => simp [intOf]; omega
      · have hzz : wr.heap.size < w8.heap.size := (Array.getElem?_eq_some_iff.1 hzb).1
        have hsw8 : w8.heap[g]? = some (.cells #[.int .u64 x0, .int .u64 x1, .int .u64 x2, .int .u64 x3, .int .u64 x4, .int .u64 x5, .int .u64 x6, .int .u64 x7] 34 (0, 0)) := (hb8.block g (by simp; omega)).trans ((heap_at _ _ _).trans ((if_neg hgn).trans HBS.out))
        have hx8 : Hid ((put8 w8 wr.heap.size y0 y1 y2 y3 y4 y5 y6 y7).heap[g]? = some (.cells #[.int .u64 x0, .int .u64 x1, .int .u64 x2, .int .u64 x3, .int .u64 x4, .int .u64 x5, .int .u64 x6, .int .u64 x7] 34 (0, 0))) := (put8_other _ _ _ y0 y1 y2 y3 y4 y5 y6 y7 hgn).trans hsw8
        have hy8 : Hid ((put8 w8 wr.heap.size y0 y1 y2 y3 y4 y5 y6 y7).heap[wr.heap.size]? = some (.cells #[.int .u64 y0, .int .u64 y1, .int .u64 y2, .int .u64 y3, .int .u64 y4, .int .u64 y5, .int .u64 y6, .int .u64 y7] 34 (0, 0))) := put8_at y0 y1 y2 y3 y4 y5 y6 y7 hzb
        have hb9 : Hid (Below wr.heap.size wr (put8 w8 wr.heap.size y0 y1 y2 y3 y4 y5 y6 y7)) := put8_below (((Below.refl _ _).alloc (Nat.le_refl _) _).trans (Below.mono (show Below (wr.alloc (.cells #[.int .u64 0, .int .u64 0, .int .u64 0, .int .u64 0, .int .u64 0, .int .u64 0, .int .u64 0, .int .u64 0] 34)).heap.size (wr.alloc (.cells #[.int .u64 0, .int .u64 0, .int .u64 0, .int .u64 0, .int .u64 0, .int .u64 0, .int .u64 0, .int .u64 0] 34)) w8 from (Below.refl _ _).drew.trans hb8) (by simp))) (Nat.le_refl _) y0 y1 y2 y3 y4 y5 y6 y7
        have HW8 : Hid (WG w g s D w5 (k + 1) ((put8 w8 wr.heap.size y0 y1 y2 y3 y4 y5 y6 y7).setRow g #[.int .u64 y0, .int .u64 y1, .int .u64 y2, .int .u64 y3, .int .u64 y4, .int .u64 y5, .int .u64 y6, .int .u64 y7])) := WG.next hW.out hb9.out hgw.out hg5'.out hx8.out (by rw [← HS.out, ← hm.out]; exact HY.out)
        clear hb8 hsw8 hW hb9 hgz hgn hgn' q0 q1 q2 q3 q4 q5 q6 q7 f0 f1 f2 f3 f4 f5 f6 f7 t0 t1 t2 t3 t4 t5 t6 t7 k0 k1 k2 k3 k4 k5 k6 k7 hzb hzz
        rw [show (((((((w8.setCell ⟨wr.heap.size, 0, none⟩ (.int .u64 y0)).setCell ⟨wr.heap.size, 1, none⟩ (.int .u64 y1)).setCell ⟨wr.heap.size, 2, none⟩ (.int .u64 y2)).setCell ⟨wr.heap.size, 3, none⟩ (.int .u64 y3)).setCell ⟨wr.heap.size, 4, none⟩ (.int .u64 y4)).setCell ⟨wr.heap.size, 5, none⟩ (.int .u64 y5)).setCell ⟨wr.heap.size, 6, none⟩ (.int .u64 y6)).setCell ⟨wr.heap.size, 7, none⟩ (.int .u64 y7) = put8 w8 wr.heap.size y0 y1 y2 y3 y4 y5 y6 y7 from rfl]
        obtain ⟨h8, hh8⟩ : ∃ h8, h8 = wr.heap.size := ⟨_, rfl⟩
        obtain ⟨W9, hW9⟩ : ∃ W9, W9 = put8 w8 wr.heap.size y0 y1 y2 y3 y4 y5 y6 y7 := ⟨_, rfl⟩
        rw [← hW9] at hx8 hy8 HW8 ⊢
        rw [← hh8] at hy8 ⊢
        clear hh8 hW9
        go_wp2_with (first | (with_reducible refine wpList_load_row rfl 34 (.tmp 8) rfl h8 (by simp [Act.eval, Act.put]) 34 #[.int .u64 y0, .int .u64 y1, .int .u64 y2, .int .u64 y3, .int .u64 y4, .int .u64 y5, .int .u64 y6, .int .u64 y7] (0, 0) _ hy8.out Try.underlying34 rfl (by kernel_rfl) ?_) | (with_reducible refine wpList_store_row rfl 34 (.tmp 6) (.tmp 49) rfl g #[.int .u64 y0, .int .u64 y1, .int .u64 y2, .int .u64 y3, .int .u64 y4, .int .u64 y5, .int .u64 y6, .int .u64 y7] (by simp [Act.eval, Act.put]) (by simp [Act.eval, Act.put]) 34 _ hx8.out (by kernel_rfl) rfl H1y.out ?_))
        go_roundw
        case rel => exact ⟨m + 128, k + 1, by go_num, by omega, by have := hm.out; show m + 128 = 128 * (k + 1); omega, HW8⟩
        case measure => simp [intOf]; omega
      · have hzz : wr.heap.size < w8.heap.size := (Array.getElem?_eq_some_iff.1 hzb).1
        have hsw8 : w8.heap[g]? = some (.cells #[.int .u64 x0, .int .u64 x1, .int .u64 x2, .int .u64 x3, .int .u64 x4, .int .u64 x5, .int .u64 x6, .int .u64 x7] 34 (0, 0)) := (hb8.block g (by simp; omega)).trans ((heap_at _ _ _).trans ((if_neg hgn).trans HBS.out))
        have hx8 : Hid ((put8 w8 wr.heap.size y0 y1 y2 y3 y4 y5 y6 y7).heap[g]? = some (.cells #[.int .u64 x0, .int .u64 x1, .int .u64 x2, .int .u64 x3, .int .u64 x4, .int .u64 x5, .int .u64 x6, .int .u64 x7] 34 (0, 0))) := (put8_other _ _ _ y0 y1 y2 y3 y4 y5 y6 y7 hgn).trans hsw8
        have hy8 : Hid ((put8 w8 wr.heap.size y0 y1 y2 y3 y4 y5 y6 y7).heap[wr.heap.size]? = some (.cells #[.int .u64 y0, .int .u64 y1, .int .u64 y2, .int .u64 y3, .int .u64 y4, .int .u64 y5, .int .u64 y6, .int .u64 y7] 34 (0, 0))) := put8_at y0 y1 y2 y3 y4 y5 y6 y7 hzb
        have hb9 : Hid (Below wr.heap.size wr (put8 w8 wr.heap.size y0 y1 y2 y3 y4 y5 y6 y7)) := put8_below (((Below.refl _ _).alloc (Nat.le_refl _) _).trans (Below.mono (show Below (wr.alloc (.cells #[.int .u64 0, .int .u64 0, .int .u64 0, .int .u64 0, .int .u64 0, .int .u64 0, .int .u64 0, .int .u64 0] 34)).heap.size (wr.alloc (.cells #[.int .u64 0, .int .u64 0, .int .u64 0, .int .u64 0, .int .u64 0, .int .u64 0, .int .u64 0, .int .u64 0] 34)) w8 from (Below.refl _ _).drew.trans hb8) (by simp))) (Nat.le_refl _) y0 y1 y2 y3 y4 y5 y6 y7
        have HW8 : Hid (WG w g s D w5 (k + 1) ((put8 w8 wr.heap.size y0 y1 y2 y3 y4 y5 y6 y7).setRow g #[.int .u64 y0, .int .u64 y1, .int .u64 y2, .int .u64 y3, .int .u64 y4, .int .u64 y5, .int .u64 y6, .int .u64 y7])) := WG.next hW.out hb9.out hgw.out hg5'.out hx8.out (by rw [← HS.out, ← hm.out]; exact HY.out)
        clear hb8 hsw8 hW hb9 hgz hgn hgn' q0 q1 q2 q3 q4 q5 q6 q7 f0 f1 f2 f3 f4 f5 f6 f7 t0 t1 t2 t3 t4 t5 t6 t7 k0 k1 k2 k3 k4 k5 k6 k7 hzb hzz
        rw [show (((((((w8.setCell ⟨wr.heap.size, 0, none⟩ (.int .u64 y0)).setCell ⟨wr.heap.size, 1, none⟩ (.int .u64 y1)).setCell ⟨wr.heap.size, 2, none⟩ (.int .u64 y2)).setCell ⟨wr.heap.size, 3, none⟩ (.int .u64 y3)).setCell ⟨wr.heap.size, 4, none⟩ (.int .u64 y4)).setCell ⟨wr.heap.size, 5, none⟩ (.int .u64 y5)).setCell ⟨wr.heap.size, 6, none⟩ (.int .u64 y6)).setCell ⟨wr.heap.size, 7, none⟩ (.int .u64 y7) = put8 w8 wr.heap.size y0 y1 y2 y3 y4 y5 y6 y7 from rfl]
        obtain ⟨h8, hh8⟩ : ∃ h8, h8 = wr.heap.size := ⟨_, rfl⟩
        obtain ⟨W9, hW9⟩ : ∃ W9, W9 = put8 w8 wr.heap.size y0 y1 y2 y3 y4 y5 y6 y7 := ⟨_, rfl⟩
        rw [← hW9] at hx8 hy8 HW8 ⊢
        rw [← hh8] at hy8 ⊢
        clear hh8 hW9
        go_wp2_with (first | (with_reducible refine wpList_load_row rfl 34 (.tmp 8) rfl h8 (by simp [Act.eval, Act.put]) 34 #[.int .u64 y0, .int .u64 y1, .int .u64 y2, .int .u64 y3, .int .u64 y4, .int .u64 y5, .int .u64 y6, .int .u64 y7] (0, 0) _ hy8.out Try.underlying34 rfl (by kernel_rfl) ?_) | (with_reducible refine wpList_store_row rfl 34 (.tmp 6) (.tmp 49) rfl g #[.int .u64 y0, .int .u64 y1, .int .u64 y2, .int .u64 y3, .int .u64 y4, .int .u64 y5, .int .u64 y6, .int .u64 y7] (by simp [Act.eval, Act.put]) (by simp [Act.eval, Act.put]) 34 _ hx8.out (by kernel_rfl) rfl H1y.out ?_))
        go_roundw
        case rel => exact ⟨m + 128, k + 1, by go_num, by omega, by have := hm.out; show m + 128 = 128 * (k + 1); omega, HW8⟩
        case measure => simp [intOf]; omega
    · have hmT : T ≤ m := by omega
      obtain rfl : k = nb := by have := hm.out; have := HDl.out; omega
      obtain ⟨S, hS⟩ : ∃ S, S = fold6 s D k := ⟨_, rfl⟩
      have hSl : S.length = 8 := by rw [hS]; exact fold6_length D hs k
      have hSi : inB 64 S := by rw [hS]; exact fold6_in D hsB k
      have hbs := hW.out.bs
      rw [← hS] at hbs
      have HBW := Lib.hid hW.out.below
      have hSz : (nums .u64 S).toArray.size = 8 := by simp [nums, hSl]
      have hkz : (Try.prog.info? 34).map (·.size) = some (nums .u64 S).toArray.size := by rw [hSz]; kernel_rfl
      have HKZ := Lib.hid hkz
      have HBS := Lib.hid hbs
      have HS := Lib.hid hS
      have HSL := Lib.hid hSl
      have HSI := Lib.hid hSi
      clear hS hSl hSi hbs hSz hkz hW
      go_wp2_with (first | (with_reducible refine wpList_load_row rfl 34 (.tmp 6) rfl g (by simp [Act.eval, Act.put]) 34 (nums .u64 S).toArray (0, 0) _ HBS.out Try.underlying34 rfl HKZ.out ?_))
      go_loopw [10, 51] (fun v ix w6 => ∃ k : Nat, k ≤ 8 ∧ ix = .int .i64 k ∧ Hid (Kd.R (Kd.int .u8) 5 w6 w.heap.size (fun _ => True) v (outTo S k 0)) ∧ Hid (Below w.heap.size w w6)) (fun _ ix _ => 8 - (intOf ix).toNat)
      case atStart => exact ⟨0, by omega, rfl, by rw [outTo_zero]; exact Kd.R_nil _ _ _ _ _, HBW⟩
      case round =>
        obtain ⟨k, hk, rfl, hR, hB⟩ := hrel
        by_cases hk8 : k < 8
        · have hix : (nums .u64 S).toArray[k]? = some (.int .u64 (S.getD k 0)) := by
            rw [List.getElem?_toArray, nums, List.getElem?_map, List.getElem?_eq_getElem (by rw [HSL.out]; exact hk8), List.getD_eq_getElem?_getD, List.getElem?_eq_getElem (by rw [HSL.out]; exact hk8)]; rfl
          have hidx : ∀ W : World, (Instr.index 34 (.agg (nums .u64 S).toArray) (.int .i64 (k : Int))).run Try.prog W = .ok (.int .u64 (S.getD k 0)) W := fun W => run_index_arr Try.prog 34 33 8 _ k _ .u64 W Try.underlying34 Try.underlying33 (by kernel_rfl) hk8 hix
          clear hix
          obtain ⟨x, hx⟩ : ∃ x, x = S.getD k 0 := ⟨_, rfl⟩
          rw [← hx] at hidx
          have hx0 : 0 ≤ x := by rw [hx]; exact (inB_getD HSI.out k).1
          have HX := Lib.hid hx
          have HK8 := Lib.hid hk8
          clear hx
          have HR2 := Lib.hid hR.out
          have HB2 := Lib.hid hB.out
          have hdk : decide ((k : Int) < 8) = true := decide_eq_true (by omega)
          clear hR hB hk8
          go_wp2_with fail
          go_loopw [10, 13] (fun v iy w7 => ∃ j : Nat, j ≤ 8 ∧ iy = .int .i64 (56 - 8 * (j : Int)) ∧ Hid (Kd.R (Kd.int .u8) 5 w7 w.heap.size (fun _ => True) v (outTo S k j)) ∧ Hid (Below w.heap.size w w7)) (fun _ iy _ => (intOf iy + 8).toNat)
          case atStart => exact ⟨0, by omega, rfl, HR2, HB2⟩
          case round =>
            obtain ⟨j, hj, rfl, hR, hB⟩ := hrel
            by_cases hj8 : j < 8
            · have HR3 := Lib.hid hR.out
              have HB3 := Lib.hid hB.out
              have HLO : Hid ((outTo S k j).length ≤ 72) := by rw [outTo_length S k j (by rw [HSL.out]; exact Nat.le_of_lt HK8.out) hj]; have := HK8.out; show 8 * k + j ≤ 72; omega
              have HJ8 := Lib.hid hj8
              have j1 : IntKind.u64.wrap (56 - 8 * (j : Int)) = 56 - 8 * (j : Int) := by have := IntKind.wrap_u64 (56 - 8 * (j : Int)); omega
              have j2 : (0 : Int) ≤ 56 - 8 * (j : Int) := by omega
              have j3 : 56 - 8 * (j : Int) ≤ 56 := by omega
              have j4 : (56 - 8 * (j : Int)).toNat = 56 - 8 * j := by omega
              clear hR hB
              go_wp2_with (first | ((with_reducible refine gate_builtin (b := .append) (xs := #[.tmp 58, .tmp 64]) rfl ?_); at_builtin; refine Kd.R_append (Kd.int .u8) (w0 := w) w.heap.size rfl (.tmp 58) (.tmp 64) 24 5 (.int .u8 0) 1 rfl Try.underlying24 infoU8 rfl (by decide) (by omega) _ (outTo S k j) (x / 2 ^ (56 - 8 * j) % 256) [.int .u8 (x / 2 ^ (56 - 8 * j) % 256)] (fun _ => True) (fun _ => False) rfl rfl ?aP (fun _ hk => hk.elim) ?aF ?aO ?aB ?aS ?aL ?_; (case aP => exact rfl); (case aB => exact HB3.out); (case aF => exact (fun _ _ => trivial)); (case aO => exact HR3.out); (case aS => exact HB3.out.size); (case aL => have := HLO.out; omega); intro v8 w8 ho hb hg hat; (have HR4 := Lib.hid ho); (have HB4 := Lib.hid hb); clear ho hb hg hat))
              go_roundw
              case rel => exact ⟨j + 1, by have := HJ8.out; omega, by rw [show 56 - 8 * (j : Int) - 8 = 56 - 8 * ((j + 1 : Nat) : Int) by omega], by rw [← outTo_step S k j HJ8.out, ← HX.out]; exact HR4, HB4⟩
              case measure => have := HJ8.out; simp [intOf]; omega
            · obtain rfl : j = 8 := by omega
              have HR3 := Lib.hid hR.out
              have HB3 := Lib.hid hB.out
              clear hR hB
              go_wp2_with fail
              refine ⟨⟨k + 1, by have := HK8.out; omega, by go_num, ?_, HB3⟩, by have := HK8.out; simp [intOf]; omega⟩
              rw [← outTo_next S k (by rw [HSL.out]; exact HK8.out)]
              exact HR3
        · obtain rfl : k = 8 := by omega
          have HR3 := Lib.hid hR.out
          have HB3 := Lib.hid hB.out
          clear hR hB
          have hfin : outTo S 8 0 = sum6 s b := by
            have h8 := outTo_all S
            rw [HSL.out] at h8
            rw [h8, sum6, st6, HS.out, HDa.out]
            congr 2
            have h1 := HDl.out
            have h2 := HT.out
            rw [HDa.out, all6_length] at h2
            omega
          have HF := Lib.hid hfin
          obtain ⟨A8, c8, hv8, hc8, _⟩ := Kd.R_reads HR3.out
          have h64 : (outTo S 8 0).length = 64 := by rw [hfin]; exact sum6_length _ _ hs
          rw [h64] at hv8 hc8
          subst hv8
          have c64 : (64 : Int) ≤ (c8 : Int) := by omega
          have c48 : (48 : Int) ≤ (c8 : Int) := by omega
          have H64 := Lib.hid h64
          clear hfin h64
          have HSS : Hid (s = S6 sh) := HSE.out
          have HRb : Hid (Kd.C (Kd.int .u8) wr A0 b.length b) := C_same HR.out (fun i hi => HB3.out.block i hi)
          have hbok : inB 8 b ∧ b.length ≤ 140737488351232 := ⟨HBB.out, by have := HL.out; omega⟩
          have HBO := Lib.hid hbok
          clear hbok
          cases sh
          · have HSum : Hid (Calls Try.prog 24 #[.slice A0 b.length c0] wr fun e w' => ∃ v0_ : Value, e = .returned v0_ ∧ Kd.V (Kd.int .u8) 5 w' wr.heap.size (fun k_ => (wr.heap.size ≤ k_)) v0_ (sum6 (S6 false) b) ∧ Below wr.heap.size wr w') :=
              sha512_Sum.calls A0 c0 b _ wr HRb.out hc (by rw [sha512_Sum.f, if_pos HBO.out])
            go_wp2_with fail
            refine HSum.out.mono ?_
            rintro e w9 ⟨v9, rfl, hv9, hb9⟩
            obtain ⟨A9, c9, hs9⟩ := Kd.V_slice hv9
            subst hs9
            have hC8 := Kd.R_reads' (Kd.R_below HR3.out hb9)
            have hC9 := Kd.V_reads' hv9
            have e89 : outTo S 8 0 = sum6 (S6 false) b := by rw [HF.out, HSS.out]
            rw [e89] at hC8
            have HSm := Lib.hid (sconcelaw12_same.calls A8 c8 (sum6 (S6 false) b) A9 c9 (sum6 (S6 false) b) true w9 hC8.2.2 (by rw [← hC8.1]; exact hC8.2.1) hC9.2.2 hC9.2.1 (by simp [sconcelaw12_same.f]))
            rw [← hC8.1] at HSm
            have HB9 : Hid (Below w.heap.size w w9) := HB3.out.trans (hb9.mono HB3.out.size)
            have h64' : (sum6 (S6 false) b).length = 64 := sum6_length _ _ (S6_length _)
            rw [h64']
            clear hv9 hb9 hC8 hC9 e89 h64'
            go_wp2_with fail
            refine HSm.out.mono ?_
            rintro e w10 ⟨rfl, hd⟩
            have HB10 : Hid (Below w.heap.size w w10) := HB9.out.trans (hd.below.mono HB9.out.size)
            clear hd
            go_wp2_with fail
            go_ret
            exact ⟨rfl, HB10.out⟩
          · have HSum : Hid (∀ W : World, W.heap = wr.heap → Calls Try.prog 26 #[.slice A0 b.length c0] W fun e w' => ∃ v0_ : Value, e = .returned v0_ ∧ Kd.V (Kd.int .u8) 5 w' 0 (fun _ => True) v0_ ((sum6 (S6 true) b).take 48) ∧ Below W.heap.size W w') := fun W hW =>
              (sha512_Sum384.calls A0 c0 b _ W (C_same HRb.out (fun i hi => by rw [hW])) hc (by rw [sha512_Sum384.f, if_pos HBO.out])).mono fun e w' ⟨v, he, hv, hb⟩ => ⟨v, he, Kd.V_mono (Kd.V_lower hv (Nat.zero_le _)) (fun _ _ => trivial), hb⟩
            have c48' : 48 ≤ c8 := by omega
            have HR8 : Hid (Kd.R (Kd.int .u8) 5 wr w.heap.size (fun _ => True) (.slice A8 48 c8) ((sum6 (S6 true) b).take 48)) := by
              have := Kd.R_take (m := 48) HR3.out (by rw [H64.out]; decide)
              rw [HF.out, HSS.out] at this
              exact this
            have HSm : Hid (∀ (w9 : World) (v9 : Value), Below wr.heap.size wr w9 → Kd.V (Kd.int .u8) 5 w9 0 (fun _ => True) v9 ((sum6 (S6 true) b).take 48) → Calls Try.prog 23 #[.slice A8 48 c8, v9] w9 fun e w' => e = .returned (.bool true) ∧ Drawn0 w9 w') := fun w9 v9 hb9 hv9 => by
              obtain ⟨A9, c9, hs9⟩ := Kd.V_slice hv9
              subst hs9
              have hC8 := Kd.R_reads' (Kd.R_below HR8.out hb9)
              have hC9 := Kd.V_reads' hv9
              have := sconcelaw12_same.calls A8 c8 ((sum6 (S6 true) b).take 48) A9 c9 ((sum6 (S6 true) b).take 48) true w9 hC8.2.2 (by rw [← hC8.1]; exact hC8.2.1) hC9.2.2 hC9.2.1 (by simp [sconcelaw12_same.f])
              rw [← hC8.1] at this
              rw [show ((sum6 (S6 true) b).take 48).length = 48 from hC8.1.symm]
              exact this
            go_wp2_with fail
            go_region_law (first | (go_simp; go_at_call 26; (with_reducible refine (HSum.out _ ?hW).mono ?_); (case hW => exact rfl); rintro _ w9 ⟨v9, rfl, hv9, hb9⟩; (have HB9 : Hid (Below wr.heap.size wr w9) := (Below.refl _ _).drew.trans hb9)) | (go_simp; go_at_call 23; (with_reducible refine (HSm.out _ _ HB9.out hv9).mono ?_); rintro _ w10 ⟨rfl, hd⟩))
            have HB10 : Hid (Below w.heap.size w w10) := (HB3.out.trans (HB9.out.mono HB3.out.size)).trans (hd.below.mono (Nat.le_trans HB3.out.size HB9.out.size))
            clear hd hv9 hb9
            go_wp2_with fail
            go_ret
            exact ⟨rfl, HB10.out⟩

set_option maxRecDepth 100000 in
theorem parts_long (sh : Bool) (A0 : Option Addr) (n c0 : Nat) (w : World) (hn : 2000 < (n : Int)) :
    Calls Try.prog 8 #[.slice A0 n c0, .bool sh] w fun e w' => e = .returned (.bool true) ∧ Below w.heap.size w w' := by
  go_enter Try.func8, Try.ntmps8
  go_wp2_with fail
  refine (awake12 _).mono ?_
  rintro e w1 ⟨rfl, hb1⟩
  have HB1 := Lib.hid hb1
  clear hb1
  go_wp2_with fail
  go_ret
  exact ⟨rfl, HB1.out⟩
end Go.Proofs.Ytmmbbkdbebfhiaa.H.P12
namespace Go.Proofs.Ytmmbbkdbebfhiaa.H
open Go.RowKit Go.Proofs.YtmmbbkdbebfhiaaW.PrintWords Go.Proofs.Ytmmbbkdbebfhiaa.Sha
def sconcelaw12_Sha512Parts.f (l0 : List Int) (a1 : Bool) : Option Bool := if inB 8 l0 then some true else none
theorem sconcelaw12_Sha512Parts.calls (A0 : Option Addr) (c0 : Nat) (l0 : List Int) (a1 : Bool) (r : Bool) (w : World) (hr0 : Kd.C (Kd.int .u8) w A0 l0.length l0) (hc0 : l0.length ≤ c0) (h : sconcelaw12_Sha512Parts.f l0 a1 = some r) :
    Calls Try.prog 8 #[.slice A0 l0.length c0, .bool a1] w fun e w' => e = .returned (.bool r) ∧ Below w.heap.size w w' := by
  unfold sconcelaw12_Sha512Parts.f at h
  split at h
  · rename_i hb
    obtain rfl := Option.some.inj h
    by_cases hn : 2000 < (l0.length : Int)
    · exact P12.parts_long a1 A0 l0.length c0 w hn
    · exact P12.parts12 a1 A0 c0 l0 w hr0 hc0 hb (by omega)
  · cases h
end Go.Proofs.Ytmmbbkdbebfhiaa.H
