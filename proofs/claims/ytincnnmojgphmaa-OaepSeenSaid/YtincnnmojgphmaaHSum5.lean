/- sha256's Sum, by walking its text. -/
import Derived.Test.YtincnnmojgphmaaSha25
import Derived.Test.YtincnnmojgphmaaHBlk5
import Derived.Test.YtincnnmojgphmaaHRSum5
import Derived.Maps.RangeWalk
set_option linter.unusedVariables false
set_option linter.unusedSimpArgs false
namespace Go.Proofs.Ytincnnmojgphmaa.H.S5
open Go.RowKit Go.Proofs.YtincnnmojgphmaaW.PrintWords Go.Proofs.YtincnnmojgphmaaW.PrintLast Go.Proofs.Ytincnnmojgphmaa.Sha Go.Proofs.YtincnnmojgphmaaW.PrintMore Go.Proofs.Ytincnnmojgphmaa.H Go.Proofs.Ytincnnmojgphmaa.PS
open Go.Proofs.Ytincnnmojgphmaa.H.R11 (WG cells8)
attribute [local go_sem] Oper.semAt_some max2_int min2_int max_two min_two

set_option maxRecDepth 100000 in
set_option maxHeartbeats 4000000 in
theorem sum_any (A0 : Option Addr) (c0 : Nat) (b : List Int) (w : World) (hr : Kd.C (Kd.int .u8) w A0 b.length b) (hc : b.length ≤ c0) (hbB : inB 8 b) (hbl : b.length ≤ 140737488351232) :
    Calls Try.prog 57 #[.slice A0 b.length c0] w fun e w' => ∃ v0_ : Value, e = .returned v0_ ∧ Kd.R (Kd.int .u8) 5 w' w.heap.size (fun _ => True) v0_ (sum5 b) ∧ Below w.heap.size w w' := by
  have hb0 : (b.length : Int) ≤ 140737488351232 := by omega
  have HL := Lib.hid hbl
  have HR := Lib.hid hr
  obtain ⟨s, hse⟩ : ∃ s, s = S5 := ⟨_, rfl⟩
  have hs : s.length = 8 := by rw [hse]; exact S5_length
  have hsB : inB 32 s := by rw [hse]; exact S5_in
  have HST : Hid (∀ w, Calls Try.prog 74 #[] w fun e w' => e = .returned (.agg (nums .u32 s).toArray) ∧ Below w.heap.size w w') := by rw [hse]; exact start5_any
  have HSE := Lib.hid hse
  clear hr hse
  have hmk := make_cap (b.length + 72) (by have := HL.out; omega)
  have hmk' : (((b.length + 72 : Nat) : Int)) = (b.length : Int) + 72 := by omega
  rw [hmk'] at hmk
  clear hmk'
  have hR2 : Hid (Kd.R (Kd.int .u8) 5 (w.alloc (.cells (madeCells #[.int .u8 0] (b.length + 72)) 5)) w.heap.size (fun _ => True) (.slice (some ⟨w.heap.size, 0, none⟩) 0 (b.length + 72)) ([] : List Int)) := own_cap w w.heap.size (b.length + 72) (Nat.le_refl _) (by have := HL.out; omega)
  have hB2 : Hid (Below w.heap.size w (w.alloc (.cells (madeCells #[.int .u8 0] (b.length + 72)) 5))) := (Below.refl _ w).alloc (Nat.le_refl _) _
  have hC2 : Hid (Kd.C (Kd.int .u8) (w.alloc (.cells (madeCells #[.int .u8 0] (b.length + 72)) 5)) A0 b.length b) := C_same HR.out (fun i hi => hB2.out.block i hi)
  go_enter Try.func57, Try.ntmps57
  go_wp2_with (first | ((with_reducible refine gate_builtin (b := .append) (xs := #[.tmp 11, .tmp 12]) rfl ?_); at_builtin; refine Kd.R_append_rows (Kd.int .u8) (w0 := w) w.heap.size rfl (.tmp 11) (.tmp 12) 22 5 (.int .u8 0) 1 rfl Try.underlying22 infoU8 rfl (by decide) (by omega) (.slice (some ⟨w.heap.size, 0, none⟩) 0 (b.length + 72)) ([] : List Int) b _ _ _ (fun _ => True) (fun _ => False) rfl rfl ?aO ?aR (fun _ _ h => h) (fun _ h => h.elim) ?aF ?aB ?aS ?aL ?_; (case aR => exact hC2.out); (case aB => exact hB2.out); (case aF => exact (fun _ _ => trivial)); (case aO => exact hR2.out); (case aS => simp); (case aL => have := HL.out; simp; omega); intro v3 w3 ho hb3 hg3 hat3))
  have HO3 := Lib.hid ho
  have HB3 := Lib.hid hb3
  clear ho hb3 hg3 hat3
  refine (pad5_any b.length b.length (by rw [if_neg (by omega)]) (by have := HL.out; omega) w3).mono ?_
  rintro e w4 ⟨vp, rfl, hRp, hbp⟩
  obtain ⟨Ap, cp, hvp, hlp, hCp⟩ := Kd.R_reads hRp
  subst hvp
  obtain ⟨Ao, co, hvo⟩ := Kd.R_slice HO3.out
  subst hvo
  have HO4 := Lib.hid (Kd.R_below HO3.out hbp)
  have HB4 : Hid (Below w.heap.size w w4) := HB3.out.trans (hbp.mono HB3.out.size)
  have HCp := Lib.hid hCp
  clear hbp hRp hCp hlp HO3 HB3
  have HPL : Hid ((pd5 b.length).length ≤ 72) := by rw [pd5_length]; exact padL5_le _
  go_wp2_with (first | ((with_reducible refine gate_builtin (b := .append) (xs := #[.tmp 13, .tmp 16]) rfl ?_); at_builtin; refine Kd.R_append_rows (Kd.int .u8) (w0 := w) w.heap.size rfl (.tmp 13) (.tmp 16) 22 5 (.int .u8 0) 1 rfl Try.underlying22 infoU8 rfl (by decide) (by omega) _ ([] ++ b) (pd5 b.length) _ _ _ (fun _ => True) (fun _ => False) rfl rfl ?aO ?aR (fun _ _ h => h) (fun _ h => h.elim) ?aF ?aB ?aS ?aL ?_; (case aR => exact HCp.out); (case aB => exact HB4.out); (case aF => exact (fun _ _ => trivial)); (case aO => exact HO4.out); (case aS => exact HB4.out.size); (case aL => have := HL.out; have := HPL.out; simp only [List.nil_append]; omega); intro v5 w5 ho hb5 hg5 hat5))
  obtain ⟨A5, c5, hv5, hl5, hC5⟩ := Kd.R_reads ho
  subst hv5
  obtain ⟨D, hD⟩ : ∃ D, D = [] ++ b ++ pd5 b.length := ⟨_, rfl⟩
  have hDa : D = all5 b := by rw [hD, all5, List.nil_append]
  rw [← hD] at ho hl5 hC5
  rw [← hD]
  obtain ⟨nb, hnb⟩ : ∃ nb, nb = D.length / 64 := ⟨_, rfl⟩
  have hDl : D.length = 64 * nb := by
    have e1 : D.length = b.length + padL5 b.length := by rw [hDa, all5_length]
    have e2 := padL5_mod b.length
    omega
  have hDB : inB 8 D := by rw [hDa]; exact inB_append hbB (pd5_in _)
  have hDm : D.length ≤ 140737488355328 := by rw [hDa, all5_length]; have := HL.out; have := padL5_le b.length; omega
  have hD1 : 64 ≤ D.length := by
    have e1 : D.length = b.length + padL5 b.length := by rw [hDa, all5_length]
    have e2 := padL5_mod b.length
    have e3 : 9 ≤ padL5 b.length := by unfold padL5; omega
    omega
  obtain ⟨T, hT⟩ : ∃ T, T = D.length := ⟨_, rfl⟩
  rw [← hT] at hl5 hC5 hDl hDm hD1
  rw [← hT]
  have HC5 := Lib.hid hC5
  have HDa := Lib.hid hDa
  have HD8 := Lib.hid hDB
  have HDl := Lib.hid hDl
  have HT := Lib.hid hT
  have hl5' : (T : Int) ≤ (c5 : Int) := by omega
  have HB5 := Lib.hid hb5
  have hT0 : (T : Int) ≤ 140737488355328 := by omega
  clear hD hDa hDB hnb hDl hC5 ho hg5 hat5 HCp HO4 HB4 hb5 hT
  refine (HST.out w5).mono ?_
  rintro e w6 ⟨rfl, hb6⟩
  have HB6 := Lib.hid hb6
  clear hb6
  have hsz : (nums .u32 s).toArray.size = 8 := by simp [nums, hs]
  have HSZ : Hid ((Try.prog.info? 89).map (·.size) = some (nums .u32 s).toArray.size) := by
    show (Try.prog.info? 89).map (·.size) = some (nums .u32 s).toArray.size
    rw [hsz]; kernel_rfl
  have HOZ : Hid ((#[.int .u32 0, .int .u32 0, .int .u32 0, .int .u32 0, .int .u32 0, .int .u32 0, .int .u32 0, .int .u32 0] : Array Value).size = (nums .u32 s).toArray.size) := by rw [hsz]; exact rfl
  have H1C : Hid ((nums .u32 s).toArray.all (·.oneCell') = true) := by show (nums .u32 s).toArray.all (·.oneCell') = true; simp [nums]; intro _ _; rfl
  clear hsz
  go_wp2_with (first | (with_reducible refine wpList_store_row rfl 89 (.tmp 4) (.tmp 18) rfl w6.heap.size (nums .u32 s).toArray (by simp [Act.eval, Act.put]) (by simp [Act.eval, Act.put]) 89 #[.int .u32 0, .int .u32 0, .int .u32 0, .int .u32 0, .int .u32 0, .int .u32 0, .int .u32 0, .int .u32 0] (by rw [heap_at, if_pos rfl]) HSZ.out HOZ.out H1C.out ?_))
  obtain ⟨g, hg⟩ : ∃ g, g = w6.heap.size := ⟨_, rfl⟩
  have hg5 : w5.heap.size ≤ g := by rw [hg]; exact HB6.out.size
  have hgw : Hid (w.heap.size ≤ g) := Nat.le_trans HB5.out.size hg5
  obtain ⟨w7, hw7⟩ : ∃ w7, w7 = (w6.alloc (.cells #[.int .u32 0, .int .u32 0, .int .u32 0, .int .u32 0, .int .u32 0, .int .u32 0, .int .u32 0, .int .u32 0] 89)).setRow w6.heap.size (nums .u32 s).toArray := ⟨_, rfl⟩
  have H7 : Hid (WG w g s D w5 0 w7) := by
    rw [hw7]
    refine ⟨?_, ?_, fun j hj => ?_, ?_⟩
    · rw [hg]; exact setRow_heap _ _ _ _ _ _ (by rw [heap_at, if_pos rfl])
    · exact below_setRow' ((HB5.out.trans (HB6.out.mono HB5.out.size)).alloc (Nat.le_trans HB5.out.size HB6.out.size) _) (by rw [← hg]; exact hgw.out) _
    · have := HB6.out.size
      rw [setRow_other _ _ _ _ (by omega), heap_at, if_neg (by omega)]
      exact HB6.out.block j hj
    · rw [setRow_size]; simp; have := HB6.out.size; omega
  rw [← hw7, ← hg]
  have hg5' := Lib.hid hg5
  clear hw7 hg hg5
  have eT : T = 64 * (nb - 0) := by have := HDl.out; omega
  have HC5' : Hid (Kd.C (Kd.int .u8) w5 A5 (64 * (nb - 0)) (D.drop (64 * 0))) := by rw [← eT]; exact HC5.out
  have hlc : 64 * (nb - 0) ≤ c5 := by have := HDl.out; omega
  have HET := Lib.hid eT
  have HLC := Lib.hid hlc
  clear eT hlc
  go_frame
  go_loopw [3] (fun v wr => ∃ (k : Nat) (A : Option Addr) (c : Nat), k ≤ nb ∧ v = .slice A (64 * (nb - k)) c ∧ 64 * (nb - k) ≤ c ∧ Hid (Kd.C (Kd.int .u8) w5 A (64 * (nb - k)) (D.drop (64 * k))) ∧ Hid (WG w g s D w5 k wr)) (fun v _ => slen v)
  case atStart => exact ⟨0, A5, c5, by omega, by rw [← HET.out], HLC.out, HC5', H7⟩
  case round =>
    obtain ⟨k, A, c, hk, rfl, hc5, hCi, hW⟩ := hrel
    by_cases hlt : k < nb
    · obtain ⟨n, hn⟩ : ∃ n, n = 64 * (nb - k) := ⟨_, rfl⟩
      rw [← hn] at hc5 hCi ⊢
      have hn1 : 64 ≤ n := by omega
      have hn2 : n ≤ 140737488355328 := by have := HDl.out; omega
      have hDi : (D.drop (64 * k)).length = n := by rw [List.length_drop, ← HT.out, HDl.out]; omega
      obtain ⟨S, hS⟩ : ∃ S, S = fold5 s D k := ⟨_, rfl⟩
      have hSl : S.length = 8 := by rw [hS]; exact fold5_length D hs k
      have hSi : inB 32 S := by rw [hS]; exact fold5_in D hsB k
      have hbk : (((D.drop (64 * k)).take 64)).length = 64 := by rw [List.length_take, hDi]; omega
      obtain ⟨ad0, rfl, _⟩ := (Kd.reads_of_C (d := (0 : Int)) hCi.out).2.2 (by omega)
      have HCi := Lib.hid hCi.out
      have HCw : Hid (∀ W : World, W.heap = wr.heap → Kd.C (Kd.int .u8) W (some ad0) n (D.drop (64 * k))) := fun W hWe => by
        refine C_blk hCi.out fun ad e => ?_
        rw [hWe]
        have h1 := Kd.reads_of_C (d := (0 : Int)) hCi.out
        obtain ⟨ad', e', hc'⟩ := h1.2.2 (by omega)
        have e2 : ad = ad' := by rw [e] at e'; exact Option.some.inj e'
        subst e2
        have hlt2 := World.block_lt_of_cell? _ _ (hc' 0 (by omega))
        rw [addr_block] at hlt2
        exact hW.out.same _ hlt2
      obtain ⟨y0, y1, y2, y3, y4, y5, y6, y7, hY⟩ := eight (blk5_length S ((D.drop (64 * k)).take 64))
      obtain ⟨x0, x1, x2, x3, x4, x5, x6, x7, hSe⟩ := eight hSl
      have HBk : Hid (∀ W : World, W.heap = wr.heap → Calls Try.prog 75 #[.agg #[.int .u32 x0, .int .u32 x1, .int .u32 x2, .int .u32 x3, .int .u32 x4, .int .u32 x5, .int .u32 x6, .int .u32 x7], .slice (some ad0) 64 c] W fun e w' => e = .returned (.tuple #[.agg #[.int .u32 y0, .int .u32 y1, .int .u32 y2, .int .u32 y3, .int .u32 y4, .int .u32 y5, .int .u32 y6, .int .u32 y7], .bool true]) ∧ Below W.heap.size W w') := fun W hWe => by
        have hC1 := HCw.out W hWe
        rw [← hDi] at hC1
        have hC2 := Kd.C_take hC1 (m := 64) (by omega)
        have := B5.block_ok S hSl hSi (some ad0) c ((D.drop (64 * k)).take 64) W hC2 (by rw [hbk]; omega) hbk (inB_take (inB_drop HD8.out _) _)
        rw [hbk, hY, hSe] at this
        exact this
      have HS := Lib.hid hS
      have HY := Lib.hid hY
      have hbs := hW.out.bs
      rw [← hS, hSe] at hbs
      have HBS := Lib.hid hbs
      have HN := Lib.hid hn
      have HDi := Lib.hid hDi
      have d64 : (64 : Int) ≤ (c : Int) := by omega
      have d64n : 64 ≤ c := by omega
      clear hS hY hSl hSi hbk hbs hSe hn hDi hCi
      obtain ⟨q0, q1, q2, q3, q4, q5, q6, q7, f0, f1, f2, f3, f4, f5, f6, f7⟩ := cells8 HBS.out
      go_wp2_with fail
      go_region_law (first | (go_simp; go_at_call 75; (with_reducible refine (HBk.out _ ?hW).mono ?_); (case hW => exact rfl); rintro _ w8 ⟨rfl, hb8⟩; (have hsw8 := (hb8.block _ (Array.getElem?_eq_some_iff.1 HBS.out).1).trans HBS.out); (obtain ⟨p0, p1, p2, p3, p4, p5, p6, p7, g0, g1, g2, g3, g4, g5, g6, g7⟩ := cells8 hsw8)))
      have HW8 : Hid (WG w g s D w5 (k + 1) (R11.put8 w8 g y0 y1 y2 y3 y4 y5 y6 y7)) := by
        have hz8 : wr.heap.size ≤ w8.heap.size := hb8.size
        refine ⟨?_, R11.put8_below (hW.out.below.trans (Below.mono (show Below wr.heap.size wr w8 from (Below.refl _ _).drew.trans hb8) hW.out.below.size)) hgw.out y0 y1 y2 y3 y4 y5 y6 y7, fun j hj => ?_, ?_⟩
        · rw [R11.put8_at y0 y1 y2 y3 y4 y5 y6 y7 hsw8, show fold5 s D (k + 1) = blk5 (fold5 s D k) ((D.drop (64 * k)).take 64) from rfl, ← HS.out, HY.out]
          rfl
        · have hne : j ≠ g := by have := hg5'.out; omega
          rw [R11.put8_other _ _ _ y0 y1 y2 y3 y4 y5 y6 y7 hne]
          have h1 := hb8.block j (show j < wr.heap.size from Nat.lt_of_lt_of_le hj hW.out.size)
          exact h1.trans (hW.out.same j hj)
        · rw [R11.put8_size]
          exact Nat.le_trans hW.out.size hz8
      clear hb8 hsw8 hW
      have hnx : Hid (n - 64 = 64 * (nb - (k + 1))) := by show n - 64 = _; rw [HN.out]; omega
      have hCd : Hid (Kd.C (Kd.int .u8) w5 (if c = 64 then some ad0 else some (ad0.add 64)) (n - 64) (D.drop (64 * (k + 1)))) := by
        have h1 := HCi.out
        rw [← HDi.out] at h1
        have h2 := Kd.C_drop h1 (m := 64) (c := c) (by rw [HDi.out]; exact hn1) (by rw [HDi.out]; exact hc5)
        rw [List.drop_drop, List.length_drop, show 64 * k + 64 = 64 * (k + 1) by omega, show D.length - 64 * (k + 1) = n - 64 by rw [← HDi.out, List.length_drop]; omega] at h2
        by_cases e : c = 64
        · rw [if_pos e] at h2 ⊢; exact h2
        · rw [if_neg e] at h2 ⊢; exact h2
      by_cases h64 : 64 = c
      · obtain rfl := h64
        have hn64 : n = 64 := by omega
        subst hn64
        go_wp2_with fail
        go_roundw
        case rel => exact ⟨k + 1, some ad0, 0, by omega, by rw [← hnx.out], by have := hnx.out; omega, by rw [← hnx.out]; exact hCd.out, HW8⟩
        case measure => simp [slen]
      · have h64' : ¬ c = 64 := fun e => h64 e.symm
        go_wp2_with fail
        go_roundw
        case rel => exact ⟨k + 1, some (ad0.add 64), c - 64, by omega, by rw [← hnx.out]; rfl, by have := hnx.out; omega, by rw [← hnx.out]; have := hCd.out; rw [if_neg h64'] at this; exact this, HW8⟩
        case measure => simp [slen]; omega
    · obtain rfl : k = nb := by omega
      have e0 : 64 * (k - k) = 0 := by omega
      rw [e0]
      obtain ⟨S, hS⟩ : ∃ S, S = fold5 s D k := ⟨_, rfl⟩
      have hSl : S.length = 8 := by rw [hS]; exact fold5_length D hs k
      have hSi : inB 32 S := by rw [hS]; exact fold5_in D hsB k
      have hbs := hW.out.bs
      rw [← hS] at hbs
      have HBW := Lib.hid hW.out.below
      have hSz : (nums .u32 S).toArray.size = 8 := by simp [nums, hSl]
      have hkz : (Try.prog.info? 89).map (·.size) = some (nums .u32 S).toArray.size := by rw [hSz]; kernel_rfl
      have HKZ := Lib.hid hkz
      have HBS := Lib.hid hbs
      have HS := Lib.hid hS
      have HSL := Lib.hid hSl
      have HSI := Lib.hid hSi
      clear hS hSl hSi hbs hSz hkz hW
      go_wp2_with (first | (with_reducible refine wpList_load_row rfl 89 (.tmp 4) rfl g (by simp [Act.eval, Act.put]) 89 (nums .u32 S).toArray (0, 0) _ HBS.out Try.underlying89 rfl HKZ.out ?_))
      go_loopw [5, 32] (fun v ix w6 => ∃ k : Nat, k ≤ 8 ∧ ix = .int .i64 k ∧ Hid (Kd.R (Kd.int .u8) 5 w6 w.heap.size (fun _ => True) v (out5 (S.take k))) ∧ Hid (Below w.heap.size w w6)) (fun _ ix _ => 8 - (intOf ix).toNat)
      case atStart => exact ⟨0, by omega, rfl, Kd.R_nil _ _ _ _ _, HBW⟩
      case round =>
        obtain ⟨k, hk, rfl, hR, hB⟩ := hrel
        by_cases hk8 : k < 8
        · have hix : (nums .u32 S).toArray[k]? = some (.int .u32 (S.getD k 0)) := B5.nums_at (by rw [HSL.out]; exact hk8)
          have hidx : ∀ W : World, (Instr.index 89 (.agg (nums .u32 S).toArray) (.int .i64 (k : Int))).run Try.prog W = .ok (.int .u32 (S.getD k 0)) W := fun W => run_index_arr Try.prog 89 88 8 _ k _ .u32 W Try.underlying89 Try.underlying88 (by kernel_rfl) hk8 hix
          clear hix
          obtain ⟨x, hx⟩ : ∃ x, x = S.getD k 0 := ⟨_, rfl⟩
          rw [← hx] at hidx
          have hx0 : 0 ≤ x := by rw [hx]; exact (inB_getD HSI.out k).1
          have HX := Lib.hid hx
          have HK8 := Lib.hid hk8
          clear hx
          have HR2 := Lib.hid hR.out
          have HB2 := Lib.hid hB.out
          have HLO : Hid ((out5 (S.take k)).length ≤ 32) := by
            show (out5 (S.take k)).length ≤ 32
            rw [out5_length, List.length_take, HSL.out]; omega
          clear hR hB
          go_wp2_with (first
            | ((with_reducible refine gate_dst (N := 47) rfl ?_); refine Kd.R_lit (Kd.int .u8) _ 5 ?hg (N := 47) ?hd (xs := bytes5 x) (inner := [.int .u8 (x / 16777216 % 256), .int .u8 (x / 65536 % 256), .int .u8 (x / 256 % 256), .int .u8 (x % 256)]) (ok := fun _ => True) (okp := fun _ => True) ?hr ?hp (fun _ hk => hk) trivial (Below.refl _ _) (Nat.le_refl _) (by simp [bytes5]) ?_; (case hd => rfl); (case hg => rfl); (case hr => first | (go_simp; done) | (go_simp; rfl)); (case hp => exact (Reps.one (show Kd.M (Kd.int .u8) _ _ _ _ [.int .u8 (x / 16777216 % 256)] from rfl) (Reps.one (show Kd.M (Kd.int .u8) _ _ _ _ [.int .u8 (x / 65536 % 256)] from rfl) (Reps.one (show Kd.M (Kd.int .u8) _ _ _ _ [.int .u8 (x / 256 % 256)] from rfl) (Reps.one (show Kd.M (Kd.int .u8) _ _ _ _ [.int .u8 (x % 256)] from rfl) (Reps.none _ _)))))); intro v9 w9 ho9 hb9 hg9 hn9; clear hg9 hn9; (have HR9 := Lib.hid (Kd.R_below HR2.out hb9)); (have HB9 : Hid (Below w.heap.size w w9) := HB2.out.trans (hb9.mono HB2.out.size)); (obtain ⟨A9, c9, hv9, hl9, hC9⟩ := Kd.R_reads ho9); (have HC9 := Lib.hid hC9); subst hv9; clear ho9 hb9 hl9 hC9)
            | ((with_reducible refine gate_builtin (b := .append) (xs := #[.tmp 35, .tmp 47]) rfl ?_); at_builtin; refine Kd.R_append_rows (Kd.int .u8) (w0 := w) w.heap.size rfl (.tmp 35) (.tmp 47) 22 5 (.int .u8 0) 1 rfl Try.underlying22 infoU8 rfl (by decide) (by omega) _ (out5 (S.take k)) (bytes5 x) _ _ _ (fun _ => True) (fun _ => False) rfl rfl ?aO ?aR (fun _ _ h => h) (fun _ h => h.elim) ?aF ?aB ?aS ?aL ?_; (case aR => exact HC9.out); (case aB => exact HB9.out); (case aF => exact (fun _ _ => trivial)); (case aO => exact HR9.out); (case aS => exact HB9.out.size); (case aL => have := HLO.out; simp [bytes5]; omega); intro v8 w8 ho hb hg hat; (have HR4 := Lib.hid ho); (have HB4 := Lib.hid hb); clear ho hb hg hat))
          go_roundw
          case rel => exact ⟨k + 1, by have := HK8.out; omega, by go_num, by rw [← out5_step S k (by rw [HSL.out]; exact HK8.out), ← HX.out]; exact HR4, HB4⟩
          case measure => have := HK8.out; simp [intOf]; omega
        · obtain rfl : k = 8 := by omega
          have HR3 := Lib.hid hR.out
          have HB3 := Lib.hid hB.out
          clear hR hB
          have hfin : out5 (S.take 8) = sum5 b := by
            rw [List.take_of_length_le (by rw [HSL.out]; exact Nat.le_refl _), sum5, st5, HS.out, HDa.out, HSE.out]
            congr 2
            have h1 := HDl.out
            have h2 := HT.out
            rw [HDa.out, all5_length] at h2
            omega
          have HF := Lib.hid hfin
          clear hfin
          go_wp2_with fail
          go_ret
          exact ⟨_, rfl, by rw [← HF.out]; exact HR3.out, HB3.out⟩
end Go.Proofs.Ytincnnmojgphmaa.H.S5
namespace Go.Proofs.Ytincnnmojgphmaa.H
open Go.RowKit Go.Proofs.YtincnnmojgphmaaW.PrintWords Go.Proofs.Ytincnnmojgphmaa.Sha
def sha256_Sum.f (l0 : List Int) : Option (List Int) := if inB 8 l0 ∧ l0.length ≤ 140737488351232 then some (sum5 l0) else none
theorem sha256_Sum.calls (A0 : Option Addr) (c0 : Nat) (l0 : List Int) (r : List Int) (w : World) (hr0 : Kd.C (Kd.int .u8) w A0 l0.length l0) (hc0 : l0.length ≤ c0) (h : sha256_Sum.f l0 = some r) :
    Calls Try.prog 57 #[.slice A0 l0.length c0] w fun e w' => ∃ v0_ : Value, e = .returned v0_ ∧ Kd.V (Kd.int .u8) 5 w' w.heap.size (fun k_ => (w.heap.size ≤ k_)) v0_ r ∧ Below w.heap.size w w' := by
  unfold sha256_Sum.f at h
  split at h
  · rename_i hb
    obtain rfl := Option.some.inj h
    exact (S5.sum_any A0 c0 l0 w hr0 hc0 hb.1 hb.2).mono fun e w' ⟨v, he, hR, hb⟩ => ⟨v, he, Kd.V_mono (Kd.R_V (Kd.R_bound hR)) (fun k hk => hk.2.1), hb⟩
  · cases h
end Go.Proofs.Ytincnnmojgphmaa.H
