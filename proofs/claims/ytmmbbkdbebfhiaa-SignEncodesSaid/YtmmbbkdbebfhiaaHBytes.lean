/- bytes.Repeat of one byte and sign.joined, by walking their text; bytes told one way and the other. -/
import Derived.Test.YtmmbbkdbebfhiaaShelf
import Derived.Test.YtmmbbkdbebfhiaaHSums
set_option linter.unusedVariables false
set_option linter.unusedSimpArgs false
namespace Go.Proofs.Ytmmbbkdbebfhiaa.H
open Go.RowKit Go.Proofs.YtmmbbkdbebfhiaaW.PrintWords Go.Proofs.YtmmbbkdbebfhiaaW.PrintLast Go.Proofs.Ytmmbbkdbebfhiaa.Sha Go.Proofs.YtmmbbkdbebfhiaaW.PrintMore
attribute [local go_sem] Oper.semAt_some max2_int min2_int max_two min_two

theorem numsL_bytesOf {xs : List Int} (h : inB 8 xs) : Lib.numsL (Lib.bytesOf xs) = xs := by
  unfold Lib.numsL Lib.bytesOf
  rw [List.map_map]
  conv => rhs; rw [← List.map_id xs]
  apply List.map_congr_left
  intro x hx
  have := h x hx
  simp
  omega
theorem bytesOf_inj {xs ys : List Int} (hx : inB 8 xs) (hy : inB 8 ys) (h : Lib.bytesOf xs = Lib.bytesOf ys) : xs = ys := by
  rw [← numsL_bytesOf hx, h, numsL_bytesOf hy]
theorem holds_of_C {w : World} {A : Option Addr} {c : Nat} {xs : List Int} (h : Kd.C (Kd.int .u8) w A xs.length xs) (hb : inB 8 xs) : Lib.HoldsBytes w (.slice A xs.length c) (Lib.bytesOf xs) := by
  have h1 := Kd.reads_of_C (d := (0 : Int)) h
  refine ⟨A, c, by rw [Lib.bytesOf_length], fun hA => ?_, fun a ha i x hx => ?_⟩
  · have h0 : ¬ 0 < xs.length := fun hn => by
      obtain ⟨ad, e, _⟩ := h1.2.2 hn
      rw [hA] at e
      cases e
    rw [List.eq_nil_of_length_eq_zero (show xs.length = 0 by omega)]
    rfl
  · have hi : i < xs.length := by
      have := (List.getElem?_eq_some_iff.1 hx).1
      rwa [Lib.bytesOf_length] at this
    obtain ⟨ad, e, hc⟩ := h1.2.2 (by omega)
    obtain rfl : a = ad := by rw [ha] at e; exact Option.some.inj e
    have hb' := hb xs[i] (List.getElem_mem hi)
    have hx2 : x = UInt8.ofNat (xs[i]).toNat := by
      simp [Lib.bytesOf, hi] at hx
      exact hx.symm
    rw [hc i hi, hx2, List.getD_eq_getElem?_getD, List.getElem?_eq_getElem hi]
    simp
    omega
theorem V_of_fresh {B base : Nat} {w' : World} {v : Value} (xs : List Int) (hb : inB 8 xs) (h : Lib.FreshBytes B w' v (Lib.bytesOf xs)) {ok : Nat → Prop} (hok : ∀ k, B ≤ k → ok k) : Kd.V (Kd.int .u8) 5 w' base ok v xs := by
  obtain ⟨g, cap, zs, rfl, hg, hlc, hcm, hz, hzr, hbo, hc, _⟩ := h
  rw [Lib.bytesOf_length] at hlc hbo ⊢
  have hzx : zs.take xs.length = xs := bytesOf_inj (fun x hx => by have := hzr x (List.mem_of_mem_take hx); omega) hb hbo
  refine Kd.V_mk hlc fun W' hW => Kd.C_of_reads (d := (0 : Int)) (h1 := fun _ => rfl) ⟨rfl, by unfold maxLen at hcm; omega, fun _ => ⟨_, rfl, fun j hj => ?_⟩⟩
  have h1 := hc j (by omega)
  have hlt : g < w'.heap.size := World.block_lt_of_cell? w' _ h1
  rw [add_plain, World.cell?_of_block (w := w') (hW g (hok g hg) hlt)]
  rw [h1]
  congr 2
  have e : xs[j]? = zs[j]? := by
    conv => lhs; rw [← hzx]
    rw [List.getElem?_take]
    simp [hj]
  rw [List.getD_eq_getElem?_getD, List.getD_eq_getElem?_getD, e]

/-- 'copy(nb[bp:], nb[:ch])' of a buffer that holds one byte over and over. -/
theorem copy_self (P : Program) (w0 wr : World) (h N bp ch : Nat) (u : UInt8) (t e : TypeId) (hu : P.underlying t = some (.slice e)) (hs : (P.info? e).map (·.size) = some 1)
    (hb : Lib.Buf w0 wr h N (List.replicate bp u)) (hbp : bp < N) (hc0 : 0 < ch) (hch : ch ≤ bp) :
    ∃ wr', (∀ ty, (Builtin.copy_ #[t, t] ty #[Lib.tailV h N bp, .slice (some ⟨h, 0, none⟩) ch N]).run P wr = .ok (.int .i64 ((min ch (N - bp) : Nat) : Int)) wr') ∧ Lib.Buf w0 wr' h N (List.replicate (bp + min ch (N - bp)) u) := by
  obtain ⟨m, hm⟩ : ∃ m, m = min ch (N - bp) := ⟨_, rfl⟩
  rw [← hm]
  have hne : ¬ N = bp := by omega
  have hr := fun ty => run_copy_cells (P := P) wr t t ty e h bp (N - bp) (N - bp) ⟨h, 0, none⟩ ch N (List.replicate m (Value.int .u8 (u.toNat : Int))) hu hs (by rw [List.length_replicate, hm])
    (fun j v hj => by
      have hjm : j < m := by
        have := (List.getElem?_eq_some_iff.1 hj).1
        rwa [List.length_replicate] at this
      have hv : v = Value.int .u8 (u.toNat : Int) := by
        rw [List.getElem?_replicate, if_pos hjm] at hj
        exact (Option.some.inj hj).symm
      rw [hv, add_plain]
      exact hb.holds j u (by rw [List.getElem?_replicate, if_pos (by omega)]))
    (fun j hj => by rw [List.length_replicate] at hj; exact hb.there _ (by omega)) (fun j hj => by rw [List.length_replicate] at hj; exact hb.free _ (by omega))
    (fun v hv => by rw [(List.mem_replicate.1 hv).2]; rfl)
  simp only [List.length_replicate] at hr
  refine ⟨_, by unfold Lib.tailV; rw [if_neg hne]; exact hr, ?_⟩
  have hin := World.cell?_setCells_in h (List.replicate m (Value.int .u8 (u.toNat : Int))) bp wr (fun j hj => by rw [List.length_replicate] at hj; exact hb.there _ (by omega))
  have hout := World.cell?_setCells_out h (List.replicate m (Value.int .u8 (u.toNat : Int))) bp wr
  refine ⟨Lib.below_setCells h (Nat.le_refl _) _ _ hb.below, ?_, ?_, ?_, by rw [List.length_replicate]; omega⟩
  · intro j hj
    by_cases h1 : bp ≤ j ∧ j < bp + m
    · obtain ⟨d, rfl⟩ : ∃ d, j = bp + d := ⟨j - bp, by omega⟩
      rw [hin d (by rw [List.length_replicate]; omega)]
      rfl
    · rw [hout ⟨h, j, none⟩ (fun _ _ => by rw [List.length_replicate]; show j < _ ∨ _ ≤ j; omega)]
      exact hb.there j hj
  · intro j hj
    rw [World.frozen?_setCells]
    exact hb.free j hj
  · intro j x hx
    have hj2 : j < bp + m := by
      have := (List.getElem?_eq_some_iff.1 hx).1
      rwa [List.length_replicate] at this
    have hxu : x = u := by
      rw [List.getElem?_replicate, if_pos hj2] at hx
      exact (Option.some.inj hx).symm
    subst hxu
    by_cases h1 : j < bp
    · rw [hout ⟨h, j, none⟩ (fun _ _ => Or.inl h1)]
      exact hb.holds j x (by rw [List.getElem?_replicate, if_pos h1])
    · obtain ⟨d, rfl⟩ : ∃ d, j = bp + d := ⟨j - bp, by omega⟩
      rw [hin d (by rw [List.length_replicate]; omega)]
      simp

theorem step_copy_run {P : Program} {ops : Array Oper} {o : Oper} {a : Act} {w : World} {K : Act → World → Prop} {Q : Exit → Act → World → Prop} {E : Prop} (hgd : o.guard = none) (d s : Operand) (dT sT : TypeId)
    (ho : o.op = .call { callee := .builtin .copy, args := #[d, s], argTypes := #[dT, sT] }) {D S v : Value} (hd : a.eval d = D) (hs : a.eval s = S) {w1 : World}
    (hrun : ∀ ty, (Builtin.copy_ #[dT, sT] ty #[D, S]).run P w = .ok v w1) (h : K (a.put o.dst v) w1) :
    if Region.wanted o (yielded ops a.tmps) = true then Oper.wp P o a w K Q else E := by
  have hw : Region.wanted o (yielded ops a.tmps) = true := by simp [Region.wanted, hgd]
  rw [if_pos hw]
  unfold Oper.wp
  simp [execOp, ho, resolve, invoke, builtin, hd, hs, hrun, Result.andThen]
  exact h

set_option maxRecDepth 100000 in
set_option maxHeartbeats 4000000 in
theorem repeat_one (u : UInt8) (ad : Addr) (c0 n : Nat) (w : World) (hn1 : 1 ≤ n) (hn : n ≤ 8192) (hcell : w.cell? (ad.add 0) = some (.int .u8 (u.toNat : Int))) :
    Calls Try.prog 58 #[.slice (some ad) 1 c0, .int .i64 (n : Int)] w fun e w' => ∃ v, e = .returned v ∧ Lib.FreshBytes w.heap.size w' v (List.replicate n u) ∧ Below w.heap.size w w' := by
  have hM : Calls Try.prog 68 #[.int .u64 1, .int .u64 (n : Int)] w fun e w' => e = .returned (.tuple #[.int .u64 0, .int .u64 (n : Int)]) ∧ w' = w := by
    have := Try.bits_Mul 1 n (by omega) (by omega) w
    rw [show 1 * n / 18446744073709551616 = 0 by omega, show 1 * n % 18446744073709551616 = n by omega] at this
    exact this
  have n1 : (1 : Int) ≤ (n : Int) := by omega
  have n2 : (n : Int) ≤ 8192 := by omega
  have f0 : ((n : Int) == 0) = false := beq_eq_false_iff_ne.2 (by omega)
  have d0 : decide ((n : Int) < 0) = false := decide_eq_false (by omega)
  have d1 : decide (9223372036854775807 < (n : Int)) = false := decide_eq_false (by omega)
  have d2 : decide (8192 < (n : Int)) = false := decide_eq_false (by omega)
  have hs5 : (Try.prog.info? 5).map (·.size) = some 1 := by kernel_rfl
  have z5 : ∀ w, (Go.sizeOf 5).run Try.prog w = .ok 1 w := fun w => by kernel_rfl
  obtain ⟨cs, hrunM, hle, _⟩ := Lib.run_makeNoZero (P := Try.prog) w #[3] 24 5 Try.underlying24 n (by omega)
  have hcall : (callFunc 69 #[.int .i64 (n : Int)]).run Try.prog w = .ok (.value (.slice (some ⟨w.heap.size, 0, none⟩) n cs.size)) ((w.alloc (.cells cs 5)).drewN 2) := by
    rw [run_callFunc_extern Try.func69 (by kernel_rfl) (by kernel_rfl) (by kernel_rfl) (e := Extern.BytealgMakeNoZero.makeNoZero #[3] #[24]) (by kernel_rfl), hrunM]
    rfl
  clear hrunM
  have i0 : (0 : Int) ≤ (n : Int) := by omega
  have i1 : (n : Int) ≤ (cs.size : Int) := by omega
  have B0 := Lib.Buf.start w cs 5 n 2 hle
  have hH : Lib.HoldsBytes w (.slice (some ad) 1 c0) [u] := by
    refine ⟨some ad, c0, rfl, fun h => (by cases h), fun a ha i x hx => ?_⟩
    obtain rfl : ad = a := Option.some.inj ha
    match i, hx with
    | 0, hx =>
      simp at hx
      subst hx
      exact hcell
    | i + 1, hx => simp at hx
  obtain ⟨w1, hr1, B1⟩ := Lib.copy_part (P := Try.prog) w _ w.heap.size n [] [u] (.slice (some ad) 1 c0) 24 3 5 Try.underlying24 hs5 (Nat.le_refl _) B0
    hH (by simpa using hn1)
  rw [List.length_nil, Lib.tailV_zero] at hr1
  rw [List.nil_append, show [u] = List.replicate 1 u from rfl] at B1
  have HB1 : Aside (Lib.Buf w w1 w.heap.size n (List.replicate 1 u)) := B1
  clear B0 B1
  go_enter Try.func58, Try.ntmps58
  go_wp2_with fail
  refine hM.mono ?_
  rintro e w' ⟨rfl, rfl⟩
  go_wp2_with (at_builtin; refine Lib.wpList_copy_run _ rfl _ _ 24 24 rfl _ _ rfl rfl hr1 ?_)
  clear hr1 hcall hcell
  go_loopw [10] (fun i wr => ∃ bp : Nat, 1 ≤ bp ∧ bp ≤ n ∧ i = .int .i64 bp ∧ Aside (Lib.Buf w' wr w'.heap.size n (List.replicate bp u))) (fun i _ => n - (intOf i).toNat)
  case atStart => exact ⟨1, by omega, hn1, rfl, HB1⟩
  case round =>
    obtain ⟨bp, hb1, hbn, rfl, HB⟩ := hrel
    by_cases hlt : bp < n
    · have HD : Lib.Buf w' wr.drew w'.heap.size n (List.replicate bp u) := ⟨HB.out.below.drew, HB.out.there, HB.out.free, HB.out.holds, HB.out.fits⟩
      obtain ⟨w2, hr2, B2⟩ := copy_self Try.prog w' wr.drew w'.heap.size n bp bp u 24 5 Try.underlying24 hs5 HD hlt (by omega) (by omega)
      obtain ⟨m, hm⟩ : ∃ m, m = min bp (n - bp) := ⟨_, rfl⟩
      rw [← hm] at hr2 B2
      have HB2 : Aside (Lib.Buf w' w2 w'.heap.size n (List.replicate (bp + m) u)) := B2
      have hwm : IntKind.i64.wrap ((bp : Int) + (m : Int)) = ((bp + m : Nat) : Int) := by rw [IntKind.wrap_i64]; omega
      have HM : Hid (0 < m ∧ bp + m ≤ n) := by show _ ∧ _; omega
      clear hm
      have hsl1 : ∀ W, (Instr.slice 24 (.slice (some ⟨w'.heap.size, 0, none⟩) n n) (some (.int .i64 (bp : Int))) none none).run Try.prog W = .ok (Lib.tailV w'.heap.size n bp) W := fun W => Lib.run_slice_tailV W 24 5 Try.underlying24 z5 _ n bp (by omega)
      have hmn : (bp : Int) < (n : Int) := by omega
      clear B2 HD
      go_wp2
      go_region_law (refine step_copy_run (D := Lib.tailV w'.heap.size n bp) (S := .slice (some ⟨w'.heap.size, 0, none⟩) bp n) rfl (.tmp 70) (.tmp 73) 24 24 rfl (by simp [Act.eval, Act.put]) (by simp [Act.eval, Act.put]) hr2 ?_)
      go_simp
      go_roundw
      case rel => exact ⟨_, _, _, _, _, _, _, _, _, _, _, _, _, _, _, _, _, ⟨bp + m, by omega, HM.out.2, by first | rfl | go_num | simp [hwm], HB2⟩, rfl⟩
      case measure => have := HM.out; simp [intOf]; omega
    · obtain rfl : n = bp := by omega
      go_wp2
      go_ret
      exact ⟨_, rfl, HB.out.fresh (by simp) (by unfold maxLen; omega), HB.out.below⟩

set_option maxRecDepth 100000 in
set_option maxHeartbeats 4000000 in
/-- Parts put together, where they lie in a row of the call's own. -/
theorem joined_at (b n : Nat) (vs : List Value) (ls : List (List UInt8)) (w : World) (hn : ls.length = n) (h2 : 2 ≤ n) (hP : Lib.PartsAt w ⟨b, 0, none⟩ vs ls) (hm : n ≤ 1000) (hlen : Lib.lens ls ≤ 140737488355328) :
    Calls Try.prog 57 #[.slice (some ⟨b, 0, none⟩) n n] w fun e w' => ∃ v, e = .returned v ∧ Lib.FreshBytes w.heap.size w' v (Lib.join ls []) ∧ Below w.heap.size w w' := by
  have HJ : Hid (Calls Try.prog 67 #[.slice (some ⟨b, 0, none⟩) n n, .slice none 0 0] w fun e w' => ∃ v', e = .returned v' ∧ Lib.FreshBytes w.heap.size w' v' (Lib.join ls []) ∧ Below w.heap.size w w') :=
    Try.bytes_Join_many b 0 n n vs ls (.slice none 0 0) [] w hn h2 hP (Nat.le_refl _) ⟨none, 0, rfl, fun _ => rfl, fun a ha => by cases ha⟩ (by omega) (by simpa using hlen)
  clear hP
  go_enter Try.func57, Try.ntmps57
  go_wp2_with fail
  refine HJ.out.mono ?_
  rintro e w' ⟨v, rfl, hv, hb⟩
  have HV := Lib.hid hv
  have HB := Lib.hid hb
  clear hv hb
  go_wp2_with fail
  go_ret
  exact ⟨v, rfl, HV.out, HB.out⟩
end Go.Proofs.Ytmmbbkdbebfhiaa.H
