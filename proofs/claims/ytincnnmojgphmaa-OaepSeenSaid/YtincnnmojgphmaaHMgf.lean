/- mgf's iterator of blocks, by walking its text. -/
import Derived.Test.YtincnnmojgphmaaPTx1
import Derived.Test.YtincnnmojgphmaaHSums
import Derived.Test.YtincnnmojgphmaaHBase
import Derived.Test.YtincnnmojgphmaaHRange
import Derived.OwnWalkIn
import Derived.TacticsInMore
import Derived.LoopNIn
import Derived.LoopIn
import Derived.Shelf.Abstract
import Derived.Shelf.RegionOpen
import Derived.Test.YtincnnmojgphmaaHSize
import Derived.Test.YtincnnmojgphmaaPTx2
import Derived.OpenShut
set_option linter.unusedVariables false
set_option linter.unusedSimpArgs false
namespace Go.Proofs.Ytincnnmojgphmaa.H
open Go.RowKit Go.Proofs.YtincnnmojgphmaaW.PrintWords Go.Proofs.YtincnnmojgphmaaW.PrintLast Go.Proofs.Ytincnnmojgphmaa.Sha Go.Proofs.YtincnnmojgphmaaW.PrintMore Go.Proofs.Ytincnnmojgphmaa.PT
attribute [local go_sem] Oper.semAt_some

/-- The hash of bytes by its number; a block of the mask. -/
def hsum (h : Int) (l : List Int) : List Int := if h = 1 then sum5 l else if h = 2 then (sum6 (S6 true) l).take 48 else sum6 (S6 false) l
def hlen (h : Int) : Nat := if h = 1 then 32 else if h = 2 then 48 else 64
def be4 (i : Int) : List Int := [i / 16777216 % 256, i / 65536 % 256, i / 256 % 256, i % 256]
def blkOf (h : Int) (l : List Int) (i : Nat) : List Int := hsum h (l ++ be4 (i : Int))
theorem hsum_length (h : Int) (l : List Int) : (hsum h l).length = hlen h := by
  unfold hsum hlen
  split
  · exact sum5_length l
  · split
    · rw [List.length_take, sum6_length _ _ (S6_length _)]; rfl
    · exact sum6_length _ _ (S6_length _)
theorem be4_in (i : Nat) : inB 8 (be4 (i : Int)) := by
  intro x hx
  simp only [be4, List.mem_cons, List.not_mem_nil, or_false] at hx
  rcases hx with rfl | rfl | rfl | rfl <;> omega
theorem sum_at (h : Int) (hh : h = 1 ∨ h = 2 ∨ h = 3) (l : List Int) (hb : inB 8 l) (hl : l.length ≤ 140737488351232) : hash_Sum.f h l = some (hsum h l, 0) := by
  have hc : inB 8 l ∧ l.length ≤ 140737488351232 := ⟨hb, hl⟩
  rcases hh with rfl | rfl | rfl
  · simp [hash_Sum.f, sha256_Sum.f, hc, hsum]
  · simp only [hash_Sum.f, sha512_Sum384.f, hc, hsum, and_self, if_true, Option.bind_some, show ¬ ((2 : Int) = 1) by decide, if_false]
  · simp [hash_Sum.f, sha512_Sum.f, hc, hsum]

theorem row4 {W : World} {B : Nat} {T : TypeId} {x0 x1 x2 x3 : Int} (h : W.heap[B]? = some (.cells #[.int .u8 x0, .int .u8 x1, .int .u8 x2, .int .u8 x3] T (0, 0))) : Kd.C (Kd.int .u8) W (some ⟨B, 0, none⟩) 4 [x0, x1, x2, x3] := by
  refine Kd.C_of_reads (d := (0 : Int)) (h1 := fun _ => rfl) ⟨rfl, by simp, fun _ => ⟨⟨B, 0, none⟩, rfl, fun j hj => ?_⟩⟩
  match j, hj with
  | 0, _ => exact (blk_cell h 0).trans rfl
  | 1, _ => exact (blk_cell h 1).trans rfl
  | 2, _ => exact (blk_cell h 2).trans rfl
  | 3, _ => exact (blk_cell h 3).trans rfl

theorem blocks_in (n : Nat) (h : Int) (a : Option Addr) (len cap : Nat) (w : World) :
    CallsIn Fence.wide n Try.prog 72 #[.int .i64 h, .slice a len cap] w fun e w' => e = .returned (.func (.func 83) #[] #[.pointer (some ⟨w.heap.size, 0, none⟩), .pointer (some ⟨w.heap.size + 1, 0, none⟩)]) ∧ w' = (w.alloc (.cells #[.int .i64 h] 3)).alloc (.cells #[.slice a len cap] 22) := by
  refine callsIn_of_wp Try.func72 rfl trivial ?_ rfl
  simp only [Try.ntmps72, List.size_toArray, List.length_cons, List.length_nil, Nat.reduceAdd, Nat.reduceSub, Array.replicate_succ, Array.replicate_zero, List.push_toArray, List.append_toArray, List.nil_append, List.cons_append]
  gi_wp2
  go_ret
  exact ⟨rfl, rfl⟩

/-- What is handed over in a round: bytes in memory of their own. -/
def HandB (h : Int) (l : List Int) (i : Nat) (x : Array Value) (W : World) : Prop := ∃ A c, x = #[.slice A (hlen h) c] ∧ Kd.C (Kd.int .u8) W A (hlen h) (blkOf h l i)

set_option maxRecDepth 100000 in
set_option maxHeartbeats 4000000 in
theorem blocks1_iter (n : Nat) (hn : 1 ≤ n) (h : Int) (hh : h = 1 ∨ h = 2 ∨ h = 3) (Bh Bs : Nat) (A : Option Addr) (c : Nat) (l : List Int) (w w0 : World) (hw : Below w0.heap.size w0 w) (hC : Kd.C (Kd.int .u8) w0 A l.length l) (hc : l.length ≤ c) (hm : l.length ≤ 100000) (hb : inB 8 l)
    (hBh : w.cell? ⟨Bh, 0, none⟩ = some (.int .i64 h)) (hBs : w.cell? ⟨Bs, 0, none⟩ = some (.slice A l.length c)) (hB0 : w0.heap.size ≤ Bh) (hB1 : w0.heap.size ≤ Bs) (N : Nat) (hN : N < 100000) :
    IterR n Try.prog 83 #[.pointer (some ⟨Bh, 0, none⟩), .pointer (some ⟨Bs, 0, none⟩)] (HandB h l) (fun k => k < w0.heap.size ∨ k = Bh ∨ k = Bs) N w := by
  intro lp J Jx W hW hJ hJx hNo hY h0
  have hBhW : W.cell? ⟨Bh, 0, none⟩ = some (.int .i64 h) := (hW.cell (p := ⟨Bh, 0, none⟩) (World.block_lt_of_cell? w _ hBh)).trans hBh
  have hBsW : W.cell? ⟨Bs, 0, none⟩ = some (.slice A l.length c) := (hW.cell (p := ⟨Bs, 0, none⟩) (World.block_lt_of_cell? w _ hBs)).trans hBs
  have hsW : Hid (∀ k, k < w0.heap.size → W.heap[k]? = w0.heap[k]?) := fun k hk => (hW.block k (Nat.lt_of_lt_of_le hk hw.size)).trans (hw.block k hk)
  have hszW : w.heap.size ≤ W.heap.size := hW.size
  refine callsIn_of_wp Try.func83 rfl trivial ?_ rfl
  simp only [Try.ntmps83, List.size_toArray, List.length_cons, List.length_nil, Nat.reduceAdd, Nat.reduceSub, Array.replicate_succ, Array.replicate_zero, List.push_toArray, List.append_toArray, List.nil_append, List.cons_append]
  gi_wp2
  gi_loopw [4] (fun i wr => ∃ k : Nat, k ≤ N ∧ i = .int .u32 k ∧ J k wr ∧ wr.cell? ⟨Bh, 0, none⟩ = some (.int .i64 h) ∧ wr.cell? ⟨Bs, 0, none⟩ = some (.slice A l.length c) ∧ w.heap.size ≤ wr.heap.size ∧ Hid (∀ k, k < w0.heap.size → wr.heap[k]? = w0.heap[k]?))
    (fun i _ => N - (intOf i).toNat)
  case atStart => exact ⟨0, Nat.zero_le _, rfl, h0, hBhW, hBsW, hszW, hsW⟩
  case round =>
    obtain ⟨k, hk, rfl, hJk, hch, hcs, hsz, hs⟩ := hrel
    have hkN : k < N := by
      by_cases e : k = N
      · subst e; exact (hNo _ hJk).elim
      · omega
    have hk32 : (k : Int) < 4294967296 := by omega
    have hk0 : (0 : Int) ≤ (k : Int) := by omega
    have HCl : Hid (∀ (W1 : World), Below wr.heap.size wr W1 → Calls Try.prog 38 #[.slice A l.length c] W1 fun e w' => ∃ v0_ : Value, e = .returned v0_ ∧ Kd.R (Kd.int .u8) 5 w' wr.heap.size (fun k => W1.heap.size ≤ k) v0_ l ∧ Below W1.heap.size W1 w' ∧ Below wr.heap.size wr w' ∧ w'.cell? ⟨Bh, 0, none⟩ = some (.int .i64 h)) := fun W1 hb1 => by
      have hCr : Kd.C (Kd.int .u8) W1 A l.length l := C_same hC (fun i hi => (hb1.block i (Nat.lt_of_lt_of_le hi (Nat.le_trans hw.size hsz))).trans (hs.out i hi))
      refine (slices_Clone_byte_byte.calls A c l l W1 hCr hc (by simp [slices_Clone_byte_byte.f]; omega)).mono ?_
      rintro e w' ⟨v, rfl, hv, hb2⟩
      have hb3 := hb1.trans (hb2.mono hb1.size)
      exact ⟨v, rfl, Kd.R_mono (Kd.R_lower (Kd.R_bound hv) hb1.size) (fun k hk => hk.2.1), hb2, hb3, (hb3.cell (p := ⟨Bh, 0, none⟩) (World.block_lt_of_cell? _ _ hch)).trans hch⟩
    have HSu : Hid (∀ (W1 : World) (B : Nat) (ok : Nat → Prop) (v : Value), Kd.R (Kd.int .u8) 5 W1 B ok v (l ++ be4 (k : Int)) → Calls Try.prog 40 #[.int .i64 h, v] W1 fun e w' => ∃ v0_ : Value, e = .returned (.tuple #[v0_, .int .i64 0]) ∧ Kd.V (Kd.int .u8) 5 w' W1.heap.size (fun k_ => W1.heap.size ≤ k_) v0_ (blkOf h l k) ∧ Below W1.heap.size W1 w') := fun W1 B ok v hR => by
      obtain ⟨A1, c1, rfl⟩ := Kd.R_slice hR
      have hR' := Kd.R_reads' hR
      exact hash_Sum.calls h A1 c1 (l ++ be4 (k : Int)) (blkOf h l k) 0 W1 hR'.2.2 hR'.2.1 (sum_at h hh _ (inB_append hb (be4_in k)) (by rw [List.length_append]; simp [be4]; omega))
    gi_wp2_with fail
    obtain ⟨KK, hQ1, hQ2⟩ : ∃ KK : Act → World → Prop, (∀ (v5 t6 t7 t8 t9 t10 t11 t12 t13 t14 t15 t16 t17 t18 t19 t20 t21 t22 t23 t24 t25 t26 t27 t28 t29 t30 t31 t32 : Value) (w5 : World), Kd.V (Kd.int .u8) 5 w5 wr.heap.size (fun j => wr.heap.size ≤ j) v5 (blkOf h l k) → Below wr.heap.size wr w5 → KK { tmps := #[.func (.yield lp) #[] #[], .pointer (some ⟨Bh, 0, none⟩), .pointer (some ⟨Bs, 0, none⟩), undef, .int .u32 (k : Int), v5, t6, t7, t8, t9, t10, t11, t12, t13, t14, t15, t16, t17, t18, t19, t20, t21, t22, t23, t24, t25, t26, t27, t28, t29, t30, t31, t32], defers := [] } w5) ∧
        (∀ a' w5, KK a' w5 → ∃ v5 t6 t7 t8 t9 t10 t11 t12 t13 t14 t15 t16 t17 t18 t19 t20 t21 t22 t23 t24 t25 t26 t27 t28 t29 t30 t31 t32 : Value, a' = { tmps := #[.func (.yield lp) #[] #[], .pointer (some ⟨Bh, 0, none⟩), .pointer (some ⟨Bs, 0, none⟩), undef, .int .u32 (k : Int), v5, t6, t7, t8, t9, t10, t11, t12, t13, t14, t15, t16, t17, t18, t19, t20, t21, t22, t23, t24, t25, t26, t27, t28, t29, t30, t31, t32], defers := [] } ∧ Kd.V (Kd.int .u8) 5 w5 wr.heap.size (fun j => wr.heap.size ≤ j) v5 (blkOf h l k) ∧ Below wr.heap.size wr w5) :=
      ⟨fun a' w5 => ∃ v5 t6 t7 t8 t9 t10 t11 t12 t13 t14 t15 t16 t17 t18 t19 t20 t21 t22 t23 t24 t25 t26 t27 t28 t29 t30 t31 t32 : Value, a' = { tmps := #[.func (.yield lp) #[] #[], .pointer (some ⟨Bh, 0, none⟩), .pointer (some ⟨Bs, 0, none⟩), undef, .int .u32 (k : Int), v5, t6, t7, t8, t9, t10, t11, t12, t13, t14, t15, t16, t17, t18, t19, t20, t21, t22, t23, t24, t25, t26, t27, t28, t29, t30, t31, t32], defers := [] } ∧ Kd.V (Kd.int .u8) 5 w5 wr.heap.size (fun j => wr.heap.size ≤ j) v5 (blkOf h l k) ∧ Below wr.heap.size wr w5, fun v5 t6 t7 t8 t9 t10 t11 t12 t13 t14 t15 t16 t17 t18 t19 t20 t21 t22 t23 t24 t25 t26 t27 t28 t29 t30 t31 t32 w5 h1 h2 => ⟨v5, t6, t7, t8, t9, t10, t11, t12, t13, t14, t15, t16, t17, t18, t19, t20, t21, t22, t23, t24, t25, t26, t27, t28, t29, t30, t31, t32, rfl, h1, h2⟩, fun _ _ h => h⟩
    have HQ1 := Lib.hid hQ1
    clear hQ1
    refine wpIn_mono (Q := Exit.then KK (fun _ _ _ => False)) ?walk ?rest
    case walk =>
--DEV<
      refine wpIn_wide.2 ?_
      have HW0 := Lib.hid (Below.refl wr.heap.size wr)
      have hBhl : Bh < wr.heap.size := World.block_lt_of_cell? _ _ hch
      have hBsl : Bs < wr.heap.size := World.block_lt_of_cell? _ _ hcs
      have HCH : Hid (∀ W1 : World, Below wr.heap.size wr W1 → W1.cell? ⟨Bh, 0, none⟩ = some (.int .i64 h)) := fun W1 hb1 => (hb1.cell (p := ⟨Bh, 0, none⟩) (World.block_lt_of_cell? _ _ hch)).trans hch
      go_region_law (first
        | (go_simp; go_at_call 38; (with_reducible refine (HCl.out _ ?hW).mono ?_); (case hW => first | exact HW0.out.drew | exact (HW0.out.alloc (Nat.le_refl _) _).drew | exact HW0.out.drew.alloc (Nat.le_refl _) _ | exact HW0.out.alloc (Nat.le_refl _) _); rintro _ w2 ⟨v2, rfl, hv2, hb2, hB2, hch2⟩; (have HV2 := Lib.hid hv2); (have HB2 := Lib.hid hB2); (have hBh2 : Bh < w2.heap.size := World.block_lt_of_cell? _ _ hch2); clear hv2 hB2)
        | (refine Kd.R_append_rows_step (Kd.int .u8) (w0 := wr) wr.heap.size rfl (.tmp 12) (.tmp 24) 22 5 (.int .u8 0) 1 rfl Try.underlying22 infoU8 rfl (by decide) (by omega) v2 l (be4 (k : Int)) _ _ _ (fun _ => True) (fun _ => False) rfl rfl ?aO ?aR (fun _ _ h => h) (fun _ h => h.elim) ?aF ?aB ?aS ?aL ?_; (case aR => first | exact row4 (heap_alloc_new _ _) | exact row4 ((hb2.block _ (by simp)).trans (heap_alloc_new _ _))); (case aB => first | exact HB2.out | exact HB2.out.alloc HB2.out.size _); (case aF => exact (fun _ _ => trivial)); (case aO => first | exact Kd.R_mono HV2.out (fun _ _ => trivial) | exact Kd.R_alloc (Kd.R_mono HV2.out (fun _ _ => trivial)) _); (case aS => first | exact HB2.out.size | exact Nat.le_trans HB2.out.size (by simp)); (case aL => simp [be4]; omega); intro v4 w4 ho4 hb4 hg4 hat4; (have HV4 := Lib.hid ho4); (have HB4 := Lib.hid hb4); (have hch4 : w4.cell? ⟨Bh, 0, none⟩ = some (.int .i64 h) := HCH.out w4 hb4); clear ho4 hb4 hg4 hat4)
        | (go_simp; go_at_call 40; (with_reducible refine (HSu.out _ _ _ _ HV4.out).mono ?_); rintro _ w5 ⟨v5, rfl, hv5, hb5⟩; (have HV5 := Lib.hid hv5); (have HB5 := Lib.hid (HB4.out.trans (hb5.mono HB4.out.size))); clear hv5 hb5))
      all_goals
        first | (show KK _ _) | skip
        (try go_simp)
        exact HQ1.out v5 _ _ _ _ _ _ _ _ _ _ _ _ _ _ _ _ _ _ _ _ _ _ _ _ _ _ _ w5 (Kd.V_mono (Kd.V_lower HV5.out HB4.out.size) (fun j hj => Nat.le_trans HB4.out.size hj)) HB5.out
--DEV>
    case rest =>
      intro e a' w5 hq0
      have hn0 : e = .normal := by cases e <;> first | rfl | exact hq0.elim
      subst hn0
      have hq : KK a' w5 := hq0
      clear hq0
      obtain ⟨v5, t6, t7, t8, t9, t10, t11, t12, t13, t14, t15, t16, t17, t18, t19, t20, t21, t22, t23, t24, t25, t26, t27, t28, t29, t30, t31, t32, rfl, hv5, hb5⟩ := hQ2 a' w5 hq
      clear hq hQ2 HQ1
      have hch5 : w5.cell? ⟨Bh, 0, none⟩ = some (.int .i64 h) := (hb5.cell (p := ⟨Bh, 0, none⟩) (World.block_lt_of_cell? _ _ hch)).trans hch
      have hcs5 : w5.cell? ⟨Bs, 0, none⟩ = some (.slice A l.length c) := (hb5.cell (p := ⟨Bs, 0, none⟩) (World.block_lt_of_cell? _ _ hcs)).trans hcs
      have hz5 : w.heap.size ≤ w5.heap.size := Nat.le_trans hsz hb5.size
      have hs5 : Hid (∀ k, k < w0.heap.size → w5.heap[k]? = w0.heap[k]?) := fun i hi => (hb5.block i (Nat.lt_of_lt_of_le hi (Nat.le_trans hw.size hsz))).trans (hs.out i hi)
      have hv6 := Kd.V_mono (ok' := fun j => w.heap.size ≤ j) (Kd.V_lower hv5 hsz) (fun j hj => Nat.le_trans hsz hj)
      obtain ⟨A5, c5, rfl⟩ := Kd.V_slice hv5
      have hv7 := (Kd.V_reads' hv6).2.2
      rw [show (blkOf h l k).length = hlen h from hsum_length _ _] at hv7 ⊢
      obtain ⟨fn, tmps, assign, body, hy, hR⟩ := hY k #[.slice A5 (hlen h) c5] w5 ⟨A5, c5, rfl, hv7⟩ hkN (hJ _ _ _ hJk (Away.of_below hb5))
      have HR := Lib.hid hR
      have hBh5 : Bh < w5.heap.size := World.block_lt_of_cell? _ _ hch5
      have hBs5 : Bs < w5.heap.size := World.block_lt_of_cell? _ _ hcs5
      clear hR hv5 hv6 hv7 hY hb5
      gi_wp2
      refine HR.out.mono ?_
      rintro e W3 (⟨rfl, hJ3, hk3⟩ | ⟨rfl, hJx3⟩)
      · have hch3 : W3.cell? ⟨Bh, 0, none⟩ = some (.int .i64 h) := (World.cell?_of_block (w := w5) (hk3.block Bh hBh5 (.inr (.inl rfl)))).trans hch5
        have hcs3 : W3.cell? ⟨Bs, 0, none⟩ = some (.slice A l.length c) := (World.cell?_of_block (w := w5) (hk3.block Bs hBs5 (.inr (.inr rfl)))).trans hcs5
        have hz3 : w.heap.size ≤ W3.heap.size := Nat.le_trans hz5 hk3.size
        have hs3 : Hid (∀ k, k < w0.heap.size → W3.heap[k]? = w0.heap[k]?) := fun i hi => (hk3.block i (by omega) (.inl hi)).trans (hs5.out i hi)
        clear hk3
        have hwr : IntKind.u32.wrap ((k : Int) + 1) = ((k + 1 : Nat) : Int) := by
          have := IntKind.wrap_u32' ((k : Int) + 1)
          omega
        gi_wp2
        go_roundw
        case rel => exact ⟨k + 1, by omega, by first | rfl | go_num | simp [hwr], hJ3, hch3, hcs3, hz3, hs3⟩
        case measure => simp [intOf]; omega
      · gi_wp2
        refine bodyPost_ret (results_none rfl _ _ _) rfl ?_
        exact ⟨⟨_, rfl⟩, _, hJx3⟩
end Go.Proofs.Ytincnnmojgphmaa.H

set_option linter.unusedVariables false
set_option linter.unusedSimpArgs false
namespace Go.Proofs.Ytincnnmojgphmaa.H
open Go.RowKit Go.Proofs.YtincnnmojgphmaaW.PrintWords Go.Proofs.YtincnnmojgphmaaW.PrintLast Go.Proofs.Ytincnnmojgphmaa.Sha Go.Proofs.YtincnnmojgphmaaW.PrintMore Go.Proofs.Ytincnnmojgphmaa.PT
attribute [local go_sem] Oper.semAt_some

/-- The first i blocks of the mask, one behind the other. -/
def outI (h : Int) (l : List Int) : Nat → List Int
  | 0 => []
  | i + 1 => outI h l i ++ blkOf h l i
theorem blkOf_length (h : Int) (l : List Int) (i : Nat) : (blkOf h l i).length = hlen h := hsum_length _ _
theorem outI_length (h : Int) (l : List Int) (i : Nat) : (outI h l i).length = i * hlen h := by
  induction i with
  | zero => simp [outI]
  | succ i ih => rw [outI, List.length_append, ih, blkOf_length, Nat.succ_mul]
theorem hlen_pos (h : Int) : 32 ≤ hlen h := by unfold hlen; split <;> (try split) <;> omega
theorem hlen_le (h : Int) : hlen h ≤ 64 := by unfold hlen; split <;> (try split) <;> omega

/-- The walk ahead of round i. -/
structure MI (w : World) (Bn X : Nat) (h : Int) (l : List Int) (n i : Nat) (W : World) : Prop where
  nn : W.heap[Bn]? = some (.cells #[.int .i64 (n : Int)] 3 (0, 0))
  own : W.ownsRow w.heap.size 5 1 (.slice (some ⟨X, 0, none⟩) (outI h l i).length (n + 64)) (outI h l i).length (encs (Value.int .u8) (outI h l i))
  o : W.heap[X + 1]? = some (.cells #[.slice (some ⟨X, 0, none⟩) (outI h l i).length (n + 64)] 22 (0, 0))
  below : Below w.heap.size w W
  size : X + 4 ≤ W.heap.size
  lt : i = 0 ∨ (i - 1) * hlen h < n
theorem owns_blk {W W' : World} {base e X m cap : Nat} {xs : List Value} (h : W.ownsRow base e 1 (.slice (some ⟨X, 0, none⟩) m cap) m xs) (hs : W'.heap[X]? = W.heap[X]?) : W'.ownsRow base e 1 (.slice (some ⟨X, 0, none⟩) m cap) m xs := by
  refine ⟨h.1, ?_⟩
  rcases h.2 with h0 | ⟨g, c, cur, he, hb, hg, hr⟩
  · exact .inl h0
  · have hX : X = g := by
      simp only [Value.slice.injEq, Option.some.injEq, Addr.mk.injEq, and_true, true_and] at he
      exact he.1
    subst hX
    exact .inr ⟨X, c, cur, he, hb, hs.trans hg, hr⟩
theorem owns_lt {W : World} {base e X m cap : Nat} {xs : List Value} (h : W.ownsRow base e 1 (.slice (some ⟨X, 0, none⟩) m cap) m xs) : X < W.heap.size := by
  rcases h.2 with ⟨h0, _⟩ | ⟨g, c, cur, he, hb, hg, hr⟩
  · simp at h0
  · simp only [Value.slice.injEq, Option.some.injEq, Addr.mk.injEq, and_true, true_and] at he
    rw [he.1]
    exact (Array.getElem?_eq_some_iff.1 hg).1
theorem MI.away {w : World} {Bn X : Nat} {h : Int} {l : List Int} {n i : Nat} {A B : World} {S : Nat → Prop} (k : MI w Bn X h l n i A) (hB : Bn < X) (hX : w.heap.size ≤ X) (ha : Away S A B) (hs : ∀ k, S k → X + 4 ≤ k) : MI w Bn X h l n i B :=
  have no : ∀ k, k < X + 4 → ¬ S k := fun k hk hS => by have := hs k hS; omega
  ⟨ha.blk k.nn (no _ (by omega)), owns_blk k.own (ha.block _ (owns_lt k.own) (no _ (by omega))), ha.blk k.o (no _ (by omega)), Away.below k.below ha (fun k hk => by have := hs k hk; omega) (by have := k.size; omega), Nat.le_trans k.size ha.size, k.lt⟩
theorem hand_put {h : Int} {l : List Int} {i : Nat} {x : Array Value} {W : World} {r : Nat} {q : Loop} (o : Obj) (hx : HandB h l i x W) (hq : W.heap[r]? = some (.loop q)) : HandB h l i x (W.putObj r o) := by
  obtain ⟨A, c, rfl, hC⟩ := hx
  refine ⟨A, c, rfl, ?_⟩
  have h1 := Kd.reads_of_C (d := (0 : Int)) hC
  refine Kd.C_of_reads (d := (0 : Int)) (h1 := fun _ => rfl) ⟨h1.1, h1.2.1, fun hn => ?_⟩
  obtain ⟨ad, e, hc⟩ := h1.2.2 hn
  refine ⟨ad, e, fun j hj => ?_⟩
  have h2 := hc j hj
  rw [World.cell?_of_block (w := W) (World.putObj_heap_other ?_)]
  · exact h2
  · intro e2
    have e3 : (ad.add j).block = r := e2
    rw [← e3] at hq
    simp [World.cell?, World.cells?, hq] at h2
theorem size_at (h : Int) (hh : h = 1 ∨ h = 2 ∨ h = 3) : hash_Size.f h = some (hlen h : Int) := by
  rcases hh with rfl | rfl | rfl <;> simp [hash_Size.f, hlen]

set_option maxRecDepth 100000 in
set_option maxHeartbeats 4000000 in
theorem mask_in (n : Nat) (hn : 4 ≤ n) (h : Int) (hh : h = 1 ∨ h = 2 ∨ h = 3) (A : Option Addr) (c : Nat) (l : List Int) (w : World) (hC : Kd.C (Kd.int .u8) w A l.length l) (hc : l.length ≤ c) (hm : l.length ≤ 100000) (hb : inB 8 l) (m : Nat) (hm0 : m ≤ 10000) :
    CallsIn Fence.wide n Try.prog 54 #[.int .i64 h, .slice A l.length c, .int .i64 (m : Int)] w fun e w' => ∃ (i : Nat) (v : Value), e = .returned (.tuple #[v, .int .i64 0]) ∧ m ≤ i * hlen h ∧ Kd.V (Kd.int .u8) 5 w' w.heap.size (fun k => w.heap.size ≤ k) v ((outI h l i).take m) ∧ Below w.heap.size w w' := by
  have hmk := make_cap (m + 64) (by omega)
  have hmk' : (((m + 64 : Nat) : Int)) = (m : Int) + 64 := by omega
  rw [hmk'] at hmk
  clear hmk'
  have hN0 : (0 : Int) ≤ (m : Int) := by omega
  have hN1 : (m : Int) ≤ 10000 := by omega
  have hsz : Hid (∀ W, Calls Try.prog 29 #[.int .i64 h] W fun e w' => e = .returned (.int .i64 (hlen h : Int)) ∧ Below W.heap.size W w') := fun W => by
    first | exact hash_Size.calls h _ W (size_at h hh) | exact (hash_Size.calls h _ W (size_at h hh)).mono (fun e w' hx => ⟨hx.1, hx.2.below⟩)
  have hl0 : ((hlen h : Int) == 0) = false := by have := hlen_pos h; simp; omega
  refine callsIn_of_wp_marks Try.func54 rfl trivial ?_ rfl
  simp only [Try.ntmps54, List.size_toArray, List.length_cons, List.length_nil, Nat.reduceAdd, Nat.reduceSub, Array.replicate_succ, Array.replicate_zero, List.push_toArray, List.append_toArray, List.nil_append, List.cons_append]
  gi_wp2_with fail
  refine ⟨trivial, fun _ => by omega, ?_⟩
  refine (callsIn_wide.2 (hsz.out _)).mono ?_
  rintro e w1 ⟨rfl, hb1⟩
  have hcn1 : w1.heap[w.heap.size]? = some (.cells #[.int .i64 (m : Int)] 3 (0, 0)) := (hb1.block _ (by simp)).trans (heap_alloc_new _ _)
  have hc1 := blk_cell hcn1 0
  have hc1' : w1.cell? ⟨w.heap.size, 0, none⟩ = some (.int .i64 (m : Int)) := hc1
  have hz1 : w.heap.size < w1.heap.size := Nat.lt_of_lt_of_le (by simp) hb1.size
  have HB1 : Hid (Below w.heap.size w w1) := ((Below.refl w.heap.size w).alloc (Nat.le_refl _) _).trans (hb1.mono (by simp))
  have HN1 := Lib.hid hcn1
  clear hb1 hc1 hcn1
  gi_wp2_with fail
  refine ⟨trivial, fun _ => by omega, ?_⟩
  refine (blocks_in (n - 1) _ _ _ _ _).mono ?_
  rintro e w' ⟨rfl, rfl⟩
  obtain ⟨W0, hW0⟩ : ∃ W0, W0 = ((((w1.alloc (.cells (madeCells #[.int .u8 0] (m + 64)) 5)).alloc (.cells #[.slice (some ⟨w1.heap.size, 0, none⟩) 0 (m + 64)] 22)).alloc (.cells #[.int .i64 h] 3)).alloc (.cells #[.slice A l.length c] 22)) := ⟨_, rfl⟩
  have hz0 : W0.heap.size = w1.heap.size + 4 := by rw [hW0]; simp
  have hb0 : Below w1.heap.size w1 W0 := by
    rw [hW0]; exact ((((Below.refl _ w1).alloc (Nat.le_refl _) _).alloc (by simp) _).alloc (by simp; omega) _).alloc (by simp; omega) _
  have hbw : Below w.heap.size w W0 := HB1.out.trans (hb0.mono (Nat.le_of_lt hz1))
  have hcbh : W0.cell? ⟨w1.heap.size + 1 + 1, 0, none⟩ = some (.int .i64 h) := by
    rw [hW0, World.cell?_alloc_past _ _ _ (by simp), World.cell?_alloc_at _ _ _ _ (by simp)]; rfl
  have hcbs : W0.cell? ⟨w1.heap.size + 1 + 1 + 1, 0, none⟩ = some (.slice A l.length c) := by
    rw [hW0, World.cell?_alloc_at _ _ _ _ (by simp)]; rfl
  have h0 : MI w w.heap.size w1.heap.size h l m 0 W0 := by
    refine ⟨(hb0.block _ hz1).trans HN1.out, ?_, ?_, hbw, by omega, .inl rfl⟩
    · refine ⟨rfl, .inr ⟨w1.heap.size, m + 64, madeCells #[.int .u8 0] (m + 64), rfl, Nat.le_of_lt hz1, ?_, Nat.zero_le _, Nat.le_trans (show m + 64 ≤ 140737488355328 by omega) (by decide), by simp [size_madeCells], by simp [encs, outI]⟩⟩
      rw [hW0]; simp only [heap_at, World.size_alloc]; (repeat (first | rw [if_pos (by omega)] | rw [if_neg (by omega)])); try simp only [if_true]
    · rw [hW0]; simp only [heap_at, World.size_alloc]; (repeat (first | rw [if_pos (by omega)] | rw [if_neg (by omega)])); try rfl
  have HB := Lib.hid hbw
  have HZ := Lib.hid hz0
  have H0 := Lib.hid h0
  rw [← hW0]
  clear hW0 hmk h0 hz0 hbw hb0 HB1 HN1 hc1'
  gi_wp2
  have hlp := hlen_pos h
  have hll := hlen_le h
  refine wpIn_iterR (gf := 83) (lb := #[.pointer (some ⟨w1.heap.size + 1 + 1, 0, none⟩), .pointer (some ⟨w1.heap.size + 1 + 1 + 1, 0, none⟩)]) rfl (enters_of Try.func83 (by kernel_rfl) rfl)
    (blocks1_iter (n - 1) (by omega) h hh (w1.heap.size + 1 + 1) (w1.heap.size + 1 + 1 + 1) A c l W0 w HB.out hC hc hm hb hcbh hcbs (by omega) (by omega) (m + 1) (by omega)) (Below.refl _ _)
    (fun i x W hx => by obtain ⟨A', c', rfl, _⟩ := hx; rfl) (fun i x W q o hx hq => hand_put o hx hq)
    (MI w w.heap.size w1.heap.size h l m) (fun cc i W => cc = .exit 1 ∧ ∃ j, MI w w.heap.size w1.heap.size h l m j W ∧ m ≤ j * hlen h)
    (fun i A B k ha => k.away hz1 (Nat.le_of_lt hz1) ha (fun k hk => by have := HZ.out; omega)) (fun cc i A B k ha => ⟨k.1, by obtain ⟨j, k1, k2⟩ := k.2; exact ⟨j, k1.away hz1 (Nat.le_of_lt hz1) ha (fun k hk => by have := HZ.out; omega), k2⟩⟩) H0.out
    (fun W k => by
      have h1 := k.lt
      simp only [Nat.add_sub_cancel] at h1
      have h2 : m * 32 ≤ m * hlen h := Nat.mul_le_mul_left _ hlp
      omega) (fun x => { tmps := #[.int .i64 h, .slice A l.length c, .int .i64 (m : Int), undef, undef, .pointer (some ⟨w.heap.size, 0, none⟩), .slice none 0 0, .int .i64 0, .pointer (some ⟨w1.heap.size + 1, 0, none⟩), x[0]?.getD undef, .bool false, .int .i64 h, .int .i64 (hlen h : Int), .bool false, .bool (decide ((m : Int) < 0)), .int .i64 (m : Int), .bool (decide ((m : Int) < 0)), .bool (decide (10000 < (m : Int))), .int .i64 (m : Int), .bool (decide (10000 < (m : Int))), .int .i64 (m : Int), .int .i64 ((m : Int) + 64), .slice (some ⟨w1.heap.size, 0, none⟩) 0 (m + 64), .int .i64 h, .slice A l.length c, .func (.func 83) #[] #[.pointer (some ⟨w1.heap.size + 1 + 1, 0, none⟩), .pointer (some ⟨w1.heap.size + 1 + 1 + 1, 0, none⟩)], x[0]?.getD undef, undef, undef, undef, undef, undef, undef, undef, undef, undef, undef, undef], defers := [] }) ?assign ?body (fun k hk => by have := HZ.out; omega) ?stop
  case assign =>
    intro l' x W K hx hK
    obtain ⟨v, rfl⟩ : ∃ v, x = #[v] := by
      cases x with | mk xs => match xs, hx with | [v], _ => exact ⟨v, rfl⟩
    simp only [List.zip_toArray, List.zip_cons_cons, List.zip_nil_right, List.foldl_toArray, List.foldl_toArray', List.foldl_cons, List.foldl_nil, List.setIfInBounds_toArray, List.set_cons_succ, List.set_cons_zero]
    gi_wp2
    exact hK
  case body =>
    --DEV<
    rintro lp i x W ⟨A5, c5, rfl, hC5⟩ hi hI hz
    have hcn : W.cell? ⟨w.heap.size, 0, none⟩ = some (.int .i64 (m : Int)) := blk_cell hI.nn 0
    have hco : W.cell? ⟨w1.heap.size + 1, 0, none⟩ = some (.slice (some ⟨w1.heap.size, 0, none⟩) (outI h l i).length (m + 64)) := blk_cell hI.o 0
    have hfo : W.frozen? ⟨w1.heap.size + 1, 0, none⟩ = false := blk_frozen hI.o 0
    obtain ⟨lo, hlo⟩ : ∃ lo, lo = (outI h l i).length := ⟨_, rfl⟩
    have hOw := hI.own
    rw [← hlo] at hco hOw
    have HOw := Lib.hid hOw
    have HI := Lib.hid hI
    have HZW := Lib.hid hz
    have hC5r := Kd.reads_of_C (d := (0 : Int)) hC5
    obtain ⟨ad, rfl, hcell5⟩ := hC5r.2.2 (by omega)
    have hb5 : (blkOf h l i).length = hlen h := blkOf_length h l i
    obtain ⟨ii, hii⟩ := Option.isSome_iff_exists.1 (show (Try.prog.info? 5).isSome = true by kernel_rfl)
    have h3 := infoU8
    rw [hii] at h3
    simp only [Option.map_some, Option.some.injEq, Prod.mk.injEq] at h3
    have N1 : Hid ((encs (Value.int .u8) (blkOf h l i)).length = hlen h * 1) := by show _ = _; simp [encs, hb5]
    have N2 : Hid (∀ j u, (encs (Value.int .u8) (blkOf h l i))[j]? = some u → W.cell? (ad.add j) = some u) := by
      intro j u hu
      simp only [encs, List.getElem?_map] at hu
      obtain ⟨y, hy, rfl⟩ := Option.map_eq_some_iff.1 hu
      have hj : j < hlen h := by rw [← hb5]; exact (List.getElem?_eq_some_iff.1 hy).1
      have := hcell5 j hj
      rw [this, List.getD_eq_getElem?_getD, hy]; rfl
    have N3 : Hid (∀ u ∈ encs (Value.int .u8) (blkOf h l i), u.oneCell' = true) := by
      intro u hu
      simp only [encs, List.mem_map] at hu
      obtain ⟨y, _, rfl⟩ := hu
      rfl
    have HII := Lib.hid hii
    have H32 := Lib.hid h3.2.1
    have HLO := Lib.hid hlo
    clear hI hz hC5 hOw hC5r hcell5 hb5 h3 hii hlo
    by_cases hge : m ≤ lo
    · have hge' : decide ((m : Int) ≤ (lo : Int)) = true := decide_eq_true (by omega)
      have hge2 : decide (m ≤ lo) = true := decide_eq_true hge
      have HG := Lib.hid hge
      clear hge
      gi_wp2
      refine ⟨Keep.refl _ _, rfl, i, HI.out, ?_⟩
      rw [← outI_length h l i, ← HLO.out]
      exact HG.out
    · have hge' : decide ((m : Int) ≤ (lo : Int)) = false := decide_eq_false (by omega)
      have hge2 : decide (m ≤ lo) = false := decide_eq_false hge
      have HG : Hid (lo + hlen h ≤ m + 64) := by show _ ≤ _; omega
      have HLT : Hid (w1.heap.size + 1 < W.heap.size) := by have := HI.out.size; show _ < _; omega
      have HG2 : Hid (lo < m) := by show _ < _; omega
      clear hge
      gi_wp2_with (refine wpListIn_append_fits W rfl (.tmp 31) (.tmp 32) 22 rfl w.heap.size 5 ii 1 Try.underlying22 HII.out H32.out w1.heap.size lo (m + 64) (encs (Value.int .u8) (outI h l i)) rfl HOw.out ad (hlen h) c5 (encs (Value.int .u8) (blkOf h l i)) rfl N1.out N2.out N3.out HG.out ?_; intro w9 hown9 hg9; (have ho9 : w9.heap[w1.heap.size + 1]? = W.heap[w1.heap.size + 1]? := hg9.block _ HLT.out (by simp)); (have hco9 : w9.cell? ⟨w1.heap.size + 1, 0, none⟩ = some (.slice (some ⟨w1.heap.size, 0, none⟩) lo (m + 64)) := (World.cell?_of_block (w := W) ho9).trans hco); (have hfo9 : w9.frozen? ⟨w1.heap.size + 1, 0, none⟩ = false := (World.frozen?_of_block (w := W) ho9).trans hfo); (have HOW9 := Lib.hid hown9); (have HG9 := Lib.hid hg9); clear hown9 hg9 ho9)
      have hz0 := HZ.out
      refine ⟨?_, ?_, ?_⟩
      · exact (Keep.setCell ⟨HG9.out.size, fun k hk ht => HG9.out.block k hk (by simp; rcases ht with rfl | rfl <;> omega)⟩ (by show ¬ (w1.heap.size + 1 = W0.heap.size ∨ w1.heap.size + 1 = W0.heap.size + 1); omega) _)
      · exact (Keep.setCell ⟨HG9.out.size, fun k hk ht => HG9.out.block k hk (by simp; rcases ht with ht | rfl | rfl <;> omega)⟩ (by show ¬ (w1.heap.size + 1 < w.heap.size ∨ w1.heap.size + 1 = w1.heap.size + 1 + 1 ∨ w1.heap.size + 1 = w1.heap.size + 1 + 1 + 1); omega) _)
      · have hlen1 : (outI h l (i + 1)).length = lo + hlen h := by rw [outI, List.length_append, blkOf_length, HLO.out]
        have hne : ∀ k, k ≠ w1.heap.size + 1 → (w9.setCell ⟨w1.heap.size + 1, 0, none⟩ (.slice (some ⟨w1.heap.size, 0, none⟩) (lo + hlen h) (m + 64))).heap[k]? = w9.heap[k]? := fun k hk => Below.heap_setCell _ _ _ _ hk
        have hW4 := HI.out.size
        have h9z := HG9.out.size
        refine ⟨?_, ?_, ?_, ?_, ?_, .inr ?_⟩
        · exact (hne _ (by omega)).trans ((HG9.out.block _ (by omega) (by simp; omega)).trans HI.out.nn)
        · rw [hlen1]
          refine owns_blk ?_ (hne _ (by omega))
          have := HOW9.out
          rw [show encs (Value.int .u8) (outI h l (i + 1)) = encs (Value.int .u8) (outI h l i) ++ encs (Value.int .u8) (blkOf h l i) by simp [encs, outI]]
          exact this
        · rw [hlen1]
          have h1 : w9.heap[w1.heap.size + 1]? = some (.cells #[.slice (some ⟨w1.heap.size, 0, none⟩) lo (m + 64)] 22 (0, 0)) := by
            rw [HG9.out.block _ HLT.out (by simp), HI.out.o, HLO.out]
          exact blk_set h1 0 _
        · have hb9 : Below w.heap.size w w9 := ⟨HG9.out.os.trans HI.out.below.os, HG9.out.tape.trans HI.out.below.tape, HG9.out.output.trans HI.out.below.output, Nat.le_trans HI.out.below.size h9z, fun k hk => (HG9.out.block k (by omega) (by simp; omega)).trans (HI.out.below.block k hk)⟩
          exact hb9.setCell (by show w.heap.size ≤ w1.heap.size + 1; omega) _
        · simp [World.setCell]; omega
        · rw [Nat.add_sub_cancel, ← outI_length h l i, ← HLO.out]
          exact HG2.out
--DEV>
  case stop =>
    rintro cc i W ⟨rfl, j, hI, hj⟩ hK
    have hcn : W.cell? ⟨w.heap.size, 0, none⟩ = some (.int .i64 (m : Int)) := blk_cell hI.nn 0
    have hco : W.cell? ⟨w1.heap.size + 1, 0, none⟩ = some (.slice (some ⟨w1.heap.size, 0, none⟩) (outI h l j).length (m + 64)) := blk_cell hI.o 0
    obtain ⟨lo, hlo⟩ : ∃ lo, lo = (outI h l j).length := ⟨_, rfl⟩
    rw [← hlo] at hco
    have HI := Lib.hid hI
    have HKD := Lib.hid hK
    have HLO := Lib.hid hlo
    have HJ := Lib.hid hj
    clear hI hK hlo hj
    gi_wp2
    have hz0 := HZ.out
    have hzW := HI.out.size
    have hp : ∀ k, k ≠ W0.heap.size → (W.putObj W0.heap.size (.deferred none)).heap[k]? = W.heap[k]? := fun k hk => by
      simp [World.putObj, Array.getElem?_setIfInBounds, Ne.symm hk]
    have hbp : Below w.heap.size w (W.putObj W0.heap.size (.deferred none)) := HI.out.below.trans ⟨rfl, rfl, rfl, by simp [World.putObj], fun k hk => hp k (by omega)⟩
    have hjl : m ≤ (outI h l j).length := by rw [outI_length]; exact HJ.out
    have hR := Kd.R_of_own (h1 := fun _ => rfl) (ok := fun _ => True) (owns_blk HI.out.own (hp _ (by omega))) (fun _ _ => trivial)
    have h1 := Kd.V_mono (ok' := fun k => w.heap.size ≤ k) (Kd.R_V (base' := w.heap.size) (Kd.R_bound hR)) (fun k hk => hk.2.1)
    have h2 := (Kd.V_at h1).2.2
    have h3 := Kd.F_take h2 (m := m) hjl
    have h4 : ((outI h l j).take m).length = m := by rw [List.length_take]; omega
    have h5 := Kd.V_mk (e := 5) (base := w.heap.size) (c := m) (by rw [h4]; exact Nat.le_refl _) h3
    rw [h4] at h5
    refine ⟨by simp, .inl ⟨_, _, rfl, run_takeDeferred (ds := []) HKD.out, ?_⟩⟩
    refine ⟨.tuple #[.slice (some ⟨w1.heap.size, 0, none⟩) m m, .int .i64 0], by simp [results, go_sem], j, _, rfl, HJ.out, h5, hbp⟩
end Go.Proofs.Ytincnnmojgphmaa.H

set_option linter.unusedVariables false
set_option linter.unusedSimpArgs false
namespace Go.Proofs.Ytincnnmojgphmaa.H
open Go.RowKit Go.Proofs.YtincnnmojgphmaaW.PrintWords Go.Proofs.YtincnnmojgphmaaW.PrintLast Go.Proofs.Ytincnnmojgphmaa.Sha Go.Proofs.YtincnnmojgphmaaW.PrintMore Go.Proofs.Ytincnnmojgphmaa.PT
attribute [local go_sem] Oper.semAt_some

/-- The mask of n bytes. -/
def maskL (h : Int) (l : List Int) (n : Nat) : List Int := (outI h l n).take n
theorem outI_more (h : Int) (l : List Int) (n i d : Nat) (hi : n ≤ i * hlen h) : (outI h l (i + d)).take n = (outI h l i).take n := by
  induction d with
  | zero => rfl
  | succ d ih =>
    rw [← Nat.add_assoc, outI, List.take_append_of_le_length, ih]
    rw [outI_length]
    exact Nat.le_trans hi (Nat.mul_le_mul_right _ (by omega))
theorem le_hlen (h : Int) (n : Nat) : n ≤ n * hlen h := by
  have h1 := hlen_pos h
  have h2 : n * 1 ≤ n * hlen h := Nat.mul_le_mul_left _ (by omega)
  omega
theorem outI_take (h : Int) (l : List Int) (n i : Nat) (hi : n ≤ i * hlen h) : (outI h l i).take n = maskL h l n := by
  unfold maskL
  rcases Nat.le_total i n with h1 | h1
  · obtain ⟨d, rfl⟩ := Nat.exists_eq_add_of_le h1
    exact (outI_more h l _ i d hi).symm
  · obtain ⟨d, rfl⟩ := Nat.exists_eq_add_of_le h1
    exact outI_more h l _ n d (le_hlen h n)
theorem maskL_length (h : Int) (l : List Int) (n : Nat) : (maskL h l n).length = n := by
  have := le_hlen h n
  rw [maskL, List.length_take, outI_length]; omega
theorem maskL_take (h : Int) (l : List Int) (n m : Nat) : (maskL h l (n + m)).take n = maskL h l n := by
  have := le_hlen h n
  have h2 := le_hlen h (n + m)
  rw [← outI_take h l (n + m) (n + m) h2, List.take_take, Nat.min_eq_left (by omega)]
  exact outI_take h l n _ (by omega)

/-- mgf.Mask, in closed form. -/
def mgf_Mask.f (a0 : Int) (l1 : List Int) (a2 : Int) : Option (List Int × Int) :=
  if inB 8 l1 ∧ l1.length ≤ 100000 then
    (if a0 = 1 ∨ a0 = 2 ∨ a0 = 3 then
      (if a2 < 0 then some ([], 1) else if 10000 < a2 then some ([], 2) else some (maskL a0 l1 a2.toNat, 0))
     else some ([], 130))
  else none
set_option maxRecDepth 100000 in
set_option maxHeartbeats 2000000 in
theorem mgf_Mask.calls (a0 : Int) (A1 : Option Addr) (c1 : Nat) (l1 : List Int) (a2 : Int) (r1 : List Int) (r2 : Int) (w : World) (hr1 : Kd.C (Kd.int .u8) w A1 l1.length l1) (hc1 : l1.length ≤ c1) (h : mgf_Mask.f a0 l1 a2 = some (r1, r2)) :
    Calls Try.prog 54 #[.int .i64 a0, .slice A1 l1.length c1, .int .i64 a2] w fun e w' => ∃ v0_ : Value, e = .returned (.tuple #[v0_, .int .i64 r2]) ∧ Kd.V (Kd.int .u8) 5 w' w.heap.size (fun k_ => (w.heap.size ≤ k_)) v0_ r1 ∧ Below w.heap.size w w' := by
  unfold mgf_Mask.f at h
  split at h
  case isFalse => cases h
  rename_i hh
  obtain ⟨n, hn⟩ : ∃ n : Nat, 4 ≤ n := ⟨4, Nat.le_refl _⟩
  refine (callsIn_wide (n := n)).1 ?_
  by_cases h1 : a0 = 1 ∨ a0 = 2 ∨ a0 = 3
  · rw [if_pos h1] at h
    by_cases h2 : a2 < 0
    · rw [if_pos h2] at h
      cases h
      have hsz : Hid (∀ W, Calls Try.prog 29 #[.int .i64 a0] W fun e w' => e = .returned (.int .i64 (hlen a0 : Int)) ∧ Below W.heap.size W w') := fun W => hash_Size.calls a0 _ W (size_at a0 h1)
      have hl0 : ((hlen a0 : Int) == 0) = false := by have := hlen_pos a0; simp; omega
      have hN : decide (a2 < 0) = true := decide_eq_true h2
      clear h1 hh
      refine callsIn_of_wp_marks Try.func54 rfl trivial ?_ rfl
      simp only [Try.ntmps54, List.size_toArray, List.length_cons, List.length_nil, Nat.reduceAdd, Nat.reduceSub, Array.replicate_succ, Array.replicate_zero, List.push_toArray, List.append_toArray, List.nil_append, List.cons_append]
      gi_wp2_with fail
      refine ⟨trivial, fun _ => by omega, ?_⟩
      refine (callsIn_wide.2 (hsz.out _)).mono ?_
      rintro e w1 ⟨rfl, hb1⟩
      have hcn1 : w1.heap[w.heap.size]? = some (.cells #[.int .i64 a2] 3 (0, 0)) := (hb1.block _ (by simp)).trans (heap_alloc_new _ _)
      have hc1 := blk_cell hcn1 0
      have hc1' : w1.cell? ⟨w.heap.size, 0, none⟩ = some (.int .i64 a2) := hc1
      have HB1 : Hid (Below w.heap.size w w1) := ((Below.refl w.heap.size w).alloc (Nat.le_refl _) _).trans (hb1.mono (by simp))
      clear hb1 hc1 hcn1
      gi_wp2_with fail
      refine ⟨.tuple #[.slice none 0 0, .int .i64 1], by simp [results, go_sem], _, rfl, Kd.V_nil _ _ _ _ _, HB1.out⟩
    · rw [if_neg h2] at h
      by_cases h3 : 10000 < a2
      · rw [if_pos h3] at h
        cases h
        have hsz : Hid (∀ W, Calls Try.prog 29 #[.int .i64 a0] W fun e w' => e = .returned (.int .i64 (hlen a0 : Int)) ∧ Below W.heap.size W w') := fun W => hash_Size.calls a0 _ W (size_at a0 h1)
        have hl0 : ((hlen a0 : Int) == 0) = false := by have := hlen_pos a0; simp; omega
        have hN : decide (a2 < 0) = false := decide_eq_false h2
        have hN2 : decide (10000 < a2) = true := decide_eq_true h3
        clear h1 hh
        refine callsIn_of_wp_marks Try.func54 rfl trivial ?_ rfl
        simp only [Try.ntmps54, List.size_toArray, List.length_cons, List.length_nil, Nat.reduceAdd, Nat.reduceSub, Array.replicate_succ, Array.replicate_zero, List.push_toArray, List.append_toArray, List.nil_append, List.cons_append]
        gi_wp2_with fail
        refine ⟨trivial, fun _ => by omega, ?_⟩
        refine (callsIn_wide.2 (hsz.out _)).mono ?_
        rintro e w1 ⟨rfl, hb1⟩
        have hcn1 : w1.heap[w.heap.size]? = some (.cells #[.int .i64 a2] 3 (0, 0)) := (hb1.block _ (by simp)).trans (heap_alloc_new _ _)
        have hc1 := blk_cell hcn1 0
        have hc1' : w1.cell? ⟨w.heap.size, 0, none⟩ = some (.int .i64 a2) := hc1
        have HB1 : Hid (Below w.heap.size w w1) := ((Below.refl w.heap.size w).alloc (Nat.le_refl _) _).trans (hb1.mono (by simp))
        clear hb1 hc1 hcn1
        gi_wp2_with fail
        refine ⟨.tuple #[.slice none 0 0, .int .i64 2], by simp [results, go_sem], _, rfl, Kd.V_nil _ _ _ _ _, HB1.out⟩
      · rw [if_neg h3] at h
        obtain ⟨m, rfl⟩ : ∃ m : Nat, a2 = (m : Int) := ⟨a2.toNat, by omega⟩
        rw [Int.toNat_natCast] at h
        cases h
        refine (mask_in n hn a0 h1 A1 c1 l1 w hr1 hc1 hh.2 hh.1 m (by omega)).mono ?_
        rintro e w' ⟨i, v, rfl, hi, hv, hb⟩
        rw [outI_take a0 l1 m i hi] at hv
        exact ⟨v, rfl, hv, hb⟩
  · rw [if_neg h1] at h
    cases h
    have hs0 : hash_Size.f a0 = some 0 := by
      rw [hash_Size.f, if_neg (by omega), if_neg (by omega), if_neg (by omega)]
    have hsz : Hid (∀ W, Calls Try.prog 29 #[.int .i64 a0] W fun e w' => e = .returned (.int .i64 0) ∧ Below W.heap.size W w') := fun W => hash_Size.calls a0 _ W hs0
    clear h1 hh hs0
    refine callsIn_of_wp_marks Try.func54 rfl trivial ?_ rfl
    simp only [Try.ntmps54, List.size_toArray, List.length_cons, List.length_nil, Nat.reduceAdd, Nat.reduceSub, Array.replicate_succ, Array.replicate_zero, List.push_toArray, List.append_toArray, List.nil_append, List.cons_append]
    gi_wp2_with fail
    refine ⟨trivial, fun _ => by omega, ?_⟩
    refine (callsIn_wide.2 (hsz.out _)).mono ?_
    rintro e w1 ⟨rfl, hb1⟩
    have HB1 : Hid (Below w.heap.size w w1) := ((Below.refl w.heap.size w).alloc (Nat.le_refl _) _).trans (hb1.mono (by simp))
    clear hb1
    gi_wp2_with fail
    refine ⟨.tuple #[.slice none 0 0, .int .i64 130], by simp [results, go_sem], _, rfl, Kd.V_nil _ _ _ _ _, HB1.out⟩
end Go.Proofs.Ytincnnmojgphmaa.H

set_option linter.unusedVariables false
set_option linter.unusedSimpArgs false
namespace Go.Proofs.Ytincnnmojgphmaa.H
open Go.RowKit Go.Proofs.Ytincnnmojgphmaa.PT Go.Proofs.Ytincnnmojgphmaa.PS Go.Proofs.YtincnnmojgphmaaW.PrintWords Go.Proofs.YtincnnmojgphmaaW.PrintLast Go.Proofs.Ytincnnmojgphmaa.Sha

theorem same13 (l : List Int) : sconceref13_Same.f l l = some true := by simp [sconceref13_Same.f]
theorem inB_of_wf {l : List Int} (h : ∀ x ∈ l, (Lit.int .u8 x).wf = true) : inB 8 l := fun x hx => by
  have := bounds_u8 (h x hx)
  omega
/-- The reference's sum is the program's. -/
theorem rsum_at (h : Int) (hh : h = 1 ∨ h = 2 ∨ h = 3) (l : List Int) (hb : inB 8 l) (hl : l.length ≤ 140737488351232) : sconceref13_Sum.f h l = some (hsum h l, 0) := by
  have hc : inB 8 l ∧ l.length ≤ 140737488351232 := ⟨hb, hl⟩
  rcases hh with rfl | rfl | rfl
  · simp [sconceref13_Sum.f, sconceref11_Sum.f, hc, hsum]
  · simp only [sconceref13_Sum.f, sconceref12_Sum.f, hc, hsum, and_self, if_true, Option.bind_some, show ¬ ((2 : Int) = 1) by decide, if_false]
  · simp [sconceref13_Sum.f, sconceref12_Sum.f, hc, hsum]

theorem rmask_loop (h : Int) (hh : h = 1 ∨ h = 2 ∨ h = 3) (l : List Int) (hb : inB 8 l) (hl : l.length ≤ 100000) (n : Nat) (hn : n ≤ 10000) :
    ∀ (d i k : Nat), n ≤ i + d → i ≤ n → d < k → sconceref13_Mask.l0 k h l (n : Int) (outI h l i) (i : Int) = some (maskL h l n, 0) := by
  have hlp := hlen_pos h
  have hll := hlen_le h
  intro d
  induction d with
  | zero =>
    intro i k hi hin hk
    obtain ⟨k, rfl⟩ : ∃ m, k = m + 1 := ⟨k - 1, by omega⟩
    have hle := le_hlen h i
    have hol : (outI h l i).length = i * hlen h := outI_length h l i
    unfold sconceref13_Mask.l0
    rw [if_neg (by omega), if_pos (by omega), if_pos (by omega), Int.toNat_natCast, outI_take h l n i (by omega)]
  | succ d ih =>
    intro i k hi hin hk
    obtain ⟨k, rfl⟩ : ∃ m, k = m + 1 := ⟨k - 1, by omega⟩
    have hle := le_hlen h i
    have hol : (outI h l i).length = i * hlen h := outI_length h l i
    unfold sconceref13_Mask.l0
    by_cases hc : ((outI h l i).length : Int) < (n : Int)
    · have hin2 : i < n := by omega
      have hsz : (outI h l i).length + hlen h < 140737488355328 := by omega
      have hsl : l.length < 140737488355324 := by omega
      have hw : wrap64 ((i : Int) + 1) = ((i + 1 : Nat) : Int) := by unfold wrap64; omega
      have ih1 := ih (i + 1) k (by omega) (by omega) (by omega)
      clear ih hll hlp hle
      rw [if_pos hc, if_pos (by simp; omega)]
      simp only [Option.bind_some, List.nil_append]
      rw [if_pos (by simp; omega)]
      have hs := rsum_at h hh (l ++ be4 (i : Int)) (inB_append hb (be4_in i)) (by rw [List.length_append]; simp [be4]; omega)
      unfold be4 at hs
      rw [hs]
      simp only [Option.bind_some]
      have hbl := blkOf_length h l i
      have e : outI h l i ++ hsum h (l ++ [(i : Int) / 16777216 % 256, (i : Int) / 65536 % 256, (i : Int) / 256 % 256, (i : Int) % 256]) = outI h l (i + 1) := rfl
      have hb2 : (hsum h (l ++ [(i : Int) / 16777216 % 256, (i : Int) / 65536 % 256, (i : Int) / 256 % 256, (i : Int) % 256])).length = hlen h := hsum_length _ _
      rw [hb2, if_pos hsz, e, hw]
      exact ih1
    · rw [if_neg hc, if_pos (by omega), if_pos (by omega), Int.toNat_natCast, outI_take h l n i (by omega)]
theorem rmask_at (h : Int) (l : List Int) (hb : inB 8 l) (hl : l.length ≤ 100000) (n : Int) (k : Nat) (hk : 10001 < k) : sconceref13_Mask.f k h l n = mgf_Mask.f h l n := by
  have hc : inB 8 l ∧ l.length ≤ 100000 := ⟨hb, hl⟩
  unfold sconceref13_Mask.f mgf_Mask.f
  rw [if_pos hc]
  by_cases hh : h = 1 ∨ h = 2 ∨ h = 3
  · have hs : ∃ t, sconceref13_Size.f h = some t ∧ t ≠ 0 := by
      rcases hh with rfl | rfl | rfl <;> simp [sconceref13_Size.f]
    obtain ⟨t, ht, ht0⟩ := hs
    rw [ht, if_pos hh]
    simp only [Option.bind_some]
    rw [if_neg ht0]
    by_cases h2 : n < 0
    · rw [if_pos h2, if_pos h2]
    · rw [if_neg h2, if_neg h2]
      by_cases h3 : n > 10000
      · rw [if_pos h3, if_pos (by omega)]
      · rw [if_neg h3, if_neg (by omega)]
        obtain ⟨m, rfl⟩ : ∃ m : Nat, n = (m : Int) := ⟨n.toNat, by omega⟩
        rw [Int.toNat_natCast]
        exact rmask_loop h hh l hb hl m (by omega) m 0 k (by omega) (by omega) (by omega)
  · rw [if_neg hh]
    have hs : sconceref13_Size.f h = some 0 := by
      unfold sconceref13_Size.f
      rw [if_neg (by omega), if_neg (by omega), if_neg (by omega)]
    rw [hs]
    simp
theorem mask_some (h : Int) (l : List Int) (hb : inB 8 l) (hl : l.length ≤ 100000) (n : Int) : ∃ r e, mgf_Mask.f h l n = some (r, e) := by
  unfold mgf_Mask.f
  rw [if_pos ⟨hb, hl⟩]
  repeat' split
  all_goals exact ⟨_, _, rfl⟩

/-- Bytes put together bit by bit, as long as the first. -/
def xorL : List Int → List Int → List Int
  | [], _ => []
  | x :: a, [] => x :: a
  | x :: a, y :: b => Go.bits .xor .u8 x y :: xorL a b
theorem xorL_nil (a : List Int) : xorL a [] = a := by cases a <;> rfl
theorem xorL_length : ∀ (a b : List Int), (xorL a b).length = a.length
  | [], _ => rfl
  | x :: a, [] => rfl
  | x :: a, y :: b => by simp [xorL, xorL_length a b]
theorem xor_u8_in (x y : Int) (hx : 0 ≤ x ∧ x < 256) (hy : 0 ≤ y ∧ y < 256) : 0 ≤ Go.bits .xor .u8 x y ∧ Go.bits .xor .u8 x y < 256 := by
  rw [u8_xor x y hx.1 hx.2 hy.1 hy.2]
  have h1 : x.toNat ^^^ y.toNat < 2 ^ 8 := Nat.xor_lt_two_pow (by omega) (by omega)
  omega
theorem xor_u8_back (x y : Int) (hx : 0 ≤ x ∧ x < 256) (hy : 0 ≤ y ∧ y < 256) : Go.bits .xor .u8 (Go.bits .xor .u8 x y) y = x := by
  have h2 := xor_u8_in x y hx hy
  rw [u8_xor _ y h2.1 h2.2 hy.1 hy.2, u8_xor x y hx.1 hx.2 hy.1 hy.2, Int.toNat_natCast, Nat.xor_assoc, Nat.xor_self, Nat.xor_zero]
  omega
theorem xorL_in : ∀ (a b : List Int), inB 8 a → inB 8 b → inB 8 (xorL a b)
  | [], _, _, _ => fun x hx => by simp [xorL] at hx
  | x :: a, [], ha, _ => ha
  | x :: a, y :: b, ha, hb => by
    intro z hz
    simp only [xorL, List.mem_cons] at hz
    rcases hz with rfl | hz
    · have := xor_u8_in x y (by have := ha x (by simp); omega) (by have := hb y (by simp); omega)
      omega
    · exact xorL_in a b (fun u hu => ha u (by simp [hu])) (fun u hu => hb u (by simp [hu])) z hz
theorem xorL_back : ∀ (a b : List Int), inB 8 a → inB 8 b → xorL (xorL a b) b = a
  | [], _, _, _ => rfl
  | x :: a, [], ha, _ => rfl
  | x :: a, y :: b, ha, hb => by
    simp only [xorL]
    rw [xor_u8_back x y (by have := ha x (by simp); omega) (by have := hb y (by simp); omega), xorL_back a b (fun u hu => ha u (by simp [hu])) (fun u hu => hb u (by simp [hu]))]
theorem rd_at {x : List Int} {i : Nat} (h : i < x.length) : rd x (i : Int) = x[i] := by
  simp [rd, h]
theorem set_step {x : List Int} {i : Nat} (h : i < x.length) (v : Int) : (x.set i v).take (i + 1) = x.take i ++ [v] ∧ (x.set i v).drop (i + 1) = x.drop (i + 1) := by
  constructor
  · rw [List.take_set, List.take_succ_eq_append_getElem h, List.set_append_right _ _ (by simp; omega)]
    simp [Nat.min_eq_left (Nat.le_of_lt h)]
  · rw [List.drop_set, if_pos (by omega)]

theorem xor_loop (b : List Int) : ∀ (d i k : Nat) (x : List Int) (n : Nat), n = min x.length b.length → i + d = n → d < k → x.length < 140737488355328 →
    mgf_Xor.l0 k b x (n : Int) (i : Int) = some (x.take i ++ xorL (x.drop i) (b.drop i)) := by
  intro d
  induction d with
  | zero =>
    intro i k x n hn hi hk hx
    obtain ⟨k, rfl⟩ : ∃ m, k = m + 1 := ⟨k - 1, by omega⟩
    unfold mgf_Xor.l0
    rw [if_neg (by omega)]
    have h1 : xorL (x.drop i) (b.drop i) = x.drop i := by
      by_cases hb : b.length ≤ i
      · rw [List.drop_eq_nil_of_le hb, xorL_nil]
      · rw [List.drop_eq_nil_of_le (by omega)]; rfl
    rw [h1, List.take_append_drop]
  | succ d ih =>
    intro i k x n hn hi hk hx
    obtain ⟨k, rfl⟩ : ∃ m, k = m + 1 := ⟨k - 1, by omega⟩
    have hix : i < x.length := by omega
    have hib : i < b.length := by omega
    unfold mgf_Xor.l0
    rw [if_pos (by omega), if_pos (by omega), if_pos (by omega), if_pos (by omega)]
    have hw : wrap64 ((i : Int) + 1) = ((i + 1 : Nat) : Int) := by unfold wrap64; omega
    rw [hw, Int.toNat_natCast, rd_at hix, rd_at hib, ih (i + 1) k _ n (by simp; omega) (by omega) (by omega) (by simpa using hx)]
    obtain ⟨e1, e2⟩ := set_step hix (Go.bits .xor .u8 x[i] b[i])
    rw [e1, e2, List.drop_eq_getElem_cons hix, List.drop_eq_getElem_cons hib]
    simp [xorL]
theorem rxor_loop (b : List Int) : ∀ (d i k : Nat) (x : List Int), i + d = x.length → d < k → x.length < 140737488355328 →
    sconceref13_Xor.l0 k b x (x.length : Int) (i : Int) = some (x.take i ++ xorL (x.drop i) (b.drop i)) := by
  intro d
  induction d with
  | zero =>
    intro i k x hi hk hx
    obtain ⟨k, rfl⟩ : ∃ m, k = m + 1 := ⟨k - 1, by omega⟩
    unfold sconceref13_Xor.l0
    rw [if_neg (by omega), List.drop_eq_nil_of_le (by omega), List.take_of_length_le (by omega)]
    simp [xorL]
  | succ d ih =>
    intro i k x hi hk hx
    obtain ⟨k, rfl⟩ : ∃ m, k = m + 1 := ⟨k - 1, by omega⟩
    have hix : i < x.length := by omega
    have hw : wrap64 ((i : Int) + 1) = ((i + 1 : Nat) : Int) := by unfold wrap64; omega
    unfold sconceref13_Xor.l0
    rw [if_pos (by omega)]
    by_cases hib : i < b.length
    · rw [if_pos (by omega), if_pos (by omega), if_pos (by omega)]
      rw [hw, Int.toNat_natCast, rd_at hix, rd_at hib]
      have h1 := ih (i + 1) k (x.set i (Go.bits .xor .u8 x[i] b[i])) (by simp; omega) (by omega) (by simpa using hx)
      rw [List.length_set] at h1
      rw [h1]
      obtain ⟨e1, e2⟩ := set_step hix (Go.bits .xor .u8 x[i] b[i])
      rw [e1, e2, List.drop_eq_getElem_cons hix, List.drop_eq_getElem_cons hib]
      simp [xorL]
    · rw [if_neg (by omega), hw, ih (i + 1) k x (by omega) (by omega) hx]
      rw [List.drop_eq_nil_of_le (show b.length ≤ i + 1 by omega), List.drop_eq_nil_of_le (show b.length ≤ i by omega), xorL_nil, xorL_nil, List.take_append_drop, List.take_append_drop]
theorem xor_at (a b : List Int) (ha : a.length < 140737488351232) (k : Nat) (hk : a.length < k) : mgf_Xor.f k a b = some (xorL a b) := by
  unfold mgf_Xor.f
  rw [slices_Clone_byte_byte.f, if_pos (by omega)]
  simp only [Option.bind_some]
  have hm : mn (a.length : Int) (b.length : Int) = ((min a.length b.length : Nat) : Int) := by unfold mn; omega
  rw [hm]
  have := xor_loop b (min a.length b.length) 0 k a _ rfl (by omega) (by omega) (by omega)
  simpa using this
theorem rxor_at (a b : List Int) (ha : a.length < 140737488351232) (k : Nat) (hk : a.length < k) : sconceref13_Xor.f k a b = some (xorL a b) := by
  unfold sconceref13_Xor.f
  rw [if_pos (by simp; omega)]
  simp only [Option.bind_some, List.nil_append]
  have := rxor_loop b a.length 0 k a (by omega) (by omega) (by omega)
  simpa using this
end Go.Proofs.Ytincnnmojgphmaa.H
