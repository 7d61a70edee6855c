/- mgf's iterator of blocks, by walking its text. -/
import Derived.Test.YtmmbbkdbebfhiaaPTx1
import Derived.Test.YtmmbbkdbebfhiaaHSums
import Derived.Test.YtmmbbkdbebfhiaaHBase
import Derived.Test.YtmmbbkdbebfhiaaHRange
import Derived.OwnWalkIn
import Derived.TacticsInMore
import Derived.LoopNIn
import Derived.LoopIn
import Derived.Shelf.Abstract
import Derived.Shelf.RegionOpen
set_option linter.unusedVariables false
set_option linter.unusedSimpArgs false
namespace Go.Proofs.Ytmmbbkdbebfhiaa.H
open Go.RowKit Go.Proofs.YtmmbbkdbebfhiaaW.PrintWords Go.Proofs.YtmmbbkdbebfhiaaW.PrintLast Go.Proofs.Ytmmbbkdbebfhiaa.Sha Go.Proofs.YtmmbbkdbebfhiaaW.PrintMore Go.Proofs.Ytmmbbkdbebfhiaa.PT
attribute [local go_sem] Oper.semAt_some

/-- The hash of bytes by its number; a block of the mask. -/
def hsum (h : Int) (l : List Int) : List Int := if h = 1 then sum5 l else if h = 2 then (sum6 (S6 true) l).take 48 else sum6 (S6 false) l
def hlen (h : Int) : Nat := if h = 1 then 32 else if h = 2 then 48 else 64
def be4 (i : Int) : List Int := [i / 16777216 % 256, i / 65536 % 256, i / 256 % 256, i % 256]
def blkOf (h : Int) (l : List Int) (i : Nat) : List Int := hsum h (l ++ be4 (i : Int))
theorem hsum_length (h : Int) (l : List Int) : (hsum h l).length = hlen h := by
  unfold hsum hlen
  split
  · exact sum5_length l
  · split
    · rw [List.length_take, sum6_length _ _ (S6_length _)]; rfl
    · exact sum6_length _ _ (S6_length _)
theorem be4_in (i : Nat) : inB 8 (be4 (i : Int)) := by
  intro x hx
  simp only [be4, List.mem_cons, List.not_mem_nil, or_false] at hx
  rcases hx with rfl | rfl | rfl | rfl <;> omega
theorem sum_at (h : Int) (hh : h = 1 ∨ h = 2 ∨ h = 3) (l : List Int) (hb : inB 8 l) (hl : l.length ≤ 140737488351232) : hash_Sum.f h l = some (hsum h l, 0) := by
  have hc : inB 8 l ∧ l.length ≤ 140737488351232 := ⟨hb, hl⟩
  rcases hh with rfl | rfl | rfl
  · simp [hash_Sum.f, sha256_Sum.f, hc, hsum]
  · simp only [hash_Sum.f, sha512_Sum384.f, hc, hsum, and_self, if_true, Option.bind_some, show ¬ ((2 : Int) = 1) by decide, if_false]
  · simp [hash_Sum.f, sha512_Sum.f, hc, hsum]

theorem row4 {W : World} {B : Nat} {T : TypeId} {x0 x1 x2 x3 : Int} (h : W.heap[B]? = some (.cells #[.int .u8 x0, .int .u8 x1, .int .u8 x2, .int .u8 x3] T (0, 0))) : Kd.C (Kd.int .u8) W (some ⟨B, 0, none⟩) 4 [x0, x1, x2, x3] := by
  refine Kd.C_of_reads (d := (0 : Int)) (h1 := fun _ => rfl) ⟨rfl, by simp, fun _ => ⟨⟨B, 0, none⟩, rfl, fun j hj => ?_⟩⟩
  match j, hj with
  | 0, _ => exact (blk_cell h 0).trans rfl
  | 1, _ => exact (blk_cell h 1).trans rfl
  | 2, _ => exact (blk_cell h 2).trans rfl
  | 3, _ => exact (blk_cell h 3).trans rfl

theorem blocks_in (n : Nat) (h : Int) (a : Option Addr) (len cap : Nat) (w : World) :
    CallsIn Fence.wide n Try.prog 55 #[.int .i64 h, .slice a len cap] w fun e w' => e = .returned (.func (.func 66) #[] #[.pointer (some ⟨w.heap.size, 0, none⟩), .pointer (some ⟨w.heap.size + 1, 0, none⟩)]) ∧ w' = (w.alloc (.cells #[.int .i64 h] 3)).alloc (.cells #[.slice a len cap] 24) := by
  refine callsIn_of_wp Try.func55 rfl trivial ?_ rfl
  simp only [Try.ntmps55, List.size_toArray, List.length_cons, List.length_nil, Nat.reduceAdd, Nat.reduceSub, Array.replicate_succ, Array.replicate_zero, List.push_toArray, List.append_toArray, List.nil_append, List.cons_append]
  gi_wp2
  go_ret
  exact ⟨rfl, rfl⟩

/-- What is handed over in a round: bytes in memory of their own. -/
def HandB (h : Int) (l : List Int) (i : Nat) (x : Array Value) (W : World) : Prop := ∃ A c, x = #[.slice A (hlen h) c] ∧ Kd.C (Kd.int .u8) W A (hlen h) (blkOf h l i)

set_option maxRecDepth 100000 in
set_option maxHeartbeats 4000000 in
theorem blocks1_iter (n : Nat) (hn : 1 ≤ n) (h : Int) (hh : h = 1 ∨ h = 2 ∨ h = 3) (Bh Bs : Nat) (A : Option Addr) (c : Nat) (l : List Int) (w w0 : World) (hw : Below w0.heap.size w0 w) (hC : Kd.C (Kd.int .u8) w0 A l.length l) (hc : l.length ≤ c) (hm : l.length ≤ 100000) (hb : inB 8 l)
    (hBh : w.cell? ⟨Bh, 0, none⟩ = some (.int .i64 h)) (hBs : w.cell? ⟨Bs, 0, none⟩ = some (.slice A l.length c)) (hB0 : w0.heap.size ≤ Bh) (hB1 : w0.heap.size ≤ Bs) (N : Nat) (hN : N < 100000) :
    IterR n Try.prog 66 #[.pointer (some ⟨Bh, 0, none⟩), .pointer (some ⟨Bs, 0, none⟩)] (HandB h l) (fun k => k < w0.heap.size ∨ k = Bh ∨ k = Bs) N w := by
  intro lp J Jx W hW hJ hJx hNo hY h0
  have hBhW : W.cell? ⟨Bh, 0, none⟩ = some (.int .i64 h) := (hW.cell (p := ⟨Bh, 0, none⟩) (World.block_lt_of_cell? w _ hBh)).trans hBh
  have hBsW : W.cell? ⟨Bs, 0, none⟩ = some (.slice A l.length c) := (hW.cell (p := ⟨Bs, 0, none⟩) (World.block_lt_of_cell? w _ hBs)).trans hBs
  have hsW : Hid (∀ k, k < w0.heap.size → W.heap[k]? = w0.heap[k]?) := fun k hk => (hW.block k (Nat.lt_of_lt_of_le hk hw.size)).trans (hw.block k hk)
  have hszW : w.heap.size ≤ W.heap.size := hW.size
  refine callsIn_of_wp Try.func66 rfl trivial ?_ rfl
  simp only [Try.ntmps66, List.size_toArray, List.length_cons, List.length_nil, Nat.reduceAdd, Nat.reduceSub, Array.replicate_succ, Array.replicate_zero, List.push_toArray, List.append_toArray, List.nil_append, List.cons_append]
  gi_wp2
  gi_loopw [4] (fun i wr => ∃ k : Nat, k ≤ N ∧ i = .int .u32 k ∧ J k wr ∧ wr.cell? ⟨Bh, 0, none⟩ = some (.int .i64 h) ∧ wr.cell? ⟨Bs, 0, none⟩ = some (.slice A l.length c) ∧ w.heap.size ≤ wr.heap.size ∧ Hid (∀ k, k < w0.heap.size → wr.heap[k]? = w0.heap[k]?))
    (fun i _ => N - (intOf i).toNat)
  case atStart => exact ⟨0, Nat.zero_le _, rfl, h0, hBhW, hBsW, hszW, hsW⟩
  case round =>
    obtain ⟨k, hk, rfl, hJk, hch, hcs, hsz, hs⟩ := hrel
    have hkN : k < N := by
      by_cases e : k = N
      · subst e; exact (hNo _ hJk).elim
      · omega
    have hk32 : (k : Int) < 4294967296 := by omega
    have hk0 : (0 : Int) ≤ (k : Int) := by omega
    have HCl : Hid (∀ (W1 : World), Below wr.heap.size wr W1 → Calls Try.prog 56 #[.slice A l.length c] W1 fun e w' => ∃ v0_ : Value, e = .returned v0_ ∧ Kd.R (Kd.int .u8) 5 w' wr.heap.size (fun k => W1.heap.size ≤ k) v0_ l ∧ Below W1.heap.size W1 w' ∧ Below wr.heap.size wr w' ∧ w'.cell? ⟨Bh, 0, none⟩ = some (.int .i64 h)) := fun W1 hb1 => by
      have hCr : Kd.C (Kd.int .u8) W1 A l.length l := C_same hC (fun i hi => (hb1.block i (Nat.lt_of_lt_of_le hi (Nat.le_trans hw.size hsz))).trans (hs.out i hi))
      refine (slices_Clone_byte_byte.calls A c l l W1 hCr hc (by simp [slices_Clone_byte_byte.f]; omega)).mono ?_
      rintro e w' ⟨v, rfl, hv, hb2⟩
      have hb3 := hb1.trans (hb2.mono hb1.size)
      exact ⟨v, rfl, Kd.R_mono (Kd.R_lower (Kd.R_bound hv) hb1.size) (fun k hk => hk.2.1), hb2, hb3, (hb3.cell (p := ⟨Bh, 0, none⟩) (World.block_lt_of_cell? _ _ hch)).trans hch⟩
    have HSu : Hid (∀ (W1 : World) (B : Nat) (ok : Nat → Prop) (v : Value), Kd.R (Kd.int .u8) 5 W1 B ok v (l ++ be4 (k : Int)) → Calls Try.prog 33 #[.int .i64 h, v] W1 fun e w' => ∃ v0_ : Value, e = .returned (.tuple #[v0_, .int .i64 0]) ∧ Kd.V (Kd.int .u8) 5 w' W1.heap.size (fun k_ => W1.heap.size ≤ k_) v0_ (blkOf h l k) ∧ Below W1.heap.size W1 w') := fun W1 B ok v hR => by
      obtain ⟨A1, c1, rfl⟩ := Kd.R_slice hR
      have hR' := Kd.R_reads' hR
      exact hash_Sum.calls h A1 c1 (l ++ be4 (k : Int)) (blkOf h l k) 0 W1 hR'.2.2 hR'.2.1 (sum_at h hh _ (inB_append hb (be4_in k)) (by rw [List.length_append]; simp [be4]; omega))
    gi_wp2_with fail
    obtain ⟨KK, hQ1, hQ2⟩ : ∃ KK : Act → World → Prop, (∀ (v5 t6 t7 t8 t9 t10 t11 t12 t13 t14 t15 t16 t17 t18 t19 t20 t21 t22 t23 t24 t25 t26 t27 t28 t29 t30 t31 t32 : Value) (w5 : World), Kd.V (Kd.int .u8) 5 w5 wr.heap.size (fun j => wr.heap.size ≤ j) v5 (blkOf h l k) → Below wr.heap.size wr w5 → KK { tmps := #[.func (.yield lp) #[] #[], .pointer (some ⟨Bh, 0, none⟩), .pointer (some ⟨Bs, 0, none⟩), undef, .int .u32 (k : Int), v5, t6, t7, t8, t9, t10, t11, t12, t13, t14, t15, t16, t17, t18, t19, t20, t21, t22, t23, t24, t25, t26, t27, t28, t29, t30, t31, t32], defers := [] } w5) ∧
        (∀ a' w5, KK a' w5 → ∃ v5 t6 t7 t8 t9 t10 t11 t12 t13 t14 t15 t16 t17 t18 t19 t20 t21 t22 t23 t24 t25 t26 t27 t28 t29 t30 t31 t32 : Value, a' = { tmps := #[.func (.yield lp) #[] #[], .pointer (some ⟨Bh, 0, none⟩), .pointer (some ⟨Bs, 0, none⟩), undef, .int .u32 (k : Int), v5, t6, t7, t8, t9, t10, t11, t12, t13, t14, t15, t16, t17, t18, t19, t20, t21, t22, t23, t24, t25, t26, t27, t28, t29, t30, t31, t32], defers := [] } ∧ Kd.V (Kd.int .u8) 5 w5 wr.heap.size (fun j => wr.heap.size ≤ j) v5 (blkOf h l k) ∧ Below wr.heap.size wr w5) :=
      ⟨fun a' w5 => ∃ v5 t6 t7 t8 t9 t10 t11 t12 t13 t14 t15 t16 t17 t18 t19 t20 t21 t22 t23 t24 t25 t26 t27 t28 t29 t30 t31 t32 : Value, a' = { tmps := #[.func (.yield lp) #[] #[], .pointer (some ⟨Bh, 0, none⟩), .pointer (some ⟨Bs, 0, none⟩), undef, .int .u32 (k : Int), v5, t6, t7, t8, t9, t10, t11, t12, t13, t14, t15, t16, t17, t18, t19, t20, t21, t22, t23, t24, t25, t26, t27, t28, t29, t30, t31, t32], defers := [] } ∧ Kd.V (Kd.int .u8) 5 w5 wr.heap.size (fun j => wr.heap.size ≤ j) v5 (blkOf h l k) ∧ Below wr.heap.size wr w5, fun v5 t6 t7 t8 t9 t10 t11 t12 t13 t14 t15 t16 t17 t18 t19 t20 t21 t22 t23 t24 t25 t26 t27 t28 t29 t30 t31 t32 w5 h1 h2 => ⟨v5, t6, t7, t8, t9, t10, t11, t12, t13, t14, t15, t16, t17, t18, t19, t20, t21, t22, t23, t24, t25, t26, t27, t28, t29, t30, t31, t32, rfl, h1, h2⟩, fun _ _ h => h⟩
    have HQ1 := Lib.hid hQ1
    clear hQ1
    refine wpIn_mono (Q := Exit.then KK (fun _ _ _ => False)) ?walk ?rest
    case walk =>
--DEV<
      refine wpIn_wide.2 ?_
      have HW0 := Lib.hid (Below.refl wr.heap.size wr)
      have hBhl : Bh < wr.heap.size := World.block_lt_of_cell? _ _ hch
      have hBsl : Bs < wr.heap.size := World.block_lt_of_cell? _ _ hcs
      have HCH : Hid (∀ W1 : World, Below wr.heap.size wr W1 → W1.cell? ⟨Bh, 0, none⟩ = some (.int .i64 h)) := fun W1 hb1 => (hb1.cell (p := ⟨Bh, 0, none⟩) (World.block_lt_of_cell? _ _ hch)).trans hch
      go_region_law (first
        | (go_simp; go_at_call 56; (with_reducible refine (HCl.out _ ?hW).mono ?_); (case hW => first | exact HW0.out.drew | exact (HW0.out.alloc (Nat.le_refl _) _).drew | exact HW0.out.drew.alloc (Nat.le_refl _) _ | exact HW0.out.alloc (Nat.le_refl _) _); rintro _ w2 ⟨v2, rfl, hv2, hb2, hB2, hch2⟩; (have HV2 := Lib.hid hv2); (have HB2 := Lib.hid hB2); (have hBh2 : Bh < w2.heap.size := World.block_lt_of_cell? _ _ hch2); clear hv2 hB2)
        | (refine Kd.R_append_rows_step (Kd.int .u8) (w0 := wr) wr.heap.size rfl (.tmp 12) (.tmp 24) 24 5 (.int .u8 0) 1 rfl Try.underlying24 infoU8 rfl (by decide) (by omega) v2 l (be4 (k : Int)) _ _ _ (fun _ => True) (fun _ => False) rfl rfl ?aO ?aR (fun _ _ h => h) (fun _ h => h.elim) ?aF ?aB ?aS ?aL ?_; (case aR => first | exact row4 (heap_alloc_new _ _) | exact row4 ((hb2.block _ (by simp)).trans (heap_alloc_new _ _))); (case aB => first | exact HB2.out | exact HB2.out.alloc HB2.out.size _); (case aF => exact (fun _ _ => trivial)); (case aO => first | exact Kd.R_mono HV2.out (fun _ _ => trivial) | exact Kd.R_alloc (Kd.R_mono HV2.out (fun _ _ => trivial)) _); (case aS => first | exact HB2.out.size | exact Nat.le_trans HB2.out.size (by simp)); (case aL => simp [be4]; omega); intro v4 w4 ho4 hb4 hg4 hat4; (have HV4 := Lib.hid ho4); (have HB4 := Lib.hid hb4); (have hch4 : w4.cell? ⟨Bh, 0, none⟩ = some (.int .i64 h) := HCH.out w4 hb4); clear ho4 hb4 hg4 hat4)
        | (go_simp; go_at_call 33; (with_reducible refine (HSu.out _ _ _ _ HV4.out).mono ?_); rintro _ w5 ⟨v5, rfl, hv5, hb5⟩; (have HV5 := Lib.hid hv5); (have HB5 := Lib.hid (HB4.out.trans (hb5.mono HB4.out.size))); clear hv5 hb5))
      all_goals
        first | (show KK _ _) | skip
        (try go_simp)
        exact HQ1.out v5 _ _ _ _ _ _ _ _ _ _ _ _ _ _ _ _ _ _ _ _ _ _ _ _ _ _ _ w5 (Kd.V_mono (Kd.V_lower HV5.out HB4.out.size) (fun j hj => Nat.le_trans HB4.out.size hj)) HB5.out
--DEV>
    case rest =>
      intro e a' w5 hq0
      have hn0 : e = .normal := by cases e <;> first | rfl | exact hq0.elim
      subst hn0
      have hq : KK a' w5 := hq0
      clear hq0
      obtain ⟨v5, t6, t7, t8, t9, t10, t11, t12, t13, t14, t15, t16, t17, t18, t19, t20, t21, t22, t23, t24, t25, t26, t27, t28, t29, t30, t31, t32, rfl, hv5, hb5⟩ := hQ2 a' w5 hq
      clear hq hQ2 HQ1
      have hch5 : w5.cell? ⟨Bh, 0, none⟩ = some (.int .i64 h) := (hb5.cell (p := ⟨Bh, 0, none⟩) (World.block_lt_of_cell? _ _ hch)).trans hch
      have hcs5 : w5.cell? ⟨Bs, 0, none⟩ = some (.slice A l.length c) := (hb5.cell (p := ⟨Bs, 0, none⟩) (World.block_lt_of_cell? _ _ hcs)).trans hcs
      have hz5 : w.heap.size ≤ w5.heap.size := Nat.le_trans hsz hb5.size
      have hs5 : Hid (∀ k, k < w0.heap.size → w5.heap[k]? = w0.heap[k]?) := fun i hi => (hb5.block i (Nat.lt_of_lt_of_le hi (Nat.le_trans hw.size hsz))).trans (hs.out i hi)
      have hv6 := Kd.V_mono (ok' := fun j => w.heap.size ≤ j) (Kd.V_lower hv5 hsz) (fun j hj => Nat.le_trans hsz hj)
      obtain ⟨A5, c5, rfl⟩ := Kd.V_slice hv5
      have hv7 := (Kd.V_reads' hv6).2.2
      rw [show (blkOf h l k).length = hlen h from hsum_length _ _] at hv7 ⊢
      obtain ⟨fn, tmps, assign, body, hy, hR⟩ := hY k #[.slice A5 (hlen h) c5] w5 ⟨A5, c5, rfl, hv7⟩ hkN (hJ _ _ _ hJk (Away.of_below hb5))
      have HR := Lib.hid hR
      have hBh5 : Bh < w5.heap.size := World.block_lt_of_cell? _ _ hch5
      have hBs5 : Bs < w5.heap.size := World.block_lt_of_cell? _ _ hcs5
      clear hR hv5 hv6 hv7 hY hb5
      gi_wp2
      refine HR.out.mono ?_
      rintro e W3 (⟨rfl, hJ3, hk3⟩ | ⟨rfl, hJx3⟩)
      · have hch3 : W3.cell? ⟨Bh, 0, none⟩ = some (.int .i64 h) := (World.cell?_of_block (w := w5) (hk3.block Bh hBh5 (.inr (.inl rfl)))).trans hch5
        have hcs3 : W3.cell? ⟨Bs, 0, none⟩ = some (.slice A l.length c) := (World.cell?_of_block (w := w5) (hk3.block Bs hBs5 (.inr (.inr rfl)))).trans hcs5
        have hz3 : w.heap.size ≤ W3.heap.size := Nat.le_trans hz5 hk3.size
        have hs3 : Hid (∀ k, k < w0.heap.size → W3.heap[k]? = w0.heap[k]?) := fun i hi => (hk3.block i (by omega) (.inl hi)).trans (hs5.out i hi)
        clear hk3
        have hwr : IntKind.u32.wrap ((k : Int) + 1) = ((k + 1 : Nat) : Int) := by
          have := IntKind.wrap_u32' ((k : Int) + 1)
          omega
        gi_wp2
        go_roundw
        case rel => exact ⟨k + 1, by omega, by first | rfl | go_num | simp [hwr], hJ3, hch3, hcs3, hz3, hs3⟩
        case measure => simp [intOf]; omega
      · gi_wp2
        refine bodyPost_ret (results_none rfl _ _ _) rfl ?_
        exact ⟨⟨_, rfl⟩, _, hJx3⟩
end Go.Proofs.Ytmmbbkdbebfhiaa.H
