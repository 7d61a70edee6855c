/- The law Sha512Blocks, by walking its text. -/
import Derived.Test.YtmmbbkdbebfhiaaHArr
set_option linter.unusedVariables false
set_option linter.unusedSimpArgs false
namespace Go.Proofs.Ytmmbbkdbebfhiaa.H
open Go.RowKit Go.Proofs.YtmmbbkdbebfhiaaW.PrintWords Go.Proofs.YtmmbbkdbebfhiaaW.PrintLast Go.Proofs.Ytmmbbkdbebfhiaa.Sha Go.Proofs.YtmmbbkdbebfhiaaW.PrintMore
attribute [local go_sem] Oper.semAt_some

set_option maxRecDepth 100000 in
set_option maxHeartbeats 4000000 in
/-- The law's walk, whatever the two Blocks come to, if that is alike. -/
theorem blocks_of (s l : List Int) (ok : Bool) (hs : s.length = 8) (hl : l.length = 8) (A0 : Option Addr) (n c0 : Nat) (w : World) (hn : (n : Int) ≤ 400)
    (H1 : ∀ W, Below w.heap.size w W → Calls Try.prog 27 #[.agg (nums .u64 s).toArray, .slice A0 n c0] W fun e w' => e = .returned (.tuple #[.agg (nums .u64 l).toArray, .bool ok]) ∧ Below W.heap.size W w')
    (H2 : ∀ W, Below w.heap.size w W → Calls Try.prog 28 #[.agg (nums .u64 s).toArray, .slice A0 n c0] W fun e w' => e = .returned (.tuple #[.agg (nums .u64 l).toArray, .bool ok]) ∧ Below W.heap.size W w') :
    Calls Try.prog 6 #[.agg (nums .u64 s).toArray, .slice A0 n c0] w fun e w' => e = .returned (.bool true) ∧ Below w.heap.size w w' := by
  have hel := fun W : World => run_eql_nums (P := Try.prog) (t := 34) (e := 33) (k := .u64) l hl Try.underlying34 Try.underlying33 (by kernel_rfl) W
  have HH1 := Lib.hid H1
  have HH2 := Lib.hid H2
  have hB0 : Hid (Below w.heap.size w (w.alloc (.cells (nums .u64 s).toArray 34))) := (Below.refl _ w).alloc (Nat.le_refl _) _
  have hz0 : Hid ((w.alloc (.cells (nums .u64 s).toArray 34)).heap[w.heap.size]? = some (.cells (nums .u64 s).toArray 34 (0, 0))) := heap_alloc_new _ _
  have hkz : (Try.prog.info? 34).map (·.size) = some (nums .u64 s).toArray.size := by rw [show (nums .u64 s).toArray.size = 8 by simp [nums, hs]]; kernel_rfl
  have hkl : (Try.prog.info? 34).map (·.size) = some (nums .u64 l).toArray.size := by rw [show (nums .u64 l).toArray.size = 8 by simp [nums, hl]]; kernel_rfl
  have hol : (#[.int .u64 0, .int .u64 0, .int .u64 0, .int .u64 0, .int .u64 0, .int .u64 0, .int .u64 0, .int .u64 0] : Array Value).size = (nums .u64 l).toArray.size := by rw [show (nums .u64 l).toArray.size = 8 by simp [nums, hl]]; rfl
  have h1l : (nums .u64 l).toArray.all (·.oneCell') = true := by simp [nums]; intro _ _; rfl
  have HKZ := Lib.hid hkz
  have HKL := Lib.hid hkl
  have HOL := Lib.hid hol
  have H1L := Lib.hid h1l
  clear H1 H2 hkz hkl hol h1l hs hl
  go_enter Try.func6, Try.ntmps6
  go_wp2_with fail
  refine (awake12 _).mono ?_
  rintro e w1 ⟨rfl, hb1⟩
  have HB1 : Hid (Below w.heap.size w w1) := hB0.out.trans (hb1.mono hB0.out.size)
  have HZ1 : Hid (w1.heap[w.heap.size]? = some (.cells (nums .u64 s).toArray 34 (0, 0))) := (hb1.block _ (by simp)).trans hz0.out
  clear hb1 hB0 hz0
  go_wp2_with (first | (with_reducible refine wpList_load_row rfl 34 (.tmp 2) rfl w.heap.size (by simp [Act.eval, Act.put]) 34 (nums .u64 s).toArray (0, 0) _ HZ1.out Try.underlying34 rfl HKZ.out ?_))
  refine (HH1.out w1 HB1.out).mono ?_
  rintro e w2 ⟨rfl, hb2⟩
  have HB2 : Hid (Below w.heap.size w w2) := HB1.out.trans (hb2.mono HB1.out.size)
  have HZ2 : Hid (w2.heap[w.heap.size]? = some (.cells (nums .u64 s).toArray 34 (0, 0))) := (hb2.block _ (Array.getElem?_eq_some_iff.1 HZ1.out).1).trans HZ1.out
  clear hb2 HB1 HZ1
  have hgw : Hid (w.heap.size < w2.heap.size) := (Array.getElem?_eq_some_iff.1 HZ2.out).1
  have HB3 : Hid (Below w.heap.size w ((w2.alloc (.cells #[.int .u64 0, .int .u64 0, .int .u64 0, .int .u64 0, .int .u64 0, .int .u64 0, .int .u64 0, .int .u64 0] 34)).setRow w2.heap.size (nums .u64 l).toArray)) := below_setRow' (HB2.out.alloc HB2.out.size _) (Nat.le_of_lt hgw.out) _
  have HZ3 : Hid (((w2.alloc (.cells #[.int .u64 0, .int .u64 0, .int .u64 0, .int .u64 0, .int .u64 0, .int .u64 0, .int .u64 0, .int .u64 0] 34)).setRow w2.heap.size (nums .u64 l).toArray).heap[w.heap.size]? = some (.cells (nums .u64 s).toArray 34 (0, 0))) :=
    (setRow_other _ _ _ _ (Nat.ne_of_lt hgw.out)).trans ((heap_at _ _ _).trans ((if_neg (Nat.ne_of_lt hgw.out)).trans HZ2.out))
  have HG3 : Hid (((w2.alloc (.cells #[.int .u64 0, .int .u64 0, .int .u64 0, .int .u64 0, .int .u64 0, .int .u64 0, .int .u64 0, .int .u64 0] 34)).setRow w2.heap.size (nums .u64 l).toArray).heap[w2.heap.size]? = some (.cells (nums .u64 l).toArray 34 (0, 0))) := setRow_heap _ _ _ _ _ _ (by rw [heap_at, if_pos rfl])
  have HS3 : Hid (((w2.alloc (.cells #[.int .u64 0, .int .u64 0, .int .u64 0, .int .u64 0, .int .u64 0, .int .u64 0, .int .u64 0, .int .u64 0] 34)).setRow w2.heap.size (nums .u64 l).toArray).heap.size = w2.heap.size + 1) := by
    show ((w2.alloc (.cells #[.int .u64 0, .int .u64 0, .int .u64 0, .int .u64 0, .int .u64 0, .int .u64 0, .int .u64 0, .int .u64 0] 34)).setRow w2.heap.size (nums .u64 l).toArray).heap.size = _
    rw [setRow_size, World.size_alloc]
  go_wp2_with (first | (with_reducible refine wpList_store_row rfl 34 (.tmp 5) (.tmp 18) rfl w2.heap.size (nums .u64 l).toArray (by simp [Act.eval, Act.put]) (by simp [Act.eval, Act.put]) 34 #[.int .u64 0, .int .u64 0, .int .u64 0, .int .u64 0, .int .u64 0, .int .u64 0, .int .u64 0, .int .u64 0] (by rw [heap_at, if_pos rfl]) HKL.out HOL.out H1L.out ?_) | (with_reducible refine wpList_load_row rfl 34 (.tmp 2) rfl w.heap.size (by simp [Act.eval, Act.put]) 34 (nums .u64 s).toArray (0, 0) _ HZ3.out Try.underlying34 rfl HKZ.out ?_))
  obtain ⟨w3, hw3⟩ : ∃ w3, w3 = (w2.alloc (.cells #[.int .u64 0, .int .u64 0, .int .u64 0, .int .u64 0, .int .u64 0, .int .u64 0, .int .u64 0, .int .u64 0] 34)).setRow w2.heap.size (nums .u64 l).toArray := ⟨_, rfl⟩
  rw [← hw3] at HB3 HZ3 HG3 HS3 ⊢
  clear hw3
  refine (HH2.out w3 HB3.out).mono ?_
  rintro e w4 ⟨rfl, hb4⟩
  have HB4 : Hid (Below w.heap.size w w4) := HB3.out.trans (hb4.mono HB3.out.size)
  have HG4 : Hid (w4.heap[w2.heap.size]? = some (.cells (nums .u64 l).toArray 34 (0, 0))) := (hb4.block _ (Array.getElem?_eq_some_iff.1 HG3.out).1).trans HG3.out
  have hg24 : Hid (w2.heap.size < w4.heap.size) := (Array.getElem?_eq_some_iff.1 HG4.out).1
  clear hb4 HB3 HZ3 HG3 HS3
  have HB5 : Hid (Below w.heap.size w ((w4.alloc (.cells #[.int .u64 0, .int .u64 0, .int .u64 0, .int .u64 0, .int .u64 0, .int .u64 0, .int .u64 0, .int .u64 0] 34)).setRow w4.heap.size (nums .u64 l).toArray)) := below_setRow' (HB4.out.alloc HB4.out.size _) (Nat.le_trans (Nat.le_of_lt hgw.out) (Nat.le_of_lt hg24.out)) _
  have HG5 : Hid (((w4.alloc (.cells #[.int .u64 0, .int .u64 0, .int .u64 0, .int .u64 0, .int .u64 0, .int .u64 0, .int .u64 0, .int .u64 0] 34)).setRow w4.heap.size (nums .u64 l).toArray).heap[w2.heap.size]? = some (.cells (nums .u64 l).toArray 34 (0, 0))) :=
    (setRow_other _ _ _ _ (Nat.ne_of_lt hg24.out)).trans ((heap_at _ _ _).trans ((if_neg (Nat.ne_of_lt hg24.out)).trans HG4.out))
  have HK5 : Hid (((w4.alloc (.cells #[.int .u64 0, .int .u64 0, .int .u64 0, .int .u64 0, .int .u64 0, .int .u64 0, .int .u64 0, .int .u64 0] 34)).setRow w4.heap.size (nums .u64 l).toArray).heap[w4.heap.size]? = some (.cells (nums .u64 l).toArray 34 (0, 0))) := setRow_heap _ _ _ _ _ _ (by rw [heap_at, if_pos rfl])
  go_wp2_with (first | (with_reducible refine wpList_store_row rfl 34 (.tmp 7) (.tmp 24) rfl w4.heap.size (nums .u64 l).toArray (by simp [Act.eval, Act.put]) (by simp [Act.eval, Act.put]) 34 #[.int .u64 0, .int .u64 0, .int .u64 0, .int .u64 0, .int .u64 0, .int .u64 0, .int .u64 0, .int .u64 0] (by rw [heap_at, if_pos rfl]) HKL.out HOL.out H1L.out ?_) | (with_reducible refine wpList_load_row rfl 34 (.tmp 5) rfl w2.heap.size (by simp [Act.eval, Act.put]) 34 (nums .u64 l).toArray (0, 0) _ HG5.out Try.underlying34 rfl HKL.out ?_) | (with_reducible refine wpList_load_row rfl 34 (.tmp 7) rfl w4.heap.size (by simp [Act.eval, Act.put]) 34 (nums .u64 l).toArray (0, 0) _ HK5.out Try.underlying34 rfl HKL.out ?_))
  go_ret
  exact ⟨rfl, HB5.out⟩

set_option maxRecDepth 100000 in
theorem blocks_long (s : List Int) (A0 : Option Addr) (n c0 : Nat) (w : World) (hn : 400 < (n : Int)) :
    Calls Try.prog 6 #[.agg (nums .u64 s).toArray, .slice A0 n c0] w fun e w' => e = .returned (.bool true) ∧ Below w.heap.size w w' := by
  have hB0 : Hid (Below w.heap.size w (w.alloc (.cells (nums .u64 s).toArray 34))) := (Below.refl _ w).alloc (Nat.le_refl _) _
  go_enter Try.func6, Try.ntmps6
  go_wp2_with fail
  refine (awake12 _).mono ?_
  rintro e w1 ⟨rfl, hb1⟩
  have HB1 : Hid (Below w.heap.size w w1) := hB0.out.trans (hb1.mono hB0.out.size)
  clear hb1 hB0
  go_wp2_with fail
  go_ret
  exact ⟨rfl, HB1.out⟩

def sconcelaw12_Sha512Blocks.f (l0 l1 : List Int) : Option Bool := if l0.length = 8 ∧ inB 64 l0 ∧ inB 8 l1 then some true else none
theorem sconcelaw12_Sha512Blocks.calls (l0 : List Int) (A1 : Option Addr) (c1 : Nat) (l1 : List Int) (r : Bool) (w : World) (hr1 : Kd.C (Kd.int .u8) w A1 l1.length l1) (hc1 : l1.length ≤ c1) (h : sconcelaw12_Sha512Blocks.f l0 l1 = some r) :
    Calls Try.prog 6 #[.agg (nums .u64 l0).toArray, .slice A1 l1.length c1] w fun e w' => e = .returned (.bool r) ∧ Below w.heap.size w w' := by
  unfold sconcelaw12_Sha512Blocks.f at h
  split at h
  · rename_i hb
    obtain rfl := Option.some.inj h
    by_cases hn : 400 < (l1.length : Int)
    · exact blocks_long l0 A1 l1.length c1 w hn
    · by_cases h128 : l1.length = 128
      · exact blocks_of l0 (blk6 l0 l1) true hb.1 (blk6_length _ _) A1 l1.length c1 w (by omega)
          (fun W hW => block_ok l0 hb.1 hb.2.1 A1 c1 l1 W (C_same hr1 (fun i hi => hW.block i hi)) hc1 h128 hb.2.2)
          (fun W hW => R12.block_ok l0 hb.1 hb.2.1 A1 c1 l1 W (C_same hr1 (fun i hi => hW.block i hi)) hc1 h128 hb.2.2)
      · exact blocks_of l0 [0, 0, 0, 0, 0, 0, 0, 0] false hb.1 rfl A1 l1.length c1 w (by omega) (fun W hW => block_no l0 A1 l1.length c1 W h128) (fun W hW => rblock_no l0 A1 l1.length c1 W h128)
  · cases h
end Go.Proofs.Ytmmbbkdbebfhiaa.H
