/- The reference's Block of chapter 12, by walking its text. -/
import Derived.Test.YtincnnmojgphmaaHBlk
import Derived.Test.YtincnnmojgphmaaPSx
set_option linter.unusedVariables false
set_option linter.unusedSimpArgs false
namespace Go.Proofs.Ytincnnmojgphmaa.H.R12
open Go.RowKit Go.Proofs.YtincnnmojgphmaaW.PrintWords Go.Proofs.YtincnnmojgphmaaW.PrintLast Go.Proofs.Ytincnnmojgphmaa.Sha Go.Proofs.Ytincnnmojgphmaa.H Go.Proofs.Ytincnnmojgphmaa.PS
attribute [local go_sem] Oper.semAt_some

set_option maxRecDepth 100000 in
theorem turn_any (x : Int) (n : Nat) (hn : n ≤ 64) (w : World) : Calls Try.prog 81 #[.int .u64 x, .int .i64 (n : Int)] w fun e w' => e = .returned (.int .u64 (R6 n x)) ∧ w = w' := by
  have h0 : (0 : Int) ≤ (n : Int) := by omega
  have h1 : (n : Int) ≤ 64 := by omega
  have h2 : (0 : Int) ≤ 64 - (n : Int) := by omega
  have u1 : IntKind.u64.wrap (n : Int) = (n : Int) := by have := IntKind.wrap_u64 (n : Int); omega
  have u2 : IntKind.u64.wrap (64 - (n : Int)) = 64 - (n : Int) := by have := IntKind.wrap_u64 (64 - (n : Int)); omega
  go_enter Try.func81, Try.ntmps81
  go_wp2
  exact bodyPost_ret (by simp [results, go_sem]; rfl) rfl ⟨rfl, rfl⟩

theorem turn1 (x : Int) (w : World) : Calls Try.prog 81 #[.int .u64 x, .int .i64 1] w fun e w' => e = .returned (.int .u64 (R6 1 x)) ∧ w = w' := turn_any x 1 (by decide) w
theorem turn8 (x : Int) (w : World) : Calls Try.prog 81 #[.int .u64 x, .int .i64 8] w fun e w' => e = .returned (.int .u64 (R6 8 x)) ∧ w = w' := turn_any x 8 (by decide) w
theorem turn19 (x : Int) (w : World) : Calls Try.prog 81 #[.int .u64 x, .int .i64 19] w fun e w' => e = .returned (.int .u64 (R6 19 x)) ∧ w = w' := turn_any x 19 (by decide) w
theorem turn61 (x : Int) (w : World) : Calls Try.prog 81 #[.int .u64 x, .int .i64 61] w fun e w' => e = .returned (.int .u64 (R6 61 x)) ∧ w = w' := turn_any x 61 (by decide) w
theorem turn14 (x : Int) (w : World) : Calls Try.prog 81 #[.int .u64 x, .int .i64 14] w fun e w' => e = .returned (.int .u64 (R6 14 x)) ∧ w = w' := turn_any x 14 (by decide) w
theorem turn18 (x : Int) (w : World) : Calls Try.prog 81 #[.int .u64 x, .int .i64 18] w fun e w' => e = .returned (.int .u64 (R6 18 x)) ∧ w = w' := turn_any x 18 (by decide) w
theorem turn41 (x : Int) (w : World) : Calls Try.prog 81 #[.int .u64 x, .int .i64 41] w fun e w' => e = .returned (.int .u64 (R6 41 x)) ∧ w = w' := turn_any x 41 (by decide) w
theorem turn28 (x : Int) (w : World) : Calls Try.prog 81 #[.int .u64 x, .int .i64 28] w fun e w' => e = .returned (.int .u64 (R6 28 x)) ∧ w = w' := turn_any x 28 (by decide) w
theorem turn34 (x : Int) (w : World) : Calls Try.prog 81 #[.int .u64 x, .int .i64 34] w fun e w' => e = .returned (.int .u64 (R6 34 x)) ∧ w = w' := turn_any x 34 (by decide) w
theorem turn39 (x : Int) (w : World) : Calls Try.prog 81 #[.int .u64 x, .int .i64 39] w fun e w' => e = .returned (.int .u64 (R6 39 x)) ∧ w = w' := turn_any x 39 (by decide) w

theorem k_any (t : Nat) (ht : t < 80) (w : World) : Calls Try.prog 82 #[.int .i64 (t : Int)] w fun e w' => e = .returned (.int .u64 (K6.getD t 0)) ∧ Below w.heap.size w w' := by
  refine sconceref12_k.calls t _ w ?_
  have h80 : (t : Int) < ((K6.length : Nat) : Int) := by show (t : Int) < 80; omega
  show (some K6).bind (fun y => if 0 ≤ (t : Int) then if (t : Int) < (y.length : Int) then some (rd y t) else none else none) = _
  simp only [Option.bind_some]
  rw [if_pos (by omega), if_pos h80]
  simp [rd]

/-- A round as the reference spells it. -/
def N6 (a : Int) : Int := Go.bits .xor .u64 IntKind.u64.max a
def rnd6r (r : List Int) (k w : Int) : List Int :=
  let e := r.getD 4 0
  let a := r.getD 0 0
  let t1 := P6 (P6 (P6 (P6 (r.getD 7 0) (X6 (X6 (R6 14 e) (R6 18 e)) (R6 41 e))) (X6 (A6 e (r.getD 5 0)) (A6 (N6 e) (r.getD 6 0)))) k) w
  let t2 := P6 (X6 (X6 (R6 28 a) (R6 34 a)) (R6 39 a)) (X6 (X6 (A6 a (r.getD 1 0)) (A6 a (r.getD 2 0))) (A6 (r.getD 1 0) (r.getD 2 0)))
  [P6 t1 t2, a, r.getD 1 0, r.getD 2 0, P6 (r.getD 3 0) t1, e, r.getD 5 0, r.getD 6 0]
def rnds6r (s W : List Int) : Nat → List Int
  | 0 => s
  | t + 1 => rnd6r (rnds6r s W t) (K6.getD t 0) (W.getD t 0)
theorem rnds6r_length {s : List Int} (W : List Int) (h : s.length = 8) : ∀ t, (rnds6r s W t).length = 8
  | 0 => h
  | t + 1 => by simp [rnds6r, rnd6r]
theorem ch_eq {e f g : Int} (he : 0 ≤ e ∧ e < 2 ^ 64) (hf : 0 ≤ f ∧ f < 2 ^ 64) (hg : 0 ≤ g ∧ g < 2 ^ 64) : X6 (A6 e f) (A6 (N6 e) g) = X6 g (A6 e (X6 f g)) := by
  obtain ⟨e, rfl⟩ := Int.eq_ofNat_of_zero_le he.1
  obtain ⟨f, rfl⟩ := Int.eq_ofNat_of_zero_le hf.1
  obtain ⟨g, rfl⟩ := Int.eq_ofNat_of_zero_le hg.1
  have he' : e < 2 ^ 64 := by omega
  have hf' : f < 2 ^ 64 := by omega
  have hg' : g < 2 ^ 64 := by omega
  have hm : IntKind.u64.max = ((2 ^ 64 - 1 : Nat) : Int) := by decide
  have hx : ∀ a b : Nat, a < 2 ^ 64 → b < 2 ^ 64 → a ^^^ b < 2 ^ 64 := fun a b => Nat.xor_lt_two_pow
  have ha : ∀ a b : Nat, b < 2 ^ 64 → a &&& b < 2 ^ 64 := fun a b h => Nat.and_lt_two_pow a h
  simp only [X6, A6, N6]
  rw [hm, u64_xor_nat _ _ (by decide) he', u64_and_nat _ _ he' hf', u64_and_nat _ _ (hx _ _ (by decide) he') hg', u64_xor_nat _ _ (ha _ _ hf') (ha _ _ hg'), u64_xor_nat _ _ hf' hg', u64_and_nat _ _ he' (hx _ _ hf' hg'), u64_xor_nat _ _ hg' (ha _ _ (hx _ _ hf' hg'))]
  congr 1
  apply Nat.eq_of_testBit_eq
  intro i
  simp only [Nat.testBit_xor, Nat.testBit_and, Nat.testBit_two_pow_sub_one]
  by_cases hi : i < 64
  · cases e.testBit i <;> cases f.testBit i <;> cases g.testBit i <;> simp [hi]
  · rw [Nat.testBit_lt_two_pow (Nat.lt_of_lt_of_le he' (Nat.pow_le_pow_right (by decide) (by omega))), Nat.testBit_lt_two_pow (Nat.lt_of_lt_of_le hg' (Nat.pow_le_pow_right (by decide) (by omega)))]
    simp
theorem maj_eq {a b c : Int} (ha : 0 ≤ a ∧ a < 2 ^ 64) (hb : 0 ≤ b ∧ b < 2 ^ 64) (hc : 0 ≤ c ∧ c < 2 ^ 64) : X6 (X6 (A6 a b) (A6 a c)) (A6 b c) = O6 (A6 a b) (A6 c (O6 a b)) := by
  obtain ⟨a, rfl⟩ := Int.eq_ofNat_of_zero_le ha.1
  obtain ⟨b, rfl⟩ := Int.eq_ofNat_of_zero_le hb.1
  obtain ⟨c, rfl⟩ := Int.eq_ofNat_of_zero_le hc.1
  have ha' : a < 2 ^ 64 := by omega
  have hb' : b < 2 ^ 64 := by omega
  have hc' : c < 2 ^ 64 := by omega
  have hx : ∀ a b : Nat, a < 2 ^ 64 → b < 2 ^ 64 → a ^^^ b < 2 ^ 64 := fun a b => Nat.xor_lt_two_pow
  have hn : ∀ a b : Nat, b < 2 ^ 64 → a &&& b < 2 ^ 64 := fun a b h => Nat.and_lt_two_pow a h
  have ho : ∀ a b : Nat, a < 2 ^ 64 → b < 2 ^ 64 → a ||| b < 2 ^ 64 := fun a b => Nat.or_lt_two_pow
  simp only [X6, A6, O6]
  rw [u64_and_nat _ _ ha' hb', u64_and_nat _ _ ha' hc', u64_and_nat _ _ hb' hc', u64_xor_nat _ _ (hn _ _ hb') (hn _ _ hc'), u64_xor_nat _ _ (hx _ _ (hn _ _ hb') (hn _ _ hc')) (hn _ _ hc'), u64_or_nat _ _ ha' hb', u64_and_nat _ _ hc' (ho _ _ ha' hb'), u64_or_nat _ _ (hn _ _ hb') (hn _ _ (ho _ _ ha' hb'))]
  congr 1
  apply Nat.eq_of_testBit_eq
  intro i
  simp only [Nat.testBit_xor, Nat.testBit_and, Nat.testBit_or]
  cases a.testBit i <;> cases b.testBit i <;> cases c.testBit i <;> rfl
theorem rnd6r_eq {r : List Int} (h : inB 64 r) (k w : Int) : rnd6r r k w = rnd6 r k w := by
  simp only [rnd6r, rnd6]
  rw [ch_eq (inB_getD h 4) (inB_getD h 5) (inB_getD h 6), maj_eq (inB_getD h 0) (inB_getD h 1) (inB_getD h 2)]
theorem rnd6_in {r : List Int} (h : inB 64 r) (k w : Int) : inB 64 (rnd6 r k w) := by
  intro x hx
  simp only [rnd6, List.mem_cons, List.not_mem_nil, or_false] at hx
  rcases hx with rfl | rfl | rfl | rfl | rfl | rfl | rfl | rfl
  all_goals first | exact wrap64_in _ | exact inB_getD h _
theorem rnds6_in {s : List Int} (h : inB 64 s) (W : List Int) : ∀ t, inB 64 (rnds6 s W t)
  | 0 => h
  | t + 1 => rnd6_in (rnds6_in h W t) _ _
theorem rnds6r_eq {s : List Int} (h : inB 64 s) (W : List Int) : ∀ t, rnds6r s W t = rnds6 s W t
  | 0 => rfl
  | t + 1 => by rw [rnds6r, rnds6r_eq h W t, rnd6r_eq (rnds6_in h W t)]; rfl
theorem blk6r_eq {s b : List Int} (h : inB 64 s) : sm6 (rnds6r s (sched6 b 80) 80) s 8 = blk6 s b := by
  rw [sm6_all, blk6, rnds6r_eq h]
  apply List.map_congr_left
  intro i _
  simp only [P6]
  rw [Int.add_comm]
theorem BI.draw {w : World} {s W : List Int} {wr : World} {k : Nat} {L : List Int} (h : ∀ v, BI w s (L.set k v) ((wr.drewN 0).setCell ⟨w.heap.size + 1 + 1, k, none⟩ (.int .u64 v))) (v : Int) : BI w s (L.set k v) ((wr.setCell ⟨w.heap.size + 1 + 1, k, none⟩ (.int .u64 v)).drew) :=
  ⟨(h v).bs, (h v).bo, (h v).bw, (h v).below.drew, (h v).size⟩
theorem BR.row {w : World} {s W r : List Int} {wr : World} (h : BR w s W r wr) (r' : List Int) : BR w s W r' (wr.setRow (w.heap.size + 3) (nums .u64 r').toArray) :=
  ⟨(setRow_other _ _ _ _ (by omega)).trans h.bs, (setRow_other _ _ _ _ (by omega)).trans h.bo, (setRow_other _ _ _ _ (by omega)).trans h.bw, setRow_heap _ _ _ _ _ _ h.br, below_setRow' h.below (by omega) _, by rw [setRow_size]; exact h.size⟩
theorem BR.drawn {w : World} {s W r : List Int} {wr : World} {n : Nat} (h : BR w s W r wr) : BR w s W r (wr.drewN n) :=
  ⟨h.bs, h.bo, h.bw, h.br, h.below.trans ⟨rfl, rfl, rfl, Nat.le_refl _, fun _ _ => rfl⟩, h.size⟩
set_option maxRecDepth 100000 in
set_option maxHeartbeats 4000000 in
theorem block_ok (s : List Int) (hs : s.length = 8) (hsB : inB 64 s) (A0 : Option Addr) (c0 : Nat) (b : List Int) (w : World) (hr : Kd.C (Kd.int .u8) w A0 b.length b) (hc : b.length ≤ c0) (hb : b.length = 128) (hbB : inB 8 b) :
    Calls Try.prog 69 #[.agg (nums .u64 s).toArray, .slice A0 b.length c0] w fun e w' => e = .returned (.tuple #[.agg (nums .u64 (blk6 s b)).toArray, .bool true]) ∧ Below w.heap.size w w' := by
  have hrb := hr
  rw [hb] at hr hc ⊢
  go_enter Try.func69, Try.ntmps69
  go_wp2_with fail
  obtain ⟨W0, hW0⟩ : ∃ W0, W0 = (((w.alloc (.cells (nums .u64 s).toArray 93)).alloc (.cells #[.int .u64 0, .int .u64 0, .int .u64 0, .int .u64 0, .int .u64 0, .int .u64 0, .int .u64 0, .int .u64 0] 93)).alloc (.cells Try.zeroCells108 108)) := ⟨_, rfl⟩
  have b0 : W0.heap[w.heap.size]? = some (.cells (nums .u64 s).toArray 93 (0, 0)) := by
    rw [hW0]; simp only [heap_at, World.size_alloc]; rw [if_neg (by omega), if_neg (by omega), if_pos (by trivial)]
  have b1 : W0.heap[w.heap.size + 1]? = some (.cells (nums .u64 [0, 0, 0, 0, 0, 0, 0, 0]).toArray 93 (0, 0)) := by
    rw [hW0]; simp only [heap_at, World.size_alloc]; rw [if_neg (by omega), if_pos (by trivial)]; rfl
  have b2 : W0.heap[w.heap.size + 2]? = some (.cells (nums .u64 (sw6 b 0)).toArray 108 (0, 0)) := by
    rw [hW0]; simp only [heap_at, World.size_alloc]; rw [if_pos (by trivial)]; kernel_rfl
  have hb0 : Below w.heap.size w W0 := by
    rw [hW0]; exact (((Below.refl _ w).alloc (Nat.le_refl _) _).alloc (by simp) _).alloc (by simp; omega) _
  have hz0 : W0.heap.size = w.heap.size + 3 := by rw [hW0]; simp
  have H0 : Hid (BI w s (sw6 b 0) W0) := ⟨b0, b1, b2, hb0, hz0⟩
  rw [← hW0]
  clear hW0 b0 b1 b2 hb0 hz0
  go_loopw [26] (fun i wr => ∃ k : Nat, k ≤ 80 ∧ i = .int .i64 k ∧ Hid (BI w s (sw6 b k) wr)) (fun i _ => 80 - (intOf i).toNat)
  case atStart => exact ⟨0, by omega, rfl, H0⟩
  case round =>
    obtain ⟨k, hk, rfl, hI⟩ := hrel
    by_cases hlt : k < 80
    ·
      --DEV<
      by_cases h16 : k < 16
      · obtain ⟨ad, rfl, _⟩ := (Kd.reads_of_C (d := (0 : Int)) hr).2.2 (by omega)
        have HC : Hid (∀ W, Below w.heap.size w W → ∀ j, j < 8 → W.cell? (ad.add (8 * k + j)) = some (.int .u8 (b.getD (8 * k + j) 0))) := by
          intro W hW j hj
          obtain ⟨ad', e, hc'⟩ := (Kd.reads_of_C (d := (0 : Int)) (C_same hrb (fun i hi => hW.block i hi))).2.2 (by omega)
          cases e
          exact hc' (8 * k + j) (by omega)
        have k80 : (k : Int) < 80 := by omega
        have k16 : (k : Int) < 16 := by omega
        have k0' : (0 : Int) ≤ (k : Int) := by omega
        have hk1 : (8 : Int) * (k : Int) ≤ 120 := by omega
        have e1 : 8 * k ≤ 8 * k + 8 := by omega
        have e2 : 8 * k + 8 - 8 * k = 8 := by omega
        have e3 : ¬ 8 * k = c0 := by omega
        have HI := Lib.hid hI.out
        clear hI
        go_wp2_with fail
        go_loopw [8] (fun i w2 => ∃ j : Nat, j ≤ 8 ∧ i = .int .i64 j ∧ Hid (BI w s (sj6 b k j) w2)) (fun i _ => 8 - (intOf i).toNat)
        case atStart => exact ⟨0, by omega, rfl, by rw [← sj6_start b k hlt]; exact HI.out⟩
        case round =>
          obtain ⟨j, hj, rfl, hJ⟩ := hrel
          by_cases hj8 : j < 8
          · have hcb := HC.out wr hJ.out.below j hj8
            have hL := sj6_length b k j hlt
            have hcw : wr.cell? ⟨w.heap.size + 1 + 1, k, none⟩ = some (.int .u64 ((sj6 b k j).getD k 0)) := by
              rw [show w.heap.size + 1 + 1 = w.heap.size + 2 from rfl, blk_cell hJ.out.bw k, List.getElem?_toArray, nums, List.getElem?_map, List.getElem?_eq_getElem (by omega), List.getD_eq_getElem?_getD, List.getElem?_eq_getElem (by omega)]; rfl
            have hfw : wr.frozen? ⟨w.heap.size + 1 + 1, k, none⟩ = false := blk_frozen hJ.out.bw k
            have hput := Lib.hid (BI.put hJ.out 0 k)
            rw [show (sj6 b k j) = (sj6 b k j) from rfl] at hL
            have b1 : (8 : Int) * (k : Int) + (j : Int) < 128 := by omega
            have b0 : (0 : Int) ≤ (8 : Int) * (k : Int) + (j : Int) := by omega
            have b2 : ((8 : Int) * (k : Int) + (j : Int)).toNat = 8 * k + j := by omega
            clear hJ hL
            go_wp2_with fail
            have w1 : IntKind.i64.wrap ((8 : Int) * (k : Int)) = (8 : Int) * (k : Int) := IntWalk.i64_in _ ⟨by omega, by omega⟩
            have w2 : IntKind.i64.wrap ((8 : Int) * (k : Int) + (j : Int)) = (8 : Int) * (k : Int) + (j : Int) := IntWalk.i64_in _ ⟨by omega, by omega⟩
            go_still_tail 15, (by kernel_rfl)
            go_wp2_with fail
            go_roundw
            case rel =>
              refine ⟨j + 1, by omega, by go_num, ?_⟩
              rw [← sj6_step b k j h16 hj8 hb]
              exact BI.draw (W := []) hput.out _
            case measure => simp [intOf]; omega
          · obtain rfl : j = 8 := by omega
            go_wp2_with fail
            refine ⟨⟨k + 1, by omega, by go_num, ?_⟩, by simp [intOf]; omega⟩
            rw [← sj6_end b k h16]
            exact hJ
      · have l1 := hI.out.bw
        obtain ⟨L, hL⟩ : ∃ L, L = sw6 b k := ⟨_, rfl⟩
        rw [← hL] at l1
        have q1 : ∀ i, wr.cell? ⟨w.heap.size + 1 + 1, i, none⟩ = (nums .u64 L).toArray[i]? := fun i => blk_cell l1 i
        have hLl : L.length = 80 := by rw [hL]; exact sw6_length b k hk
        have q2 : ∀ i, i < 80 → wr.cell? ⟨w.heap.size + 1 + 1, i, none⟩ = some (.int .u64 (L.getD i 0)) := fun i hi => by
          rw [q1, List.getElem?_toArray, nums, List.getElem?_map, List.getElem?_eq_getElem (by omega), List.getD_eq_getElem?_getD, List.getElem?_eq_getElem (by omega)]; rfl
        have c15 := q2 (k - 15) (by omega)
        have c2 := q2 (k - 2) (by omega)
        have c16 := q2 (k - 16) (by omega)
        have c7 := q2 (k - 7) (by omega)
        have hk0 : (16 : Int) ≤ (k : Int) := by omega
        have ck := q2 k (by omega)
        have fk : wr.frozen? ⟨w.heap.size + 1 + 1, k, none⟩ = false := blk_frozen l1 k
        have HL := Lib.hid hL
        have HQ := Lib.hid q2
        clear q1 q2 l1 hL
        go_wp2_with fail
        go_quiet (fail)
        go_wp2_with fail
        have HN : Hid (k - 16 ≠ k ∧ k - 7 ≠ k ∧ k - 16 < 80 ∧ k - 7 < 80) := ⟨by omega, by omega, by omega, by omega⟩
        have k80 : (k : Int) < 80 := by omega
        have k0' : (0 : Int) ≤ (k : Int) := by omega
        have s16b : ((k - 16 : Nat) : Int) < 80 := by omega
        have s7b : ((k - 7 : Nat) : Int) < 80 := by omega
        have s16 : IntKind.i64.wrap ((k : Int) - 16) = ((k - 16 : Nat) : Int) := by rw [IntWalk.i64_in _ ⟨by omega, by omega⟩]; omega
        have s7 : IntKind.i64.wrap ((k : Int) - 7) = ((k - 7 : Nat) : Int) := by rw [IntWalk.i64_in _ ⟨by omega, by omega⟩]; omega
        go_region_held3 (fun w' => w'.cell? ⟨w.heap.size + 1 + 1, k - 16, none⟩ = some (.int .u64 (L.getD (k - 16) 0)) ∧ w'.cell? ⟨w.heap.size + 1 + 1, k - 7, none⟩ = some (.int .u64 (L.getD (k - 7) 0)))
          (first | exact ⟨cell_far (W := wr.drewN _) (HQ.out (k - 16) HN.out.2.2.1) HN.out.1, cell_far (W := wr.drewN _) (HQ.out (k - 7) HN.out.2.2.2) HN.out.2.1⟩ | go_keep)
          ((first | (go_at_call 81; with_reducible refine (turn1 _ _).mono ?_; rintro _ _ ⟨rfl, rfl⟩) | (go_at_call 81; with_reducible refine (turn8 _ _).mono ?_; rintro _ _ ⟨rfl, rfl⟩) | (go_at_call 81; with_reducible refine (turn19 _ _).mono ?_; rintro _ _ ⟨rfl, rfl⟩) | (go_at_call 81; with_reducible refine (turn61 _ _).mono ?_; rintro _ _ ⟨rfl, rfl⟩)))
        go_wp2_with fail
        go_roundw
        case rel =>
          refine ⟨k + 1, by omega, by go_num, ?_⟩
          rw [← sw6_step b k h16 hlt]
          have hput := BI.put (wr := wr) hI.out
          obtain rfl := HL.out
          exact hput _ k (sch6 (sw6 b k) k)
        case measure => simp [intOf]; omega
      --DEV>
    · obtain rfl : k = 80 := by omega
      have HB := hI.out
      have h1c : (nums .u64 s).toArray.all (·.oneCell') = true := by simp [nums]; intro _ _; rfl
      go_wp2_with (first
        | (with_reducible refine wpList_load_row rfl 93 (.tmp 2) rfl w.heap.size (by simp [Act.eval, Act.put]) 93 (nums .u64 s).toArray (0, 0) _ HB.bs Try.underlying93 rfl (by rw [show (nums .u64 s).toArray.size = 8 by simp [nums, hs]]; kernel_rfl) ?_)
        | (with_reducible refine wpList_store_row rfl 93 (.tmp 11) (.tmp 88) rfl wr.heap.size (nums .u64 s).toArray (by simp [Act.eval, Act.put]) (by simp [Act.eval, Act.put]) 93 #[.int .u64 0, .int .u64 0, .int .u64 0, .int .u64 0, .int .u64 0, .int .u64 0, .int .u64 0, .int .u64 0] (by rw [heap_at, if_pos rfl]) (by rw [show (nums .u64 s).toArray.size = 8 by simp [nums, hs]]; kernel_rfl) (by simp [nums, hs]) h1c ?_))
      have hz := HB.size
      rw [hz]
      obtain ⟨W3, hW3⟩ : ∃ W3, W3 = (wr.alloc (.cells #[.int .u64 0, .int .u64 0, .int .u64 0, .int .u64 0, .int .u64 0, .int .u64 0, .int .u64 0, .int .u64 0] 93)).setRow (w.heap.size + 3) (nums .u64 s).toArray := ⟨_, rfl⟩
      have H3 : Hid (BR w s (sched6 b 80) s W3) := by
        rw [hW3]
        have e80 : sw6 b 80 = sched6 b 80 := by simp [sw6]
        rw [← e80]
        exact BR.start HB
      rw [← hW3]
      clear hW3 HB hI h1c
      go_loopw [12] (fun i w5 => ∃ t : Nat, t ≤ 80 ∧ i = .int .i64 t ∧ Hid (BR w s (sched6 b 80) (rnds6r s (sched6 b 80) t) w5)) (fun i _ => 80 - (intOf i).toNat)
      case atStart => exact ⟨0, by omega, rfl, H3⟩
      case round =>
        obtain ⟨t, ht, rfl, hR⟩ := hrel
        by_cases ht8 : t < 80
        ·
          --DEV<
          obtain ⟨r, hr'⟩ : ∃ r, r = rnds6r s (sched6 b 80) t := ⟨_, rfl⟩
          rw [← hr'] at hR
          have hrl : r.length = 8 := by rw [hr']; exact rnds6r_length _ hs t
          obtain ⟨V, hV⟩ : ∃ V, V = sched6 b 80 := ⟨_, rfl⟩
          rw [← hV] at hR hr'
          have hVl : V.length = 80 := by rw [hV]; exact sched6_length b 80
          have cr : ∀ j, j < 8 → wr.cell? ⟨w.heap.size + 3, j, none⟩ = some (.int .u64 (r.getD j 0)) := fun j hj => by
            rw [blk_cell hR.out.br j, List.getElem?_toArray, nums, List.getElem?_map, List.getElem?_eq_getElem (by omega), List.getD_eq_getElem?_getD, List.getElem?_eq_getElem (by omega)]; rfl
          obtain ⟨x0, hx0⟩ : ∃ x, x = r.getD 0 0 := ⟨_, rfl⟩
          obtain ⟨x1, hx1⟩ : ∃ x, x = r.getD 1 0 := ⟨_, rfl⟩
          obtain ⟨x2, hx2⟩ : ∃ x, x = r.getD 2 0 := ⟨_, rfl⟩
          obtain ⟨x3, hx3⟩ : ∃ x, x = r.getD 3 0 := ⟨_, rfl⟩
          obtain ⟨x4, hx4⟩ : ∃ x, x = r.getD 4 0 := ⟨_, rfl⟩
          obtain ⟨x5, hx5⟩ : ∃ x, x = r.getD 5 0 := ⟨_, rfl⟩
          obtain ⟨x6, hx6⟩ : ∃ x, x = r.getD 6 0 := ⟨_, rfl⟩
          obtain ⟨x7, hx7⟩ : ∃ x, x = r.getD 7 0 := ⟨_, rfl⟩
          have c0' := cr 0 (by omega)
          have c1' := cr 1 (by omega)
          have c2' := cr 2 (by omega)
          have c4' := cr 4 (by omega)
          have c5' := cr 5 (by omega)
          have c6' := cr 6 (by omega)
          rw [← hx0] at c0'
          rw [← hx1] at c1'
          rw [← hx2] at c2'
          rw [← hx4] at c4'
          rw [← hx5] at c5'
          rw [← hx6] at c6'
          obtain ⟨y, hy⟩ : ∃ y, y = V.getD t 0 := ⟨_, rfl⟩
          obtain ⟨kk, hkk⟩ : ∃ x, x = K6.getD t 0 := ⟨_, rfl⟩
          have hkc : Hid (∀ w, Calls Try.prog 82 #[.int .i64 (t : Int)] w fun e w' => e = .returned (.int .u64 kk) ∧ Below w.heap.size w w') := by rw [hkk]; exact k_any t ht8
          have hre : r = [x0, x1, x2, x3, x4, x5, x6, x7] := by
            rw [hx0, hx1, hx2, hx3, hx4, hx5, hx6, hx7]
            match r, hrl with
            | [_, _, _, _, _, _, _, _], _ => rfl
          have HR8 : Hid (BR w s V [x0, x1, x2, x3, x4, x5, x6, x7] wr) := BR.at8 hR.out hre
          have HKP : Hid (∀ W, BR w s V [x0, x1, x2, x3, x4, x5, x6, x7] W → W.cell? ⟨w.heap.size + 3, 7, none⟩ = some (.int .u64 x7) ∧ W.cell? ⟨w.heap.size + 1 + 1, t, none⟩ = some (.int .u64 y) ∧ Hid (BR w s V [x0, x1, x2, x3, x4, x5, x6, x7] W)) := fun W hW => by
            refine ⟨by rw [blk_cell hW.br 7]; rfl, ?_, hW⟩
            rw [show w.heap.size + 1 + 1 = w.heap.size + 2 from rfl, blk_cell hW.bw t, List.getElem?_toArray, nums, List.getElem?_map, List.getElem?_eq_getElem (by omega), hy, List.getD_eq_getElem?_getD, List.getElem?_eq_getElem (by omega)]; rfl
          have HRE := Lib.hid hre
          have HY := Lib.hid hy
          have HK := Lib.hid hkk
          have HRL := Lib.hid hrl
          have t80 : (t : Int) < 80 := by omega
          have t0' : (0 : Int) ≤ (t : Int) := by omega
          have HR' := Lib.hid hr'
          have HV := Lib.hid hV
          clear cr hr' hV hVl hx0 hx1 hx2 hx3 hx4 hx5 hx6 hx7 hy hkk hrl hre hR
          go_wp2_with fail
          go_quiet (fail)
          go_wp2_with fail
          go_region_held3 (fun W => W.cell? ⟨w.heap.size + 3, 7, none⟩ = some (.int .u64 x7) ∧ W.cell? ⟨w.heap.size + 1 + 1, t, none⟩ = some (.int .u64 y) ∧ Hid (BR w s V [x0, x1, x2, x3, x4, x5, x6, x7] W))
            (first | exact HKP.out _ (BR.later (BR.draw (BR.drawn HR8.out)) hbk) | exact HKP.out _ (BR.draw (BR.drawn HR8.out)) | go_keep)
            ((first | (go_at_call 81; with_reducible refine (turn14 _ _).mono ?_; rintro _ _ ⟨rfl, rfl⟩) | (go_at_call 81; with_reducible refine (turn18 _ _).mono ?_; rintro _ _ ⟨rfl, rfl⟩) | (go_at_call 81; with_reducible refine (turn41 _ _).mono ?_; rintro _ _ ⟨rfl, rfl⟩) | (go_at_call 82; with_reducible refine (hkc.out _).mono ?_; rintro _ wk ⟨rfl, hbk⟩)))
          have HW : Hid (BR w s V [x0, x1, x2, x3, x4, x5, x6, x7] wk) := BR.later (BR.draw (BR.drawn HR8.out)) hbk
          have c3' : wk.cell? ⟨w.heap.size + 3, 3, none⟩ = some (.int .u64 x3) := by rw [blk_cell HW.out.br 3]; rfl
          clear hbk
          have hsz8 : (Try.prog.info? 93).map (·.size) = some (nums .u64 (rnd6r [x0, x1, x2, x3, x4, x5, x6, x7] kk y)).toArray.size := by kernel_rfl
          have hos8 : (nums .u64 [x0, x1, x2, x3, x4, x5, x6, x7]).toArray.size = (nums .u64 (rnd6r [x0, x1, x2, x3, x4, x5, x6, x7] kk y)).toArray.size := rfl
          have h1c8 : (nums .u64 (rnd6r [x0, x1, x2, x3, x4, x5, x6, x7] kk y)).toArray.all (·.oneCell') = true := by simp [nums, rnd6r, Value.oneCell']
          have Hsz8 := Lib.hid hsz8
          have Hos8 := Lib.hid hos8
          have H1c8 := Lib.hid h1c8
          clear hsz8 hos8 h1c8
          go_wp2_with (first
            | (go_at_call 81; with_reducible refine (turn28 _ _).mono ?_; rintro _ _ ⟨rfl, rfl⟩) | (go_at_call 81; with_reducible refine (turn34 _ _).mono ?_; rintro _ _ ⟨rfl, rfl⟩) | (go_at_call 81; with_reducible refine (turn39 _ _).mono ?_; rintro _ _ ⟨rfl, rfl⟩)
            | (with_reducible refine wpList_build rfl 93 _ rfl (by kernel_rfl) ?_; generalize hg : (Program.built _ _ _).getD #[] = cs; (obtain rfl : cs = (nums .u64 (rnd6r [x0, x1, x2, x3, x4, x5, x6, x7] kk y)).toArray := by (rw [← hg]; kernel_rfl)); clear hg)
            | (with_reducible refine wpList_store_row rfl 93 (.tmp 11) (.tmp 165) rfl (w.heap.size + 3) (nums .u64 (rnd6r [x0, x1, x2, x3, x4, x5, x6, x7] kk y)).toArray (by simp [Act.eval, Act.put]) (by simp [Act.eval, Act.put]) 93 _ HW.out.br Hsz8.out Hos8.out H1c8.out ?_))
          go_roundw
          case rel =>
            refine ⟨t + 1, by omega, by go_num, ?_⟩
            have e : rnds6r s (sched6 b 80) (t + 1) = rnd6r [x0, x1, x2, x3, x4, x5, x6, x7] kk y := by
              rw [← HV.out, show rnds6r s V (t + 1) = rnd6r (rnds6r s V t) (K6.getD t 0) (V.getD t 0) from rfl, ← HR'.out, HRE.out, ← HK.out, ← HY.out]
            rw [e, ← HV.out]
            exact BR.row HW.out _
          case measure => simp [intOf]; omega
          --DEV>
        · obtain rfl : t = 80 := by omega
          have HR := Lib.hid hR.out
          clear hR
          go_wp2_with fail
          go_loopw [166] (fun i w6 => ∃ t : Nat, t ≤ 8 ∧ i = .int .i64 t ∧ Hid (BR w s (sched6 b 80) (sm6 (rnds6r s (sched6 b 80) 80) s t) w6)) (fun i _ => 8 - (intOf i).toNat)
          case atStart => exact ⟨0, by omega, rfl, by rw [sm6_zero _ _ (rnds6r_length _ hs 80)]; exact HR.out⟩
          case round =>
            obtain ⟨t, ht, rfl, hR⟩ := hrel
            obtain ⟨r, hr'⟩ : ∃ r, r = rnds6r s (sched6 b 80) 80 := ⟨_, rfl⟩
            have hrl : r.length = 8 := by rw [hr']; exact rnds6r_length _ hs 80
            rw [← hr'] at hR
            by_cases ht8 : t < 8
            · have hsl := sm6_length r s t
              have cs : wr.cell? ⟨w.heap.size, t, none⟩ = some (.int .u64 (s.getD t 0)) := by
                rw [blk_cell hR.out.bs t, List.getElem?_toArray, nums, List.getElem?_map, List.getElem?_eq_getElem (by omega), List.getD_eq_getElem?_getD, List.getElem?_eq_getElem (by omega)]; rfl
              have cr : wr.cell? ⟨w.heap.size + 3, t, none⟩ = some (.int .u64 ((sm6 r s t).getD t 0)) := by
                rw [blk_cell hR.out.br t, List.getElem?_toArray, nums, List.getElem?_map, List.getElem?_eq_getElem (by omega), List.getD_eq_getElem?_getD, List.getElem?_eq_getElem (by omega)]; rfl
              have fs : wr.frozen? ⟨w.heap.size + 3, t, none⟩ = false := blk_frozen hR.out.br t
              obtain ⟨a, ha⟩ : ∃ a, a = (sm6 r s t).getD t 0 := ⟨_, rfl⟩
              obtain ⟨c, hc'⟩ : ∃ c, c = s.getD t 0 := ⟨_, rfl⟩
              rw [← hc'] at cs
              rw [← ha] at cr
              have HA := Lib.hid ha
              have HC' := Lib.hid hc'
              have HR2 := Lib.hid hr'
              have t80 : (t : Int) < 8 := by omega
              have t0' : (0 : Int) ≤ (t : Int) := by omega
              clear ha hc' hr' hrl hsl
              go_wp2_with fail
              go_still_tail 8, (by kernel_rfl)
              go_wp2_with fail
              refine ⟨⟨_, _, _, _, _, _, _, _, _, _, _, _, _, ?rel, rfl⟩, ?measure⟩
              case rel =>
                refine ⟨t + 1, by omega, by go_num, ?_⟩
                rw [← HR2.out, ← sm6_step r s t ht8, ← HA.out, ← HC'.out]
                exact BR.draw (BR.put hR.out t _)
              case measure => simp [intOf]; omega
            · obtain rfl : t = 8 := by omega
              have HS := hR.out
              have hsm : (sm6 r s 8).length = 8 := sm6_length r s 8
              have h1c : (nums .u64 (sm6 r s 8)).toArray.all (·.oneCell') = true := by simp [nums]; intro _ _; rfl
              have hsz8 : (nums .u64 (sm6 r s 8)).toArray.size = 8 := by simp [nums, hsm]
              have hosz : (nums .u64 [0, 0, 0, 0, 0, 0, 0, 0]).toArray.size = (nums .u64 (sm6 r s 8)).toArray.size := by rw [hsz8]; rfl
              have hkz : (Try.prog.info? 93).map (·.size) = some (nums .u64 (sm6 r s 8)).toArray.size := by rw [hsz8]; kernel_rfl
              have HR2 := Lib.hid hr'
              clear hr'
              go_wp2_with (first
                | (with_reducible refine wpList_load_row rfl 93 (.tmp 11) rfl (w.heap.size + 3) (by simp [Act.eval, Act.put]) 93 (nums .u64 (sm6 r s 8)).toArray (0, 0) _ HS.br Try.underlying93 rfl hkz ?_)
                | (with_reducible refine wpList_store_row rfl 93 (.tmp 4) (.tmp 178) rfl (w.heap.size + 1) (nums .u64 (sm6 r s 8)).toArray (by simp [Act.eval, Act.put]) (by simp [Act.eval, Act.put]) 93 _ HS.bo hkz hosz h1c ?_))
              have hfin : ((wr.setRow (w.heap.size + 1) (nums .u64 (sm6 r s 8)).toArray)).heap[w.heap.size + 1]? = some (.cells (nums .u64 (sm6 r s 8)).toArray 93 (0, 0)) := setRow_heap _ _ _ _ _ _ HS.bo
              refine bodyPost_ret (results_cell_row2 (p := 4) (q := 5) (ty := 93) (by kernel_rfl) _ _ (w.heap.size + 1) 93 _ (0, 0) _ rfl hfin Try.underlying93 rfl hkz) rfl ⟨?_, below_setRow' HS.below (by omega) _⟩
              show _ = Ending.returned (.tuple #[.agg _, .bool true])
              rw [← blk6r_eq hsB, HR2.out]
              rfl
end Go.Proofs.Ytincnnmojgphmaa.H.R12
