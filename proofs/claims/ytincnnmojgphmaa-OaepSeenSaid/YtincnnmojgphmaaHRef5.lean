/- The reference's Block of chapter 11, by walking its text. -/
import Derived.Test.YtincnnmojgphmaaHBlk5
import Derived.Test.YtincnnmojgphmaaPSx
set_option linter.unusedVariables false
set_option linter.unusedSimpArgs false
namespace Go.Proofs.Ytincnnmojgphmaa.H.R11
open Go.RowKit Go.Proofs.YtincnnmojgphmaaW.PrintWords Go.Proofs.YtincnnmojgphmaaW.PrintLast Go.Proofs.Ytincnnmojgphmaa.Sha Go.Proofs.Ytincnnmojgphmaa.H Go.Proofs.Ytincnnmojgphmaa.PS
open Go.Proofs.Ytincnnmojgphmaa.H.B5 (nums_at BJ BG P5m sum5a sum5b)
attribute [local go_sem] Oper.semAt_some

set_option maxRecDepth 100000 in
theorem turn_any (x : Int) (n : Nat) (hn : n ≤ 32) (w : World) : Calls Try.prog 79 #[.int .u32 x, .int .i64 (n : Int)] w fun e w' => e = .returned (.int .u32 (R5 n x)) ∧ w = w' := by
  have h0 : (0 : Int) ≤ (n : Int) := by omega
  have h1 : (n : Int) ≤ 32 := by omega
  have h2 : (0 : Int) ≤ 32 - (n : Int) := by omega
  have u1 : IntKind.u64.wrap (n : Int) = (n : Int) := by have := IntKind.wrap_u64 (n : Int); omega
  have u2 : IntKind.u64.wrap (32 - (n : Int)) = 32 - (n : Int) := by have := IntKind.wrap_u64 (32 - (n : Int)); omega
  go_enter Try.func79, Try.ntmps79
  go_wp2
  exact bodyPost_ret (by simp [results, go_sem]; rfl) rfl ⟨rfl, rfl⟩


theorem turn7 (x : Int) (w : World) : Calls Try.prog 79 #[.int .u32 x, .int .i64 7] w fun e w' => e = .returned (.int .u32 (R5 7 x)) ∧ w = w' := turn_any x 7 (by decide) w
theorem turn18 (x : Int) (w : World) : Calls Try.prog 79 #[.int .u32 x, .int .i64 18] w fun e w' => e = .returned (.int .u32 (R5 18 x)) ∧ w = w' := turn_any x 18 (by decide) w
theorem turn17 (x : Int) (w : World) : Calls Try.prog 79 #[.int .u32 x, .int .i64 17] w fun e w' => e = .returned (.int .u32 (R5 17 x)) ∧ w = w' := turn_any x 17 (by decide) w
theorem turn19 (x : Int) (w : World) : Calls Try.prog 79 #[.int .u32 x, .int .i64 19] w fun e w' => e = .returned (.int .u32 (R5 19 x)) ∧ w = w' := turn_any x 19 (by decide) w
theorem turn6 (x : Int) (w : World) : Calls Try.prog 79 #[.int .u32 x, .int .i64 6] w fun e w' => e = .returned (.int .u32 (R5 6 x)) ∧ w = w' := turn_any x 6 (by decide) w
theorem turn11 (x : Int) (w : World) : Calls Try.prog 79 #[.int .u32 x, .int .i64 11] w fun e w' => e = .returned (.int .u32 (R5 11 x)) ∧ w = w' := turn_any x 11 (by decide) w
theorem turn25 (x : Int) (w : World) : Calls Try.prog 79 #[.int .u32 x, .int .i64 25] w fun e w' => e = .returned (.int .u32 (R5 25 x)) ∧ w = w' := turn_any x 25 (by decide) w
theorem turn2 (x : Int) (w : World) : Calls Try.prog 79 #[.int .u32 x, .int .i64 2] w fun e w' => e = .returned (.int .u32 (R5 2 x)) ∧ w = w' := turn_any x 2 (by decide) w
theorem turn13 (x : Int) (w : World) : Calls Try.prog 79 #[.int .u32 x, .int .i64 13] w fun e w' => e = .returned (.int .u32 (R5 13 x)) ∧ w = w' := turn_any x 13 (by decide) w
theorem turn22 (x : Int) (w : World) : Calls Try.prog 79 #[.int .u32 x, .int .i64 22] w fun e w' => e = .returned (.int .u32 (R5 22 x)) ∧ w = w' := turn_any x 22 (by decide) w

theorem k_any (t : Nat) (ht : t < 64) (w : World) : Calls Try.prog 80 #[.int .i64 (t : Int)] w fun e w' => e = .returned (.int .u32 (K5.getD t 0)) ∧ Below w.heap.size w w' := by
  refine sconceref11_k.calls t _ w ?_
  have h80 : (t : Int) < ((K5.length : Nat) : Int) := by show (t : Int) < 64; omega
  show (some K5).bind (fun y => if 0 ≤ (t : Int) then if (t : Int) < (y.length : Int) then some (rd y t) else none else none) = _
  simp only [Option.bind_some]
  rw [if_pos (by omega), if_pos h80]
  simp [rd]

theorem add_pos (ad : Addr) (n : Nat) (h : 0 < n) : ad.add n = ⟨ad.block, ad.off + n, none⟩ := by
  unfold Addr.add
  rw [if_neg (by omega)]
theorem or_join (i x y : Nat) (hx : x % 2 ^ i = 0) (hy : y < 2 ^ i) (hx2 : x < 4294967296) (hy2 : y < 4294967296) : Go.bits .or .u32 (x : Int) (y : Int) = ((x + y : Nat) : Int) := by
  rw [u32_or_nat _ _ hx2 hy2, nat_join i x y hx hy]
theorem ld5_step (a c : Nat) (ha : a < 16777216) (hc : c < 256) : O5 (IntKind.u32.wrap ((a : Int) * 256)) (IntKind.u32.wrap (c : Int)) = ((a * 256 + c : Nat) : Int) := by
  have h1 : IntKind.u32.wrap ((a : Int) * 256) = ((a * 256 : Nat) : Int) := by have := IntKind.wrap_u32' ((a : Int) * 256); omega
  have h2 : IntKind.u32.wrap (c : Int) = (c : Int) := by have := IntKind.wrap_u32' (c : Int); omega
  rw [O5, h1, h2, or_join 8 _ _ (by omega) (by omega) (by omega) (by omega)]
theorem ld5_four {e0 e1 e2 e3 : Int} (h0 : 0 ≤ e0) (m0 : e0 ≤ 255) (h1 : 0 ≤ e1) (m1 : e1 ≤ 255) (h2 : 0 ≤ e2) (m2 : e2 ≤ 255) (h3 : 0 ≤ e3) (m3 : e3 ≤ 255) :
    Go.bits .or .u32 (Go.bits .or .u32 (Go.bits .or .u32 (e0 * 16777216) (e1 * 65536)) (e2 * 256)) e3 = ld5 0 [e0, e1, e2, e3] := by
  obtain ⟨e0, rfl⟩ := Int.eq_ofNat_of_zero_le h0
  obtain ⟨e1, rfl⟩ := Int.eq_ofNat_of_zero_le h1
  obtain ⟨e2, rfl⟩ := Int.eq_ofNat_of_zero_le h2
  obtain ⟨e3, rfl⟩ := Int.eq_ofNat_of_zero_le h3
  have i0 : (e0 : Int) * 16777216 = ((e0 * 16777216 : Nat) : Int) := by omega
  have i1 : (e1 : Int) * 65536 = ((e1 * 65536 : Nat) : Int) := by omega
  have i2 : (e2 : Int) * 256 = ((e2 * 256 : Nat) : Int) := by omega
  have j0 := ld5_step 0 e0 (by decide) (by omega)
  have j1 := ld5_step (0 * 256 + e0) e1 (by omega) (by omega)
  have j2 := ld5_step ((0 * 256 + e0) * 256 + e1) e2 (by omega) (by omega)
  have j3 := ld5_step (((0 * 256 + e0) * 256 + e1) * 256 + e2) e3 (by omega) (by omega)
  rw [i0, i1, i2, or_join 24 _ _ (by omega) (by omega) (by omega) (by omega), or_join 16 _ _ (by omega) (by omega) (by omega) (by omega), or_join 8 _ _ (by omega) (by omega) (by omega) (by omega)]
  simp only [ld5, List.foldl_cons, List.foldl_nil]
  rw [show ((0 : Int)) = ((0 : Nat) : Int) from rfl, j0, j1, j2, j3]
  omega
theorem sj5_four (b : List Int) (k : Nat) (h16 : k < 16) (v : Int) (hv : v = ld5 0 ((b.drop (4 * k)).take 4)) : (sw5 b k).set k v = sw5 b (k + 1) := by
  have h := set_at5 (sched5 b k) (64 - k) v (by omega)
  rw [sched5_length] at h
  rw [sw5, h, sw5, sched5, if_pos h16, hv, show 64 - k - 1 = 64 - (k + 1) by omega]
/-- Four bytes as one word. -/
theorem four_of (b : List Int) (k : Nat) (h : 4 * k + 4 ≤ b.length) : (b.drop (4 * k)).take 4 = [b.getD (4 * k) 0, b.getD (4 * k + 1) 0, b.getD (4 * k + 2) 0, b.getD (4 * k + 3) 0] := by
  apply List.ext_getElem
  · simp; omega
  · intro j h1 h2
    simp at h2
    rw [List.getElem_take, List.getElem_drop]
    match j, h2 with
    | 0, _ | 1, _ | 2, _ | 3, _ => simp [List.getD_eq_getElem?_getD]; rw [List.getElem?_eq_getElem (by omega)]; rfl
/-- A round as the reference spells it. -/
def N5 (a : Int) : Int := Go.bits .xor .u32 IntKind.u32.max a
def rnd5r (r : List Int) (k w : Int) : List Int :=
  let e := r.getD 4 0
  let a := r.getD 0 0
  let t1 := P5 (P5 (P5 (P5 (r.getD 7 0) (X5 (X5 (R5 6 e) (R5 11 e)) (R5 25 e))) (X5 (A5 e (r.getD 5 0)) (A5 (N5 e) (r.getD 6 0)))) k) w
  let t2 := P5 (X5 (X5 (R5 2 a) (R5 13 a)) (R5 22 a)) (X5 (X5 (A5 a (r.getD 1 0)) (A5 a (r.getD 2 0))) (A5 (r.getD 1 0) (r.getD 2 0)))
  [P5 t1 t2, a, r.getD 1 0, r.getD 2 0, P5 (r.getD 3 0) t1, e, r.getD 5 0, r.getD 6 0]
def rnds5r (s W : List Int) : Nat → List Int
  | 0 => s
  | t + 1 => rnd5r (rnds5r s W t) (K5.getD t 0) (W.getD t 0)
theorem rnds5r_length {s : List Int} (W : List Int) (h : s.length = 8) : ∀ t, (rnds5r s W t).length = 8
  | 0 => h
  | t + 1 => by simp [rnds5r, rnd5r]
theorem ch_eq {e f g : Int} (he : 0 ≤ e ∧ e < 2 ^ 32) (hf : 0 ≤ f ∧ f < 2 ^ 32) (hg : 0 ≤ g ∧ g < 2 ^ 32) : X5 (A5 e f) (A5 (N5 e) g) = X5 g (A5 e (X5 f g)) := by
  obtain ⟨e, rfl⟩ := Int.eq_ofNat_of_zero_le he.1
  obtain ⟨f, rfl⟩ := Int.eq_ofNat_of_zero_le hf.1
  obtain ⟨g, rfl⟩ := Int.eq_ofNat_of_zero_le hg.1
  have he' : e < 2 ^ 32 := by omega
  have hf' : f < 2 ^ 32 := by omega
  have hg' : g < 2 ^ 32 := by omega
  have hm : IntKind.u32.max = ((2 ^ 32 - 1 : Nat) : Int) := by decide
  have hx : ∀ a b : Nat, a < 2 ^ 32 → b < 2 ^ 32 → a ^^^ b < 2 ^ 32 := fun a b => Nat.xor_lt_two_pow
  have ha : ∀ a b : Nat, b < 2 ^ 32 → a &&& b < 2 ^ 32 := fun a b h => Nat.and_lt_two_pow a h
  simp only [X5, A5, N5]
  rw [hm, u32_xor_nat _ _ (by decide) he', u32_and_nat _ _ he' hf', u32_and_nat _ _ (hx _ _ (by decide) he') hg', u32_xor_nat _ _ (ha _ _ hf') (ha _ _ hg'), u32_xor_nat _ _ hf' hg', u32_and_nat _ _ he' (hx _ _ hf' hg'), u32_xor_nat _ _ hg' (ha _ _ (hx _ _ hf' hg'))]
  congr 1
  apply Nat.eq_of_testBit_eq
  intro i
  simp only [Nat.testBit_xor, Nat.testBit_and, Nat.testBit_two_pow_sub_one]
  by_cases hi : i < 32
  · cases e.testBit i <;> cases f.testBit i <;> cases g.testBit i <;> simp [hi]
  · rw [Nat.testBit_lt_two_pow (Nat.lt_of_lt_of_le he' (Nat.pow_le_pow_right (by decide) (by omega))), Nat.testBit_lt_two_pow (Nat.lt_of_lt_of_le hg' (Nat.pow_le_pow_right (by decide) (by omega)))]
    simp
theorem maj_eq {a b c : Int} (ha : 0 ≤ a ∧ a < 2 ^ 32) (hb : 0 ≤ b ∧ b < 2 ^ 32) (hc : 0 ≤ c ∧ c < 2 ^ 32) : X5 (X5 (A5 a b) (A5 a c)) (A5 b c) = O5 (A5 a b) (A5 c (O5 a b)) := by
  obtain ⟨a, rfl⟩ := Int.eq_ofNat_of_zero_le ha.1
  obtain ⟨b, rfl⟩ := Int.eq_ofNat_of_zero_le hb.1
  obtain ⟨c, rfl⟩ := Int.eq_ofNat_of_zero_le hc.1
  have ha' : a < 2 ^ 32 := by omega
  have hb' : b < 2 ^ 32 := by omega
  have hc' : c < 2 ^ 32 := by omega
  have hx : ∀ a b : Nat, a < 2 ^ 32 → b < 2 ^ 32 → a ^^^ b < 2 ^ 32 := fun a b => Nat.xor_lt_two_pow
  have hn : ∀ a b : Nat, b < 2 ^ 32 → a &&& b < 2 ^ 32 := fun a b h => Nat.and_lt_two_pow a h
  have ho : ∀ a b : Nat, a < 2 ^ 32 → b < 2 ^ 32 → a ||| b < 2 ^ 32 := fun a b => Nat.or_lt_two_pow
  simp only [X5, A5, O5]
  rw [u32_and_nat _ _ ha' hb', u32_and_nat _ _ ha' hc', u32_and_nat _ _ hb' hc', u32_xor_nat _ _ (hn _ _ hb') (hn _ _ hc'), u32_xor_nat _ _ (hx _ _ (hn _ _ hb') (hn _ _ hc')) (hn _ _ hc'), u32_or_nat _ _ ha' hb', u32_and_nat _ _ hc' (ho _ _ ha' hb'), u32_or_nat _ _ (hn _ _ hb') (hn _ _ (ho _ _ ha' hb'))]
  congr 1
  apply Nat.eq_of_testBit_eq
  intro i
  simp only [Nat.testBit_xor, Nat.testBit_and, Nat.testBit_or]
  cases a.testBit i <;> cases b.testBit i <;> cases c.testBit i <;> rfl
theorem rnd5r_eq {r : List Int} (h : inB 32 r) (k w : Int) : rnd5r r k w = rnd5 r k w := by
  simp only [rnd5r, rnd5]
  rw [ch_eq (inB_getD h 4) (inB_getD h 5) (inB_getD h 6), maj_eq (inB_getD h 0) (inB_getD h 1) (inB_getD h 2)]
theorem rnd5_in {r : List Int} (h : inB 32 r) (k w : Int) : inB 32 (rnd5 r k w) := by
  intro x hx
  simp only [rnd5, List.mem_cons, List.not_mem_nil, or_false] at hx
  rcases hx with rfl | rfl | rfl | rfl | rfl | rfl | rfl | rfl
  all_goals first | exact wrap32_in _ | exact inB_getD h _
theorem rnds5_in {s : List Int} (h : inB 32 s) (W : List Int) : ∀ t, inB 32 (rnds5 s W t)
  | 0 => h
  | t + 1 => rnd5_in (rnds5_in h W t) _ _
theorem rnds5r_eq {s : List Int} (h : inB 32 s) (W : List Int) : ∀ t, rnds5r s W t = rnds5 s W t
  | 0 => rfl
  | t + 1 => by rw [rnds5r, rnds5r_eq h W t, rnd5r_eq (rnds5_in h W t)]; rfl
theorem blk5r_eq {s b : List Int} (h : inB 32 s) : sm5 (rnds5r s (sched5 b 64) 64) s 8 = blk5 s b := by
  rw [sm5_all, blk5, rnds5r_eq h]
  apply List.map_congr_left
  intro i _
  simp only [P5]
  rw [Int.add_comm]

theorem drawnJ {w : World} {s W : List Int} {wr : World} {n : Nat} (h : BJ w s W wr) : BJ w s W (wr.drewN n) :=
  ⟨h.bs, h.bo, h.bw, h.below.trans ⟨rfl, rfl, rfl, Nat.le_refl _, fun _ _ => rfl⟩, h.size⟩
set_option maxRecDepth 100000 in
set_option maxHeartbeats 8000000 in
theorem block_ok (s : List Int) (hs : s.length = 8) (hsB : inB 32 s) (A0 : Option Addr) (c0 : Nat) (b : List Int) (w : World) (hr : Kd.C (Kd.int .u8) w A0 b.length b) (hc : b.length ≤ c0) (hb : b.length = 64) (hbB : inB 8 b) :
    Calls Try.prog 66 #[.agg (nums .u32 s).toArray, .slice A0 b.length c0] w fun e w' => e = .returned (.tuple #[.agg (nums .u32 (blk5 s b)).toArray, .bool true]) ∧ Below w.heap.size w w' := by
  have hrb := hr
  rw [hb] at hr hc ⊢
  go_enter Try.func66, Try.ntmps66
  go_wp2_with fail
  obtain ⟨W0, hW0⟩ : ∃ W0, W0 = (((w.alloc (.cells (nums .u32 s).toArray 89)).alloc (.cells #[.int .u32 0, .int .u32 0, .int .u32 0, .int .u32 0, .int .u32 0, .int .u32 0, .int .u32 0, .int .u32 0] 89)).alloc (.cells #[.int .u32 0, .int .u32 0, .int .u32 0, .int .u32 0, .int .u32 0, .int .u32 0, .int .u32 0, .int .u32 0, .int .u32 0, .int .u32 0, .int .u32 0, .int .u32 0, .int .u32 0, .int .u32 0, .int .u32 0, .int .u32 0, .int .u32 0, .int .u32 0, .int .u32 0, .int .u32 0, .int .u32 0, .int .u32 0, .int .u32 0, .int .u32 0, .int .u32 0, .int .u32 0, .int .u32 0, .int .u32 0, .int .u32 0, .int .u32 0, .int .u32 0, .int .u32 0, .int .u32 0, .int .u32 0, .int .u32 0, .int .u32 0, .int .u32 0, .int .u32 0, .int .u32 0, .int .u32 0, .int .u32 0, .int .u32 0, .int .u32 0, .int .u32 0, .int .u32 0, .int .u32 0, .int .u32 0, .int .u32 0, .int .u32 0, .int .u32 0, .int .u32 0, .int .u32 0, .int .u32 0, .int .u32 0, .int .u32 0, .int .u32 0, .int .u32 0, .int .u32 0, .int .u32 0, .int .u32 0, .int .u32 0, .int .u32 0, .int .u32 0, .int .u32 0] 105)) := ⟨_, rfl⟩
  have b0 : W0.heap[w.heap.size]? = some (.cells (nums .u32 s).toArray 89 (0, 0)) := by
    rw [hW0]; simp only [heap_at, World.size_alloc]; rw [if_neg (by omega), if_neg (by omega), if_pos (by trivial)]
  have b1 : W0.heap[w.heap.size + 1]? = some (.cells (nums .u32 [0, 0, 0, 0, 0, 0, 0, 0]).toArray 89 (0, 0)) := by
    rw [hW0]; simp only [heap_at, World.size_alloc]; rw [if_neg (by omega), if_pos (by trivial)]; rfl
  have b2 : W0.heap[w.heap.size + 2]? = some (.cells (nums .u32 (sw5 b 0)).toArray 105 (0, 0)) := by
    rw [hW0]; simp only [heap_at, World.size_alloc]; rw [if_pos (by trivial)]; kernel_rfl
  have hb0 : Below w.heap.size w W0 := by
    rw [hW0]; exact (((Below.refl _ w).alloc (Nat.le_refl _) _).alloc (by simp) _).alloc (by simp; omega) _
  have hz0 : w.heap.size + 3 ≤ W0.heap.size := by rw [hW0]; simp
  have H0 : Hid (BJ w s (sw5 b 0) W0) := ⟨b0, b1, b2, hb0, hz0⟩
  rw [← hW0]
  clear hW0 b0 b1 b2 hb0 hz0
  go_loopw [25] (fun i wr => ∃ k : Nat, k ≤ 64 ∧ i = .int .i64 k ∧ Hid (BJ w s (sw5 b k) wr)) (fun i _ => 64 - (intOf i).toNat)
  case atStart => exact ⟨0, by omega, rfl, H0⟩
  case round =>
    obtain ⟨k, hk, rfl, hI⟩ := hrel
    by_cases hlt : k < 64
    ·
      --DEV<
      by_cases h16 : k < 16
      · obtain ⟨ad, rfl, _⟩ := (Kd.reads_of_C (d := (0 : Int)) hr).2.2 (by omega)
        have HC : ∀ W, Below w.heap.size w W → ∀ j, j < 4 → W.cell? (ad.add (4 * k + j)) = some (.int .u8 (b.getD (4 * k + j) 0)) := by
          intro W hW j hj
          obtain ⟨ad', e, hc'⟩ := (Kd.reads_of_C (d := (0 : Int)) (C_same hrb (fun i hi => hW.block i hi))).2.2 (by omega)
          cases e
          exact hc' (4 * k + j) (by omega)
        obtain ⟨e0, he0⟩ : ∃ e, e = b.getD (4 * k) 0 := ⟨_, rfl⟩
        obtain ⟨e1, he1⟩ : ∃ e, e = b.getD (4 * k + 1) 0 := ⟨_, rfl⟩
        obtain ⟨e2, he2⟩ : ∃ e, e = b.getD (4 * k + 2) 0 := ⟨_, rfl⟩
        obtain ⟨e3, he3⟩ : ∃ e, e = b.getD (4 * k + 3) 0 := ⟨_, rfl⟩
        have q0 : wr.cell? (ad.add (4 * k)) = some (.int .u8 e0) := by rw [he0]; exact HC wr hI.out.below 0 (by omega)
        have q1 : wr.cell? ⟨ad.block, ad.off + (4 * k + 1), none⟩ = some (.int .u8 e1) := by rw [he1, ← add_pos ad (4 * k + 1) (by omega)]; exact HC wr hI.out.below 1 (by omega)
        have q2 : wr.cell? ⟨ad.block, ad.off + (4 * k + 2), none⟩ = some (.int .u8 e2) := by rw [he2, ← add_pos ad (4 * k + 2) (by omega)]; exact HC wr hI.out.below 2 (by omega)
        have q3 : wr.cell? ⟨ad.block, ad.off + (4 * k + 3), none⟩ = some (.int .u8 e3) := by rw [he3, ← add_pos ad (4 * k + 3) (by omega)]; exact HC wr hI.out.below 3 (by omega)
        have HE : Hid (ld5 0 ((b.drop (4 * k)).take 4) = ld5 0 [e0, e1, e2, e3]) := by
          show ld5 0 _ = _
          rw [he0, he1, he2, he3, four_of b k (by omega)]
        have hB0 : 0 ≤ e0 ∧ e0 ≤ 255 := by rw [he0]; have := inB_getD hbB (4 * k); omega
        have hB1 : 0 ≤ e1 ∧ e1 ≤ 255 := by rw [he1]; have := inB_getD hbB (4 * k + 1); omega
        have hB2 : 0 ≤ e2 ∧ e2 ≤ 255 := by rw [he2]; have := inB_getD hbB (4 * k + 2); omega
        have hB3 : 0 ≤ e3 ∧ e3 ≤ 255 := by rw [he3]; have := inB_getD hbB (4 * k + 3); omega
        obtain ⟨l0, m0⟩ := hB0
        obtain ⟨l1, m1⟩ := hB1
        obtain ⟨l2, m2⟩ := hB2
        obtain ⟨l3, m3⟩ := hB3
        have hput := Lib.hid (BJ.put hI.out k)
        have hcw : wr.cell? ⟨w.heap.size + 1 + 1, k, none⟩ = some (.int .u32 ((sw5 b k).getD k 0)) := by
          rw [show w.heap.size + 1 + 1 = w.heap.size + 2 from rfl, blk_cell hI.out.bw k]
          exact nums_at (by rw [sw5_length b k hk]; exact hlt)
        have hfw : wr.frozen? ⟨w.heap.size + 1 + 1, k, none⟩ = false := blk_frozen hI.out.bw k
        have HLT := Lib.hid hlt
        have H16 := Lib.hid h16
        have k64 : (k : Int) < 64 := by omega
        have k16 : (k : Int) < 16 := by omega
        have k0' : (0 : Int) ≤ (k : Int) := by omega
        have a0 : (0 : Int) ≤ 4 * (k : Int) := by omega
        have a1 : (0 : Int) ≤ 4 * (k : Int) + 1 := by omega
        have a2 : (0 : Int) ≤ 4 * (k : Int) + 2 := by omega
        have a3 : (0 : Int) ≤ 4 * (k : Int) + 3 := by omega
        have c0_ : 4 * (k : Int) < 64 := by omega
        have c1_ : 4 * (k : Int) + 1 < 64 := by omega
        have c2_ : 4 * (k : Int) + 2 < 64 := by omega
        have c3_ : 4 * (k : Int) + 3 < 64 := by omega
        have t0 : (4 * (k : Int)).toNat = 4 * k := by omega
        have t1 : (4 * (k : Int) + 1).toNat = 4 * k + 1 := by omega
        have t2 : (4 * (k : Int) + 2).toNat = 4 * k + 2 := by omega
        have t3 : (4 * (k : Int) + 3).toNat = 4 * k + 3 := by omega
        clear he0 he1 he2 he3 hI HC
        go_wp2_with fail
        have w0 : IntKind.i64.wrap (4 * (k : Int)) = 4 * (k : Int) := IntWalk.i64_in _ ⟨by omega, by omega⟩
        have w1 : IntKind.i64.wrap (4 * (k : Int) + 1) = 4 * (k : Int) + 1 := IntWalk.i64_in _ ⟨by omega, by omega⟩
        have w2 : IntKind.i64.wrap (4 * (k : Int) + 2) = 4 * (k : Int) + 2 := IntWalk.i64_in _ ⟨by omega, by omega⟩
        have w3 : IntKind.i64.wrap (4 * (k : Int) + 3) = 4 * (k : Int) + 3 := IntWalk.i64_in _ ⟨by omega, by omega⟩
        go_still_tail 35, (by kernel_rfl)
        clear w0 w1 w2 w3
        go_wp2_with fail
        go_roundw
        case rel =>
          refine ⟨k + 1, by have := HLT.out; omega, by go_num, ?_⟩
          rw [← sj5_four b k H16.out _ ((ld5_four l0 m0 l1 m1 l2 m2 l3 m3).trans HE.out.symm)]
          exact BJ.draw (hput.out _)
        case measure => have := HLT.out; simp [intOf]; omega
      · have l1 := hI.out.bw
        obtain ⟨L, hL⟩ : ∃ L, L = sw5 b k := ⟨_, rfl⟩
        rw [← hL] at l1
        have q1 : ∀ i, wr.cell? ⟨w.heap.size + 1 + 1, i, none⟩ = (nums .u32 L).toArray[i]? := fun i => blk_cell l1 i
        have hLl : L.length = 64 := by rw [hL]; exact sw5_length b k hk
        have q2 : ∀ i, i < 64 → wr.cell? ⟨w.heap.size + 1 + 1, i, none⟩ = some (.int .u32 (L.getD i 0)) := fun i hi => by
          rw [q1, List.getElem?_toArray, nums, List.getElem?_map, List.getElem?_eq_getElem (by omega), List.getD_eq_getElem?_getD, List.getElem?_eq_getElem (by omega)]; rfl
        have c15 := q2 (k - 15) (by omega)
        have c2 := q2 (k - 2) (by omega)
        have c16 := q2 (k - 16) (by omega)
        have c7 := q2 (k - 7) (by omega)
        have hk0 : (16 : Int) ≤ (k : Int) := by omega
        have ck := q2 k (by omega)
        have fk : wr.frozen? ⟨w.heap.size + 1 + 1, k, none⟩ = false := blk_frozen l1 k
        have HL := Lib.hid hL
        have HQ := Lib.hid q2
        clear q1 q2 l1 hL
        go_wp2_with fail
        go_quiet (fail)
        go_wp2_with fail
        have HN : Hid (k - 16 ≠ k ∧ k - 7 ≠ k ∧ k - 16 < 64 ∧ k - 7 < 64) := ⟨by omega, by omega, by omega, by omega⟩
        have k64 : (k : Int) < 64 := by omega
        have k0' : (0 : Int) ≤ (k : Int) := by omega
        have s16b : ((k - 16 : Nat) : Int) < 64 := by omega
        have s7b : ((k - 7 : Nat) : Int) < 64 := by omega
        have s16 : IntKind.i64.wrap ((k : Int) - 16) = ((k - 16 : Nat) : Int) := by rw [IntWalk.i64_in _ ⟨by omega, by omega⟩]; omega
        have s7 : IntKind.i64.wrap ((k : Int) - 7) = ((k - 7 : Nat) : Int) := by rw [IntWalk.i64_in _ ⟨by omega, by omega⟩]; omega
        go_region_held3 (fun w' => w'.cell? ⟨w.heap.size + 1 + 1, k - 16, none⟩ = some (.int .u32 (L.getD (k - 16) 0)) ∧ w'.cell? ⟨w.heap.size + 1 + 1, k - 7, none⟩ = some (.int .u32 (L.getD (k - 7) 0)))
          (first | exact ⟨cell_far (W := wr.drewN _) (HQ.out (k - 16) HN.out.2.2.1) HN.out.1, cell_far (W := wr.drewN _) (HQ.out (k - 7) HN.out.2.2.2) HN.out.2.1⟩ | go_keep)
          ((first | (go_at_call 79; with_reducible refine (turn7 _ _).mono ?_; rintro _ _ ⟨rfl, rfl⟩) | (go_at_call 79; with_reducible refine (turn18 _ _).mono ?_; rintro _ _ ⟨rfl, rfl⟩) | (go_at_call 79; with_reducible refine (turn17 _ _).mono ?_; rintro _ _ ⟨rfl, rfl⟩) | (go_at_call 79; with_reducible refine (turn19 _ _).mono ?_; rintro _ _ ⟨rfl, rfl⟩)))
        go_wp2_with fail
        go_roundw
        case rel =>
          refine ⟨k + 1, by omega, by go_num, ?_⟩
          rw [← sw5_step b k h16 hlt]
          have hput := fun n => BJ.put (wr := wr.drewN n) (drawnJ hI.out)
          obtain rfl := HL.out
          exact hput _ k (sch5 (sw5 b k) k)
        case measure => simp [intOf]; omega
      --DEV>
    · obtain rfl : k = 64 := by omega
      have HB := hI.out
      have h1c : (nums .u32 s).toArray.all (·.oneCell') = true := by simp [nums]; intro _ _; rfl
      rw [show ((64 : Nat) : Int) = (64 : Int) from rfl]
      have H3 : Hid (BG w wr.heap.size s (sched5 b 64) s ((wr.alloc (.cells #[.int .u32 0, .int .u32 0, .int .u32 0, .int .u32 0, .int .u32 0, .int .u32 0, .int .u32 0, .int .u32 0] 89)).setRow wr.heap.size (nums .u32 s).toArray)) := by
        have e64 : sw5 b 64 = sched5 b 64 := by simp [sw5]
        rw [← e64]
        exact B5.BG.start HB
      have hs8 : (nums .u32 s).toArray.size = 8 := by simp [nums, hs]
      have hkz : (Try.prog.info? 89).map (·.size) = some (nums .u32 s).toArray.size := by rw [hs8]; kernel_rfl
      have hoz : (#[.int .u32 0, .int .u32 0, .int .u32 0, .int .u32 0, .int .u32 0, .int .u32 0, .int .u32 0, .int .u32 0] : Array Value).size = (nums .u32 s).toArray.size := by rw [hs8]; rfl
      go_wp2_with (first | (with_reducible refine wpList_load_row rfl 89 (.tmp 2) rfl w.heap.size (by simp [Act.eval, Act.put]) 89 (nums .u32 s).toArray (0, 0) _ HB.bs Try.underlying89 rfl hkz ?_) | (with_reducible refine wpList_store_row rfl 89 (.tmp 10) (.tmp 103) rfl wr.heap.size (nums .u32 s).toArray (by simp [Act.eval, Act.put]) (by simp [Act.eval, Act.put]) 89 #[.int .u32 0, .int .u32 0, .int .u32 0, .int .u32 0, .int .u32 0, .int .u32 0, .int .u32 0, .int .u32 0] (by rw [heap_at, if_pos rfl]) hkz hoz h1c ?_))
      obtain ⟨W3, hW3⟩ : ∃ W3, W3 = (wr.alloc (.cells #[.int .u32 0, .int .u32 0, .int .u32 0, .int .u32 0, .int .u32 0, .int .u32 0, .int .u32 0, .int .u32 0] 89)).setRow wr.heap.size (nums .u32 s).toArray := ⟨_, rfl⟩
      obtain ⟨g, hg⟩ : ∃ g, g = wr.heap.size := ⟨_, rfl⟩
      rw [← hW3] at H3 ⊢
      rw [← hg] at H3 ⊢
      clear hW3 hg HB hI h1c hs8 hkz hoz hk hlt
      go_loopw [11] (fun i w5 => ∃ t : Nat, t ≤ 64 ∧ i = .int .i64 t ∧ Hid (BG w g s (sched5 b 64) (rnds5r s (sched5 b 64) t) w5)) (fun i _ => 64 - (intOf i).toNat)
      case atStart => exact ⟨0, by omega, rfl, H3⟩
      case round =>
        obtain ⟨t, ht, rfl, hR⟩ := hrel
        by_cases ht8 : t < 64
        ·
          --DEV<
          obtain ⟨r, hr'⟩ : ∃ r, r = rnds5r s (sched5 b 64) t := ⟨_, rfl⟩
          rw [← hr'] at hR
          have hrl : r.length = 8 := by rw [hr']; exact rnds5r_length _ hs t
          obtain ⟨V, hV⟩ : ∃ V, V = sched5 b 64 := ⟨_, rfl⟩
          rw [← hV] at hR hr'
          have hVl : V.length = 64 := by rw [hV]; exact sched5_length b 64
          obtain ⟨x0, hx0⟩ : ∃ x, x = r.getD 0 0 := ⟨_, rfl⟩
          obtain ⟨x1, hx1⟩ : ∃ x, x = r.getD 1 0 := ⟨_, rfl⟩
          obtain ⟨x2, hx2⟩ : ∃ x, x = r.getD 2 0 := ⟨_, rfl⟩
          obtain ⟨x3, hx3⟩ : ∃ x, x = r.getD 3 0 := ⟨_, rfl⟩
          obtain ⟨x4, hx4⟩ : ∃ x, x = r.getD 4 0 := ⟨_, rfl⟩
          obtain ⟨x5, hx5⟩ : ∃ x, x = r.getD 5 0 := ⟨_, rfl⟩
          obtain ⟨x6, hx6⟩ : ∃ x, x = r.getD 6 0 := ⟨_, rfl⟩
          obtain ⟨x7, hx7⟩ : ∃ x, x = r.getD 7 0 := ⟨_, rfl⟩
          obtain ⟨y, hy⟩ : ∃ y, y = V.getD t 0 := ⟨_, rfl⟩
          obtain ⟨kk, hkk⟩ : ∃ x, x = K5.getD t 0 := ⟨_, rfl⟩
          have hkc : Hid (∀ w, Calls Try.prog 80 #[.int .i64 (t : Int)] w fun e w' => e = .returned (.int .u32 kk) ∧ Below w.heap.size w w') := by rw [hkk]; exact k_any t ht8
          have hre : r = [x0, x1, x2, x3, x4, x5, x6, x7] := by
            rw [hx0, hx1, hx2, hx3, hx4, hx5, hx6, hx7]
            match r, hrl with
            | [_, _, _, _, _, _, _, _], _ => rfl
          have HR8 : Hid (BG w g s V [x0, x1, x2, x3, x4, x5, x6, x7] wr) := B5.BG.at8 hR.out hre
          have c0' : wr.cell? ⟨g, 0, none⟩ = some (.int .u32 x0) := (blk_cell HR8.out.br 0).trans rfl
          have c1' : wr.cell? ⟨g, 1, none⟩ = some (.int .u32 x1) := (blk_cell HR8.out.br 1).trans rfl
          have c2' : wr.cell? ⟨g, 2, none⟩ = some (.int .u32 x2) := (blk_cell HR8.out.br 2).trans rfl
          have c4' : wr.cell? ⟨g, 4, none⟩ = some (.int .u32 x4) := (blk_cell HR8.out.br 4).trans rfl
          have c5' : wr.cell? ⟨g, 5, none⟩ = some (.int .u32 x5) := (blk_cell HR8.out.br 5).trans rfl
          have c6' : wr.cell? ⟨g, 6, none⟩ = some (.int .u32 x6) := (blk_cell HR8.out.br 6).trans rfl
          have HKP : Hid (∀ W, BG w g s V [x0, x1, x2, x3, x4, x5, x6, x7] W → W.cell? ⟨g, 7, none⟩ = some (.int .u32 x7) ∧ W.cell? ⟨w.heap.size + 1 + 1, t, none⟩ = some (.int .u32 y)) := fun W hW =>
            ⟨(blk_cell hW.br 7).trans rfl, (blk_cell hW.bw t).trans ((nums_at (by rw [hVl]; exact ht8)).trans (by rw [hy]))⟩
          have HRE := Lib.hid hre
          have HY := Lib.hid hy
          have HK := Lib.hid hkk
          have t64 : (t : Int) < 64 := by omega
          have t0' : (0 : Int) ≤ (t : Int) := by omega
          have HR' := Lib.hid hr'
          have HV := Lib.hid hV
          clear hr' hV hVl hx0 hx1 hx2 hx3 hx4 hx5 hx6 hx7 hy hkk hrl hre hR
          go_wp2_with fail
          go_quiet (fail)
          go_wp2_with fail
          go_region_held3 (fun W => W.cell? ⟨g, 7, none⟩ = some (.int .u32 x7) ∧ W.cell? ⟨w.heap.size + 1 + 1, t, none⟩ = some (.int .u32 y))
            (first | exact HKP.out _ (B5.BG.later (B5.BG.draw (B5.BG.drawn HR8.out)) hbk) | exact HKP.out _ (B5.BG.draw (B5.BG.drawn HR8.out)) | go_keep)
            ((first | (go_at_call 79; with_reducible refine (turn6 _ _).mono ?_; rintro _ _ ⟨rfl, rfl⟩) | (go_at_call 79; with_reducible refine (turn11 _ _).mono ?_; rintro _ _ ⟨rfl, rfl⟩) | (go_at_call 79; with_reducible refine (turn25 _ _).mono ?_; rintro _ _ ⟨rfl, rfl⟩) | (go_at_call 80; with_reducible refine (hkc.out _).mono ?_; rintro _ wk ⟨rfl, hbk⟩)))
          have HW : Hid (BG w g s V [x0, x1, x2, x3, x4, x5, x6, x7] wk) := B5.BG.later (B5.BG.draw (B5.BG.drawn HR8.out)) hbk
          have c3' : wk.cell? ⟨g, 3, none⟩ = some (.int .u32 x3) := (blk_cell HW.out.br 3).trans rfl
          clear hbk
          obtain ⟨R5', hR5⟩ : ∃ l, l = rnd5r [x0, x1, x2, x3, x4, x5, x6, x7] kk y := ⟨_, rfl⟩
          have hR5l : R5'.length = 8 := by rw [hR5]; rfl
          have hsz8 : (nums .u32 R5').toArray.size = 8 := by simp [nums, hR5l]
          have hkz8 : (Try.prog.info? 89).map (·.size) = some (nums .u32 R5').toArray.size := by rw [hsz8]; kernel_rfl
          have hos8 : (nums .u32 [x0, x1, x2, x3, x4, x5, x6, x7]).toArray.size = (nums .u32 R5').toArray.size := by rw [hsz8]; rfl
          have h1c8 : (nums .u32 R5').toArray.all (·.oneCell') = true := by simp [nums]; intro _ _; rfl
          have Hsz8 := Lib.hid hkz8
          have Hos8 := Lib.hid hos8
          have H1c8 := Lib.hid h1c8
          have HR5 := Lib.hid hR5
          clear hkz8 hos8 h1c8 hsz8 hR5l hR5
          go_wp2_with (first
            | (go_at_call 79; with_reducible refine (turn2 _ _).mono ?_; rintro _ _ ⟨rfl, rfl⟩) | (go_at_call 79; with_reducible refine (turn13 _ _).mono ?_; rintro _ _ ⟨rfl, rfl⟩) | (go_at_call 79; with_reducible refine (turn22 _ _).mono ?_; rintro _ _ ⟨rfl, rfl⟩)
            | (with_reducible refine wpList_build rfl 89 _ rfl (by kernel_rfl) ?_; generalize hg : (Program.built _ _ _).getD #[] = cs; (obtain rfl : cs = (nums .u32 R5').toArray := by (rw [← hg, HR5.out]; kernel_rfl)); clear hg)
            | (with_reducible refine wpList_store_row rfl 89 (.tmp 10) (.tmp 180) rfl g (nums .u32 R5').toArray (by simp [Act.eval, Act.put]) (by simp [Act.eval, Act.put]) 89 _ HW.out.br Hsz8.out Hos8.out H1c8.out ?_))
          go_roundw
          case rel =>
            refine ⟨t + 1, by omega, by go_num, ?_⟩
            have e : rnds5r s (sched5 b 64) (t + 1) = R5' := by
              rw [HR5.out, ← HV.out, show rnds5r s V (t + 1) = rnd5r (rnds5r s V t) (K5.getD t 0) (V.getD t 0) from rfl, ← HR'.out, HRE.out, ← HK.out, ← HY.out]
            rw [e, ← HV.out]
            exact B5.BG.row HW.out _
          case measure => simp [intOf]; omega
          --DEV>
        · obtain rfl : t = 64 := by omega
          have HR := Lib.hid hR.out
          clear hR
          rw [show ((64 : Nat) : Int) = (64 : Int) from rfl]
          go_wp2_with fail
          go_loopw [181] (fun i w6 => ∃ t : Nat, t ≤ 8 ∧ i = .int .i64 t ∧ Hid (BG w g s (sched5 b 64) (sm5 (rnds5r s (sched5 b 64) 64) s t) w6)) (fun i _ => 8 - (intOf i).toNat)
          case atStart => exact ⟨0, by omega, rfl, by rw [sm5_zero _ _ (rnds5r_length _ hs 64)]; exact HR.out⟩
          case round =>
            obtain ⟨t, ht, rfl, hR⟩ := hrel
            obtain ⟨r, hr'⟩ : ∃ r, r = rnds5r s (sched5 b 64) 64 := ⟨_, rfl⟩
            have hrl : r.length = 8 := by rw [hr']; exact rnds5r_length _ hs 64
            rw [← hr'] at hR
            by_cases ht8 : t < 8
            · have hsl := sm5_length r s t
              have cs : wr.cell? ⟨w.heap.size, t, none⟩ = some (.int .u32 (s.getD t 0)) := by
                rw [blk_cell hR.out.bs t]; exact nums_at (by omega)
              have cr : wr.cell? ⟨g, t, none⟩ = some (.int .u32 ((sm5 r s t).getD t 0)) := by
                rw [blk_cell hR.out.br t]; exact nums_at (by omega)
              have fs : wr.frozen? ⟨g, t, none⟩ = false := blk_frozen hR.out.br t
              obtain ⟨a, ha⟩ : ∃ a, a = (sm5 r s t).getD t 0 := ⟨_, rfl⟩
              obtain ⟨c, hc'⟩ : ∃ c, c = s.getD t 0 := ⟨_, rfl⟩
              rw [← hc'] at cs
              rw [← ha] at cr
              have HA := Lib.hid ha
              have HC' := Lib.hid hc'
              have HR2 := Lib.hid hr'
              have t80 : (t : Int) < 8 := by omega
              have t0' : (0 : Int) ≤ (t : Int) := by omega
              clear ha hc' hr' hrl hsl
              go_wp2_with fail
              go_still_tail 8, (by kernel_rfl)
              go_wp2_with fail
              go_roundw
              case rel =>
                refine ⟨t + 1, by omega, by go_num, ?_⟩
                rw [P5m, ← HR2.out, ← sm5_step r s t ht8, ← HA.out, ← HC'.out]
                exact B5.BG.draw (B5.BG.put hR.out t _)
              case measure => simp [intOf]; omega
            · obtain rfl : t = 8 := by omega
              have HS := hR.out
              have hsm : (sm5 r s 8).length = 8 := sm5_length r s 8
              have h1c : (nums .u32 (sm5 r s 8)).toArray.all (·.oneCell') = true := by simp [nums]; intro _ _; rfl
              have hsz8 : (nums .u32 (sm5 r s 8)).toArray.size = 8 := by simp [nums, hsm]
              have hosz : (nums .u32 [0, 0, 0, 0, 0, 0, 0, 0]).toArray.size = (nums .u32 (sm5 r s 8)).toArray.size := by rw [hsz8]; rfl
              have hkz : (Try.prog.info? 89).map (·.size) = some (nums .u32 (sm5 r s 8)).toArray.size := by rw [hsz8]; kernel_rfl
              have HR2 := Lib.hid hr'
              clear hr'
              go_wp2_with (first | (with_reducible refine wpList_load_row rfl 89 (.tmp 10) rfl g (by simp [Act.eval, Act.put]) 89 (nums .u32 (sm5 r s 8)).toArray (0, 0) _ HS.br Try.underlying89 rfl hkz ?_) | (with_reducible refine wpList_store_row rfl 89 (.tmp 4) (.tmp 193) rfl (w.heap.size + 1) (nums .u32 (sm5 r s 8)).toArray (by simp [Act.eval, Act.put]) (by simp [Act.eval, Act.put]) 89 _ HS.bo hkz hosz h1c ?_))
              have hfin : ((wr.setRow (w.heap.size + 1) (nums .u32 (sm5 r s 8)).toArray)).heap[w.heap.size + 1]? = some (.cells (nums .u32 (sm5 r s 8)).toArray 89 (0, 0)) := setRow_heap _ _ _ _ _ _ HS.bo
              refine bodyPost_ret (results_cell_row2 (p := 4) (q := 5) (ty := 89) (by kernel_rfl) _ _ (w.heap.size + 1) 89 _ (0, 0) _ rfl hfin Try.underlying89 rfl hkz) rfl ⟨?_, below_setRow' HS.below (by omega) _⟩
              show _ = Ending.returned (.tuple #[.agg _, .bool true])
              rw [← blk5r_eq hsB, HR2.out]
              rfl
end Go.Proofs.Ytincnnmojgphmaa.H.R11
