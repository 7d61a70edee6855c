/- Functions of the program, each with its contract over this translation: written by a program of this work over the kit's print. -/
import Derived.Test.YtincnnmojgphmaaPPx0
import Derived.Test.YtincnnmojgphmaaPPx1
namespace Go.Proofs.Ytincnnmojgphmaa.PP
open Go.RowKit Go.Proofs.Ytincnnmojgphmaa.H Go.Proofs.Ytincnnmojgphmaa.PT Go.Proofs.YtincnnmojgphmaaW.PrintWords Go.Proofs.YtincnnmojgphmaaW.PrintLast Go.Proofs.YtincnnmojgphmaaW.PrintMore
attribute [local go_sem] max2_int min2_int max_two min_two max_three min_three max_four min_four   -- for this text's walks alone
set_option linter.unusedVariables false
set_option linter.unusedSimpArgs false

/-! ### pss_Verify: function 16 -/
mutual
def pss_Verify.j0 : Nat → Int → List Int → List Int → Int → Int → Int → Bool → Option (Bool)
 | 0, _, _, _, _, _, _, _ => none
 | k + 1, x0, x1, x2, x3, x4, x11, x36 => if x36 = true then (some false) else (if (wrap64 ((wrap64 ((wrap64 ((wrap64 (Int.tdiv (wrap64 (x3 + 7)) 8)) - x11)) - 2)) - x4)) < 0 then (pss_Verify.j1 k x0 x1 x2 x3 x11 (wrap64 (Int.tdiv (wrap64 (x3 + 7)) 8)) (wrap64 ((wrap64 ((wrap64 ((wrap64 (Int.tdiv (wrap64 (x3 + 7)) 8)) - x11)) - 2)) - x4)) true) else (if (x2.length : Int) = (wrap64 (Int.tdiv (wrap64 (x3 + 7)) 8)) then (if 0 ≤ (wrap64 ((wrap64 (Int.tdiv (wrap64 (x3 + 7)) 8)) - 1)) then (if (wrap64 ((wrap64 (Int.tdiv (wrap64 (x3 + 7)) 8)) - 1)) < (x2.length : Int) then (pss_Verify.j1 k x0 x1 x2 x3 x11 (wrap64 (Int.tdiv (wrap64 (x3 + 7)) 8)) (wrap64 ((wrap64 ((wrap64 ((wrap64 (Int.tdiv (wrap64 (x3 + 7)) 8)) - x11)) - 2)) - x4)) ((rd x2 (wrap64 ((wrap64 (Int.tdiv (wrap64 (x3 + 7)) 8)) - 1))) != 188)) else (none)) else (none)) else (pss_Verify.j1 k x0 x1 x2 x3 x11 (wrap64 (Int.tdiv (wrap64 (x3 + 7)) 8)) (wrap64 ((wrap64 ((wrap64 ((wrap64 (Int.tdiv (wrap64 (x3 + 7)) 8)) - x11)) - 2)) - x4)) true)))
def pss_Verify.j1 : Nat → Int → List Int → List Int → Int → Int → Int → Int → Bool → Option (Bool)
 | 0, _, _, _, _, _, _, _, _ => none
 | k + 1, x0, x1, x2, x3, x11, x12, x13, x61 => if x61 = true then (some false) else (if 0 ≤ (wrap64 ((wrap64 (x12 - 1)) - x11)) then (if (wrap64 ((wrap64 (x12 - 1)) - x11)) ≤ (wrap64 (x12 - 1)) then (if (wrap64 (x12 - 1)) ≤ (x2.length : Int) then (if 0 < (x2.length : Int) then (if 0 ≤ (wrap64 (8 - (wrap64 ((wrap64 (8 * x12)) - x3)))) then (if (shr .i64 (wrap64 (rd x2 0)) (wrap64 (8 - (wrap64 ((wrap64 (8 * x12)) - x3))))) > 0 then (some false) else (if (wrap64 ((wrap64 (x12 - 1)) - x11)) ≤ (x2.length : Int) then ((pss_masked.f k x0 (x2.take ((wrap64 ((wrap64 (x12 - 1)) - x11)) : Int).toNat) ((x2.take ((wrap64 (x12 - 1)) : Int).toNat).drop ((wrap64 ((wrap64 (x12 - 1)) - x11)) : Int).toNat) (wrap64 ((wrap64 (8 * x12)) - x3))).bind fun t152 => (if 0 ≤ x13 then (if x13 < (t152.length : Int) then (if (rd t152 x13) = 1 then (if x13 ≤ (t152.length : Int) then (if (x13 : Int).toNat ≤ 281474976710656 then ((bytes_Equal.f (t152.take (x13 : Int).toNat) (List.replicate (x13 : Int).toNat 0)).bind fun t163 => (pss_Verify.j2 k x0 x1 x13 ((x2.take ((wrap64 (x12 - 1)) : Int).toNat).drop ((wrap64 ((wrap64 (x12 - 1)) - x11)) : Int).toNat) t152 (!t163))) else (none)) else (none)) else (pss_Verify.j2 k x0 x1 x13 ((x2.take ((wrap64 (x12 - 1)) : Int).toNat).drop ((wrap64 ((wrap64 (x12 - 1)) - x11)) : Int).toNat) t152 true)) else (none)) else (none))) else (none))) else (none)) else (none)) else (none)) else (none)) else (none))
def pss_Verify.j2 : Nat → Int → List Int → Int → List Int → List Int → Bool → Option (Bool)
 | 0, _, _, _, _, _, _ => none
 | k + 1, x0, x1, x13, x15, x16, x105 => if x105 = true then (some false) else (if 0 ≤ (wrap64 (x13 + 1)) then (if (wrap64 (x13 + 1)) ≤ (x16.length : Int) then ((pss_digest.f x0 x1 (x16.drop ((wrap64 (x13 + 1)) : Int).toNat)).bind fun t168 => ((bytes_Equal.f t168 x15).bind fun t171 => (some t171))) else (none)) else (none))
end
def pss_Verify.f (k : Nat) (a0 : Int) (l1 : List Int) (l2 : List Int) (a3 : Int) (a4 : Int) : Option (Bool) := (hash_Size.f a0).bind fun t147 => (if t147 = 0 then (pss_Verify.j0 k a0 l1 l2 a3 a4 t147 true) else (if a3 < 1 then (pss_Verify.j0 k a0 l1 l2 a3 a4 t147 true) else (if a3 > 8192 then (pss_Verify.j0 k a0 l1 l2 a3 a4 t147 true) else (if a4 < 0 then (pss_Verify.j0 k a0 l1 l2 a3 a4 t147 true) else (pss_Verify.j0 k a0 l1 l2 a3 a4 t147 (decide (a4 > 1024)))))))
theorem pss_Verify.mono_l : ∀ k, (∀ y0 y1 y2 y3 y4 y5 y6, LeO (pss_Verify.j0 k y0 y1 y2 y3 y4 y5 y6) (pss_Verify.j0 (k + 1) y0 y1 y2 y3 y4 y5 y6)) ∧ (∀ y0 y1 y2 y3 y4 y5 y6 y7, LeO (pss_Verify.j1 k y0 y1 y2 y3 y4 y5 y6 y7) (pss_Verify.j1 (k + 1) y0 y1 y2 y3 y4 y5 y6 y7)) ∧ (∀ y0 y1 y2 y3 y4 y5, LeO (pss_Verify.j2 k y0 y1 y2 y3 y4 y5) (pss_Verify.j2 (k + 1) y0 y1 y2 y3 y4 y5))
 | 0 => ⟨fun _ _ _ _ _ _ _ r h => by simp [pss_Verify.j0] at h, fun _ _ _ _ _ _ _ _ r h => by simp [pss_Verify.j1] at h, fun _ _ _ _ _ _ r h => by simp [pss_Verify.j2] at h⟩
 | k + 1 => by
  obtain ⟨ih0, ih1, ih2⟩ := pss_Verify.mono_l k
  refine ⟨?_, ?_, ?_⟩
  ·intro y0 y1 y2 y3 y4 y5 y6
   unfold pss_Verify.j0
   repeat' first
   | (with_reducible exact ih0 _ _ _ _ _ _ _)
   | (with_reducible exact ih1 _ _ _ _ _ _ _ _)
   | (with_reducible exact ih2 _ _ _ _ _ _)
   | (with_reducible exact pss_masked.mono _ _ _ _ _)
   | (with_reducible exact LeO.refl _)
   | (with_reducible exact LeO.none _)
   | (with_reducible refine LeO.ite ?_ ?_)
   | (with_reducible refine LeO.bind ?_ (fun _ => ?_))
   | exact ih0 _ _ _ _ _ _ _
   | exact ih1 _ _ _ _ _ _ _ _
   | exact ih2 _ _ _ _ _ _
   | exact pss_masked.mono _ _ _ _ _
   | exact LeO.none _
   | refine LeO.ite ?_ ?_
   | refine LeO.bind ?_ (fun _ => ?_)
  ·intro y0 y1 y2 y3 y4 y5 y6 y7
   unfold pss_Verify.j1
   repeat' first
   | (with_reducible exact ih0 _ _ _ _ _ _ _)
   | (with_reducible exact ih1 _ _ _ _ _ _ _ _)
   | (with_reducible exact ih2 _ _ _ _ _ _)
   | (with_reducible exact pss_masked.mono _ _ _ _ _)
   | (with_reducible exact LeO.refl _)
   | (with_reducible exact LeO.none _)
   | (with_reducible refine LeO.ite ?_ ?_)
   | (with_reducible refine LeO.bind ?_ (fun _ => ?_))
   | exact ih0 _ _ _ _ _ _ _
   | exact ih1 _ _ _ _ _ _ _ _
   | exact ih2 _ _ _ _ _ _
   | exact pss_masked.mono _ _ _ _ _
   | exact LeO.none _
   | refine LeO.ite ?_ ?_
   | refine LeO.bind ?_ (fun _ => ?_)
  ·intro y0 y1 y2 y3 y4 y5
   unfold pss_Verify.j2
   repeat' first
   | (with_reducible exact ih0 _ _ _ _ _ _ _)
   | (with_reducible exact ih1 _ _ _ _ _ _ _ _)
   | (with_reducible exact ih2 _ _ _ _ _ _)
   | (with_reducible exact pss_masked.mono _ _ _ _ _)
   | (with_reducible exact LeO.refl _)
   | (with_reducible exact LeO.none _)
   | (with_reducible refine LeO.ite ?_ ?_)
   | (with_reducible refine LeO.bind ?_ (fun _ => ?_))
   | exact ih0 _ _ _ _ _ _ _
   | exact ih1 _ _ _ _ _ _ _ _
   | exact ih2 _ _ _ _ _ _
   | exact pss_masked.mono _ _ _ _ _
   | exact LeO.none _
   | refine LeO.ite ?_ ?_
   | refine LeO.bind ?_ (fun _ => ?_)
theorem pss_Verify.mono : ∀ a0 a1 a2 a3 a4 k, LeO (pss_Verify.f k a0 a1 a2 a3 a4) (pss_Verify.f (k + 1) a0 a1 a2 a3 a4) := by
 intro a0 a1 a2 a3 a4 k
 obtain ⟨ih0, ih1, ih2⟩ := pss_Verify.mono_l k
 unfold pss_Verify.f
 repeat' first
   | (with_reducible exact ih0 _ _ _ _ _ _ _)
   | (with_reducible exact ih1 _ _ _ _ _ _ _ _)
   | (with_reducible exact ih2 _ _ _ _ _ _)
   | (with_reducible exact pss_masked.mono _ _ _ _ _)
   | (with_reducible exact LeO.refl _)
   | (with_reducible exact LeO.none _)
   | (with_reducible refine LeO.ite ?_ ?_)
   | (with_reducible refine LeO.bind ?_ (fun _ => ?_))
   | exact ih0 _ _ _ _ _ _ _
   | exact ih1 _ _ _ _ _ _ _ _
   | exact ih2 _ _ _ _ _ _
   | exact pss_masked.mono _ _ _ _ _
   | exact LeO.none _
   | refine LeO.ite ?_ ?_
   | refine LeO.bind ?_ (fun _ => ?_)
def pss_Verify.T13 : Bool × List (List Nat × List Nat) := (true, [([], []), ([], []), ([0, 1], [0, 1]), ([2], [2]), ([3], [3]), ([4], [4]), ([5], [5]), ([5], [5]), ([6, 7, 5], [5, 6, 7]), ([5], [5]), ([9, 9, 5], [5, 9]), ([8, 10, 5, 5], [5, 8, 10]), ([11, 5], [5, 11]), ([5, 12], [5, 12])])
def pss_Verify.B13 : List Nat := [0, 0, 3, 7, 15, 31, 63, 63, 255, 63, 575, 2047, 4095, 8191]
theorem pss_Verify.tab13 : rtab .any (opsOf Try.f16 13) = pss_Verify.T13 := by kernel_rfl
theorem pss_Verify.bits13 : waitsOk pss_Verify.T13.2 pss_Verify.B13 = true := by kernel_rfl
set_option maxHeartbeats 8000000 in
set_option maxRecDepth 100000 in
theorem pss_Verify.calls (k : Nat) (a0 : Int) (A1 : Option Addr) (c1 : Nat) (l1 : List Int) (A2 : Option Addr) (c2 : Nat) (l2 : List Int) (a3 : Int) (a4 : Int) (r : Bool) (w : World) (hr1 : Kd.C (Kd.int .u8) w A1 l1.length l1) (hc1 : l1.length ≤ c1) (hr2 : Kd.C (Kd.int .u8) w A2 l2.length l2) (hc2 : l2.length ≤ c2) (h : pss_Verify.f k a0 l1 l2 a3 a4 = some r) :
  Calls Try.prog 16 #[.int .i64 a0, .slice A1 l1.length c1, .slice A2 l2.length c2, .int .i64 a3, .int .i64 a4] w fun e w' => e = .returned (.bool r) ∧ Below w.heap.size w w' := by
 have HR1 := Aside0.mk hr1
 have HC1 := Aside0.mk hc1
 clear hr1 hc1
 have HR2 := Aside0.mk hr2
 have HC2 := Aside0.mk hc2
 clear hr2 hc2
 have HB := Aside0.mk (Below.refl w.heap.size w)
 have H : ((hash_Size.f a0).bind fun t147 => (if t147 = 0 then (pss_Verify.j0 k a0 l1 l2 a3 a4 t147 true) else (if a3 < 1 then (pss_Verify.j0 k a0 l1 l2 a3 a4 t147 true) else (if a3 > 8192 then (pss_Verify.j0 k a0 l1 l2 a3 a4 t147 true) else (if a4 < 0 then (pss_Verify.j0 k a0 l1 l2 a3 a4 t147 true) else (pss_Verify.j0 k a0 l1 l2 a3 a4 t147 (decide (a4 > 1024)))))))) = some r := h
 clear h
 replace H := Option.bind_eq_some_iff.mp H
 obtain ⟨t147, A60, H⟩ := H
 replace H : (if t147 = 0 then (pss_Verify.j0 k a0 l1 l2 a3 a4 t147 true) else (if a3 < 1 then (pss_Verify.j0 k a0 l1 l2 a3 a4 t147 true) else (if a3 > 8192 then (pss_Verify.j0 k a0 l1 l2 a3 a4 t147 true) else (if a4 < 0 then (pss_Verify.j0 k a0 l1 l2 a3 a4 t147 true) else (pss_Verify.j0 k a0 l1 l2 a3 a4 t147 (decide (a4 > 1024))))))) = some r := H
 have A6 := Aside0.mk A60
 clear A60
 have HC7 := Aside0.mk H
 clear H
 go_enter Try.func16, Try.ntmps16
 go_upto_region 2 with (first | ((with_reducible refine gate_callee (f := 29) rfl ?_); refine goesL_ (some 18) rfl rfl Try.func29 (by kernel_rfl) rfl #[.int .i64 a0] rfl (by (try simp only [List.map_toArray, List.map_cons, List.map_nil]); first | done | rfl | (simp only [List.length_drop, List.length_take]; rfl)) ?_; (with_reducible refine (hash_Size.calls a0 t147 _ A6.out).mono ?_); rintro e w8 ⟨rfl, hb⟩; refine ⟨_, rfl, ?_⟩; have n0_ := Aside0.mk (below_step (by repeat with_reducible first | exact HB.out | apply below_alloc | apply pw_below_drewN | apply below_drew1) hb); clear HB; have HB := n0_; clear n0_; (try clear hb); (try clear hb2); (try clear hk); (try clear hi)))
 (try simp only [Act.put, List.setIfInBounds_toArray, List.set_cons_zero, List.set_cons_succ])
 go_cut [36] (fun v36 wc => ∃ (kq : Nat) (x36_6 : Bool), v36 = .bool x36_6 ∧ Aside0 (pss_Verify.j0 kq a0 l1 l2 a3 a4 t147 x36_6 = some r) ∧ Aside0 (kq ≤ k) ∧ Aside0 (Below w.heap.size w wc))
 case first =>
  have H := HC7.out
  clear HC7
  by_cases c9 : t147 = 0
  ·rw [if_pos c9] at H
   have c9b0 : (t147 == 0) = true := beq_iff_eq.mpr c9
   have c9b1 : (t147 != 0) = false := bne_eq_false_iff_eq.mpr c9
   clear c9
   (first | rw [c9b0] | (simp only [i64_w, i32_w]; rw [c9b0]) | skip)
   have H' := Aside0.mk H
   clear H
   go_wp2
   go_meet
   case rel => exact ⟨_, (true), (by first | rfl | (simp; done) | (simp [*]; done)), H', ⟨by first | omega | exact Nat.le_refl _⟩, ⟨by repeat with_reducible first | exact HB.out | apply below_alloc | apply pw_below_drewN | apply below_drew1⟩⟩
  ·rw [if_neg c9] at H
   have c9b0 : (t147 == 0) = false := beq_eq_false_iff_ne.mpr c9
   have c9b1 : (t147 != 0) = true := bne_iff_ne.mpr c9
   (first | rw [c9b0] | (simp only [i64_w, i32_w]; rw [c9b0]) | skip)
   by_cases c10 : a3 < 1
   ·rw [if_pos c10] at H
    have c10b0 : decide (a3 < 1) = true := decide_eq_true c10
    clear c10
    have H' := Aside0.mk H
    clear H
    go_wp2
    go_meet
    case rel => exact ⟨_, (true), (by first | rfl | (simp; done) | (simp [*]; done)), H', ⟨by first | omega | exact Nat.le_refl _⟩, ⟨by repeat with_reducible first | exact HB.out | apply below_alloc | apply pw_below_drewN | apply below_drew1⟩⟩
   ·rw [if_neg c10] at H
    have c10b0 : decide (a3 < 1) = false := decide_eq_false c10
    clear c10
    by_cases c11 : a3 > 8192
    ·rw [if_pos c11] at H
     have c11b0 : decide (8192 < a3) = true := decide_eq_true c11
     clear c11
     have H' := Aside0.mk H
     clear H
     go_wp2
     go_meet
     case rel => exact ⟨_, (true), (by first | rfl | (simp; done) | (simp [*]; done)), H', ⟨by first | omega | exact Nat.le_refl _⟩, ⟨by repeat with_reducible first | exact HB.out | apply below_alloc | apply pw_below_drewN | apply below_drew1⟩⟩
    ·rw [if_neg c11] at H
     have c11b0 : decide (8192 < a3) = false := decide_eq_false c11
     clear c11
     by_cases c12 : a4 < 0
     ·rw [if_pos c12] at H
      have c12b0 : decide (a4 < 0) = true := decide_eq_true c12
      clear c12
      have H' := Aside0.mk H
      clear H
      go_wp2
      go_meet
      case rel => exact ⟨_, (true), (by first | rfl | (simp; done) | (simp [*]; done)), H', ⟨by first | omega | exact Nat.le_refl _⟩, ⟨by repeat with_reducible first | exact HB.out | apply below_alloc | apply pw_below_drewN | apply below_drew1⟩⟩
     ·rw [if_neg c12] at H
      have c12b0 : decide (a4 < 0) = false := decide_eq_false c12
      clear c12
      have H' := Aside0.mk H
      clear H
      go_wp2
      go_meet
      case rel => exact ⟨_, (decide (a4 > 1024)), (by first | rfl | (simp; done) | (simp [*]; done)), H', ⟨by first | omega | exact Nat.le_refl _⟩, ⟨by repeat with_reducible first | exact HB.out | apply below_alloc | apply pw_below_drewN | apply below_drew1⟩⟩
 case rest =>
  clear HC7
  try clear c1
  try clear c2
  try clear p2
  try clear c9
  try clear c9b0
  try clear c9b1
  try clear c10
  try clear c10b0
  try clear c11
  try clear c11b0
  try clear c12
  try clear c12b0
  obtain ⟨kq, x36_6, rfl, HA, HJ6, HB⟩ := hcut
  cases kq with
  | zero => exact absurd HA.out (by simp [pss_Verify.j0])
  | succ kj6 =>
   have H := HA.out
   clear HA
   simp only [pss_Verify.j0] at H
   by_cases c13 : x36_6 = true
   ·subst c13
    have H1 : (some false) = some r := by rw [if_pos rfl] at H; exact H
    clear H
    have H := H1
    clear H1
    obtain rfl := Option.some.inj H
    go_wp2
    go_ret
    exact ⟨by first | rfl | (simp [errW_none, errW_some] <;> rfl) | (simp [*, errW_none, errW_some] <;> rfl), by repeat with_reducible first | exact HB.out | apply below_alloc | apply pw_below_drewN | apply below_drew1⟩
   ·replace c13 := Bool.eq_false_iff.mpr c13
    subst c13
    have H1 : (if (wrap64 ((wrap64 ((wrap64 ((wrap64 (Int.tdiv (wrap64 (a3 + 7)) 8)) - t147)) - 2)) - a4)) < 0 then (pss_Verify.j1 kj6 a0 l1 l2 a3 t147 (wrap64 (Int.tdiv (wrap64 (a3 + 7)) 8)) (wrap64 ((wrap64 ((wrap64 ((wrap64 (Int.tdiv (wrap64 (a3 + 7)) 8)) - t147)) - 2)) - a4)) true) else (if (l2.length : Int) = (wrap64 (Int.tdiv (wrap64 (a3 + 7)) 8)) then (if 0 ≤ (wrap64 ((wrap64 (Int.tdiv (wrap64 (a3 + 7)) 8)) - 1)) then (if (wrap64 ((wrap64 (Int.tdiv (wrap64 (a3 + 7)) 8)) - 1)) < (l2.length : Int) then (pss_Verify.j1 kj6 a0 l1 l2 a3 t147 (wrap64 (Int.tdiv (wrap64 (a3 + 7)) 8)) (wrap64 ((wrap64 ((wrap64 ((wrap64 (Int.tdiv (wrap64 (a3 + 7)) 8)) - t147)) - 2)) - a4)) ((rd l2 (wrap64 ((wrap64 (Int.tdiv (wrap64 (a3 + 7)) 8)) - 1))) != 188)) else (none)) else (none)) else (pss_Verify.j1 kj6 a0 l1 l2 a3 t147 (wrap64 (Int.tdiv (wrap64 (a3 + 7)) 8)) (wrap64 ((wrap64 ((wrap64 ((wrap64 (Int.tdiv (wrap64 (a3 + 7)) 8)) - t147)) - 2)) - a4)) true))) = some r := by rw [if_neg (show ¬ (false = true) by decide)] at H; exact H
    clear H
    have H := H1
    clear H1
    have HC14 := Aside0.mk H
    clear H
    go_upto_region 6 with (fail)
    go_cut [61] (fun v61 wc => ∃ (kq : Nat) (x61_13 : Bool), v61 = .bool x61_13 ∧ Aside0 (pss_Verify.j1 kq a0 l1 l2 a3 t147 (wrap64 (Int.tdiv (wrap64 (a3 + 7)) 8)) (wrap64 ((wrap64 ((wrap64 ((wrap64 (Int.tdiv (wrap64 (a3 + 7)) 8)) - t147)) - 2)) - a4)) x61_13 = some r) ∧ Aside0 (kq ≤ kj6) ∧ Aside0 (Below w.heap.size w wc))
    case first =>
     have H := HC14.out
     clear HC14
     by_cases c15 : (wrap64 ((wrap64 ((wrap64 ((wrap64 (Int.tdiv (wrap64 (a3 + 7)) 8)) - t147)) - 2)) - a4)) < 0
     ·rw [if_pos c15] at H
      have c15b0 : decide ((wrap64 ((wrap64 ((wrap64 ((wrap64 (Int.tdiv (wrap64 (a3 + 7)) 8)) - t147)) - 2)) - a4)) < 0) = true := decide_eq_true c15
      clear c15
      (first | rw [c15b0] | (simp only [i64_w, i32_w]; rw [c15b0]) | skip)
      have H' := Aside0.mk H
      clear H
      go_wp2
      go_meet
      case rel => exact ⟨_, (true), (by first | rfl | (simp; done) | (simp [*]; done)), H', ⟨by have := HJ6.out; first | omega | exact Nat.le_refl _⟩, ⟨by repeat with_reducible first | exact HB.out | apply below_alloc | apply pw_below_drewN | apply below_drew1⟩⟩
     ·rw [if_neg c15] at H
      have c15b0 : decide ((wrap64 ((wrap64 ((wrap64 ((wrap64 (Int.tdiv (wrap64 (a3 + 7)) 8)) - t147)) - 2)) - a4)) < 0) = false := decide_eq_false c15
      clear c15
      (first | rw [c15b0] | (simp only [i64_w, i32_w]; rw [c15b0]) | skip)
      by_cases c16 : (l2.length : Int) = (wrap64 (Int.tdiv (wrap64 (a3 + 7)) 8))
      ·rw [if_pos c16] at H
       have c16b0 : ((l2.length : Int) == (wrap64 (Int.tdiv (wrap64 (a3 + 7)) 8))) = true := beq_iff_eq.mpr c16
       have c16b1 : ((l2.length : Int) != (wrap64 (Int.tdiv (wrap64 (a3 + 7)) 8))) = false := bne_eq_false_iff_eq.mpr c16
       clear c16
       obtain ⟨ji17, hji17⟩ : ∃ j_ : Int, (wrap64 ((wrap64 (Int.tdiv (wrap64 (a3 + 7)) 8)) - 1)) = j_ := ⟨_, rfl⟩
       replace H : (if 0 ≤ (ji17) then (if (ji17) < (l2.length : Int) then (pss_Verify.j1 kj6 a0 l1 l2 a3 t147 (wrap64 (Int.tdiv (wrap64 (a3 + 7)) 8)) (wrap64 ((wrap64 ((wrap64 ((wrap64 (Int.tdiv (wrap64 (a3 + 7)) 8)) - t147)) - 2)) - a4)) ((rd l2 (ji17)) != 188)) else (none)) else (none)) = some r := by first | (rw [hji17] at H; exact H) | (simp only [hji17] at H ⊢; exact H)
       have hji17w : (IntKind.i64.wrap ((wrap64 (Int.tdiv (wrap64 (a3 + 7)) 8)) - 1)) = ji17 := (i64_w _).trans hji17
       by_cases c18 : 0 ≤ (ji17)
       ·rw [if_pos c18] at H
        have c18b0 : decide (0 ≤ (ji17)) = true := decide_eq_true c18
        clear c18
        by_cases c19 : (ji17) < (l2.length : Int)
        ·rw [if_pos c19] at H
         have c19b0 : decide ((ji17) < (l2.length : Int)) = true := decide_eq_true c19
         clear c19
         have H' := Aside0.mk H
         clear H
         have p148 : 0 ≤ ((ji17) : Int) := of_decide_eq_true (by first | (with_reducible assumption) | assumption)
         have q148 : (ji17) < (l2.length : Int) := of_decide_eq_true (by first | (with_reducible assumption) | assumption)
         obtain ⟨ad148, e148, hx148_0⟩ := Kd.at_int HR2.out (ji17) p148 q148
         cases e148
         replace hx148_0 := (HB.out.cell (World.block_lt_of_cell? w _ hx148_0)).trans hx148_0
         replace p148 := eq_true p148
         replace q148 := eq_true q148
         go_wp2
         go_meet
         case rel => exact ⟨_, (((rd l2 (ji17)) != 188)), (by first | rfl | (simp; done) | (simp only [← hji17] <;> (first | rfl | simp)) | (simp [*]; done)), (by first | exact H' | (rw [← hji17] at H'; exact H')), ⟨by have := HJ6.out; first | omega | exact Nat.le_refl _⟩, ⟨by repeat with_reducible first | exact HB.out | apply below_alloc | apply pw_below_drewN | apply below_drew1⟩⟩
        ·rw [if_neg c19] at H
         exact absurd H (by simp)
       ·rw [if_neg c18] at H
        exact absurd H (by simp)
      ·rw [if_neg c16] at H
       have c16b0 : ((l2.length : Int) == (wrap64 (Int.tdiv (wrap64 (a3 + 7)) 8))) = false := beq_eq_false_iff_ne.mpr c16
       have c16b1 : ((l2.length : Int) != (wrap64 (Int.tdiv (wrap64 (a3 + 7)) 8))) = true := bne_iff_ne.mpr c16
       have H' := Aside0.mk H
       clear H
       go_wp2
       go_meet
       case rel => exact ⟨_, (true), (by first | rfl | (simp; done) | (simp [*]; done)), (by first | exact H' | (rw [← hji17] at H'; exact H')), ⟨by have := HJ6.out; first | omega | exact Nat.le_refl _⟩, ⟨by repeat with_reducible first | exact HB.out | apply below_alloc | apply pw_below_drewN | apply below_drew1⟩⟩
    case rest =>
     clear HC14
     try clear c1
     try clear p1
     try clear q1
     try clear hx1
     try clear c2
     try clear p2
     try clear p6
     try clear c9
     try clear c9b0
     try clear c9b1
     try clear c10
     try clear c10b0
     try clear c11
     try clear c11b0
     try clear c12
     try clear c12b0
     try clear c13
     try clear p14
     try clear q14
     try clear hx14
     try clear c15
     try clear c15b0
     try clear c16
     try clear c16b0
     try clear c16b1
     try clear c18
     try clear c18b0
     try clear c19
     try clear c19b0
     try clear hx148_0
     try clear p148
     try clear p2
     try clear q148
     obtain ⟨kq, x61_13, rfl, HA, HJ13, HB⟩ := hcut
     cases kq with
     | zero => exact absurd HA.out (by simp [pss_Verify.j1])
     | succ kj13 =>
      have H := HA.out
      clear HA
      simp only [pss_Verify.j1] at H
      by_cases c20 : x61_13 = true
      ·subst c20
       have H1 : (some false) = some r := by rw [if_pos rfl] at H; exact H
       clear H
       have H := H1
       clear H1
       obtain rfl := Option.some.inj H
       go_wp2
       go_ret
       exact ⟨by first | rfl | (simp [errW_none, errW_some] <;> rfl) | (simp [*, errW_none, errW_some] <;> rfl), by repeat with_reducible first | exact HB.out | apply below_alloc | apply pw_below_drewN | apply below_drew1⟩
      ·replace c20 := Bool.eq_false_iff.mpr c20
       subst c20
       have H1 : (if 0 ≤ (wrap64 ((wrap64 ((wrap64 (Int.tdiv (wrap64 (a3 + 7)) 8)) - 1)) - t147)) then (if (wrap64 ((wrap64 ((wrap64 (Int.tdiv (wrap64 (a3 + 7)) 8)) - 1)) - t147)) ≤ (wrap64 ((wrap64 (Int.tdiv (wrap64 (a3 + 7)) 8)) - 1)) then (if (wrap64 ((wrap64 (Int.tdiv (wrap64 (a3 + 7)) 8)) - 1)) ≤ (l2.length : Int) then (if 0 < (l2.length : Int) then (if 0 ≤ (wrap64 (8 - (wrap64 ((wrap64 (8 * (wrap64 (Int.tdiv (wrap64 (a3 + 7)) 8)))) - a3)))) then (if (shr .i64 (wrap64 (rd l2 0)) (wrap64 (8 - (wrap64 ((wrap64 (8 * (wrap64 (Int.tdiv (wrap64 (a3 + 7)) 8)))) - a3))))) > 0 then (some false) else (if (wrap64 ((wrap64 ((wrap64 (Int.tdiv (wrap64 (a3 + 7)) 8)) - 1)) - t147)) ≤ (l2.length : Int) then ((pss_masked.f kj13 a0 (l2.take ((wrap64 ((wrap64 ((wrap64 (Int.tdiv (wrap64 (a3 + 7)) 8)) - 1)) - t147)) : Int).toNat) ((l2.take ((wrap64 ((wrap64 (Int.tdiv (wrap64 (a3 + 7)) 8)) - 1)) : Int).toNat).drop ((wrap64 ((wrap64 ((wrap64 (Int.tdiv (wrap64 (a3 + 7)) 8)) - 1)) - t147)) : Int).toNat) (wrap64 ((wrap64 (8 * (wrap64 (Int.tdiv (wrap64 (a3 + 7)) 8)))) - a3))).bind fun t152 => (if 0 ≤ (wrap64 ((wrap64 ((wrap64 ((wrap64 (Int.tdiv (wrap64 (a3 + 7)) 8)) - t147)) - 2)) - a4)) then (if (wrap64 ((wrap64 ((wrap64 ((wrap64 (Int.tdiv (wrap64 (a3 + 7)) 8)) - t147)) - 2)) - a4)) < (t152.length : Int) then (if (rd t152 (wrap64 ((wrap64 ((wrap64 ((wrap64 (Int.tdiv (wrap64 (a3 + 7)) 8)) - t147)) - 2)) - a4))) = 1 then (if (wrap64 ((wrap64 ((wrap64 ((wrap64 (Int.tdiv (wrap64 (a3 + 7)) 8)) - t147)) - 2)) - a4)) ≤ (t152.length : Int) then (if ((wrap64 ((wrap64 ((wrap64 ((wrap64 (Int.tdiv (wrap64 (a3 + 7)) 8)) - t147)) - 2)) - a4)) : Int).toNat ≤ 281474976710656 then ((bytes_Equal.f (t152.take ((wrap64 ((wrap64 ((wrap64 ((wrap64 (Int.tdiv (wrap64 (a3 + 7)) 8)) - t147)) - 2)) - a4)) : Int).toNat) (List.replicate ((wrap64 ((wrap64 ((wrap64 ((wrap64 (Int.tdiv (wrap64 (a3 + 7)) 8)) - t147)) - 2)) - a4)) : Int).toNat 0)).bind fun t163 => (pss_Verify.j2 kj13 a0 l1 (wrap64 ((wrap64 ((wrap64 ((wrap64 (Int.tdiv (wrap64 (a3 + 7)) 8)) - t147)) - 2)) - a4)) ((l2.take ((wrap64 ((wrap64 (Int.tdiv (wrap64 (a3 + 7)) 8)) - 1)) : Int).toNat).drop ((wrap64 ((wrap64 ((wrap64 (Int.tdiv (wrap64 (a3 + 7)) 8)) - 1)) - t147)) : Int).toNat) t152 (!t163))) else (none)) else (none)) else (pss_Verify.j2 kj13 a0 l1 (wrap64 ((wrap64 ((wrap64 ((wrap64 (Int.tdiv (wrap64 (a3 + 7)) 8)) - t147)) - 2)) - a4)) ((l2.take ((wrap64 ((wrap64 (Int.tdiv (wrap64 (a3 + 7)) 8)) - 1)) : Int).toNat).drop ((wrap64 ((wrap64 ((wrap64 (Int.tdiv (wrap64 (a3 + 7)) 8)) - 1)) - t147)) : Int).toNat) t152 true)) else (none)) else (none))) else (none))) else (none)) else (none)) else (none)) else (none)) else (none)) = some r := by rw [if_neg (show ¬ (false = true) by decide)] at H; exact H
       clear H
       have H := H1
       clear H1
       obtain ⟨ji21, hji21⟩ : ∃ j_ : Int, (wrap64 ((wrap64 ((wrap64 (Int.tdiv (wrap64 (a3 + 7)) 8)) - 1)) - t147)) = j_ := ⟨_, rfl⟩
       replace H : (if 0 ≤ (ji21) then (if (ji21) ≤ (wrap64 ((wrap64 (Int.tdiv (wrap64 (a3 + 7)) 8)) - 1)) then (if (wrap64 ((wrap64 (Int.tdiv (wrap64 (a3 + 7)) 8)) - 1)) ≤ (l2.length : Int) then (if 0 < (l2.length : Int) then (if 0 ≤ (wrap64 (8 - (wrap64 ((wrap64 (8 * (wrap64 (Int.tdiv (wrap64 (a3 + 7)) 8)))) - a3)))) then (if (shr .i64 (wrap64 (rd l2 0)) (wrap64 (8 - (wrap64 ((wrap64 (8 * (wrap64 (Int.tdiv (wrap64 (a3 + 7)) 8)))) - a3))))) > 0 then (some false) else (if (ji21) ≤ (l2.length : Int) then ((pss_masked.f kj13 a0 (l2.take ((ji21) : Int).toNat) ((l2.take ((wrap64 ((wrap64 (Int.tdiv (wrap64 (a3 + 7)) 8)) - 1)) : Int).toNat).drop ((ji21) : Int).toNat) (wrap64 ((wrap64 (8 * (wrap64 (Int.tdiv (wrap64 (a3 + 7)) 8)))) - a3))).bind fun t152 => (if 0 ≤ (wrap64 ((wrap64 ((wrap64 ((wrap64 (Int.tdiv (wrap64 (a3 + 7)) 8)) - t147)) - 2)) - a4)) then (if (wrap64 ((wrap64 ((wrap64 ((wrap64 (Int.tdiv (wrap64 (a3 + 7)) 8)) - t147)) - 2)) - a4)) < (t152.length : Int) then (if (rd t152 (wrap64 ((wrap64 ((wrap64 ((wrap64 (Int.tdiv (wrap64 (a3 + 7)) 8)) - t147)) - 2)) - a4))) = 1 then (if (wrap64 ((wrap64 ((wrap64 ((wrap64 (Int.tdiv (wrap64 (a3 + 7)) 8)) - t147)) - 2)) - a4)) ≤ (t152.length : Int) then (if ((wrap64 ((wrap64 ((wrap64 ((wrap64 (Int.tdiv (wrap64 (a3 + 7)) 8)) - t147)) - 2)) - a4)) : Int).toNat ≤ 281474976710656 then ((bytes_Equal.f (t152.take ((wrap64 ((wrap64 ((wrap64 ((wrap64 (Int.tdiv (wrap64 (a3 + 7)) 8)) - t147)) - 2)) - a4)) : Int).toNat) (List.replicate ((wrap64 ((wrap64 ((wrap64 ((wrap64 (Int.tdiv (wrap64 (a3 + 7)) 8)) - t147)) - 2)) - a4)) : Int).toNat 0)).bind fun t163 => (pss_Verify.j2 kj13 a0 l1 (wrap64 ((wrap64 ((wrap64 ((wrap64 (Int.tdiv (wrap64 (a3 + 7)) 8)) - t147)) - 2)) - a4)) ((l2.take ((wrap64 ((wrap64 (Int.tdiv (wrap64 (a3 + 7)) 8)) - 1)) : Int).toNat).drop ((ji21) : Int).toNat) t152 (!t163))) else (none)) else (none)) else (pss_Verify.j2 kj13 a0 l1 (wrap64 ((wrap64 ((wrap64 ((wrap64 (Int.tdiv (wrap64 (a3 + 7)) 8)) - t147)) - 2)) - a4)) ((l2.take ((wrap64 ((wrap64 (Int.tdiv (wrap64 (a3 + 7)) 8)) - 1)) : Int).toNat).drop ((ji21) : Int).toNat) t152 true)) else (none)) else (none))) else (none))) else (none)) else (none)) else (none)) else (none)) else (none)) = some r := by first | (rw [hji21] at H; exact H) | (simp only [hji21] at H ⊢; exact H)
       have hji21w : (IntKind.i64.wrap ((wrap64 ((wrap64 (Int.tdiv (wrap64 (a3 + 7)) 8)) - 1)) - t147)) = ji21 := (i64_w _).trans hji21
       by_cases c22 : 0 ≤ (ji21)
       ·rw [if_pos c22] at H
        have c22b0 := eq_true c22
        have c22b1 : decide (0 ≤ (ji21)) = true := decide_eq_true c22
        clear c22
        by_cases c23 : (ji21) ≤ (wrap64 ((wrap64 (Int.tdiv (wrap64 (a3 + 7)) 8)) - 1))
        ·rw [if_pos c23] at H
         have c23b0 := eq_true c23
         have c23b1 : decide ((ji21) ≤ (wrap64 ((wrap64 (Int.tdiv (wrap64 (a3 + 7)) 8)) - 1))) = true := decide_eq_true c23
         by_cases c24 : (wrap64 ((wrap64 (Int.tdiv (wrap64 (a3 + 7)) 8)) - 1)) ≤ (l2.length : Int)
         ·rw [if_pos c24] at H
          have c24b0 := eq_true c24
          have c24b1 : decide ((wrap64 ((wrap64 (Int.tdiv (wrap64 (a3 + 7)) 8)) - 1)) ≤ (l2.length : Int)) = true := decide_eq_true c24
          by_cases c25 : 0 < (l2.length : Int)
          ·rw [if_pos c25] at H
           have c25b0 : decide (0 < (l2.length : Int)) = true := decide_eq_true c25
           have c25b1 : decide (0 < l2.length) = true := decide_eq_true (by omega)
           clear c25
           obtain ⟨ji26, hji26⟩ : ∃ j_ : Int, (wrap64 (8 - (wrap64 ((wrap64 (8 * (wrap64 (Int.tdiv (wrap64 (a3 + 7)) 8)))) - a3)))) = j_ := ⟨_, rfl⟩
           replace H : (if 0 ≤ (ji26) then (if (shr .i64 (wrap64 (rd l2 0)) (ji26)) > 0 then (some false) else (if (ji21) ≤ (l2.length : Int) then ((pss_masked.f kj13 a0 (l2.take ((ji21) : Int).toNat) ((l2.take ((wrap64 ((wrap64 (Int.tdiv (wrap64 (a3 + 7)) 8)) - 1)) : Int).toNat).drop ((ji21) : Int).toNat) (wrap64 ((wrap64 (8 * (wrap64 (Int.tdiv (wrap64 (a3 + 7)) 8)))) - a3))).bind fun t152 => (if 0 ≤ (wrap64 ((wrap64 ((wrap64 ((wrap64 (Int.tdiv (wrap64 (a3 + 7)) 8)) - t147)) - 2)) - a4)) then (if (wrap64 ((wrap64 ((wrap64 ((wrap64 (Int.tdiv (wrap64 (a3 + 7)) 8)) - t147)) - 2)) - a4)) < (t152.length : Int) then (if (rd t152 (wrap64 ((wrap64 ((wrap64 ((wrap64 (Int.tdiv (wrap64 (a3 + 7)) 8)) - t147)) - 2)) - a4))) = 1 then (if (wrap64 ((wrap64 ((wrap64 ((wrap64 (Int.tdiv (wrap64 (a3 + 7)) 8)) - t147)) - 2)) - a4)) ≤ (t152.length : Int) then (if ((wrap64 ((wrap64 ((wrap64 ((wrap64 (Int.tdiv (wrap64 (a3 + 7)) 8)) - t147)) - 2)) - a4)) : Int).toNat ≤ 281474976710656 then ((bytes_Equal.f (t152.take ((wrap64 ((wrap64 ((wrap64 ((wrap64 (Int.tdiv (wrap64 (a3 + 7)) 8)) - t147)) - 2)) - a4)) : Int).toNat) (List.replicate ((wrap64 ((wrap64 ((wrap64 ((wrap64 (Int.tdiv (wrap64 (a3 + 7)) 8)) - t147)) - 2)) - a4)) : Int).toNat 0)).bind fun t163 => (pss_Verify.j2 kj13 a0 l1 (wrap64 ((wrap64 ((wrap64 ((wrap64 (Int.tdiv (wrap64 (a3 + 7)) 8)) - t147)) - 2)) - a4)) ((l2.take ((wrap64 ((wrap64 (Int.tdiv (wrap64 (a3 + 7)) 8)) - 1)) : Int).toNat).drop ((ji21) : Int).toNat) t152 (!t163))) else (none)) else (none)) else (pss_Verify.j2 kj13 a0 l1 (wrap64 ((wrap64 ((wrap64 ((wrap64 (Int.tdiv (wrap64 (a3 + 7)) 8)) - t147)) - 2)) - a4)) ((l2.take ((wrap64 ((wrap64 (Int.tdiv (wrap64 (a3 + 7)) 8)) - 1)) : Int).toNat).drop ((ji21) : Int).toNat) t152 true)) else (none)) else (none))) else (none))) else (none)) = some r := by first | (rw [hji26] at H; exact H) | (simp only [hji26] at H ⊢; exact H)
           have hji26w : (IntKind.i64.wrap (8 - (wrap64 ((wrap64 (8 * (wrap64 (Int.tdiv (wrap64 (a3 + 7)) 8)))) - a3)))) = ji26 := (i64_w _).trans hji26
           by_cases c27 : 0 ≤ (ji26)
           ·rw [if_pos c27] at H
            have c27b0 := eq_true c27
            have c27b1 : decide (0 ≤ (ji26)) = true := decide_eq_true c27
            clear c27
            obtain ⟨ji28, hji28⟩ : ∃ j_ : Int, (shr .i64 (wrap64 (rd l2 0)) (ji26)) = j_ := ⟨_, rfl⟩
            replace H : (if (ji28) > 0 then (some false) else (if (ji21) ≤ (l2.length : Int) then ((pss_masked.f kj13 a0 (l2.take ((ji21) : Int).toNat) ((l2.take ((wrap64 ((wrap64 (Int.tdiv (wrap64 (a3 + 7)) 8)) - 1)) : Int).toNat).drop ((ji21) : Int).toNat) (wrap64 ((wrap64 (8 * (wrap64 (Int.tdiv (wrap64 (a3 + 7)) 8)))) - a3))).bind fun t152 => (if 0 ≤ (wrap64 ((wrap64 ((wrap64 ((wrap64 (Int.tdiv (wrap64 (a3 + 7)) 8)) - t147)) - 2)) - a4)) then (if (wrap64 ((wrap64 ((wrap64 ((wrap64 (Int.tdiv (wrap64 (a3 + 7)) 8)) - t147)) - 2)) - a4)) < (t152.length : Int) then (if (rd t152 (wrap64 ((wrap64 ((wrap64 ((wrap64 (Int.tdiv (wrap64 (a3 + 7)) 8)) - t147)) - 2)) - a4))) = 1 then (if (wrap64 ((wrap64 ((wrap64 ((wrap64 (Int.tdiv (wrap64 (a3 + 7)) 8)) - t147)) - 2)) - a4)) ≤ (t152.length : Int) then (if ((wrap64 ((wrap64 ((wrap64 ((wrap64 (Int.tdiv (wrap64 (a3 + 7)) 8)) - t147)) - 2)) - a4)) : Int).toNat ≤ 281474976710656 then ((bytes_Equal.f (t152.take ((wrap64 ((wrap64 ((wrap64 ((wrap64 (Int.tdiv (wrap64 (a3 + 7)) 8)) - t147)) - 2)) - a4)) : Int).toNat) (List.replicate ((wrap64 ((wrap64 ((wrap64 ((wrap64 (Int.tdiv (wrap64 (a3 + 7)) 8)) - t147)) - 2)) - a4)) : Int).toNat 0)).bind fun t163 => (pss_Verify.j2 kj13 a0 l1 (wrap64 ((wrap64 ((wrap64 ((wrap64 (Int.tdiv (wrap64 (a3 + 7)) 8)) - t147)) - 2)) - a4)) ((l2.take ((wrap64 ((wrap64 (Int.tdiv (wrap64 (a3 + 7)) 8)) - 1)) : Int).toNat).drop ((ji21) : Int).toNat) t152 (!t163))) else (none)) else (none)) else (pss_Verify.j2 kj13 a0 l1 (wrap64 ((wrap64 ((wrap64 ((wrap64 (Int.tdiv (wrap64 (a3 + 7)) 8)) - t147)) - 2)) - a4)) ((l2.take ((wrap64 ((wrap64 (Int.tdiv (wrap64 (a3 + 7)) 8)) - 1)) : Int).toNat).drop ((ji21) : Int).toNat) t152 true)) else (none)) else (none))) else (none))) = some r := by first | (rw [hji28] at H; exact H) | (simp only [hji28] at H ⊢; exact H)
            have hji28_ : ((wrap64 (rd l2 0)) / 2 ^ min (ji26).toNat 64) = ji28 := hji28
            have hji28z : (ji26) ≤ 64 → ((wrap64 (rd l2 0)) / 2 ^ (ji26).toNat) = ji28 := shr_small hji28
            by_cases c29 : (ji28) > 0
            ·rw [if_pos c29] at H
             have c29b0 : decide (0 < (ji28)) = true := decide_eq_true c29
             clear c29
             obtain rfl := Option.some.inj H
             obtain ⟨i030, hi030, _, hsz30, _⟩ := info_parts info5
             obtain ⟨A30, hcut30, hA30, hC30⟩ := print_mid_of (P := Try.prog) (Value.int .u8) 0 22 5 .i64 .i64 Try.underlying22 hi030 hsz30 A2 c2 l2 (ji21) (wrap64 ((wrap64 (Int.tdiv (wrap64 (a3 + 7)) 8)) - 1)) (of_decide_eq_true (by first | (with_reducible assumption) | assumption)) (by first | omega | exact of_decide_eq_true (by first | (with_reducible assumption) | assumption)) (of_decide_eq_true (by first | (with_reducible assumption) | assumption)) HC2.out
             (try have KM30 : ((l2.take ((wrap64 ((wrap64 (Int.tdiv (wrap64 (a3 + 7)) 8)) - 1)) : Int).toNat).drop ((ji21) : Int).toNat).length = (((wrap64 ((wrap64 (Int.tdiv (wrap64 (a3 + 7)) 8)) - 1)) : Int).toNat - ((ji21) : Int).toNat) := by rw [List.length_drop, List.length_take]; have h_ : ((wrap64 ((wrap64 (Int.tdiv (wrap64 (a3 + 7)) 8)) - 1)) : Int) ≤ (l2.length : Int) := of_decide_eq_true (by first | (with_reducible assumption) | assumption); omega)
             have HR149 := Aside0.mk (Kd.C_of_reads (h1 := fun _ => rfl) (hA30 _ (Kd.reads_of_C HR2.out)))
             have HC149 := Aside0.mk hC30
             clear hA30 hC30 hi030 hsz30
             have p150 : 0 ≤ (0 : Int) := (by omega)
             have q150 : 0 < (l2.length : Int) := of_decide_eq_true (by first | (with_reducible assumption) | assumption)
             obtain ⟨ad150, e150, hx150_0⟩ := Kd.at_int HR2.out 0 p150 q150
             cases e150
             have qi150 : (0 < l2.length) = True := eq_true (by omega)
             (try rw [show ((0 : Int)).toNat = 0 from rfl] at hx150_0)
             (try rw [Addr.add_zero'] at hx150_0)
             replace hx150_0 := (HB.out.cell (World.block_lt_of_cell? w _ hx150_0)).trans hx150_0
             replace p150 := eq_true p150
             replace q150 := eq_true q150
             go_wp2
             go_ret
             exact ⟨by first | rfl | (simp [errW_none, errW_some] <;> rfl) | (simp only [← hji21, ← hji26, ← hji28]; first | rfl | (simp [errW_none, errW_some] <;> rfl)) | (simp [*, errW_none, errW_some] <;> rfl), by repeat with_reducible first | exact HB.out | apply below_alloc | apply pw_below_drewN | apply below_drew1⟩
            ·rw [if_neg c29] at H
             have c29b0 : decide (0 < (ji28)) = false := decide_eq_false c29
             clear c29
             have c31b0 := eq_true (of_decide_eq_true (by first | (with_reducible assumption) | assumption) : 0 ≤ (ji21))
             by_cases c32 : (ji21) ≤ (l2.length : Int)
             ·rw [if_pos c32] at H
              have c32b0 := eq_true c32
              have c32b1 : decide ((ji21) ≤ (l2.length : Int)) = true := decide_eq_true c32
              clear c32
              replace H := Option.bind_eq_some_iff.mp H
              obtain ⟨t152, A330, H⟩ := H
              replace H : (if 0 ≤ (wrap64 ((wrap64 ((wrap64 ((wrap64 (Int.tdiv (wrap64 (a3 + 7)) 8)) - t147)) - 2)) - a4)) then (if (wrap64 ((wrap64 ((wrap64 ((wrap64 (Int.tdiv (wrap64 (a3 + 7)) 8)) - t147)) - 2)) - a4)) < (t152.length : Int) then (if (rd t152 (wrap64 ((wrap64 ((wrap64 ((wrap64 (Int.tdiv (wrap64 (a3 + 7)) 8)) - t147)) - 2)) - a4))) = 1 then (if (wrap64 ((wrap64 ((wrap64 ((wrap64 (Int.tdiv (wrap64 (a3 + 7)) 8)) - t147)) - 2)) - a4)) ≤ (t152.length : Int) then (if ((wrap64 ((wrap64 ((wrap64 ((wrap64 (Int.tdiv (wrap64 (a3 + 7)) 8)) - t147)) - 2)) - a4)) : Int).toNat ≤ 281474976710656 then ((bytes_Equal.f (t152.take ((wrap64 ((wrap64 ((wrap64 ((wrap64 (Int.tdiv (wrap64 (a3 + 7)) 8)) - t147)) - 2)) - a4)) : Int).toNat) (List.replicate ((wrap64 ((wrap64 ((wrap64 ((wrap64 (Int.tdiv (wrap64 (a3 + 7)) 8)) - t147)) - 2)) - a4)) : Int).toNat 0)).bind fun t163 => (pss_Verify.j2 kj13 a0 l1 (wrap64 ((wrap64 ((wrap64 ((wrap64 (Int.tdiv (wrap64 (a3 + 7)) 8)) - t147)) - 2)) - a4)) ((l2.take ((wrap64 ((wrap64 (Int.tdiv (wrap64 (a3 + 7)) 8)) - 1)) : Int).toNat).drop ((ji21) : Int).toNat) t152 (!t163))) else (none)) else (none)) else (pss_Verify.j2 kj13 a0 l1 (wrap64 ((wrap64 ((wrap64 ((wrap64 (Int.tdiv (wrap64 (a3 + 7)) 8)) - t147)) - 2)) - a4)) ((l2.take ((wrap64 ((wrap64 (Int.tdiv (wrap64 (a3 + 7)) 8)) - 1)) : Int).toNat).drop ((ji21) : Int).toNat) t152 true)) else (none)) else (none)) = some r := H
              have A33 := Aside0.mk A330
              clear A330
              have HC34 := Aside0.mk H
              clear H
              obtain ⟨i035, hi035, _, hsz35, _⟩ := info_parts info5
              obtain ⟨A35, hcut35, hA35, hC35⟩ := print_mid_of (P := Try.prog) (Value.int .u8) 0 22 5 .i64 .i64 Try.underlying22 hi035 hsz35 A2 c2 l2 (ji21) (wrap64 ((wrap64 (Int.tdiv (wrap64 (a3 + 7)) 8)) - 1)) (of_decide_eq_true (by first | (with_reducible assumption) | assumption)) (by first | omega | exact of_decide_eq_true (by first | (with_reducible assumption) | assumption)) (of_decide_eq_true (by first | (with_reducible assumption) | assumption)) HC2.out
              (try have KM35 : ((l2.take ((wrap64 ((wrap64 (Int.tdiv (wrap64 (a3 + 7)) 8)) - 1)) : Int).toNat).drop ((ji21) : Int).toNat).length = (((wrap64 ((wrap64 (Int.tdiv (wrap64 (a3 + 7)) 8)) - 1)) : Int).toNat - ((ji21) : Int).toNat) := by rw [List.length_drop, List.length_take]; have h_ : ((wrap64 ((wrap64 (Int.tdiv (wrap64 (a3 + 7)) 8)) - 1)) : Int) ≤ (l2.length : Int) := of_decide_eq_true (by first | (with_reducible assumption) | assumption); omega)
              have HR149 := Aside0.mk (Kd.C_of_reads (h1 := fun _ => rfl) (hA35 _ (Kd.reads_of_C HR2.out)))
              have HC149 := Aside0.mk hC35
              clear hA35 hC35 hi035 hsz35
              have p150 : 0 ≤ (0 : Int) := (by omega)
              have q150 : 0 < (l2.length : Int) := of_decide_eq_true (by first | (with_reducible assumption) | assumption)
              obtain ⟨ad150, e150, hx150_0⟩ := Kd.at_int HR2.out 0 p150 q150
              cases e150
              have qi150 : (0 < l2.length) = True := eq_true (by omega)
              (try rw [show ((0 : Int)).toNat = 0 from rfl] at hx150_0)
              (try rw [Addr.add_zero'] at hx150_0)
              replace hx150_0 := (HB.out.cell (World.block_lt_of_cell? w _ hx150_0)).trans hx150_0
              replace p150 := eq_true p150
              replace q150 := eq_true q150
              obtain ⟨i036, hi036, _, hsz36, _⟩ := info_parts info5
              obtain ⟨hcut36, hA36, hC36⟩ := print_take_of (P := Try.prog) (Value.int .u8) 0 22 5 .i64 Try.underlying22 hi036 hsz36 (some ad150) c2 l2 (ji21) (of_decide_eq_true (by first | (with_reducible assumption) | assumption)) (of_decide_eq_true (by first | (with_reducible assumption) | assumption)) HC2.out
              have HR151 := Aside0.mk (Kd.C_of_reads (h1 := fun _ => rfl) (hA36 _ (Kd.reads_of_C HR2.out)))
              have HC151 := Aside0.mk hC36
              clear hA36 hC36 hi036 hsz36
              go_upto_region 13 with (first | ((with_reducible refine gate_callee (f := 32) rfl ?_); refine goesL_ (some 91) rfl rfl Try.func32 (by kernel_rfl) rfl #[.int .i64 a0, .slice (some ad150) (l2.take ((ji21) : Int).toNat).length c2, .slice A35 ((l2.take ((wrap64 ((wrap64 (Int.tdiv (wrap64 (a3 + 7)) 8)) - 1)) : Int).toNat).drop ((ji21) : Int).toNat).length (c2 - (ji21).toNat), .int .i64 (wrap64 ((wrap64 (8 * (wrap64 (Int.tdiv (wrap64 (a3 + 7)) 8)))) - a3))] rfl (by (try simp only [List.map_toArray, List.map_cons, List.map_nil]); first | done | (rw [show (l2.take ((ji21) : Int).toNat).length = (ji21).toNat from (by rw [List.length_take]; have h_ : ((ji21) : Int) ≤ (l2.length : Int) := of_decide_eq_true (by first | (with_reducible assumption) | assumption); omega)] <;> rfl) | (rw [show ((l2.take ((wrap64 ((wrap64 (Int.tdiv (wrap64 (a3 + 7)) 8)) - 1)) : Int).toNat).drop ((ji21) : Int).toNat).length = ((wrap64 ((wrap64 (Int.tdiv (wrap64 (a3 + 7)) 8)) - 1)).toNat - (ji21).toNat) from (by rw [List.length_drop, List.length_take]; have h_ : ((wrap64 ((wrap64 (Int.tdiv (wrap64 (a3 + 7)) 8)) - 1)) : Int) ≤ (l2.length : Int) := of_decide_eq_true (by first | (with_reducible assumption) | assumption); omega)] <;> rfl) | (simp only [hji21]; rfl) | rfl | (simp only [List.length_drop, List.length_take]; rfl) | (simp only [KM30]; rfl) | (simp only [KM35]; rfl) | (simp (disch := assumption) only [List.length_drop, px_take_len, Int.ofNat_toNat] <;> rfl)) ?_; (with_reducible refine (pss_masked.calls kj13 a0 _ _ (l2.take ((ji21) : Int).toNat) _ _ ((l2.take ((wrap64 ((wrap64 (Int.tdiv (wrap64 (a3 + 7)) 8)) - 1)) : Int).toNat).drop ((ji21) : Int).toNat) (wrap64 ((wrap64 (8 * (wrap64 (Int.tdiv (wrap64 (a3 + 7)) 8)))) - a3)) t152 _ ?side1 ?side2 ?side3 ?side4 A33.out).mono ?_); (case side1 => repeat (first | exact (Kd.C_below HR151.out HB.out) | (with_reducible refine Kd.C_alloc ?_ _) | (with_reducible refine Kd.C_drewN ?_ _) | (with_reducible refine Kd.C_drew ?_))); (case side2 => exact HC151.out); (case side3 => repeat (first | exact (Kd.C_below HR149.out HB.out) | (with_reducible refine Kd.C_alloc ?_ _) | (with_reducible refine Kd.C_drewN ?_ _) | (with_reducible refine Kd.C_drew ?_))); (case side4 => exact HC149.out); rintro e w37 ⟨v153, rfl, ho0, hb⟩; refine ⟨_, rfl, ?_⟩; have n0_ := Aside0.mk (Kd.R_lower ho0 (below_size (by repeat with_reducible first | exact HB.out | apply below_alloc | apply pw_below_drewN | apply below_drew1))); have n1_ := Aside0.mk (below_step (by repeat with_reducible first | exact HB.out | apply below_alloc | apply pw_below_drewN | apply below_drew1) hb); clear HB; have HO154 := n0_; have HB := n1_; clear n0_ n1_; (try clear hb); (try clear hb2); (try clear hk); (try clear hi); (try clear ho0)))
              (try simp only [Act.put, List.setIfInBounds_toArray, List.set_cons_zero, List.set_cons_succ])
              go_cut [105] (fun v105 wc => ∃ (kq : Nat) (x105_33 : Bool), v105 = .bool x105_33 ∧ Aside0 (pss_Verify.j2 kq a0 l1 (wrap64 ((wrap64 ((wrap64 ((wrap64 (Int.tdiv (wrap64 (a3 + 7)) 8)) - t147)) - 2)) - a4)) ((l2.take ((wrap64 ((wrap64 (Int.tdiv (wrap64 (a3 + 7)) 8)) - 1)) : Int).toNat).drop ((ji21) : Int).toNat) t152 x105_33 = some r) ∧ Aside0 (kq ≤ kj13) ∧ Aside0 (Kd.R (Kd.int .u8) 5 wc w.heap.size (fun _ => True) v153 t152) ∧ Aside0 (Below w.heap.size w wc))
              case first =>
               have H := HC34.out
               clear HC34
               obtain ⟨ji38, hji38⟩ : ∃ j_ : Int, (wrap64 ((wrap64 ((wrap64 ((wrap64 (Int.tdiv (wrap64 (a3 + 7)) 8)) - t147)) - 2)) - a4)) = j_ := ⟨_, rfl⟩
               replace H : (if 0 ≤ (ji38) then (if (ji38) < (t152.length : Int) then (if (rd t152 (ji38)) = 1 then (if (ji38) ≤ (t152.length : Int) then (if ((ji38) : Int).toNat ≤ 281474976710656 then ((bytes_Equal.f (t152.take ((ji38) : Int).toNat) (List.replicate ((ji38) : Int).toNat 0)).bind fun t163 => (pss_Verify.j2 kj13 a0 l1 (ji38) ((l2.take ((wrap64 ((wrap64 (Int.tdiv (wrap64 (a3 + 7)) 8)) - 1)) : Int).toNat).drop ((ji21) : Int).toNat) t152 (!t163))) else (none)) else (none)) else (pss_Verify.j2 kj13 a0 l1 (ji38) ((l2.take ((wrap64 ((wrap64 (Int.tdiv (wrap64 (a3 + 7)) 8)) - 1)) : Int).toNat).drop ((ji21) : Int).toNat) t152 true)) else (none)) else (none)) = some r := by first | (rw [hji38] at H; exact H) | (simp only [hji38] at H ⊢; exact H)
               have hji38w : (IntKind.i64.wrap ((wrap64 ((wrap64 ((wrap64 (Int.tdiv (wrap64 (a3 + 7)) 8)) - t147)) - 2)) - a4)) = ji38 := (i64_w _).trans hji38
               by_cases c39 : 0 ≤ (ji38)
               ·rw [if_pos c39] at H
                have c39b0 : decide (0 ≤ (ji38)) = true := decide_eq_true c39
                clear c39
                (first | rw [c39b0] | (simp only [i64_w, i32_w]; rw [c39b0]) | skip)
                by_cases c40 : (ji38) < (t152.length : Int)
                ·rw [if_pos c40] at H
                 have c40b0 : decide ((ji38) < (t152.length : Int)) = true := decide_eq_true c40
                 clear c40
                 by_cases c41 : (rd t152 (ji38)) = 1
                 ·rw [if_pos c41] at H
                  have c41b0 : ((rd t152 (ji38)) == 1) = true := beq_iff_eq.mpr c41
                  have c41b1 : ((rd t152 (ji38)) != 1) = false := bne_eq_false_iff_eq.mpr c41
                  clear c41
                  have c42b0 := eq_true (of_decide_eq_true (by first | (with_reducible assumption) | assumption) : 0 ≤ (ji38))
                  by_cases c43 : (ji38) ≤ (t152.length : Int)
                  ·rw [if_pos c43] at H
                   have c43b0 := eq_true c43
                   have c43b1 : decide ((ji38) ≤ (t152.length : Int)) = true := decide_eq_true c43
                   clear c43
                   obtain ⟨y156, hy156⟩ : ∃ y_ : List Int, y_ = (t152.take ((ji38) : Int).toNat) := ⟨_, rfl⟩
                   replace H : (if ((ji38) : Int).toNat ≤ 281474976710656 then ((bytes_Equal.f y156 (List.replicate ((ji38) : Int).toNat 0)).bind fun t163 => (pss_Verify.j2 kj13 a0 l1 (ji38) ((l2.take ((wrap64 ((wrap64 (Int.tdiv (wrap64 (a3 + 7)) 8)) - 1)) : Int).toNat).drop ((ji21) : Int).toNat) t152 (!t163))) else (none)) = some r := by first | (rw [hy156]; with_reducible exact H) | (have H2_ := (Option.bind_some _ _).symm.trans H; rw [hy156]; with_reducible exact H2_) | (have H2_ := (Option.bind_some _ _).symm.trans H; with_reducible exact H2_) | with_reducible exact H | (rw [hy156]; exact H) | exact H
                   have Ny156 := Aside0.mk hy156
                   clear hy156
                   by_cases c44 : ((ji38) : Int).toNat ≤ 281474976710656
                   ·rw [if_pos c44] at H
                    have c44b0 := eq_true c44
                    have c44b1 : decide (((ji38) : Int).toNat ≤ 281474976710656) = true := decide_eq_true c44
                    clear c44
                    obtain ⟨y160, hy160⟩ : ∃ y_ : List Int, y_ = (List.replicate ((ji38) : Int).toNat 0) := ⟨_, rfl⟩
                    replace H : ((bytes_Equal.f y156 y160).bind fun t163 => (pss_Verify.j2 kj13 a0 l1 (ji38) ((l2.take ((wrap64 ((wrap64 (Int.tdiv (wrap64 (a3 + 7)) 8)) - 1)) : Int).toNat).drop ((ji21) : Int).toNat) t152 (!t163))) = some r := by first | (rw [hy160]; with_reducible exact H) | (have H2_ := (Option.bind_some _ _).symm.trans H; rw [hy160]; with_reducible exact H2_) | (have H2_ := (Option.bind_some _ _).symm.trans H; with_reducible exact H2_) | with_reducible exact H | (rw [hy160]; exact H) | exact H
                    have Ny160 := Aside0.mk hy160
                    clear hy160
                    replace H := Option.bind_eq_some_iff.mp H
                    obtain ⟨t163, A450, H⟩ := H
                    replace H : (pss_Verify.j2 kj13 a0 l1 (ji38) ((l2.take ((wrap64 ((wrap64 (Int.tdiv (wrap64 (a3 + 7)) 8)) - 1)) : Int).toNat).drop ((ji21) : Int).toNat) t152 (!t163)) = some r := H
                    have A45 := Aside0.mk A450
                    clear A450
                    have H' := Aside0.mk H
                    clear H
                    try go_wp2
                    have n0_ := Aside0.mk (Kd.R_drew HO154.out)
                    have n1_ := Aside0.mk (below_drew1 HB.out)
                    clear HO154
                    clear HB
                    have HO154 := n0_
                    have HB := n1_
                    clear n0_ n1_
                    obtain ⟨Ao47, co47, eo47⟩ := Kd.R_slice HO154.out
                    (first | subst eo47 | (injection eo47 with f1_ f2_ f3_; have f4_ := f1_.symm; have f5_ := f3_.symm; clear f1_ f2_ f3_; subst f4_; subst f5_))
                    have p155 : 0 ≤ ((ji38) : Int) := of_decide_eq_true (by first | (with_reducible assumption) | assumption)
                    have q155 : (ji38) < (t152.length : Int) := of_decide_eq_true (by first | (with_reducible assumption) | assumption)
                    obtain ⟨ad155, e155, hx155_0⟩ := Kd.at_int (Kd.R_reads' HO154.out).2.2 (ji38) p155 q155
                    cases e155
                    replace p155 := eq_true p155
                    replace q155 := eq_true q155
                    have q48 : ((ji38) : Int) ≤ ((t152.length : Int) : Int) := of_decide_eq_true (by first | (with_reducible assumption) | assumption)
                    obtain ⟨i048, hi048, _, hsz48, _⟩ := info_parts info5
                    have hroom48 : t152.length ≤ co47 := (Kd.R_reads' HO154.out).2.1
                    have hC48 : Kd.C (Kd.int .u8) _ (some ad155) t152.length t152 := (Kd.R_reads' HO154.out).2.2
                    have hcut48 := cut_to (P := Try.prog) 22 5 .i64 Try.underlying22 hi048 (some ad155) t152.length co47 (ji38) (of_decide_eq_true (by first | (with_reducible assumption) | assumption)) q48 hroom48
                    have hr48 := Kd.C_take (m := ((ji38) : Int).toNat) hC48 (by omega)
                    have hy48 : y156.length = ((ji38) : Int).toNat := (by rw [Ny156.out, List.length_take]; omega)
                    rw [← Ny156.out] at hr48
                    rw [← hy48] at hcut48
                    have HR159 := Aside0.mk hr48
                    have HC159 := Aside0.mk (show y156.length ≤ co47 from by omega)
                    clear hr48 hC48 hroom48 hi048 hsz48
                    have KY48 := Aside0.mk hy48
                    clear hy48
                    have KL48 := Aside0.mk (show ((ji38) : Int).toNat ≤ t152.length from by omega)
                    replace q48 := eq_true q48
                    refine start_ (n := 14) (S := fun w' => w'.cell? (ad155.add ((ji38)).toNat) = some (.int .u8 (rd t152 (ji38)))) (ds := []) #[false, false, false, false, false, false, false, false, false, false, false, false, false, false] (by kernel_rfl) rfl rfl (hx155_0) (fun hHeld => ?_); refine with_tabW pss_Verify.tab13 pss_Verify.bits13 (fun HT_ HW_ => ?_)
                    generalize w37.drew = w46 at HO154 HB HR159 hx155_0 hHeld ⊢
                    refine pure_ (i := 0) (N := some 92) (v := ?_) (a' := ?_) #[true, false, false, false, false, false, false, false, false, false, false, false, false, false] rfl rfl (any_of HT_.out (by kernel_rfl)) (fun _ _ _ h => h) (Or.inl ⟨by rfl, ?_⟩) ?_ ?_
                    rotate_left
                    ·intro w'
                     go_simp
                     with_reducible rfl
                    rotate_left
                    ·simp only [Act.put, List.setIfInBounds_toArray, List.set_cons_zero, List.set_cons_succ, i64_w, i32_w]
                     rfl
                    refine pure_ (i := 1) (N := some 93) (v := ?_) (a' := ?_) #[true, true, false, false, false, false, false, false, false, false, false, false, false, false] rfl rfl (any_of HT_.out (by kernel_rfl)) (fun _ _ _ h => h) (Or.inl ⟨by rfl, ?_⟩) ?_ ?_
                    rotate_left
                    ·intro w'
                     go_simp
                     with_reducible rfl
                    rotate_left
                    ·simp only [Act.put, List.setIfInBounds_toArray, List.set_cons_zero, List.set_cons_succ, i64_w, i32_w]
                     rfl
                    refine pure_ (i := 2) (N := some 94) (v := ?_) (a' := ?_) #[true, true, true, false, false, false, false, false, false, false, false, false, false, false] rfl rfl (any_of HT_.out (by kernel_rfl)) (fun _ _ _ h => h) (Or.inl ⟨by rfl, ?_⟩) ?_ ?_
                    rotate_left
                    ·intro w'
                     go_simp
                     with_reducible rfl
                    rotate_left
                    ·simp only [Act.put, List.setIfInBounds_toArray, List.set_cons_zero, List.set_cons_succ, i64_w, i32_w]
                     rfl
                    refine take_ (i := 3) (N := some 95) (v := ?_) (a' := ?_) #[true, true, true, true, false, false, false, false, false, false, false, false, false, false] rfl rfl (take_ofW HT_.out HW_.out (by kernel_rfl)) (fun _ _ _ h => h) (Or.inl ⟨by rfl, ?_⟩) hHeld ?_ ?_
                    rotate_left
                    ·intro w' s0
                     go_simp
                     with_reducible rfl
                    rotate_left
                    ·simp only [Act.put, List.setIfInBounds_toArray, List.set_cons_zero, List.set_cons_succ, i64_w, i32_w]
                     rfl
                    refine pure_ (i := 4) (N := some 96) (v := ?_) (a' := ?_) #[true, true, true, true, true, false, false, false, false, false, false, false, false, false] rfl rfl (any_of HT_.out (by kernel_rfl)) (fun _ _ _ h => h) (Or.inl ⟨by rfl, ?_⟩) ?_ ?_
                    rotate_left
                    ·intro w'
                     go_simp
                     with_reducible rfl
                    rotate_left
                    ·simp only [Act.put, List.setIfInBounds_toArray, List.set_cons_zero, List.set_cons_succ, i64_w, i32_w]
                     rfl
                    refine pure_ (i := 5) (N := some 97) (v := ?_) (a' := ?_) #[true, true, true, true, true, true, false, false, false, false, false, false, false, false] rfl rfl (any_of HT_.out (by kernel_rfl)) (fun _ _ _ h => h) (Or.inl ⟨by rfl, ?_⟩) ?_ ?_
                    rotate_left
                    ·intro w'
                     go_simp
                     with_reducible rfl
                    rotate_left
                    ·simp only [Act.put, List.setIfInBounds_toArray, List.set_cons_zero, List.set_cons_succ, i64_w, i32_w]
                     rfl
                    refine pure_ (i := 6) (N := some 98) (v := ?_) (a' := ?_) #[true, true, true, true, true, true, true, false, false, false, false, false, false, false] rfl rfl (any_of HT_.out (by kernel_rfl)) (fun _ _ _ h => h) (Or.inl ⟨by rfl, ?_⟩) ?_ ?_
                    rotate_left
                    ·intro w'
                     go_simp
                     with_reducible rfl
                    rotate_left
                    ·simp only [Act.put, List.setIfInBounds_toArray, List.set_cons_zero, List.set_cons_succ, i64_w, i32_w]
                     rfl
                    refine pure_ (i := 7) (N := some 99) (v := ?_) (a' := ?_) #[true, true, true, true, true, true, true, true, false, false, false, false, false, false] rfl rfl (any_of HT_.out (by kernel_rfl)) (fun _ _ _ h => h) (Or.inl ⟨by rfl, ?_⟩) ?_ ?_
                    rotate_left
                    ·intro w'
                     go_simp
                     with_reducible rfl
                    rotate_left
                    ·simp only [Act.put, List.setIfInBounds_toArray, List.set_cons_zero, List.set_cons_succ, i64_w, i32_w]
                     rfl
                    refine pure_ (i := 8) (N := some 100) (v := ?_) (a' := ?_) #[true, true, true, true, true, true, true, true, true, false, false, false, false, false] rfl rfl (any_of HT_.out (by kernel_rfl)) (fun _ _ _ h => h) (Or.inl ⟨by rfl, ?_⟩) ?_ ?_
                    rotate_left
                    ·intro w'
                     go_simp
                     with_reducible rfl
                    rotate_left
                    ·simp only [Act.put, List.setIfInBounds_toArray, List.set_cons_zero, List.set_cons_succ, i64_w, i32_w]
                     rfl
                    refine pure_ (i := 9) (N := some 101) (v := ?_) (a' := ?_) #[true, true, true, true, true, true, true, true, true, true, false, false, false, false] rfl rfl (any_of HT_.out (by kernel_rfl)) (fun _ _ _ h => h) (Or.inl ⟨by rfl, ?_⟩) ?_ ?_
                    rotate_left
                    ·intro w'
                     go_simp
                     with_reducible rfl
                    rotate_left
                    ·simp only [Act.put, List.setIfInBounds_toArray, List.set_cons_zero, List.set_cons_succ, i64_w, i32_w]
                     rfl
                    refine one_ (i := 10) (N := some 102) #[true, true, true, true, true, true, true, true, true, true, true, false, false, false] rfl rfl (one_of HT_.out (by kernel_rfl)) (by decide) (fun K hK => ?_)
                    refine Kd.R_make_step (Kd.int .u8) _ 5 (by rfl) (N := 102) rfl 22 _ _ rfl (ji38) rfl rfl Try.underlying22 (.int .u8 0) 1 info5 rfl (by decide) (by omega) 0 (ok := fun _ => True) (okp := fun _ => True) rfl (fun _ hk => hk) trivial (of_decide_eq_true (by first | (with_reducible assumption) | assumption)) (Nat.le_trans (Nat.mul_le_mul_right _ (of_decide_eq_true (by first | (with_reducible assumption) | assumption) : (ji38).toNat ≤ 281474976710656)) (by omega)) (Below.refl _ _) (Nat.le_refl _) ?_
                    intro v161 w49 ho50 hb hg_ hnew_
                    have HS0_ := (hb.cell (World.block_lt_of_cell? _ _ (hHeld))).trans (hHeld)
                    clear hg_ hnew_
                    (first | rw [← Ny160.out] at ho50 | (simp only [Int.reduceToNat] at ho50; rw [← Ny160.out] at ho50))
                    have n0_ := Aside0.mk (Kd.R_elder' (by (with_reducible repeat (first | apply Kd.R_alloc | apply Kd.R_drewN | apply Kd.R_drew)); exact HO154.out) (Kd.R_base ho50) hb)
                    have n1_ := Aside0.mk (Kd.R_lower (Kd.R_new' ho50 (Kd.R_lt (by (with_reducible repeat (first | apply Kd.R_alloc | apply Kd.R_drewN | apply Kd.R_drew)); exact HO154.out))) (below_size (by repeat with_reducible first | exact HB.out | apply below_alloc | apply pw_below_drewN | apply below_drew1)))
                    have n2_ := Aside0.mk (Kd.C_below (by repeat (first | (with_reducible exact HR159.out) | (with_reducible refine Kd.C_alloc ?_ _) | (with_reducible refine Kd.C_drewN ?_ _) | (with_reducible refine Kd.C_drew ?_) | exact HR159.out)) hb)
                    have n3_ := Aside0.mk (below_step (by repeat with_reducible first | exact HB.out | apply below_alloc | apply pw_below_drewN | apply below_drew1) hb)
                    clear HO154
                    clear HR159
                    clear HB
                    have HO154 := n0_
                    have HO162 := n1_
                    have HR159 := n2_
                    have HB := n3_
                    clear n0_ n1_ n2_ n3_
                    clear hb ho50
                    obtain ⟨Ao51, co51, eo51⟩ := Kd.R_slice HO162.out
                    (first | subst eo51 | (injection eo51 with f1_ f2_ f3_; have f4_ := f1_.symm; have f5_ := f3_.symm; clear f1_ f2_ f3_; subst f4_; subst f5_))
                    refine hK.out _ _ (HS0_) (fun hHeld => ?_)
                    clear hK K
                    refine norm_ (a' := ?_) ?_ ?_
                    rotate_left
                    ·show Act.put _ (some 102) _ = _
                     simp only [Act.put, List.setIfInBounds_toArray, List.set_cons_zero, List.set_cons_succ, i64_w, i32_w]
                     rfl
                    refine one_ (i := 11) (N := some 103) #[true, true, true, true, true, true, true, true, true, true, true, true, false, false] rfl rfl (one_of HT_.out (by kernel_rfl)) (by decide) (fun K hK => ?_)
                    refine goes_ Try.func37 (by kernel_rfl) rfl #[.slice (some ad155) y156.length co47, .slice Ao51 y160.length co51] (by rfl) rfl rfl (by (try simp only [List.map_toArray, List.map_cons, List.map_nil]); first | done | rfl | (simp only [List.length_drop, List.length_take]; rfl)) ?_
                    with_reducible refine (bytes_Equal.calls _ _ y156 _ _ y160 t163 _ ?side1 ?side2 ?side3 ?side4 A45.out).mono ?_
                    (case side1 => repeat (first | exact (by repeat (first | (with_reducible exact HR159.out) | (with_reducible refine Kd.C_alloc ?_ _) | (with_reducible refine Kd.C_drewN ?_ _) | (with_reducible refine Kd.C_drew ?_) | exact HR159.out)) | (with_reducible refine Kd.C_alloc ?_ _) | (with_reducible refine Kd.C_drewN ?_ _) | (with_reducible refine Kd.C_drew ?_)))
                    (case side2 => exact HC159.out)
                    (case side3 => repeat (first | exact (Kd.R_reads' HO162.out).2.2 | (with_reducible refine Kd.C_alloc ?_ _) | (with_reducible refine Kd.C_drewN ?_ _) | (with_reducible refine Kd.C_drew ?_)))
                    (case side4 => exact (Kd.R_reads' HO162.out).2.1)
                    rintro e w' ⟨rfl, ⟨nd, rfl⟩⟩
                    refine ⟨_, rfl, ?_⟩
                    refine hK.out _ _ (hHeld) (fun hHeld => ?_)
                    clear hK K
                    refine norm_ (a' := ?_) ?_ ?_
                    rotate_left
                    ·show Act.put _ (some 103) _ = _
                     simp only [Act.put, List.setIfInBounds_toArray, List.set_cons_zero, List.set_cons_succ, i64_w, i32_w]
                     rfl
                    refine pure_ (i := 12) (N := some 104) (v := ?_) (a' := ?_) #[true, true, true, true, true, true, true, true, true, true, true, true, true, false] rfl rfl (any_of HT_.out (by kernel_rfl)) (fun _ _ _ h => h) (Or.inl ⟨by rfl, ?_⟩) ?_ ?_
                    rotate_left
                    ·intro w'
                     go_simp
                     with_reducible rfl
                    rotate_left
                    ·simp only [Act.put, List.setIfInBounds_toArray, List.set_cons_zero, List.set_cons_succ, i64_w, i32_w]
                     rfl
                    refine pure_ (i := 13) (N := some 105) (v := ?_) (a' := ?_) #[true, true, true, true, true, true, true, true, true, true, true, true, true, true] rfl rfl (any_of HT_.out (by kernel_rfl)) (fun _ _ _ h => h) (Or.inl ⟨by rfl, ?_⟩) ?_ ?_
                    rotate_left
                    ·intro w'
                     go_simp
                     with_reducible rfl
                    rotate_left
                    ·simp only [Act.put, List.setIfInBounds_toArray, List.set_cons_zero, List.set_cons_succ, i64_w, i32_w]
                     rfl
                    refine done_ (done_of HT_.out (by kernel_rfl)) ?_
                    try go_wp2
                    go_meet
                    case rel => exact ⟨_, (!t163), (by first | rfl | (simp; done) | (simp [*]; done)), (by first | exact H' | (rw [← hji17] at H'; exact H') | (rw [← hji21] at H'; exact H') | (rw [← hji26] at H'; exact H') | (rw [← hji28] at H'; exact H') | (rw [← hji38] at H'; exact H')), ⟨by have := HJ6.out; have := HJ13.out; first | omega | exact Nat.le_refl _⟩, ⟨by (with_reducible repeat (first | apply Kd.R_alloc | apply Kd.R_drewN | apply Kd.R_drew)); exact Kd.R_mono HO154.out (fun _ hk => trivial)⟩, ⟨by repeat with_reducible first | exact HB.out | apply below_alloc | apply pw_below_drewN | apply below_drew1⟩⟩
                   ·rw [if_neg c44] at H
                    exact absurd H (by simp)
                  ·rw [if_neg c43] at H
                   exact absurd H (by simp)
                 ·rw [if_neg c41] at H
                  have c41b0 : ((rd t152 (ji38)) == 1) = false := beq_eq_false_iff_ne.mpr c41
                  have c41b1 : ((rd t152 (ji38)) != 1) = true := bne_iff_ne.mpr c41
                  have H' := Aside0.mk H
                  clear H
                  try go_wp2
                  have n0_ := Aside0.mk (Kd.R_drew HO154.out)
                  have n1_ := Aside0.mk (below_drew1 HB.out)
                  clear HO154
                  clear HB
                  have HO154 := n0_
                  have HB := n1_
                  clear n0_ n1_
                  obtain ⟨Ao53, co53, eo53⟩ := Kd.R_slice HO154.out
                  (first | subst eo53 | (injection eo53 with f1_ f2_ f3_; have f4_ := f1_.symm; have f5_ := f3_.symm; clear f1_ f2_ f3_; subst f4_; subst f5_))
                  have p155 : 0 ≤ ((ji38) : Int) := of_decide_eq_true (by first | (with_reducible assumption) | assumption)
                  have q155 : (ji38) < (t152.length : Int) := of_decide_eq_true (by first | (with_reducible assumption) | assumption)
                  obtain ⟨ad155, e155, hx155_0⟩ := Kd.at_int (Kd.R_reads' HO154.out).2.2 (ji38) p155 q155
                  cases e155
                  replace p155 := eq_true p155
                  replace q155 := eq_true q155
                  refine start_ (n := 14) (S := fun w' => w'.cell? (ad155.add ((ji38)).toNat) = some (.int .u8 (rd t152 (ji38)))) (ds := []) #[false, false, false, false, false, false, false, false, false, false, false, false, false, false] (by kernel_rfl) rfl rfl (hx155_0) (fun hHeld => ?_); refine with_tabW pss_Verify.tab13 pss_Verify.bits13 (fun HT_ HW_ => ?_)
                  generalize w37.drew = w52 at HO154 HB hx155_0 hHeld ⊢
                  refine pure_ (i := 0) (N := some 92) (v := ?_) (a' := ?_) #[true, false, false, false, false, false, false, false, false, false, false, false, false, false] rfl rfl (any_of HT_.out (by kernel_rfl)) (fun _ _ _ h => h) (Or.inl ⟨by rfl, ?_⟩) ?_ ?_
                  rotate_left
                  ·intro w'
                   go_simp
                   with_reducible rfl
                  rotate_left
                  ·simp only [Act.put, List.setIfInBounds_toArray, List.set_cons_zero, List.set_cons_succ, i64_w, i32_w]
                   rfl
                  refine pure_ (i := 1) (N := some 93) (v := ?_) (a' := ?_) #[true, true, false, false, false, false, false, false, false, false, false, false, false, false] rfl rfl (any_of HT_.out (by kernel_rfl)) (fun _ _ _ h => h) (Or.inl ⟨by rfl, ?_⟩) ?_ ?_
                  rotate_left
                  ·intro w'
                   go_simp
                   with_reducible rfl
                  rotate_left
                  ·simp only [Act.put, List.setIfInBounds_toArray, List.set_cons_zero, List.set_cons_succ, i64_w, i32_w]
                   rfl
                  refine pure_ (i := 2) (N := some 94) (v := ?_) (a' := ?_) #[true, true, true, false, false, false, false, false, false, false, false, false, false, false] rfl rfl (any_of HT_.out (by kernel_rfl)) (fun _ _ _ h => h) (Or.inl ⟨by rfl, ?_⟩) ?_ ?_
                  rotate_left
                  ·intro w'
                   go_simp
                   with_reducible rfl
                  rotate_left
                  ·simp only [Act.put, List.setIfInBounds_toArray, List.set_cons_zero, List.set_cons_succ, i64_w, i32_w]
                   rfl
                  refine take_ (i := 3) (N := some 95) (v := ?_) (a' := ?_) #[true, true, true, true, false, false, false, false, false, false, false, false, false, false] rfl rfl (take_ofW HT_.out HW_.out (by kernel_rfl)) (fun _ _ _ h => h) (Or.inl ⟨by rfl, ?_⟩) hHeld ?_ ?_
                  rotate_left
                  ·intro w' s0
                   go_simp
                   with_reducible rfl
                  rotate_left
                  ·simp only [Act.put, List.setIfInBounds_toArray, List.set_cons_zero, List.set_cons_succ, i64_w, i32_w]
                   rfl
                  refine pure_ (i := 4) (N := some 96) (v := ?_) (a' := ?_) #[true, true, true, true, true, false, false, false, false, false, false, false, false, false] rfl rfl (any_of HT_.out (by kernel_rfl)) (fun _ _ _ h => h) (Or.inl ⟨by rfl, ?_⟩) ?_ ?_
                  rotate_left
                  ·intro w'
                   go_simp
                   with_reducible rfl
                  rotate_left
                  ·simp only [Act.put, List.setIfInBounds_toArray, List.set_cons_zero, List.set_cons_succ, i64_w, i32_w]
                   rfl
                  refine pure_ (i := 5) (N := some 97) (v := ?_) (a' := ?_) #[true, true, true, true, true, true, false, false, false, false, false, false, false, false] rfl rfl (any_of HT_.out (by kernel_rfl)) (fun _ _ _ h => h) (Or.inl ⟨by rfl, ?_⟩) ?_ ?_
                  rotate_left
                  ·intro w'
                   go_simp
                   with_reducible rfl
                  rotate_left
                  ·simp only [Act.put, List.setIfInBounds_toArray, List.set_cons_zero, List.set_cons_succ, i64_w, i32_w]
                   rfl
                  refine pure_ (i := 6) (N := some 98) (v := undef) (a' := ?_) #[true, true, true, true, true, true, true, false, false, false, false, false, false, false] rfl rfl (any_of HT_.out (by kernel_rfl)) (fun _ _ _ h => h) (Or.inr ⟨by rfl, rfl⟩) ?_ ?_
                  rotate_left
                  ·simp only [Act.put, List.setIfInBounds_toArray, List.set_cons_zero, List.set_cons_succ, i64_w, i32_w]
                   rfl
                  refine pure_ (i := 7) (N := some 99) (v := undef) (a' := ?_) #[true, true, true, true, true, true, true, true, false, false, false, false, false, false] rfl rfl (any_of HT_.out (by kernel_rfl)) (fun _ _ _ h => h) (Or.inr ⟨by rfl, rfl⟩) ?_ ?_
                  rotate_left
                  ·simp only [Act.put, List.setIfInBounds_toArray, List.set_cons_zero, List.set_cons_succ, i64_w, i32_w]
                   rfl
                  refine pure_ (i := 8) (N := some 100) (v := undef) (a' := ?_) #[true, true, true, true, true, true, true, true, true, false, false, false, false, false] rfl rfl (any_of HT_.out (by kernel_rfl)) (fun _ _ _ h => h) (Or.inr ⟨by rfl, rfl⟩) ?_ ?_
                  rotate_left
                  ·simp only [Act.put, List.setIfInBounds_toArray, List.set_cons_zero, List.set_cons_succ, i64_w, i32_w]
                   rfl
                  refine pure_ (i := 9) (N := some 101) (v := undef) (a' := ?_) #[true, true, true, true, true, true, true, true, true, true, false, false, false, false] rfl rfl (any_of HT_.out (by kernel_rfl)) (fun _ _ _ h => h) (Or.inr ⟨by rfl, rfl⟩) ?_ ?_
                  rotate_left
                  ·simp only [Act.put, List.setIfInBounds_toArray, List.set_cons_zero, List.set_cons_succ, i64_w, i32_w]
                   rfl
                  refine pure_ (i := 10) (N := some 102) (v := undef) (a' := ?_) #[true, true, true, true, true, true, true, true, true, true, true, false, false, false] rfl rfl (any_of HT_.out (by kernel_rfl)) (fun _ _ _ h => h) (Or.inr ⟨by rfl, rfl⟩) ?_ ?_
                  rotate_left
                  ·simp only [Act.put, List.setIfInBounds_toArray, List.set_cons_zero, List.set_cons_succ, i64_w, i32_w]
                   rfl
                  refine pure_ (i := 11) (N := some 103) (v := undef) (a' := ?_) #[true, true, true, true, true, true, true, true, true, true, true, true, false, false] rfl rfl (any_of HT_.out (by kernel_rfl)) (fun _ _ _ h => h) (Or.inr ⟨by rfl, rfl⟩) ?_ ?_
                  rotate_left
                  ·simp only [Act.put, List.setIfInBounds_toArray, List.set_cons_zero, List.set_cons_succ, i64_w, i32_w]
                   rfl
                  refine pure_ (i := 12) (N := some 104) (v := undef) (a' := ?_) #[true, true, true, true, true, true, true, true, true, true, true, true, true, false] rfl rfl (any_of HT_.out (by kernel_rfl)) (fun _ _ _ h => h) (Or.inr ⟨by rfl, rfl⟩) ?_ ?_
                  rotate_left
                  ·simp only [Act.put, List.setIfInBounds_toArray, List.set_cons_zero, List.set_cons_succ, i64_w, i32_w]
                   rfl
                  refine pure_ (i := 13) (N := some 105) (v := ?_) (a' := ?_) #[true, true, true, true, true, true, true, true, true, true, true, true, true, true] rfl rfl (any_of HT_.out (by kernel_rfl)) (fun _ _ _ h => h) (Or.inl ⟨by rfl, ?_⟩) ?_ ?_
                  rotate_left
                  ·intro w'
                   go_simp
                   with_reducible rfl
                  rotate_left
                  ·simp only [Act.put, List.setIfInBounds_toArray, List.set_cons_zero, List.set_cons_succ, i64_w, i32_w]
                   rfl
                  refine done_ (done_of HT_.out (by kernel_rfl)) ?_
                  try go_wp2
                  go_meet
                  case rel => exact ⟨_, (true), (by first | rfl | (simp; done) | (simp [*]; done)), (by first | exact H' | (rw [← hji17] at H'; exact H') | (rw [← hji21] at H'; exact H') | (rw [← hji26] at H'; exact H') | (rw [← hji28] at H'; exact H') | (rw [← hji38] at H'; exact H')), ⟨by have := HJ6.out; have := HJ13.out; first | omega | exact Nat.le_refl _⟩, ⟨by (with_reducible repeat (first | apply Kd.R_alloc | apply Kd.R_drewN | apply Kd.R_drew)); exact HO154.out⟩, ⟨by repeat with_reducible first | exact HB.out | apply below_alloc | apply pw_below_drewN | apply below_drew1⟩⟩
                ·rw [if_neg c40] at H
                 exact absurd H (by simp)
               ·rw [if_neg c39] at H
                exact absurd H (by simp)
              case rest =>
               clear HC34
               try clear c1
               try clear p1
               try clear q1
               try clear hx1
               try clear qi1
               try clear c2
               try clear p2
               try clear c3
               try clear c4
               try clear q4
               try clear p6
               try clear c9
               try clear c9b0
               try clear c9b1
               try clear c10
               try clear c10b0
               try clear c11
               try clear c11b0
               try clear c12
               try clear c12b0
               try clear c13
               try clear p14
               try clear q14
               try clear hx14
               try clear c15
               try clear c15b0
               try clear p15
               try clear q15
               try clear hx15
               try clear qi15
               try clear c16
               try clear c16b0
               try clear c16b1
               try clear c18
               try clear c18b0
               try clear c19
               try clear c19b0
               try clear c20
               try clear c22
               try clear c22b0
               try clear c22b1
               try clear c23
               try clear c23b0
               try clear c23b1
               try clear c24
               try clear c24b0
               try clear c24b1
               try clear c25
               try clear c25b0
               try clear c25b1
               try clear c27
               try clear c27b0
               try clear c27b1
               try clear c29
               try clear c29b0
               try clear c31
               try clear c31b0
               try clear c32
               try clear c32b0
               try clear c32b1
               try clear c37
               try clear c39
               try clear c39b0
               try clear c40
               try clear c40b0
               try clear c41
               try clear c41b0
               try clear c41b1
               try clear c42
               try clear c42b0
               try clear c43
               try clear c43b0
               try clear c43b1
               try clear c44
               try clear c44b0
               try clear c44b1
               try clear q48
               try clear hx148_0
               try clear hx150_0
               try clear hx155_0
               try clear p1
               try clear p14
               try clear p148
               try clear p150
               try clear p155
               try clear p2
               try clear p6
               try clear q1
               try clear q14
               try clear q148
               try clear q150
               try clear q155
               try clear q48
               obtain ⟨kq, x105_33, rfl, HA, HJ33, HO_16, HB⟩ := hcut
               cases kq with
               | zero => exact absurd HA.out (by simp [pss_Verify.j2])
               | succ kj33 =>
                have H := HA.out
                clear HA
                simp only [pss_Verify.j2] at H
                by_cases c54 : x105_33 = true
                ·subst c54
                 have H1 : (some false) = some r := by rw [if_pos rfl] at H; exact H
                 clear H
                 have H := H1
                 clear H1
                 obtain rfl := Option.some.inj H
                 go_wp2
                 go_ret
                 exact ⟨by first | rfl | (simp [errW_none, errW_some] <;> rfl) | (simp only [← hji21, ← hji26, ← hji28]; first | rfl | (simp [errW_none, errW_some] <;> rfl)) | (simp [*, errW_none, errW_some] <;> rfl), by repeat with_reducible first | exact HB.out | apply below_alloc | apply pw_below_drewN | apply below_drew1⟩
                ·replace c54 := Bool.eq_false_iff.mpr c54
                 subst c54
                 have H1 : (if 0 ≤ (wrap64 ((wrap64 ((wrap64 ((wrap64 ((wrap64 (Int.tdiv (wrap64 (a3 + 7)) 8)) - t147)) - 2)) - a4)) + 1)) then (if (wrap64 ((wrap64 ((wrap64 ((wrap64 ((wrap64 (Int.tdiv (wrap64 (a3 + 7)) 8)) - t147)) - 2)) - a4)) + 1)) ≤ (t152.length : Int) then ((pss_digest.f a0 l1 (t152.drop ((wrap64 ((wrap64 ((wrap64 ((wrap64 ((wrap64 (Int.tdiv (wrap64 (a3 + 7)) 8)) - t147)) - 2)) - a4)) + 1)) : Int).toNat)).bind fun t168 => ((bytes_Equal.f t168 ((l2.take ((wrap64 ((wrap64 (Int.tdiv (wrap64 (a3 + 7)) 8)) - 1)) : Int).toNat).drop ((ji21) : Int).toNat)).bind fun t171 => (some t171))) else (none)) else (none)) = some r := by rw [if_neg (show ¬ (false = true) by decide)] at H; exact H
                 clear H
                 have H := H1
                 clear H1
                 obtain ⟨ji55, hji55⟩ : ∃ j_ : Int, (wrap64 ((wrap64 ((wrap64 ((wrap64 ((wrap64 (Int.tdiv (wrap64 (a3 + 7)) 8)) - t147)) - 2)) - a4)) + 1)) = j_ := ⟨_, rfl⟩
                 replace H : (if 0 ≤ (ji55) then (if (ji55) ≤ (t152.length : Int) then ((pss_digest.f a0 l1 (t152.drop ((ji55) : Int).toNat)).bind fun t168 => ((bytes_Equal.f t168 ((l2.take ((wrap64 ((wrap64 (Int.tdiv (wrap64 (a3 + 7)) 8)) - 1)) : Int).toNat).drop ((ji21) : Int).toNat)).bind fun t171 => (some t171))) else (none)) else (none)) = some r := by first | (rw [hji55] at H; exact H) | (simp only [hji55] at H ⊢; exact H)
                 have hji55w : (IntKind.i64.wrap ((wrap64 ((wrap64 ((wrap64 ((wrap64 (Int.tdiv (wrap64 (a3 + 7)) 8)) - t147)) - 2)) - a4)) + 1)) = ji55 := (i64_w _).trans hji55
                 by_cases c56 : 0 ≤ (ji55)
                 ·rw [if_pos c56] at H
                  have c56b0 := eq_true c56
                  have c56b1 : decide (0 ≤ (ji55)) = true := decide_eq_true c56
                  clear c56
                  by_cases c57 : (ji55) ≤ (t152.length : Int)
                  ·rw [if_pos c57] at H
                   have c57b0 := eq_true c57
                   have c57b1 : decide ((ji55) ≤ (t152.length : Int)) = true := decide_eq_true c57
                   clear c57
                   obtain ⟨y164, hy164⟩ : ∃ y_ : List Int, y_ = (t152.drop ((ji55) : Int).toNat) := ⟨_, rfl⟩
                   replace H : ((pss_digest.f a0 l1 y164).bind fun t168 => ((bytes_Equal.f t168 ((l2.take ((wrap64 ((wrap64 (Int.tdiv (wrap64 (a3 + 7)) 8)) - 1)) : Int).toNat).drop ((ji21) : Int).toNat)).bind fun t171 => (some t171))) = some r := by first | (rw [hy164]; with_reducible exact H) | (have H2_ := (Option.bind_some _ _).symm.trans H; rw [hy164]; with_reducible exact H2_) | (have H2_ := (Option.bind_some _ _).symm.trans H; with_reducible exact H2_) | with_reducible exact H | (rw [hy164]; exact H) | exact H
                   have Ny164 := Aside0.mk hy164
                   clear hy164
                   replace H := Option.bind_eq_some_iff.mp H
                   obtain ⟨t168, A580, H⟩ := H
                   replace H : ((bytes_Equal.f t168 ((l2.take ((wrap64 ((wrap64 (Int.tdiv (wrap64 (a3 + 7)) 8)) - 1)) : Int).toNat).drop ((ji21) : Int).toNat)).bind fun t171 => (some t171)) = some r := H
                   have A58 := Aside0.mk A580
                   clear A580
                   replace H := Option.bind_eq_some_iff.mp H
                   obtain ⟨t171, A590, H⟩ := H
                   replace H : (some t171) = some r := H
                   have A59 := Aside0.mk A590
                   clear A590
                   obtain rfl := Option.some.inj H
                   obtain ⟨Ao61, co61, eo61⟩ := Kd.R_slice HO_16.out
                   subst eo61
                   have q60 : ((ji55) : Int) ≤ ((t152.length : Int) : Int) := of_decide_eq_true (by first | (with_reducible assumption) | assumption)
                   obtain ⟨i060, hi060, _, hsz60, _⟩ := info_parts info5
                   have hroom60 : t152.length ≤ co61 := (Kd.R_reads' HO_16.out).2.1
                   have hC60 : Kd.C (Kd.int .u8) _ Ao61 t152.length t152 := (Kd.R_reads' HO_16.out).2.2
                   have q060 : (0 : Int) ≤ ((ji55) : Int) := of_decide_eq_true (by first | (with_reducible assumption) | assumption)
                   have hcut60 := cut_from (P := Try.prog) 22 5 .i64 Try.underlying22 hi060 1 hsz60 Ao61 t152.length co61 (ji55) q060 q60
                   have hr60 := Kd.C_drop (m := ((ji55) : Int).toNat) (c := co61) hC60 (by omega) hroom60
                   obtain ⟨A60, hA60⟩ : ∃ A1, A1 = (if co61 = ((ji55) : Int).toNat then Ao61 else (Ao61 : Option Addr).map (·.add (((ji55) : Int).toNat * 1))) := ⟨_, rfl⟩
                   obtain ⟨c60, hc60⟩ : ∃ c1, c1 = co61 - ((ji55) : Int).toNat := ⟨_, rfl⟩
                   have hy60 : y164.length = t152.length - ((ji55) : Int).toNat := (by rw [Ny164.out, List.length_drop] <;> omega)
                   rw [show (t152).drop ((ji55) : Int).toNat = y164 from Ny164.out.symm] at hr60
                   replace hr60 : Kd.C (Kd.int .u8) _ A60 y164.length y164 := (by rw [hA60]; exact hr60)
                   rw [← hy60, ← hA60, ← hc60] at hcut60
                   have HR167 := Aside0.mk hr60
                   have HC167 := Aside0.mk (show y164.length ≤ c60 from by rw [hy60, hc60]; exact Nat.sub_le_sub_right hroom60 _)
                   clear hr60 hC60 hroom60 hi060 hsz60 hc60
                   have KY60 := Aside0.mk hy60
                   have KA60 := Aside0.mk hA60
                   clear hy60 hA60
                   have KL60 := Aside0.mk (show ((ji55) : Int).toNat ≤ t152.length from by omega)
                   replace q60 := eq_true q60
                   go_wp2_with (first | ((with_reducible refine gate_callee (f := 30) rfl ?_); refine goesL_ (some 112) rfl rfl Try.func30 (by kernel_rfl) rfl #[.int .i64 a0, .slice A1 l1.length c1, .slice A60 y164.length c60] rfl (by (try simp only [List.map_toArray, List.map_cons, List.map_nil]); first | done | rfl | (simp only [List.length_drop, List.length_take]; rfl)) ?_; (with_reducible refine (pss_digest.calls a0 _ _ l1 _ _ y164 t168 _ ?side1 ?side2 ?side3 ?side4 A58.out).mono ?_); (case side1 => repeat (first | exact (Kd.C_below HR1.out HB.out) | (with_reducible refine Kd.C_alloc ?_ _) | (with_reducible refine Kd.C_drewN ?_ _) | (with_reducible refine Kd.C_drew ?_))); (case side2 => exact HC1.out); (case side3 => repeat (first | exact (by repeat (first | (with_reducible exact HR167.out) | (with_reducible refine Kd.C_alloc ?_ _) | (with_reducible refine Kd.C_drewN ?_ _) | (with_reducible refine Kd.C_drew ?_) | exact HR167.out)) | (with_reducible refine Kd.C_alloc ?_ _) | (with_reducible refine Kd.C_drewN ?_ _) | (with_reducible refine Kd.C_drew ?_))); (case side4 => exact HC167.out); rintro e w62 ⟨v169, rfl, ho0, hb⟩; refine ⟨_, rfl, ?_⟩; have n0_ := Aside0.mk (Kd.R_below (by (with_reducible repeat (first | apply Kd.R_alloc | apply Kd.R_drewN | apply Kd.R_drew)); exact HO_16.out) hb); have n1_ := Aside0.mk (Kd.V_lower (Kd.V_mono (ok' := fun k_ => some k_ ≠ (.slice Ao61 t152.length co61 : Value).ownBlock) ho0 (fun k_ hk_ => (Kd.fresh' (Kd.R_lt (by (with_reducible repeat (first | apply Kd.R_alloc | apply Kd.R_drewN | apply Kd.R_drew)); exact HO_16.out)) k_ hk_))) (below_size (by repeat with_reducible first | exact HB.out | apply below_alloc | apply pw_below_drewN | apply below_drew1))); have n2_ := Aside0.mk (Kd.C_below (by repeat (first | (with_reducible exact HR167.out) | (with_reducible refine Kd.C_alloc ?_ _) | (with_reducible refine Kd.C_drewN ?_ _) | (with_reducible refine Kd.C_drew ?_) | exact HR167.out)) hb); have n3_ := Aside0.mk (below_step (by repeat with_reducible first | exact HB.out | apply below_alloc | apply pw_below_drewN | apply below_drew1) hb); clear HO_16; clear HR167; clear HB; have HO_16 := n0_; have HO170 := n1_; have HR167 := n2_; have HB := n3_; clear n0_ n1_ n2_ n3_; (try clear hb); (try clear hb2); (try clear hk); (try clear hi); (try clear ho0); obtain ⟨Ao63, co63, eo63⟩ := Kd.V_slice HO170.out; subst eo63) | ((with_reducible refine gate_callee (f := 37) rfl ?_); refine goesL_ (some 114) rfl rfl Try.func37 (by kernel_rfl) rfl #[.slice Ao63 t168.length co63, .slice A35 ((l2.take ((wrap64 ((wrap64 (Int.tdiv (wrap64 (a3 + 7)) 8)) - 1)) : Int).toNat).drop ((ji21) : Int).toNat).length (c2 - (ji21).toNat)] rfl (by (try simp only [List.map_toArray, List.map_cons, List.map_nil]); first | done | (rw [show ((l2.take ((wrap64 ((wrap64 (Int.tdiv (wrap64 (a3 + 7)) 8)) - 1)) : Int).toNat).drop ((ji21) : Int).toNat).length = ((wrap64 ((wrap64 (Int.tdiv (wrap64 (a3 + 7)) 8)) - 1)).toNat - (ji21).toNat) from (by rw [List.length_drop, List.length_take]; have h_ : ((wrap64 ((wrap64 (Int.tdiv (wrap64 (a3 + 7)) 8)) - 1)) : Int) ≤ (l2.length : Int) := of_decide_eq_true (by first | (with_reducible assumption) | assumption); omega)] <;> rfl) | (simp only [hji21]; rfl) | rfl | (simp only [List.length_drop, List.length_take]; rfl) | (simp only [KM30]; rfl) | (simp only [KM35]; rfl) | (simp (disch := assumption) only [List.length_drop, px_take_len, Int.ofNat_toNat] <;> rfl)) ?_; (with_reducible refine (bytes_Equal.calls _ _ t168 _ _ ((l2.take ((wrap64 ((wrap64 (Int.tdiv (wrap64 (a3 + 7)) 8)) - 1)) : Int).toNat).drop ((ji21) : Int).toNat) t171 _ ?side1 ?side2 ?side3 ?side4 A59.out).mono ?_); (case side1 => repeat (first | exact (Kd.V_reads' HO170.out).2.2 | (with_reducible refine Kd.C_alloc ?_ _) | (with_reducible refine Kd.C_drewN ?_ _) | (with_reducible refine Kd.C_drew ?_))); (case side2 => exact (Kd.V_reads' HO170.out).2.1); (case side3 => repeat (first | exact (Kd.C_below HR149.out HB.out) | (with_reducible refine Kd.C_alloc ?_ _) | (with_reducible refine Kd.C_drewN ?_ _) | (with_reducible refine Kd.C_drew ?_))); (case side4 => exact HC149.out); rintro e w' ⟨rfl, ⟨nd, rfl⟩⟩; refine ⟨_, rfl, ?_⟩))
                   go_ret
                   exact ⟨by first | rfl | (simp [errW_none, errW_some] <;> rfl) | (simp only [← hji21, ← hji26, ← hji28, ← hji55]; first | rfl | (simp [errW_none, errW_some] <;> rfl)) | (simp [*, errW_none, errW_some] <;> rfl), by repeat with_reducible first | exact HB.out | apply below_alloc | apply pw_below_drewN | apply below_drew1⟩
                  ·rw [if_neg c57] at H
                   exact absurd H (by simp)
                 ·rw [if_neg c56] at H
                  exact absurd H (by simp)
             ·rw [if_neg c32] at H
              exact absurd H (by simp)
           ·rw [if_neg c27] at H
            exact absurd H (by simp)
          ·rw [if_neg c25] at H
           exact absurd H (by simp)
         ·rw [if_neg c24] at H
          exact absurd H (by simp)
        ·rw [if_neg c23] at H
         exact absurd H (by simp)
       ·rw [if_neg c22] at H
        exact absurd H (by simp)

end Go.Proofs.Ytincnnmojgphmaa.PP
/- one space a level -/
