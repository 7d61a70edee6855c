/- Functions of the program, each with its contract over this translation: written by a program of this work over the kit's print. -/
import Derived.Test.YtincnnmojgphmaaPOx0
namespace Go.Proofs.Ytincnnmojgphmaa.PO
open Go.RowKit Go.Proofs.Ytincnnmojgphmaa.H Go.Proofs.Ytincnnmojgphmaa.PT Go.Proofs.YtincnnmojgphmaaW.PrintWords Go.Proofs.YtincnnmojgphmaaW.PrintLast Go.Proofs.YtincnnmojgphmaaW.PrintMore
attribute [local go_sem] max2_int min2_int max_two min_two max_three min_three max_four min_four   -- for this text's walks alone
set_option linter.unusedVariables false
set_option linter.unusedSimpArgs false

/-! ### sconceref23_Open: function 21 -/
mutual
def sconceref23_Open.j0 : Nat → Int → List Int → List Int → Int → Bool → Option (List Int × Int)
  | 0, _, _, _, _, _ => none
  | k + 1, x0, x1, x2, x8, x31 => if x31 = true then (some (([] : List Int), 230)) else (if 0 ≤ (wrap64 (1 + x8)) then (if (wrap64 (1 + x8)) ≤ (x2.length : Int) then ((sconceref13_Mask.f k x0 (x2.drop ((wrap64 (1 + x8)) : Int).toNat) x8).bind fun bt105 => (if 1 ≤ (wrap64 (1 + x8)) then ((sconceref13_Xor.f k ((x2.take ((wrap64 (1 + x8)) : Int).toNat).drop 1) bt105.1).bind fun t110 => ((sconceref13_Mask.f k x0 t110 ((x2.drop ((wrap64 (1 + x8)) : Int).toNat).length : Int)).bind fun bt113 => ((sconceref13_Xor.f k (x2.drop ((wrap64 (1 + x8)) : Int).toNat) bt113.1).bind fun t117 => ((sconceref13_Sum.f x0 x1).bind fun bt120 => (if 0 < (x2.length : Int) then (if (rd x2 0) = 0 then (if 0 ≤ x8 then (if x8 ≤ (t117.length : Int) then ((sconceref13_Same.f (t117.take (x8 : Int).toNat) bt120.1).bind fun t129 => (sconceref23_Open.j1 k x8 t117 (!t129))) else (none)) else (none)) else (sconceref23_Open.j1 k x8 t117 true)) else (none)))))) else (none))) else (none)) else (none))
def sconceref23_Open.j1 : Nat → Int → List Int → Bool → Option (List Int × Int)
  | 0, _, _, _ => none
  | k + 1, x8, x9, x76 => if x76 = true then (some (([] : List Int), 230)) else (sconceref23_Open.l0 k x9 x8)
def sconceref23_Open.l0 : Nat → List Int → Int → Option (List Int × Int)
  | 0, _, _ => none
  | k + 1, x9, x16 => if x16 < (x9.length : Int) then (if 0 ≤ x16 then (if (rd x9 x16) = 1 then (if 0 ≤ (wrap64 (x16 + 1)) then (if (wrap64 (x16 + 1)) ≤ (x9.length : Int) then ((some (x9.drop ((wrap64 (x16 + 1)) : Int).toNat : List Int)).bind fun y131 => (if ([] : List Int).length + y131.length < 140737488355328 then (some ((([] : List Int) ++ y131), 0)) else (none))) else (none)) else (none)) else (if (rd x9 x16) = 0 then (sconceref23_Open.l0 k x9 (wrap64 (x16 + 1))) else (some (([] : List Int), 230)))) else (none)) else (some (([] : List Int), 230))
end
def sconceref23_Open.f (k : Nat) (a0 : Int) (l1 : List Int) (l2 : List Int) : Option (List Int × Int) := (sconceref13_Size.f a0).bind fun t103 => (if t103 = 0 then (some (([] : List Int), 130)) else (if (l2.length : Int) < (wrap64 ((wrap64 (2 * t103)) + 2)) then (sconceref23_Open.j0 k a0 l1 l2 t103 true) else (sconceref23_Open.j0 k a0 l1 l2 t103 (decide ((l2.length : Int) > 1024)))))
theorem sconceref23_Open.mono_l : ∀ k, (∀ y0 y1 y2 y3 y4, LeO (sconceref23_Open.j0 k y0 y1 y2 y3 y4) (sconceref23_Open.j0 (k + 1) y0 y1 y2 y3 y4)) ∧ (∀ y0 y1 y2, LeO (sconceref23_Open.j1 k y0 y1 y2) (sconceref23_Open.j1 (k + 1) y0 y1 y2)) ∧ (∀ y0 y1, LeO (sconceref23_Open.l0 k y0 y1) (sconceref23_Open.l0 (k + 1) y0 y1))
  | 0 => ⟨fun _ _ _ _ _ r h => by simp [sconceref23_Open.j0] at h, fun _ _ _ r h => by simp [sconceref23_Open.j1] at h, fun _ _ r h => by simp [sconceref23_Open.l0] at h⟩
  | k + 1 => by
    obtain ⟨ih0, ih1, ih2⟩ := sconceref23_Open.mono_l k
    refine ⟨?_, ?_, ?_⟩
    · intro y0 y1 y2 y3 y4
      unfold sconceref23_Open.j0
      repeat' first
      | (with_reducible exact ih0 _ _ _ _ _)
      | (with_reducible exact ih1 _ _ _)
      | (with_reducible exact ih2 _ _)
      | (with_reducible exact sconceref13_Mask.mono _ _ _ _)
      | (with_reducible exact sconceref13_Xor.mono _ _ _)
      | (with_reducible exact LeO.refl _)
      | (with_reducible exact LeO.none _)
      | (with_reducible refine LeO.ite ?_ ?_)
      | (with_reducible refine LeO.bind ?_ (fun _ => ?_))
      | exact ih0 _ _ _ _ _
      | exact ih1 _ _ _
      | exact ih2 _ _
      | exact sconceref13_Mask.mono _ _ _ _
      | exact sconceref13_Xor.mono _ _ _
      | exact LeO.none _
      | refine LeO.ite ?_ ?_
      | refine LeO.bind ?_ (fun _ => ?_)
    · intro y0 y1 y2
      unfold sconceref23_Open.j1
      repeat' first
      | (with_reducible exact ih0 _ _ _ _ _)
      | (with_reducible exact ih1 _ _ _)
      | (with_reducible exact ih2 _ _)
      | (with_reducible exact sconceref13_Mask.mono _ _ _ _)
      | (with_reducible exact sconceref13_Xor.mono _ _ _)
      | (with_reducible exact LeO.refl _)
      | (with_reducible exact LeO.none _)
      | (with_reducible refine LeO.ite ?_ ?_)
      | (with_reducible refine LeO.bind ?_ (fun _ => ?_))
      | exact ih0 _ _ _ _ _
      | exact ih1 _ _ _
      | exact ih2 _ _
      | exact sconceref13_Mask.mono _ _ _ _
      | exact sconceref13_Xor.mono _ _ _
      | exact LeO.none _
      | refine LeO.ite ?_ ?_
      | refine LeO.bind ?_ (fun _ => ?_)
    · intro y0 y1
      unfold sconceref23_Open.l0
      repeat' first
      | (with_reducible exact ih0 _ _ _ _ _)
      | (with_reducible exact ih1 _ _ _)
      | (with_reducible exact ih2 _ _)
      | (with_reducible exact sconceref13_Mask.mono _ _ _ _)
      | (with_reducible exact sconceref13_Xor.mono _ _ _)
      | (with_reducible exact LeO.refl _)
      | (with_reducible exact LeO.none _)
      | (with_reducible refine LeO.ite ?_ ?_)
      | (with_reducible refine LeO.bind ?_ (fun _ => ?_))
      | exact ih0 _ _ _ _ _
      | exact ih1 _ _ _
      | exact ih2 _ _
      | exact sconceref13_Mask.mono _ _ _ _
      | exact sconceref13_Xor.mono _ _ _
      | exact LeO.none _
      | refine LeO.ite ?_ ?_
      | refine LeO.bind ?_ (fun _ => ?_)
theorem sconceref23_Open.mono : ∀ a0 a1 a2 k, LeO (sconceref23_Open.f k a0 a1 a2) (sconceref23_Open.f (k + 1) a0 a1 a2) := by
  intro a0 a1 a2 k
  obtain ⟨ih0, ih1, ih2⟩ := sconceref23_Open.mono_l k
  unfold sconceref23_Open.f
  repeat' first
      | (with_reducible exact ih0 _ _ _ _ _)
      | (with_reducible exact ih1 _ _ _)
      | (with_reducible exact ih2 _ _)
      | (with_reducible exact sconceref13_Mask.mono _ _ _ _)
      | (with_reducible exact sconceref13_Xor.mono _ _ _)
      | (with_reducible exact LeO.refl _)
      | (with_reducible exact LeO.none _)
      | (with_reducible refine LeO.ite ?_ ?_)
      | (with_reducible refine LeO.bind ?_ (fun _ => ?_))
      | exact ih0 _ _ _ _ _
      | exact ih1 _ _ _
      | exact ih2 _ _
      | exact sconceref13_Mask.mono _ _ _ _
      | exact sconceref13_Xor.mono _ _ _
      | exact LeO.none _
      | refine LeO.ite ?_ ?_
      | refine LeO.bind ?_ (fun _ => ?_)
set_option maxHeartbeats 8000000 in
set_option maxRecDepth 100000 in
theorem sconceref23_Open.calls (k : Nat) (a0 : Int) (A1 : Option Addr) (c1 : Nat) (l1 : List Int) (A2 : Option Addr) (c2 : Nat) (l2 : List Int) (r1 : List Int) (r2 : Int) (w : World) (hr1 : Kd.C (Kd.int .u8) w A1 l1.length l1) (hc1 : l1.length ≤ c1) (hr2 : Kd.C (Kd.int .u8) w A2 l2.length l2) (hc2 : l2.length ≤ c2) (h : sconceref23_Open.f k a0 l1 l2 = some (r1, r2)) :
    Calls Try.prog 21 #[.int .i64 a0, .slice A1 l1.length c1, .slice A2 l2.length c2] w fun e w' => ∃ v0_ : Value, e = .returned (.tuple #[v0_, .int .i64 r2]) ∧ Kd.R (Kd.int .u8) 5 w' w.heap.size (fun _ => True) v0_ r1 ∧ Below w.heap.size w w' := by
  have HR1 := Aside0.mk hr1
  have HC1 := Aside0.mk hc1
  clear hr1 hc1
  have HR2 := Aside0.mk hr2
  have HC2 := Aside0.mk hc2
  clear hr2 hc2
  have HB := Aside0.mk (Below.refl w.heap.size w)
  have H : ((sconceref13_Size.f a0).bind fun t103 => (if t103 = 0 then (some (([] : List Int), 130)) else (if (l2.length : Int) < (wrap64 ((wrap64 (2 * t103)) + 2)) then (sconceref23_Open.j0 k a0 l1 l2 t103 true) else (sconceref23_Open.j0 k a0 l1 l2 t103 (decide ((l2.length : Int) > 1024)))))) = some (r1, r2) := h
  clear h
  replace H := Option.bind_eq_some_iff.mp H
  obtain ⟨t103, A40, H⟩ := H
  replace H : (if t103 = 0 then (some (([] : List Int), 130)) else (if (l2.length : Int) < (wrap64 ((wrap64 (2 * t103)) + 2)) then (sconceref23_Open.j0 k a0 l1 l2 t103 true) else (sconceref23_Open.j0 k a0 l1 l2 t103 (decide ((l2.length : Int) > 1024))))) = some (r1, r2) := H
  have A4 := Aside0.mk A40
  clear A40
  by_cases c5 : t103 = 0
  · rw [if_pos c5] at H
    have c5b0 : (t103 == 0) = true := beq_iff_eq.mpr c5
    have c5b1 : (t103 != 0) = false := bne_eq_false_iff_eq.mpr c5
    clear c5
    simp only [Option.some.injEq, Prod.mk.injEq] at H
    obtain ⟨rfl, rfl⟩ := H
    go_enter Try.func21, Try.ntmps21
    go_wp2_with (first | ((with_reducible refine gate_callee (f := 33) rfl ?_); refine goesL_ (some 18) rfl rfl Try.func33 (by kernel_rfl) rfl #[.int .i64 a0] rfl (by (try simp only [List.map_toArray, List.map_cons, List.map_nil]); first | done | rfl | (simp only [List.length_drop, List.length_take]; rfl)) ?_; (with_reducible refine (sconceref13_Size.calls a0 t103 _ A4.out).mono ?_); rintro e w' ⟨rfl, ⟨nd, rfl⟩⟩; refine ⟨_, rfl, ?_⟩))
    go_ret2
    exact ⟨_, by first | rfl | (simp [errW_none, errW_some] <;> rfl) | (simp [*, errW_none, errW_some] <;> rfl), by first | exact Kd.R_nil _ _ _ _ _ | exact Kd.N_nil _ _ _ _ _ | exact Kd.V_nil _ _ _ _ _ | exact Kd.Q_nil _ _ _ _ _ | exact Kd.S_nil _ _ _ _ _, by repeat (first | (with_reducible first | exact HB.out | apply below_alloc | apply pw_below_drewN | apply below_drew1) | exact HB.out)⟩
  · rw [if_neg c5] at H
    have c5b0 : (t103 == 0) = false := beq_eq_false_iff_ne.mpr c5
    have c5b1 : (t103 != 0) = true := bne_iff_ne.mpr c5
    have HC6 := Aside0.mk H
    clear H
    go_enter Try.func21, Try.ntmps21
    go_upto_region 4 with (first | ((with_reducible refine gate_callee (f := 33) rfl ?_); refine goesL_ (some 18) rfl rfl Try.func33 (by kernel_rfl) rfl #[.int .i64 a0] rfl (by (try simp only [List.map_toArray, List.map_cons, List.map_nil]); first | done | rfl | (simp only [List.length_drop, List.length_take]; rfl)) ?_; (with_reducible refine (sconceref13_Size.calls a0 t103 _ A4.out).mono ?_); rintro e w' ⟨rfl, ⟨nd, rfl⟩⟩; refine ⟨_, rfl, ?_⟩))
    (try simp only [Act.put, List.setIfInBounds_toArray, List.set_cons_zero, List.set_cons_succ])
    go_cut [31] (fun v31 wc => ∃ (kq : Nat) (x31_5 : Bool), v31 = .bool x31_5 ∧ Aside0 (sconceref23_Open.j0 kq a0 l1 l2 t103 x31_5 = some (r1, r2)) ∧ Aside0 (kq ≤ k) ∧ Aside0 (Below w.heap.size w wc))
    case first =>
      have H := HC6.out
      clear HC6
      by_cases c7 : (l2.length : Int) < (wrap64 ((wrap64 (2 * t103)) + 2))
      · rw [if_pos c7] at H
        have c7b0 : decide ((l2.length : Int) < (wrap64 ((wrap64 (2 * t103)) + 2))) = true := decide_eq_true c7
        clear c7
        (first | rw [c7b0] | (simp only [i64_w, i32_w]; rw [c7b0]) | skip)
        have H' := Aside0.mk H
        clear H
        go_wp2
        go_meet
        case rel => exact ⟨_, (true), (by first | rfl | (simp; done) | (simp [*]; done)), H', ⟨by first | omega | exact Nat.le_refl _⟩, ⟨by repeat (first | (with_reducible first | exact HB.out | apply below_alloc | apply pw_below_drewN | apply below_drew1) | exact HB.out)⟩⟩
      · rw [if_neg c7] at H
        have c7b0 : decide ((l2.length : Int) < (wrap64 ((wrap64 (2 * t103)) + 2))) = false := decide_eq_false c7
        clear c7
        (first | rw [c7b0] | (simp only [i64_w, i32_w]; rw [c7b0]) | skip)
        have H' := Aside0.mk H
        clear H
        go_wp2
        go_meet
        case rel => exact ⟨_, (decide ((l2.length : Int) > 1024)), (by first | rfl | (simp; done) | (simp [*]; done)), H', ⟨by first | omega | exact Nat.le_refl _⟩, ⟨by repeat (first | (with_reducible first | exact HB.out | apply below_alloc | apply pw_below_drewN | apply below_drew1) | exact HB.out)⟩⟩
    case rest =>
      clear HC6
      try clear c1
      try clear c2
      try clear p2
      try clear c3
      try clear c5
      try clear c5b0
      try clear c5b1
      try clear p6
      try clear c7
      try clear c7b0
      obtain ⟨kq, x31_5, rfl, HA, HJ5, HB⟩ := hcut
      cases kq with
      | zero => exact absurd HA.out (by simp [sconceref23_Open.j0])
      | succ kj5 =>
        have H := HA.out
        clear HA
        simp only [sconceref23_Open.j0] at H
        by_cases c8 : x31_5 = true
        · subst c8
          have H1 : (some (([] : List Int), 230)) = some (r1, r2) := by rw [if_pos rfl] at H; exact H
          clear H
          have H := H1
          clear H1
          simp only [Option.some.injEq, Prod.mk.injEq] at H
          obtain ⟨rfl, rfl⟩ := H
          go_wp2
          go_ret2
          exact ⟨_, by first | rfl | (simp [errW_none, errW_some] <;> rfl) | (simp [*, errW_none, errW_some] <;> rfl), by first | exact Kd.R_nil _ _ _ _ _ | exact Kd.N_nil _ _ _ _ _ | exact Kd.V_nil _ _ _ _ _ | exact Kd.Q_nil _ _ _ _ _ | exact Kd.S_nil _ _ _ _ _, by repeat (first | (with_reducible first | exact HB.out | apply below_alloc | apply pw_below_drewN | apply below_drew1) | exact HB.out)⟩
        · replace c8 := Bool.eq_false_iff.mpr c8
          subst c8
          have H1 : (if 0 ≤ (wrap64 (1 + t103)) then (if (wrap64 (1 + t103)) ≤ (l2.length : Int) then ((sconceref13_Mask.f kj5 a0 (l2.drop ((wrap64 (1 + t103)) : Int).toNat) t103).bind fun bt105 => (if 1 ≤ (wrap64 (1 + t103)) then ((sconceref13_Xor.f kj5 ((l2.take ((wrap64 (1 + t103)) : Int).toNat).drop 1) bt105.1).bind fun t110 => ((sconceref13_Mask.f kj5 a0 t110 ((l2.drop ((wrap64 (1 + t103)) : Int).toNat).length : Int)).bind fun bt113 => ((sconceref13_Xor.f kj5 (l2.drop ((wrap64 (1 + t103)) : Int).toNat) bt113.1).bind fun t117 => ((sconceref13_Sum.f a0 l1).bind fun bt120 => (if 0 < (l2.length : Int) then (if (rd l2 0) = 0 then (if 0 ≤ t103 then (if t103 ≤ (t117.length : Int) then ((sconceref13_Same.f (t117.take (t103 : Int).toNat) bt120.1).bind fun t129 => (sconceref23_Open.j1 kj5 t103 t117 (!t129))) else (none)) else (none)) else (sconceref23_Open.j1 kj5 t103 t117 true)) else (none)))))) else (none))) else (none)) else (none)) = some (r1, r2) := by rw [if_neg (show ¬ (false = true) by decide)] at H; exact H
          clear H
          have H := H1
          clear H1
          obtain ⟨ji9, hji9⟩ : ∃ j_ : Int, (wrap64 (1 + t103)) = j_ := ⟨_, rfl⟩
          replace H : (if 0 ≤ (ji9) then (if (ji9) ≤ (l2.length : Int) then ((sconceref13_Mask.f kj5 a0 (l2.drop ((ji9) : Int).toNat) t103).bind fun bt105 => (if 1 ≤ (ji9) then ((sconceref13_Xor.f kj5 ((l2.take ((ji9) : Int).toNat).drop 1) bt105.1).bind fun t110 => ((sconceref13_Mask.f kj5 a0 t110 ((l2.drop ((ji9) : Int).toNat).length : Int)).bind fun bt113 => ((sconceref13_Xor.f kj5 (l2.drop ((ji9) : Int).toNat) bt113.1).bind fun t117 => ((sconceref13_Sum.f a0 l1).bind fun bt120 => (if 0 < (l2.length : Int) then (if (rd l2 0) = 0 then (if 0 ≤ t103 then (if t103 ≤ (t117.length : Int) then ((sconceref13_Same.f (t117.take (t103 : Int).toNat) bt120.1).bind fun t129 => (sconceref23_Open.j1 kj5 t103 t117 (!t129))) else (none)) else (none)) else (sconceref23_Open.j1 kj5 t103 t117 true)) else (none)))))) else (none))) else (none)) else (none)) = some (r1, r2) := by first | (rw [hji9] at H; exact H) | (simp only [hji9] at H ⊢; exact H)
          have hji9w : (IntKind.i64.wrap (1 + t103)) = ji9 := (i64_w _).trans hji9
          by_cases c10 : 0 ≤ (ji9)
          · rw [if_pos c10] at H
            have c10b0 := eq_true c10
            have c10b1 : decide (0 ≤ (ji9)) = true := decide_eq_true c10
            clear c10
            by_cases c11 : (ji9) ≤ (l2.length : Int)
            · rw [if_pos c11] at H
              have c11b0 := eq_true c11
              have c11b1 : decide ((ji9) ≤ (l2.length : Int)) = true := decide_eq_true c11
              clear c11
              replace H := Option.bind_eq_some_iff.mp H
              obtain ⟨⟨t105, t106⟩, A120, H⟩ := H
              replace H : (if 1 ≤ (ji9) then ((sconceref13_Xor.f kj5 ((l2.take ((ji9) : Int).toNat).drop 1) t105).bind fun t110 => ((sconceref13_Mask.f kj5 a0 t110 ((l2.drop ((ji9) : Int).toNat).length : Int)).bind fun bt113 => ((sconceref13_Xor.f kj5 (l2.drop ((ji9) : Int).toNat) bt113.1).bind fun t117 => ((sconceref13_Sum.f a0 l1).bind fun bt120 => (if 0 < (l2.length : Int) then (if (rd l2 0) = 0 then (if 0 ≤ t103 then (if t103 ≤ (t117.length : Int) then ((sconceref13_Same.f (t117.take (t103 : Int).toNat) bt120.1).bind fun t129 => (sconceref23_Open.j1 kj5 t103 t117 (!t129))) else (none)) else (none)) else (sconceref23_Open.j1 kj5 t103 t117 true)) else (none)))))) else (none)) = some (r1, r2) := H
              have A12 := Aside0.mk A120
              clear A120
              by_cases c13 : 1 ≤ (ji9)
              · rw [if_pos c13] at H
                have c13b0 := eq_true c13
                have c13b1 : decide (1 ≤ (ji9)) = true := decide_eq_true c13
                clear c13
                have c14b0 := eq_true (of_decide_eq_true (by first | (with_reducible assumption) | assumption) : (ji9) ≤ (l2.length : Int))
                replace H := Option.bind_eq_some_iff.mp H
                obtain ⟨t110, A150, H⟩ := H
                replace H : ((sconceref13_Mask.f kj5 a0 t110 ((l2.drop ((ji9) : Int).toNat).length : Int)).bind fun bt113 => ((sconceref13_Xor.f kj5 (l2.drop ((ji9) : Int).toNat) bt113.1).bind fun t117 => ((sconceref13_Sum.f a0 l1).bind fun bt120 => (if 0 < (l2.length : Int) then (if (rd l2 0) = 0 then (if 0 ≤ t103 then (if t103 ≤ (t117.length : Int) then ((sconceref13_Same.f (t117.take (t103 : Int).toNat) bt120.1).bind fun t129 => (sconceref23_Open.j1 kj5 t103 t117 (!t129))) else (none)) else (none)) else (sconceref23_Open.j1 kj5 t103 t117 true)) else (none))))) = some (r1, r2) := H
                have A15 := Aside0.mk A150
                clear A150
                replace H := Option.bind_eq_some_iff.mp H
                obtain ⟨⟨t113, t114⟩, A160, H⟩ := H
                replace H : ((sconceref13_Xor.f kj5 (l2.drop ((ji9) : Int).toNat) t113).bind fun t117 => ((sconceref13_Sum.f a0 l1).bind fun bt120 => (if 0 < (l2.length : Int) then (if (rd l2 0) = 0 then (if 0 ≤ t103 then (if t103 ≤ (t117.length : Int) then ((sconceref13_Same.f (t117.take (t103 : Int).toNat) bt120.1).bind fun t129 => (sconceref23_Open.j1 kj5 t103 t117 (!t129))) else (none)) else (none)) else (sconceref23_Open.j1 kj5 t103 t117 true)) else (none)))) = some (r1, r2) := H
                have A16 := Aside0.mk A160
                clear A160
                replace H := Option.bind_eq_some_iff.mp H
                obtain ⟨t117, A170, H⟩ := H
                replace H : ((sconceref13_Sum.f a0 l1).bind fun bt120 => (if 0 < (l2.length : Int) then (if (rd l2 0) = 0 then (if 0 ≤ t103 then (if t103 ≤ (t117.length : Int) then ((sconceref13_Same.f (t117.take (t103 : Int).toNat) bt120.1).bind fun t129 => (sconceref23_Open.j1 kj5 t103 t117 (!t129))) else (none)) else (none)) else (sconceref23_Open.j1 kj5 t103 t117 true)) else (none))) = some (r1, r2) := H
                have A17 := Aside0.mk A170
                clear A170
                replace H := Option.bind_eq_some_iff.mp H
                obtain ⟨⟨t120, t121⟩, A180, H⟩ := H
                replace H : (if 0 < (l2.length : Int) then (if (rd l2 0) = 0 then (if 0 ≤ t103 then (if t103 ≤ (t117.length : Int) then ((sconceref13_Same.f (t117.take (t103 : Int).toNat) t120).bind fun t129 => (sconceref23_Open.j1 kj5 t103 t117 (!t129))) else (none)) else (none)) else (sconceref23_Open.j1 kj5 t103 t117 true)) else (none)) = some (r1, r2) := H
                have A18 := Aside0.mk A180
                clear A180
                have HC19 := Aside0.mk H
                clear H
                obtain ⟨i020, hi020, _, hsz20, _⟩ := info_parts info5
                obtain ⟨A20, hcut20, hA20, hC20⟩ := print_drop_of (P := Try.prog) (Value.int .u8) 0 22 5 .i64 Try.underlying22 hi020 hsz20 A2 c2 l2 (ji9) (of_decide_eq_true (by first | (with_reducible assumption) | assumption)) (of_decide_eq_true (by first | (with_reducible assumption) | assumption)) HC2.out
                have HR104 := Aside0.mk (Kd.C_of_reads (h1 := fun _ => rfl) (hA20 _ (Kd.reads_of_C HR2.out)))
                have HC104 := Aside0.mk hC20
                clear hA20 hC20 hi020 hsz20
                go_upto_region 11 with (first | ((with_reducible refine gate_callee (f := 34) rfl ?_); refine goesL_ (some 40) rfl rfl Try.func34 (by kernel_rfl) rfl #[.int .i64 a0, .slice A20 (l2.drop ((ji9) : Int).toNat).length (c2 - (ji9).toNat), .int .i64 t103] rfl (by (try simp only [List.map_toArray, List.map_cons, List.map_nil]); first | done | (rw [show (l2.drop ((ji9) : Int).toNat).length = (l2.length - (ji9).toNat) from List.length_drop] <;> rfl) | (simp only [hji9]; rfl) | rfl | (simp only [List.length_drop, List.length_take]; rfl)) ?_; (with_reducible refine (sconceref13_Mask.calls kj5 a0 _ _ (l2.drop ((ji9) : Int).toNat) t103 t105 t106 _ ?side1 ?side2 A12.out).mono ?_); (case side1 => repeat (first | exact (Kd.C_below HR104.out HB.out) | (with_reducible refine Kd.C_alloc ?_ _) | (with_reducible refine Kd.C_drewN ?_ _) | (with_reducible refine Kd.C_drew ?_))); (case side2 => exact HC104.out); rintro e w21 ⟨v107, rfl, ho0, hb⟩; refine ⟨_, rfl, ?_⟩; have n0_ := Aside0.mk (Kd.R_lower ho0 (below_size (by repeat (first | (with_reducible first | exact HB.out | apply below_alloc | apply pw_below_drewN | apply below_drew1) | exact HB.out)))); have n1_ := Aside0.mk (below_step (by repeat (first | (with_reducible first | exact HB.out | apply below_alloc | apply pw_below_drewN | apply below_drew1) | exact HB.out)) hb); clear HB; have HO108 := n0_; have HB := n1_; clear n0_ n1_; (try clear hb); (try clear hb2); (try clear hk); (try clear hi); (try clear ho0); obtain ⟨i022, hi022, _, hsz22, _⟩ := info_parts info5; obtain ⟨A22, hcut22, hA22, hC22⟩ := print_mid_of (P := Try.prog) (Value.int .u8) 0 22 5 .i64 .i64 Try.underlying22 hi022 hsz22 A2 c2 l2 1 (ji9) (by omega) (by first | omega | exact of_decide_eq_true (by first | (with_reducible assumption) | assumption)) (of_decide_eq_true (by first | (with_reducible assumption) | assumption)) HC2.out; have HR109 := Aside0.mk (Kd.C_of_reads (h1 := fun _ => rfl) (hA22 _ (Kd.reads_of_C HR2.out))); have HC109 := Aside0.mk hC22; clear hA22 hC22 hi022 hsz22; obtain ⟨Ao23, co23, eo23⟩ := Kd.R_slice HO108.out; subst eo23) | ((with_reducible refine gate_callee (f := 36) rfl ?_); refine goesL_ (some 50) rfl rfl Try.func36 (by kernel_rfl) rfl #[.slice A22 ((l2.take ((ji9) : Int).toNat).drop 1).length (c2 - 1), .slice Ao23 t105.length co23] rfl (by (try simp only [List.map_toArray, List.map_cons, List.map_nil]); first | done | (rw [show ((l2.take ((ji9) : Int).toNat).drop 1).length = ((ji9).toNat - 1) from (by rw [List.length_drop, List.length_take]; have h_ : ((ji9) : Int) ≤ (l2.length : Int) := of_decide_eq_true (by first | (with_reducible assumption) | assumption); omega)] <;> rfl) | (simp only [hji9]; rfl) | rfl | (simp only [List.length_drop, List.length_take]; rfl) | (simp (disch := assumption) only [List.length_drop, px_take_len, Int.ofNat_toNat] <;> rfl)) ?_; (with_reducible refine (sconceref13_Xor.calls kj5 _ _ ((l2.take ((ji9) : Int).toNat).drop 1) _ _ t105 t110 _ ?side1 ?side2 ?side3 ?side4 A15.out).mono ?_); (case side1 => repeat (first | exact (Kd.C_below HR109.out HB.out) | (with_reducible refine Kd.C_alloc ?_ _) | (with_reducible refine Kd.C_drewN ?_ _) | (with_reducible refine Kd.C_drew ?_))); (case side2 => exact HC109.out); (case side3 => repeat (first | exact (Kd.R_reads' HO108.out).2.2 | (with_reducible refine Kd.C_alloc ?_ _) | (with_reducible refine Kd.C_drewN ?_ _) | (with_reducible refine Kd.C_drew ?_))); (case side4 => exact (Kd.R_reads' HO108.out).2.1); rintro e w24 ⟨v111, rfl, ho0, hb⟩; refine ⟨_, rfl, ?_⟩; have n0_ := Aside0.mk (Kd.R_elder' (by (with_reducible repeat (first | apply Kd.R_alloc | apply Kd.R_drewN | apply Kd.R_drew)); exact HO108.out) (Kd.R_base ho0) hb); have n1_ := Aside0.mk (Kd.R_lower (Kd.R_new' ho0 (Kd.R_lt (by (with_reducible repeat (first | apply Kd.R_alloc | apply Kd.R_drewN | apply Kd.R_drew)); exact HO108.out))) (below_size (by repeat (first | (with_reducible first | exact HB.out | apply below_alloc | apply pw_below_drewN | apply below_drew1) | exact HB.out)))); have n2_ := Aside0.mk (below_step (by repeat (first | (with_reducible first | exact HB.out | apply below_alloc | apply pw_below_drewN | apply below_drew1) | exact HB.out)) hb); clear HO108; clear HB; have HO108 := n0_; have HO112 := n1_; have HB := n2_; clear n0_ n1_ n2_; (try clear hb); (try clear hb2); (try clear hk); (try clear hi); (try clear ho0); obtain ⟨Ao25, co25, eo25⟩ := Kd.R_slice HO112.out; subst eo25) | ((with_reducible refine gate_callee (f := 34) rfl ?_); refine goesL_ (some 53) rfl rfl Try.func34 (by kernel_rfl) rfl #[.int .i64 a0, .slice Ao25 t110.length co25, .int .i64 ((l2.drop ((ji9) : Int).toNat).length : Int)] rfl (by (try simp only [List.map_toArray, List.map_cons, List.map_nil]); first | done | (simp only [hji9]; rfl) | rfl | (simp only [List.length_drop, List.length_take]; rfl)) ?_; (with_reducible refine (sconceref13_Mask.calls kj5 a0 _ _ t110 ((l2.drop ((ji9) : Int).toNat).length : Int) t113 t114 _ ?side1 ?side2 A16.out).mono ?_); (case side1 => repeat (first | exact (Kd.R_reads' HO112.out).2.2 | (with_reducible refine Kd.C_alloc ?_ _) | (with_reducible refine Kd.C_drewN ?_ _) | (with_reducible refine Kd.C_drew ?_))); (case side2 => exact (Kd.R_reads' HO112.out).2.1); rintro e w26 ⟨v115, rfl, ho0, hb⟩; refine ⟨_, rfl, ?_⟩; have n0_ := Aside0.mk (Kd.R_elder' (by (with_reducible repeat (first | apply Kd.R_alloc | apply Kd.R_drewN | apply Kd.R_drew)); exact HO108.out) (Kd.R_base ho0) hb); have n1_ := Aside0.mk (Kd.R_elder' (by (with_reducible repeat (first | apply Kd.R_alloc | apply Kd.R_drewN | apply Kd.R_drew)); exact HO112.out) (Kd.R_base ho0) hb); have n2_ := Aside0.mk (Kd.R_lower (Kd.R_new' (Kd.R_new' ho0 (Kd.R_lt (by (with_reducible repeat (first | apply Kd.R_alloc | apply Kd.R_drewN | apply Kd.R_drew)); exact HO108.out))) (Kd.R_lt (by (with_reducible repeat (first | apply Kd.R_alloc | apply Kd.R_drewN | apply Kd.R_drew)); exact HO112.out))) (below_size (by repeat (first | (with_reducible first | exact HB.out | apply below_alloc | apply pw_below_drewN | apply below_drew1) | exact HB.out)))); have n3_ := Aside0.mk (below_step (by repeat (first | (with_reducible first | exact HB.out | apply below_alloc | apply pw_below_drewN | apply below_drew1) | exact HB.out)) hb); clear HO108; clear HO112; clear HB; have HO108 := n0_; have HO112 := n1_; have HO116 := n2_; have HB := n3_; clear n0_ n1_ n2_ n3_; (try clear hb); (try clear hb2); (try clear hk); (try clear hi); (try clear ho0); obtain ⟨Ao27, co27, eo27⟩ := Kd.R_slice HO116.out; subst eo27) | ((with_reducible refine gate_callee (f := 36) rfl ?_); refine goesL_ (some 58) rfl rfl Try.func36 (by kernel_rfl) rfl #[.slice A20 (l2.drop ((ji9) : Int).toNat).length (c2 - (ji9).toNat), .slice Ao27 t113.length co27] rfl (by (try simp only [List.map_toArray, List.map_cons, List.map_nil]); first | done | (rw [show (l2.drop ((ji9) : Int).toNat).length = (l2.length - (ji9).toNat) from List.length_drop] <;> rfl) | (simp only [hji9]; rfl) | rfl | (simp only [List.length_drop, List.length_take]; rfl)) ?_; (with_reducible refine (sconceref13_Xor.calls kj5 _ _ (l2.drop ((ji9) : Int).toNat) _ _ t113 t117 _ ?side1 ?side2 ?side3 ?side4 A17.out).mono ?_); (case side1 => repeat (first | exact (Kd.C_below HR104.out HB.out) | (with_reducible refine Kd.C_alloc ?_ _) | (with_reducible refine Kd.C_drewN ?_ _) | (with_reducible refine Kd.C_drew ?_))); (case side2 => exact HC104.out); (case side3 => repeat (first | exact (Kd.R_reads' HO116.out).2.2 | (with_reducible refine Kd.C_alloc ?_ _) | (with_reducible refine Kd.C_drewN ?_ _) | (with_reducible refine Kd.C_drew ?_))); (case side4 => exact (Kd.R_reads' HO116.out).2.1); rintro e w28 ⟨v118, rfl, ho0, hb⟩; refine ⟨_, rfl, ?_⟩; have n0_ := Aside0.mk (Kd.R_elder' (by (with_reducible repeat (first | apply Kd.R_alloc | apply Kd.R_drewN | apply Kd.R_drew)); exact HO108.out) (Kd.R_base ho0) hb); have n1_ := Aside0.mk (Kd.R_elder' (by (with_reducible repeat (first | apply Kd.R_alloc | apply Kd.R_drewN | apply Kd.R_drew)); exact HO112.out) (Kd.R_base ho0) hb); have n2_ := Aside0.mk (Kd.R_elder' (by (with_reducible repeat (first | apply Kd.R_alloc | apply Kd.R_drewN | apply Kd.R_drew)); exact HO116.out) (Kd.R_base ho0) hb); have n3_ := Aside0.mk (Kd.R_lower (Kd.R_new' (Kd.R_new' (Kd.R_new' ho0 (Kd.R_lt (by (with_reducible repeat (first | apply Kd.R_alloc | apply Kd.R_drewN | apply Kd.R_drew)); exact HO108.out))) (Kd.R_lt (by (with_reducible repeat (first | apply Kd.R_alloc | apply Kd.R_drewN | apply Kd.R_drew)); exact HO112.out))) (Kd.R_lt (by (with_reducible repeat (first | apply Kd.R_alloc | apply Kd.R_drewN | apply Kd.R_drew)); exact HO116.out))) (below_size (by repeat (first | (with_reducible first | exact HB.out | apply below_alloc | apply pw_below_drewN | apply below_drew1) | exact HB.out)))); have n4_ := Aside0.mk (below_step (by repeat (first | (with_reducible first | exact HB.out | apply below_alloc | apply pw_below_drewN | apply below_drew1) | exact HB.out)) hb); clear HO108; clear HO112; clear HO116; clear HB; have HO108 := n0_; have HO112 := n1_; have HO116 := n2_; have HO119 := n3_; have HB := n4_; clear n0_ n1_ n2_ n3_ n4_; (try clear hb); (try clear hb2); (try clear hk); (try clear hi); (try clear ho0)) | ((with_reducible refine gate_callee (f := 26) rfl ?_); refine goesL_ (some 62) rfl rfl Try.func26 (by kernel_rfl) rfl #[.int .i64 a0, .slice A1 l1.length c1] rfl (by (try simp only [List.map_toArray, List.map_cons, List.map_nil]); first | done | rfl | (simp only [List.length_drop, List.length_take]; rfl)) ?_; (with_reducible refine (sconceref13_Sum.calls a0 _ _ l1 t120 t121 _ ?side1 ?side2 A18.out).mono ?_); (case side1 => repeat (first | exact (Kd.C_below HR1.out HB.out) | (with_reducible refine Kd.C_alloc ?_ _) | (with_reducible refine Kd.C_drewN ?_ _) | (with_reducible refine Kd.C_drew ?_))); (case side2 => exact HC1.out); rintro e w29 ⟨v122, rfl, ho0, hb⟩; refine ⟨_, rfl, ?_⟩; have n0_ := Aside0.mk (Kd.R_elder' (by (with_reducible repeat (first | apply Kd.R_alloc | apply Kd.R_drewN | apply Kd.R_drew)); exact HO108.out) (Kd.R_base ho0) hb); have n1_ := Aside0.mk (Kd.R_elder' (by (with_reducible repeat (first | apply Kd.R_alloc | apply Kd.R_drewN | apply Kd.R_drew)); exact HO112.out) (Kd.R_base ho0) hb); have n2_ := Aside0.mk (Kd.R_elder' (by (with_reducible repeat (first | apply Kd.R_alloc | apply Kd.R_drewN | apply Kd.R_drew)); exact HO116.out) (Kd.R_base ho0) hb); have n3_ := Aside0.mk (Kd.R_elder' (by (with_reducible repeat (first | apply Kd.R_alloc | apply Kd.R_drewN | apply Kd.R_drew)); exact HO119.out) (Kd.R_base ho0) hb); have n4_ := Aside0.mk (Kd.R_lower (Kd.R_new' (Kd.R_new' (Kd.R_new' (Kd.R_new' ho0 (Kd.R_lt (by (with_reducible repeat (first | apply Kd.R_alloc | apply Kd.R_drewN | apply Kd.R_drew)); exact HO108.out))) (Kd.R_lt (by (with_reducible repeat (first | apply Kd.R_alloc | apply Kd.R_drewN | apply Kd.R_drew)); exact HO112.out))) (Kd.R_lt (by (with_reducible repeat (first | apply Kd.R_alloc | apply Kd.R_drewN | apply Kd.R_drew)); exact HO116.out))) (Kd.R_lt (by (with_reducible repeat (first | apply Kd.R_alloc | apply Kd.R_drewN | apply Kd.R_drew)); exact HO119.out))) (below_size (by repeat (first | (with_reducible first | exact HB.out | apply below_alloc | apply pw_below_drewN | apply below_drew1) | exact HB.out)))); have n5_ := Aside0.mk (below_step (by repeat (first | (with_reducible first | exact HB.out | apply below_alloc | apply pw_below_drewN | apply below_drew1) | exact HB.out)) hb); clear HO108; clear HO112; clear HO116; clear HO119; clear HB; have HO108 := n0_; have HO112 := n1_; have HO116 := n2_; have HO119 := n3_; have HO123 := n4_; have HB := n5_; clear n0_ n1_ n2_ n3_ n4_ n5_; (try clear hb); (try clear hb2); (try clear hk); (try clear hi); (try clear ho0)))
                (try simp only [Act.put, List.setIfInBounds_toArray, List.set_cons_zero, List.set_cons_succ])
                go_cut [76] (fun v76 wc => ∃ (kq : Nat) (x76_18 : Bool), v76 = .bool x76_18 ∧ Aside0 (sconceref23_Open.j1 kq t103 t117 x76_18 = some (r1, r2)) ∧ Aside0 (kq ≤ kj5) ∧ Aside0 (Kd.Q (Kd.int .u8) 5 wc w.heap.size (fun _ => True) v118 t117) ∧ Aside0 (Below w.heap.size w wc))
                case first =>
                  have H := HC19.out
                  clear HC19
                  by_cases c30 : 0 < (l2.length : Int)
                  · rw [if_pos c30] at H
                    have c30b0 : decide (0 < (l2.length : Int)) = true := decide_eq_true c30
                    have c30b1 : decide (0 < l2.length) = true := decide_eq_true (by omega)
                    clear c30
                    (first | rw [c30b0] | (simp only [i64_w, i32_w]; rw [c30b0]) | skip)
                    by_cases c31 : (rd l2 0) = 0
                    · rw [if_pos c31] at H
                      have c31b0 : ((rd l2 0) == 0) = true := beq_iff_eq.mpr c31
                      have c31b1 : ((rd l2 0) != 0) = false := bne_eq_false_iff_eq.mpr c31
                      clear c31
                      by_cases c32 : 0 ≤ t103
                      · rw [if_pos c32] at H
                        have c32b0 := eq_true c32
                        have c32b1 : decide (0 ≤ t103) = true := decide_eq_true c32
                        clear c32
                        by_cases c33 : t103 ≤ (t117.length : Int)
                        · rw [if_pos c33] at H
                          have c33b0 := eq_true c33
                          have c33b1 : decide (t103 ≤ (t117.length : Int)) = true := decide_eq_true c33
                          clear c33
                          obtain ⟨y125, hy125⟩ : ∃ y_ : List Int, y_ = (t117.take (t103 : Int).toNat) := ⟨_, rfl⟩
                          replace H : ((sconceref13_Same.f y125 t120).bind fun t129 => (sconceref23_Open.j1 kj5 t103 t117 (!t129))) = some (r1, r2) := by first | (rw [hy125]; with_reducible exact H) | (have H2_ := (Option.bind_some _ _).symm.trans H; rw [hy125]; with_reducible exact H2_) | (have H2_ := (Option.bind_some _ _).symm.trans H; with_reducible exact H2_) | with_reducible exact H | (rw [hy125]; exact H) | exact H
                          have Ny125 := Aside0.mk hy125
                          clear hy125
                          replace H := Option.bind_eq_some_iff.mp H
                          obtain ⟨t129, A340, H⟩ := H
                          replace H : (sconceref23_Open.j1 kj5 t103 t117 (!t129)) = some (r1, r2) := H
                          have A34 := Aside0.mk A340
                          clear A340
                          have H' := Aside0.mk H
                          clear H
                          have p124 : 0 ≤ (0 : Int) := (by omega)
                          have q124 : 0 < (l2.length : Int) := of_decide_eq_true (by first | (with_reducible assumption) | assumption)
                          obtain ⟨ad124, e124, hx124_0⟩ := Kd.at_int HR2.out 0 p124 q124
                          cases e124
                          have qi124 : (0 < l2.length) = True := eq_true (by omega)
                          (try rw [show ((0 : Int)).toNat = 0 from rfl] at hx124_0)
                          (try rw [Addr.add_zero'] at hx124_0)
                          replace hx124_0 := (HB.out.cell (World.block_lt_of_cell? w _ hx124_0)).trans hx124_0
                          replace p124 := eq_true p124
                          replace q124 := eq_true q124
                          obtain ⟨Ao36, co36, eo36⟩ := Kd.R_slice HO119.out
                          subst eo36
                          have q35 : (t103 : Int) ≤ ((t117.length : Int) : Int) := of_decide_eq_true (by first | (with_reducible assumption) | assumption)
                          obtain ⟨i035, hi035, _, hsz35, _⟩ := info_parts info5
                          have hroom35 : t117.length ≤ co36 := (Kd.R_reads' HO119.out).2.1
                          have hC35 : Kd.C (Kd.int .u8) _ Ao36 t117.length t117 := (Kd.R_reads' HO119.out).2.2
                          have hcut35 := cut_to (P := Try.prog) 22 5 .i64 Try.underlying22 hi035 Ao36 t117.length co36 t103 (of_decide_eq_true (by first | (with_reducible assumption) | assumption)) q35 hroom35
                          have hr35 := Kd.C_take (m := (t103 : Int).toNat) hC35 (by omega)
                          have hy35 : y125.length = (t103 : Int).toNat := (by rw [Ny125.out, List.length_take]; omega)
                          rw [← Ny125.out] at hr35
                          rw [← hy35] at hcut35
                          have HR128 := Aside0.mk hr35
                          have HC128 := Aside0.mk (show y125.length ≤ co36 from by omega)
                          clear hr35 hC35 hroom35 hi035 hsz35
                          have KY35 := Aside0.mk hy35
                          clear hy35
                          have KL35 := Aside0.mk (show (t103 : Int).toNat ≤ t117.length from by omega)
                          replace q35 := eq_true q35
                          obtain ⟨Ao37, co37, eo37⟩ := Kd.R_slice HO123.out
                          subst eo37
                          go_wp2_with (first | (go_at_call 15; (with_reducible refine (sconceref13_Same.calls _ _ y125 _ _ t120 t129 _ ?side1 ?side2 ?side3 ?side4 A34.out).mono ?_); (case side1 => repeat (first | exact (by repeat (first | (with_reducible exact HR128.out) | (with_reducible refine Kd.C_alloc ?_ _) | (with_reducible refine Kd.C_drewN ?_ _) | (with_reducible refine Kd.C_drew ?_) | exact HR128.out)) | (with_reducible refine Kd.C_alloc ?_ _) | (with_reducible refine Kd.C_drewN ?_ _) | (with_reducible refine Kd.C_drew ?_))); (case side2 => exact HC128.out); (case side3 => repeat (first | exact (Kd.R_reads' HO123.out).2.2 | (with_reducible refine Kd.C_alloc ?_ _) | (with_reducible refine Kd.C_drewN ?_ _) | (with_reducible refine Kd.C_drew ?_))); (case side4 => exact (Kd.R_reads' HO123.out).2.1); rintro e w' ⟨rfl, ⟨nd, rfl⟩⟩))
                          go_meet
                          case rel => exact ⟨_, (!t129), (by first | rfl | (simp; done) | (simp [*]; done)), (by first | exact H' | (rw [← hji9] at H'; exact H')), ⟨by have := HJ5.out; first | omega | exact Nat.le_refl _⟩, ⟨Kd.Q_of_R (by (with_reducible repeat (first | apply Kd.R_alloc | apply Kd.R_drewN | apply Kd.R_drew)); exact Kd.R_mono HO119.out (fun _ hk => trivial))⟩, ⟨by repeat (first | (with_reducible first | exact HB.out | apply below_alloc | apply pw_below_drewN | apply below_drew1) | exact HB.out)⟩⟩
                        · rw [if_neg c33] at H
                          exact absurd H (by simp)
                      · rw [if_neg c32] at H
                        exact absurd H (by simp)
                    · rw [if_neg c31] at H
                      have c31b0 : ((rd l2 0) == 0) = false := beq_eq_false_iff_ne.mpr c31
                      have c31b1 : ((rd l2 0) != 0) = true := bne_iff_ne.mpr c31
                      have H' := Aside0.mk H
                      clear H
                      have p124 : 0 ≤ (0 : Int) := (by omega)
                      have q124 : 0 < (l2.length : Int) := of_decide_eq_true (by first | (with_reducible assumption) | assumption)
                      obtain ⟨ad124, e124, hx124_0⟩ := Kd.at_int HR2.out 0 p124 q124
                      cases e124
                      have qi124 : (0 < l2.length) = True := eq_true (by omega)
                      (try rw [show ((0 : Int)).toNat = 0 from rfl] at hx124_0)
                      (try rw [Addr.add_zero'] at hx124_0)
                      replace hx124_0 := (HB.out.cell (World.block_lt_of_cell? w _ hx124_0)).trans hx124_0
                      replace p124 := eq_true p124
                      replace q124 := eq_true q124
                      go_wp2
                      go_meet
                      case rel => exact ⟨_, (true), (by first | rfl | (simp; done) | (simp [*]; done)), (by first | exact H' | (rw [← hji9] at H'; exact H')), ⟨by have := HJ5.out; first | omega | exact Nat.le_refl _⟩, ⟨Kd.Q_of_R (by (with_reducible repeat (first | apply Kd.R_alloc | apply Kd.R_drewN | apply Kd.R_drew)); exact Kd.R_mono HO119.out (fun _ hk => trivial))⟩, ⟨by repeat (first | (with_reducible first | exact HB.out | apply below_alloc | apply pw_below_drewN | apply below_drew1) | exact HB.out)⟩⟩
                  · rw [if_neg c30] at H
                    exact absurd H (by simp)
                case rest =>
                  clear HC19
                  try clear c1
                  try clear p1
                  try clear q1
                  try clear hx1
                  try clear qi1
                  try clear c2
                  try clear p2
                  try clear c3
                  try clear q3
                  try clear c5
                  try clear c5b0
                  try clear c5b1
                  try clear p6
                  try clear c7
                  try clear c7b0
                  try clear c8
                  try clear c10
                  try clear c10b0
                  try clear c10b1
                  try clear c11
                  try clear c11b0
                  try clear c11b1
                  try clear p12
                  try clear q12
                  try clear hx12
                  try clear qi12
                  try clear c13
                  try clear c13b0
                  try clear c13b1
                  try clear c14
                  try clear c14b0
                  try clear c21
                  try clear c26
                  try clear c30
                  try clear c30b0
                  try clear c30b1
                  try clear c31
                  try clear c31b0
                  try clear c31b1
                  try clear c32
                  try clear c32b0
                  try clear c32b1
                  try clear c33
                  try clear c33b0
                  try clear c33b1
                  try clear c34
                  try clear q35
                  try clear c36
                  try clear hx124_0
                  try clear p124
                  try clear p2
                  try clear p6
                  try clear q124
                  try clear q35
                  obtain ⟨kq, x76_18, rfl, HA, HJ18, HO_9, HB⟩ := hcut
                  cases kq with
                  | zero => exact absurd HA.out (by simp [sconceref23_Open.j1])
                  | succ kj18 =>
                    have H := HA.out
                    clear HA
                    simp only [sconceref23_Open.j1] at H
                    by_cases c38 : x76_18 = true
                    · subst c38
                      have H1 : (some (([] : List Int), 230)) = some (r1, r2) := by rw [if_pos rfl] at H; exact H
                      clear H
                      have H := H1
                      clear H1
                      simp only [Option.some.injEq, Prod.mk.injEq] at H
                      obtain ⟨rfl, rfl⟩ := H
                      go_wp2
                      go_ret2
                      exact ⟨_, by first | rfl | (simp [errW_none, errW_some] <;> rfl) | (simp only [← hji9]; first | rfl | (simp [errW_none, errW_some] <;> rfl)) | (simp [*, errW_none, errW_some] <;> rfl), by first | exact Kd.R_nil _ _ _ _ _ | exact Kd.N_nil _ _ _ _ _ | exact Kd.V_nil _ _ _ _ _ | exact Kd.Q_nil _ _ _ _ _ | exact Kd.S_nil _ _ _ _ _, by repeat (first | (with_reducible first | exact HB.out | apply below_alloc | apply pw_below_drewN | apply below_drew1) | exact HB.out)⟩
                    · replace c38 := Bool.eq_false_iff.mpr c38
                      subst c38
                      have H1 : (sconceref23_Open.l0 kj18 t117 t103) = some (r1, r2) := by rw [if_neg (show ¬ (false = true) by decide)] at H; exact H
                      clear H
                      have H := H1
                      clear H1
                      have H' := Aside0.mk H
                      clear H
                      go_wp2
                      go_loopg [16] kj18 (fun kq v16 w' => ∃ (x16_3 : Int), v16 = .int .i64 x16_3 ∧ Aside0 (sconceref23_Open.l0 kq t117 x16_3 = some (r1, r2)) ∧ Aside0 (kq ≤ kj18) ∧ Aside0 (Kd.Q (Kd.int .u8) 5 w' w.heap.size (fun _ => True) v118 t117) ∧ Aside0 (Below w.heap.size w w'))
                      case atStart => exact ⟨(t103), (by first | rfl | (simp; done) | (simp [*]; done)), H', ⟨Nat.le_refl _⟩, ⟨by (with_reducible repeat (first | apply Kd.Q_alloc | apply Kd.Q_drewN | apply Kd.Q_drew)); exact HO_9.out⟩, ⟨by repeat (first | (with_reducible first | exact HB.out | apply below_alloc | apply pw_below_drewN | apply below_drew1) | exact HB.out)⟩⟩
                      case round =>
                        clear H'
                        try clear c1
                        try clear p1
                        try clear q1
                        try clear hx1
                        try clear qi1
                        try clear c2
                        try clear p2
                        try clear c3
                        try clear q3
                        try clear c5
                        try clear c5b0
                        try clear c5b1
                        try clear p6
                        try clear c7
                        try clear c7b0
                        try clear c8
                        try clear c10
                        try clear c10b0
                        try clear c10b1
                        try clear c11
                        try clear c11b0
                        try clear c11b1
                        try clear p12
                        try clear q12
                        try clear hx12
                        try clear qi12
                        try clear c13
                        try clear c13b0
                        try clear c13b1
                        try clear c14
                        try clear c14b0
                        try clear c21
                        try clear c26
                        try clear c30
                        try clear c30b0
                        try clear c30b1
                        try clear c31
                        try clear c31b0
                        try clear c31b1
                        try clear c32
                        try clear c32b0
                        try clear c32b1
                        try clear c33
                        try clear c33b0
                        try clear c33b1
                        try clear c34
                        try clear q35
                        try clear c36
                        try clear c38
                        try clear hx124_0
                        try clear p1
                        try clear p12
                        try clear p124
                        try clear p2
                        try clear p6
                        try clear q1
                        try clear q12
                        try clear q124
                        try clear q3
                        try clear q35
                        obtain ⟨x16_3, rfl, HA, HK3, HO_9, HB⟩ := hrel
                        cases gk with
                        | zero => exact absurd HA.out (by simp [sconceref23_Open.l0])
                        | succ k3 =>
                          have H := HA.out
                          clear HA
                          simp only [sconceref23_Open.l0] at H
                          by_cases c39 : x16_3 < (t117.length : Int)
                          · rw [if_pos c39] at H
                            have c39b0 : decide (x16_3 < (t117.length : Int)) = true := decide_eq_true c39
                            clear c39
                            by_cases c40 : 0 ≤ x16_3
                            · rw [if_pos c40] at H
                              have c40b0 : decide (0 ≤ x16_3) = true := decide_eq_true c40
                              clear c40
                              by_cases c41 : (rd t117 x16_3) = 1
                              · rw [if_pos c41] at H
                                have c41b0 : ((rd t117 x16_3) == 1) = true := beq_iff_eq.mpr c41
                                have c41b1 : ((rd t117 x16_3) != 1) = false := bne_eq_false_iff_eq.mpr c41
                                clear c41
                                obtain ⟨ji42, hji42⟩ : ∃ j_ : Int, (wrap64 (x16_3 + 1)) = j_ := ⟨_, rfl⟩
                                replace H : (if 0 ≤ (ji42) then (if (ji42) ≤ (t117.length : Int) then ((some (t117.drop ((ji42) : Int).toNat : List Int)).bind fun y131 => (if ([] : List Int).length + y131.length < 140737488355328 then (some ((([] : List Int) ++ y131), 0)) else (none))) else (none)) else (none)) = some (r1, r2) := by first | (rw [hji42] at H; exact H) | (simp only [hji42] at H ⊢; exact H)
                                have hji42w : (IntKind.i64.wrap (x16_3 + 1)) = ji42 := (i64_w _).trans hji42
                                by_cases c43 : 0 ≤ (ji42)
                                · rw [if_pos c43] at H
                                  have c43b0 := eq_true c43
                                  have c43b1 : decide (0 ≤ (ji42)) = true := decide_eq_true c43
                                  clear c43
                                  by_cases c44 : (ji42) ≤ (t117.length : Int)
                                  · rw [if_pos c44] at H
                                    have c44b0 := eq_true c44
                                    have c44b1 : decide ((ji42) ≤ (t117.length : Int)) = true := decide_eq_true c44
                                    clear c44
                                    obtain ⟨y131, hy131⟩ : ∃ y_ : List Int, y_ = (t117.drop ((ji42) : Int).toNat) := ⟨_, rfl⟩
                                    replace H : (if ([] : List Int).length + y131.length < 140737488355328 then (some ((([] : List Int) ++ y131), 0)) else (none)) = some (r1, r2) := by first | (rw [hy131]; with_reducible exact H) | (have H2_ := (Option.bind_some _ _).symm.trans H; rw [hy131]; with_reducible exact H2_) | (have H2_ := (Option.bind_some _ _).symm.trans H; with_reducible exact H2_) | with_reducible exact H | (rw [hy131]; exact H) | exact H
                                    have Ny131 := Aside0.mk hy131
                                    clear hy131
                                    by_cases c45 : ([] : List Int).length + y131.length < 140737488355328
                                    · rw [if_pos c45] at H
                                      have LMc45 := Aside0.mk c45
                                      clear c45
                                      obtain ⟨y135, hy135⟩ : ∃ y_ : List Int, y_ = (([] : List Int) ++ y131) := ⟨_, rfl⟩
                                      replace H : (some (y135, 0)) = some (r1, r2) := by first | (rw [hy135]; with_reducible exact H) | (have H2_ := (Option.bind_some _ _).symm.trans H; rw [hy135]; with_reducible exact H2_) | (have H2_ := (Option.bind_some _ _).symm.trans H; with_reducible exact H2_) | with_reducible exact H | (rw [hy135]; exact H) | exact H
                                      have Ny135 := Aside0.mk hy135
                                      clear hy135
                                      simp only [Option.some.injEq, Prod.mk.injEq] at H
                                      obtain ⟨rfl, rfl⟩ := H
                                      obtain ⟨Ao46, co46, eo46, _⟩ := Kd.Q_slice HO_9.out
                                      subst eo46
                                      have p130 : 0 ≤ (x16_3 : Int) := of_decide_eq_true (by first | (with_reducible assumption) | assumption)
                                      have q130 : x16_3 < (t117.length : Int) := of_decide_eq_true (by first | (with_reducible assumption) | assumption)
                                      obtain ⟨ad130, e130, hx130_0⟩ := Kd.at_int (Kd.Q_reads' HO_9.out).2.2 x16_3 p130 q130
                                      cases e130
                                      replace p130 := eq_true p130
                                      replace q130 := eq_true q130
                                      have q47 : ((ji42) : Int) ≤ ((t117.length : Int) : Int) := of_decide_eq_true (by first | (with_reducible assumption) | assumption)
                                      obtain ⟨i047, hi047, _, hsz47, _⟩ := info_parts info5
                                      have hroom47 : t117.length ≤ co46 := (Kd.Q_reads' HO_9.out).2.1
                                      have hC47 : Kd.C (Kd.int .u8) _ (some ad130) t117.length t117 := (Kd.Q_reads' HO_9.out).2.2
                                      have q047 : (0 : Int) ≤ ((ji42) : Int) := of_decide_eq_true (by first | (with_reducible assumption) | assumption)
                                      have hcut47 := cut_from (P := Try.prog) 22 5 .i64 Try.underlying22 hi047 1 hsz47 (some ad130) t117.length co46 (ji42) q047 q47
                                      have hr47 := Kd.C_drop (m := ((ji42) : Int).toNat) (c := co46) hC47 (by omega) hroom47
                                      obtain ⟨A47, hA47⟩ : ∃ A1, A1 = (if co46 = ((ji42) : Int).toNat then (some ad130) else ((some ad130) : Option Addr).map (·.add (((ji42) : Int).toNat * 1))) := ⟨_, rfl⟩
                                      obtain ⟨c47, hc47⟩ : ∃ c1, c1 = co46 - ((ji42) : Int).toNat := ⟨_, rfl⟩
                                      have hy47 : y131.length = t117.length - ((ji42) : Int).toNat := (by rw [Ny131.out, List.length_drop] <;> omega)
                                      rw [show (t117).drop ((ji42) : Int).toNat = y131 from Ny131.out.symm] at hr47
                                      replace hr47 : Kd.C (Kd.int .u8) _ A47 y131.length y131 := (by rw [hA47]; exact hr47)
                                      rw [← hy47, ← hA47, ← hc47] at hcut47
                                      have HR134 := Aside0.mk hr47
                                      have HC134 := Aside0.mk (show y131.length ≤ c47 from by rw [hy47, hc47]; exact Nat.sub_le_sub_right hroom47 _)
                                      clear hr47 hC47 hroom47 hi047 hsz47 hc47
                                      have KY47 := Aside0.mk hy47
                                      have KA47 := Aside0.mk hA47
                                      clear hy47 hA47
                                      have KL47 := Aside0.mk (show ((ji42) : Int).toNat ≤ t117.length from by omega)
                                      replace q47 := eq_true q47
                                      go_wp2_with (first | ((with_reducible refine gate_builtin (b := .append) (xs := #[.const (.slice none 0 0), .tmp 92]) rfl ?_); (try (refine gate_guard (by rfl) ?_; dsimp only)); at_builtin; refine Kd.R_append_rows (Kd.int .u8) (w0 := w) w.heap.size rfl (.const (.slice none 0 0)) (.tmp 92) 22 5 (.int .u8 0) 1 rfl Try.underlying22 info5 rfl (by decide) (by omega) (.slice none 0 0) ([] : List Int) y131 _ _ _ (fun k_ => some k_ ≠ (.slice (some ad130) t117.length co46 : Value).ownBlock) (fun _ => False) rfl rfl ?aO ?aR (fun _ _ h => h) (fun _ h => h.elim) ?aF ?aB ?aS ?aL ?_; (case aR => repeat (first | exact (by repeat (first | (with_reducible exact HR134.out) | (with_reducible refine Kd.C_alloc ?_ _) | (with_reducible refine Kd.C_drewN ?_ _) | (with_reducible refine Kd.C_drew ?_) | exact HR134.out)) | (with_reducible refine Kd.C_alloc ?_ _) | (with_reducible refine Kd.C_drewN ?_ _) | (with_reducible refine Kd.C_drew ?_))); (case aB => exact (by repeat (first | (with_reducible first | exact HB.out | apply below_alloc | apply pw_below_drewN | apply below_drew1) | exact HB.out))); (case aF => exact (fun k_ hk => Kd.fresh' (Kd.Q_lt (by (with_reducible repeat (first | apply Kd.Q_alloc | apply Kd.Q_drewN | apply Kd.Q_drew)); exact HO_9.out)) k_ hk)); (case aO => exact ((Kd.R_nil _ _ _ _ (fun k_ => some k_ ≠ (.slice (some ad130) t117.length co46 : Value).ownBlock)))); (case aS => exact (below_size (by repeat (first | (with_reducible first | exact HB.out | apply below_alloc | apply pw_below_drewN | apply below_drew1) | exact HB.out)))); (case aL => have := LMc45.out; omega); intro v136 w48 ho hb hg hat; rw [← Ny135.out] at ho; have n0_ := Aside0.mk (Kd.Q_after (Kd.Q_apart_nil (by (with_reducible repeat (first | apply Kd.Q_alloc | apply Kd.Q_drewN | apply Kd.Q_drew)); exact HO_9.out)) hg hat); have n1_ := Aside0.mk (hb); have n2_ := Aside0.mk ((show Kd.C (Kd.int .u8) w48 A47 y131.length y131 from by rw [Ny131.out, KA47.out]; exact Kd.C_drop (m := ((ji42) : Int).toNat) (c := co46) ((Kd.Q_reads' (Kd.Q_after (Kd.Q_apart_nil (by (with_reducible repeat (first | apply Kd.Q_alloc | apply Kd.Q_drewN | apply Kd.Q_drew)); exact HO_9.out)) hg hat)).2.2) KL47.out ((Kd.Q_reads' (Kd.Q_after (Kd.Q_apart_nil (by (with_reducible repeat (first | apply Kd.Q_alloc | apply Kd.Q_drewN | apply Kd.Q_drew)); exact HO_9.out)) hg hat)).2.1))); have n3_ := Aside0.mk (ho); clear HO_9; clear HB; clear HR134; have HO_9 := n0_; have HB := n1_; have HR134 := n2_; have HO137 := n3_; clear n0_ n1_ n2_ n3_; clear ho hb hg hat))
                                      go_ret2
                                      exact ⟨_, by first | rfl | (simp [errW_none, errW_some] <;> rfl) | (simp only [← hji9, ← hji42]; first | rfl | (simp [errW_none, errW_some] <;> rfl)) | (simp [*, errW_none, errW_some] <;> rfl), by (with_reducible repeat (first | apply Kd.R_alloc | apply Kd.R_drewN | apply Kd.R_drew)); exact Kd.R_mono HO137.out (fun _ hk => trivial), by repeat (first | (with_reducible first | exact HB.out | apply below_alloc | apply pw_below_drewN | apply below_drew1) | exact HB.out)⟩
                                    · rw [if_neg c45] at H
                                      exact absurd H (by simp)
                                  · rw [if_neg c44] at H
                                    exact absurd H (by simp)
                                · rw [if_neg c43] at H
                                  exact absurd H (by simp)
                              · rw [if_neg c41] at H
                                have c41b0 : ((rd t117 x16_3) == 1) = false := beq_eq_false_iff_ne.mpr c41
                                have c41b1 : ((rd t117 x16_3) != 1) = true := bne_iff_ne.mpr c41
                                by_cases c49 : (rd t117 x16_3) = 0
                                · rw [if_pos c49] at H
                                  have c49b0 : ((rd t117 x16_3) == 0) = true := beq_iff_eq.mpr c49
                                  have c49b1 : ((rd t117 x16_3) != 0) = false := bne_eq_false_iff_eq.mpr c49
                                  clear c49
                                  have H' := Aside0.mk H
                                  clear H
                                  obtain ⟨Ao50, co50, eo50, _⟩ := Kd.Q_slice HO_9.out
                                  subst eo50
                                  have p130 : 0 ≤ (x16_3 : Int) := of_decide_eq_true (by first | (with_reducible assumption) | assumption)
                                  have q130 : x16_3 < (t117.length : Int) := of_decide_eq_true (by first | (with_reducible assumption) | assumption)
                                  obtain ⟨ad130, e130, hx130_0⟩ := Kd.at_int (Kd.Q_reads' HO_9.out).2.2 x16_3 p130 q130
                                  cases e130
                                  replace p130 := eq_true p130
                                  replace q130 := eq_true q130
                                  have p138 : 0 ≤ (x16_3 : Int) := of_decide_eq_true (by first | (with_reducible assumption) | assumption)
                                  have q138 : x16_3 < (t117.length : Int) := of_decide_eq_true (by first | (with_reducible assumption) | assumption)
                                  obtain ⟨ad138, e138, hx138_0⟩ := Kd.at_int (Kd.Q_reads' HO_9.out).2.2 x16_3 p138 q138
                                  obtain rfl : ad130 = ad138 := (by injection e138)
                                  replace p138 := eq_true p138
                                  replace q138 := eq_true q138
                                  go_wp2
                                  go_roundg k3
                                  case measure => have := HJ5.out; have := HJ18.out; have := HK3.out; omega
                                  case rel => exact ⟨(wrap64 (x16_3 + 1)), (by first | rfl | (simp; done) | (simp [*]; done)), H', ⟨by have := HJ5.out; have := HJ18.out; have := HK3.out; omega⟩, ⟨by (with_reducible repeat (first | apply Kd.Q_alloc | apply Kd.Q_drewN | apply Kd.Q_drew)); exact HO_9.out⟩, ⟨by repeat (first | (with_reducible first | exact HB.out | apply below_alloc | apply pw_below_drewN | apply below_drew1) | exact HB.out)⟩⟩
                                · rw [if_neg c49] at H
                                  have c49b0 : ((rd t117 x16_3) == 0) = false := beq_eq_false_iff_ne.mpr c49
                                  have c49b1 : ((rd t117 x16_3) != 0) = true := bne_iff_ne.mpr c49
                                  simp only [Option.some.injEq, Prod.mk.injEq] at H
                                  obtain ⟨rfl, rfl⟩ := H
                                  obtain ⟨Ao51, co51, eo51, _⟩ := Kd.Q_slice HO_9.out
                                  subst eo51
                                  have p130 : 0 ≤ (x16_3 : Int) := of_decide_eq_true (by first | (with_reducible assumption) | assumption)
                                  have q130 : x16_3 < (t117.length : Int) := of_decide_eq_true (by first | (with_reducible assumption) | assumption)
                                  obtain ⟨ad130, e130, hx130_0⟩ := Kd.at_int (Kd.Q_reads' HO_9.out).2.2 x16_3 p130 q130
                                  cases e130
                                  replace p130 := eq_true p130
                                  replace q130 := eq_true q130
                                  have p138 : 0 ≤ (x16_3 : Int) := of_decide_eq_true (by first | (with_reducible assumption) | assumption)
                                  have q138 : x16_3 < (t117.length : Int) := of_decide_eq_true (by first | (with_reducible assumption) | assumption)
                                  obtain ⟨ad138, e138, hx138_0⟩ := Kd.at_int (Kd.Q_reads' HO_9.out).2.2 x16_3 p138 q138
                                  obtain rfl : ad130 = ad138 := (by injection e138)
                                  replace p138 := eq_true p138
                                  replace q138 := eq_true q138
                                  go_wp2
                                  go_ret2
                                  exact ⟨_, by first | rfl | (simp [errW_none, errW_some] <;> rfl) | (simp only [← hji9]; first | rfl | (simp [errW_none, errW_some] <;> rfl)) | (simp [*, errW_none, errW_some] <;> rfl), by first | exact Kd.R_nil _ _ _ _ _ | exact Kd.N_nil _ _ _ _ _ | exact Kd.V_nil _ _ _ _ _ | exact Kd.Q_nil _ _ _ _ _ | exact Kd.S_nil _ _ _ _ _, by repeat (first | (with_reducible first | exact HB.out | apply below_alloc | apply pw_below_drewN | apply below_drew1) | exact HB.out)⟩
                            · rw [if_neg c40] at H
                              exact absurd H (by simp)
                          · rw [if_neg c39] at H
                            have c39b0 : decide (x16_3 < (t117.length : Int)) = false := decide_eq_false c39
                            clear c39
                            simp only [Option.some.injEq, Prod.mk.injEq] at H
                            obtain ⟨rfl, rfl⟩ := H
                            obtain ⟨Ao52, co52, eo52, _⟩ := Kd.Q_slice HO_9.out
                            subst eo52
                            go_wp2
                            go_ret2
                            exact ⟨_, by first | rfl | (simp [errW_none, errW_some] <;> rfl) | (simp only [← hji9]; first | rfl | (simp [errW_none, errW_some] <;> rfl)) | (simp [*, errW_none, errW_some] <;> rfl), by first | exact Kd.R_nil _ _ _ _ _ | exact Kd.N_nil _ _ _ _ _ | exact Kd.V_nil _ _ _ _ _ | exact Kd.Q_nil _ _ _ _ _ | exact Kd.S_nil _ _ _ _ _, by repeat (first | (with_reducible first | exact HB.out | apply below_alloc | apply pw_below_drewN | apply below_drew1) | exact HB.out)⟩
              · rw [if_neg c13] at H
                exact absurd H (by simp)
            · rw [if_neg c11] at H
              exact absurd H (by simp)
          · rw [if_neg c10] at H
            exact absurd H (by simp)

/-! ### word_Zero: function 41 -/
def word_Zero.f (a0 : Int) : Option (Int) := some (Go.bits .xor .u64 1 ((Go.bits .or .u64 a0 (IntKind.u64.wrap (-a0))) / 9223372036854775808))
set_option maxHeartbeats 8000000 in
set_option maxRecDepth 100000 in
theorem word_Zero.calls (a0 : Int) (r : Int) (w : World) (h : word_Zero.f a0 = some r) :
    Calls Try.prog 41 #[.int .u64 a0] w fun e w' => e = .returned (.int .u64 r) ∧ Drawn0 w w' := by
  have H : (some (Go.bits .xor .u64 1 ((Go.bits .or .u64 a0 (IntKind.u64.wrap (-a0))) / 9223372036854775808))) = some r := h
  clear h
  obtain rfl := Option.some.inj H
  go_enter Try.func41, Try.ntmps41
  go_wp2
  go_ret
  exact ⟨by first | rfl | (simp; done) | (simp [*]; done), by repeat (first | exact Drawn0.refl _ | apply Drawn0.step)⟩

/-! ### word_Mask: function 61 -/
def word_Mask.f (a0 : Int) : Option (Int) := some (IntKind.u64.wrap (-(Go.bits .and .u64 a0 1)))
set_option maxHeartbeats 8000000 in
set_option maxRecDepth 100000 in
theorem word_Mask.calls (a0 : Int) (r : Int) (w : World) (h : word_Mask.f a0 = some r) :
    Calls Try.prog 61 #[.int .u64 a0] w fun e w' => e = .returned (.int .u64 r) ∧ Drawn0 w w' := by
  have H : (some (IntKind.u64.wrap (-(Go.bits .and .u64 a0 1)))) = some r := h
  clear h
  obtain rfl := Option.some.inj H
  go_enter Try.func61, Try.ntmps61
  go_wp2
  go_ret
  exact ⟨by first | rfl | (simp; done) | (simp [*]; done), by repeat (first | exact Drawn0.refl _ | apply Drawn0.step)⟩

/-! ### word_Select: function 44 -/
def word_Select.f (a0 : Int) (a1 : Int) (a2 : Int) : Option (Int) := (word_Mask.f a0).bind fun t139 => (some (Go.bits .or .u64 (Go.bits .and .u64 a1 t139) (Go.bits .andNot .u64 a2 t139)))
set_option maxHeartbeats 8000000 in
set_option maxRecDepth 100000 in
theorem word_Select.calls (a0 : Int) (a1 : Int) (a2 : Int) (r : Int) (w : World) (h : word_Select.f a0 a1 a2 = some r) :
    Calls Try.prog 44 #[.int .u64 a0, .int .u64 a1, .int .u64 a2] w fun e w' => e = .returned (.int .u64 r) ∧ Drawn0 w w' := by
  have H : ((word_Mask.f a0).bind fun t139 => (some (Go.bits .or .u64 (Go.bits .and .u64 a1 t139) (Go.bits .andNot .u64 a2 t139)))) = some r := h
  clear h
  replace H := Option.bind_eq_some_iff.mp H
  obtain ⟨t139, A40, H⟩ := H
  replace H : (some (Go.bits .or .u64 (Go.bits .and .u64 a1 t139) (Go.bits .andNot .u64 a2 t139))) = some r := H
  have A4 := Aside0.mk A40
  clear A40
  obtain rfl := Option.some.inj H
  go_enter Try.func44, Try.ntmps44
  go_wp2_with (first | ((with_reducible refine gate_callee (f := 61) rfl ?_); refine goesL_ (some 9) rfl rfl Try.func61 (by kernel_rfl) rfl #[.int .u64 a0] rfl (by (try simp only [List.map_toArray, List.map_cons, List.map_nil]); first | done | rfl | (simp only [List.length_drop, List.length_take]; rfl)) ?_; (with_reducible refine (word_Mask.calls a0 t139 _ A4.out).mono ?_); rintro e w' ⟨rfl, ⟨nd, rfl⟩⟩; refine ⟨_, rfl, ?_⟩))
  go_ret
  exact ⟨by first | rfl | (simp; done) | (simp [*]; done), by repeat (first | exact Drawn0.refl _ | apply Drawn0.step)⟩

/-! ### word_Equal: function 45 -/
def word_Equal.f (a0 : Int) (a1 : Int) : Option (Int) := (word_Zero.f (Go.bits .xor .u64 a0 a1)).bind fun t140 => (some t140)
set_option maxHeartbeats 8000000 in
set_option maxRecDepth 100000 in
theorem word_Equal.calls (a0 : Int) (a1 : Int) (r : Int) (w : World) (h : word_Equal.f a0 a1 = some r) :
    Calls Try.prog 45 #[.int .u64 a0, .int .u64 a1] w fun e w' => e = .returned (.int .u64 r) ∧ Drawn0 w w' := by
  have H : ((word_Zero.f (Go.bits .xor .u64 a0 a1)).bind fun t140 => (some t140)) = some r := h
  clear h
  replace H := Option.bind_eq_some_iff.mp H
  obtain ⟨t140, A30, H⟩ := H
  replace H : (some t140) = some r := H
  have A3 := Aside0.mk A30
  clear A30
  obtain rfl := Option.some.inj H
  go_enter Try.func45, Try.ntmps45
  go_wp2_with (first | ((with_reducible refine gate_callee (f := 41) rfl ?_); refine goesL_ (some 8) rfl rfl Try.func41 (by kernel_rfl) rfl #[.int .u64 (Go.bits .xor .u64 a0 a1)] rfl (by (try simp only [List.map_toArray, List.map_cons, List.map_nil]); first | done | rfl | (simp only [List.length_drop, List.length_take]; rfl)) ?_; (with_reducible refine (word_Zero.calls (Go.bits .xor .u64 a0 a1) t140 _ A3.out).mono ?_); rintro e w' ⟨rfl, ⟨nd, rfl⟩⟩; refine ⟨_, rfl, ?_⟩))
  go_ret
  exact ⟨by first | rfl | (simp; done) | (simp [*]; done), by repeat (first | exact Drawn0.refl _ | apply Drawn0.step)⟩

end Go.Proofs.Ytincnnmojgphmaa.PO
