/- Functions of the program, each with its contract over this translation: written by a program of this work over the kit's print. -/
import Derived.Test.YtincnnmojgphmaaPPx0
namespace Go.Proofs.Ytincnnmojgphmaa.PP
open Go.RowKit Go.Proofs.Ytincnnmojgphmaa.H Go.Proofs.Ytincnnmojgphmaa.PT Go.Proofs.YtincnnmojgphmaaW.PrintWords Go.Proofs.YtincnnmojgphmaaW.PrintLast Go.Proofs.YtincnnmojgphmaaW.PrintMore
attribute [local go_sem] max2_int min2_int max_two min_two max_three min_three max_four min_four   -- for this text's walks alone
set_option linter.unusedVariables false
set_option linter.unusedSimpArgs false

/-! ### sconceref23_clear: function 35 -/
def sconceref23_clear.f (l0 : List Int) (a1 : Int) : Option (List Int) := if ([] : List Int).length + l0.length < 140737488355328 then ((some (([] : List Int) ++ l0 : List Int)).bind fun y172 => (if (y172.length : Int) > 0 then (if 0 < (y172.length : Int) then (if 0 ≤ (IntKind.u64.wrap (a1)) then (some (y172.set (0 : Int).toNat (Go.bits .and .u8 (rd y172 0) (shr .u8 255 (IntKind.u64.wrap (a1)))))) else (none)) else (none)) else (some y172))) else (none)
set_option maxHeartbeats 8000000 in
set_option maxRecDepth 100000 in
theorem sconceref23_clear.calls (A0 : Option Addr) (c0 : Nat) (l0 : List Int) (a1 : Int) (r : List Int) (w : World) (hr0 : Kd.C (Kd.int .u8) w A0 l0.length l0) (hc0 : l0.length ≤ c0) (h : sconceref23_clear.f l0 a1 = some r) :
  Calls Try.prog 35 #[.slice A0 l0.length c0, .int .i64 a1] w fun e w' => ∃ v0_ : Value, e = .returned (v0_) ∧ Kd.R (Kd.int .u8) 5 w' w.heap.size (fun _ => True) v0_ r ∧ Below w.heap.size w w' := by
 have HR0 := Aside0.mk hr0
 have HC0 := Aside0.mk hc0
 clear hr0 hc0
 have HB := Aside0.mk (Below.refl w.heap.size w)
 have H : (if ([] : List Int).length + l0.length < 140737488355328 then ((some (([] : List Int) ++ l0 : List Int)).bind fun y172 => (if (y172.length : Int) > 0 then (if 0 < (y172.length : Int) then (if 0 ≤ (IntKind.u64.wrap (a1)) then (some (y172.set (0 : Int).toNat (Go.bits .and .u8 (rd y172 0) (shr .u8 255 (IntKind.u64.wrap (a1)))))) else (none)) else (none)) else (some y172))) else (none)) = some r := h
 clear h
 by_cases c3 : ([] : List Int).length + l0.length < 140737488355328
 ·rw [if_pos c3] at H
  have LMc3 := Aside0.mk c3
  clear c3
  obtain ⟨y172, hy172⟩ : ∃ y_ : List Int, y_ = (([] : List Int) ++ l0) := ⟨_, rfl⟩
  replace H : (if (y172.length : Int) > 0 then (if 0 < (y172.length : Int) then (if 0 ≤ (IntKind.u64.wrap (a1)) then (some (y172.set (0 : Int).toNat (Go.bits .and .u8 (rd y172 0) (shr .u8 255 (IntKind.u64.wrap (a1)))))) else (none)) else (none)) else (some y172)) = some r := by first | (rw [hy172]; with_reducible exact H) | (have H2_ := (Option.bind_some _ _).symm.trans H; rw [hy172]; with_reducible exact H2_) | (have H2_ := (Option.bind_some _ _).symm.trans H; with_reducible exact H2_) | with_reducible exact H | (rw [hy172]; exact H) | exact H
  have Ny172 := Aside0.mk hy172
  clear hy172
  by_cases c4 : (y172.length : Int) > 0
  ·rw [if_pos c4] at H
   have c4b0 : decide (0 < (y172.length : Int)) = true := decide_eq_true c4
   have c4b1 : decide (0 < y172.length) = true := decide_eq_true (by omega)
   clear c4
   by_cases c5 : 0 < (y172.length : Int)
   ·rw [if_pos c5] at H
    have c5b0 : decide (0 < (y172.length : Int)) = true := decide_eq_true c5
    have c5b1 : decide (0 < y172.length) = true := decide_eq_true (by omega)
    clear c5
    obtain ⟨ji6, hji6⟩ : ∃ j_ : Int, (IntKind.u64.wrap (a1)) = j_ := ⟨_, rfl⟩
    replace H : (if 0 ≤ (ji6) then (some (y172.set (0 : Int).toNat (Go.bits .and .u8 (rd y172 0) (shr .u8 255 (ji6))))) else (none)) = some r := by first | (rw [hji6] at H; exact H) | (simp only [hji6] at H ⊢; exact H)
    by_cases c7 : 0 ≤ (ji6)
    ·rw [if_pos c7] at H
     have c7b0 := eq_true c7
     have c7b1 : decide (0 ≤ (ji6)) = true := decide_eq_true c7
     clear c7
     obtain ⟨ji8, hji8⟩ : ∃ j_ : Int, (shr .u8 255 (ji6)) = j_ := ⟨_, rfl⟩
     replace H : (some (y172.set (0 : Int).toNat (Go.bits .and .u8 (rd y172 0) (ji8)))) = some r := by first | (rw [hji8] at H; exact H) | (simp only [hji8] at H ⊢; exact H)
     have hji8_ : (255 / 2 ^ min (ji6).toNat 8) = ji8 := hji8
     have hji8z : (ji6) ≤ 8 → (255 / 2 ^ (ji6).toNat) = ji8 := shr_small hji8
     obtain ⟨y176, hy176⟩ : ∃ y_ : List Int, y_ = (y172.set (0 : Int).toNat (Go.bits .and .u8 (rd y172 0) (ji8))) := ⟨_, rfl⟩
     replace H : (some y176) = some r := by first | (rw [hy176]; with_reducible exact H) | (have H2_ := (Option.bind_some _ _).symm.trans H; rw [hy176]; with_reducible exact H2_) | (have H2_ := (Option.bind_some _ _).symm.trans H; with_reducible exact H2_) | with_reducible exact H | (rw [hy176]; exact H) | exact H
     have Ny176 := Aside0.mk hy176
     clear hy176
     obtain rfl := Option.some.inj H
     go_enter Try.func35, Try.ntmps35
     go_wp2_with (first | ((with_reducible refine gate_builtin (b := .append) (xs := #[.const (.slice none 0 0), .tmp 6]) rfl ?_); at_builtin; refine Kd.R_append_rows (Kd.int .u8) (w0 := w) w.heap.size rfl (.const (.slice none 0 0)) (.tmp 6) 22 5 (.int .u8 0) 1 rfl Try.underlying22 info5 rfl (by decide) (by omega) (.slice none 0 0) ([] : List Int) l0 _ _ _ (fun _ => True) (fun _ => False) rfl rfl ?aO ?aR (fun _ _ h => h) (fun _ h => h.elim) ?aF ?aB ?aS ?aL ?_; (case aR => repeat (first | exact HR0.out | (with_reducible refine Kd.C_alloc ?_ _) | (with_reducible refine Kd.C_drewN ?_ _) | (with_reducible refine Kd.C_drew ?_))); (case aB => exact (by repeat with_reducible first | exact HB.out | apply below_alloc | apply pw_below_drewN | apply below_drew1)); (case aF => exact (fun _ _ => trivial)); (case aO => exact ((Kd.R_nil _ _ _ _ (fun _ => True)))); (case aS => exact (below_size (by repeat with_reducible first | exact HB.out | apply below_alloc | apply pw_below_drewN | apply below_drew1))); (case aL => have := LMc3.out; omega); intro v173 w10 ho hb hg hat; rw [← Ny172.out] at ho; have n0_ := Aside0.mk (hb); have n1_ := Aside0.mk (ho); clear HB; have HB := n0_; have HO174 := n1_; clear n0_ n1_; clear ho hb hg hat; obtain ⟨Ao11, co11, eo11⟩ := Kd.R_slice HO174.out; subst eo11; have p175 : 0 ≤ (0 : Int) := (by omega); have q175 : 0 < (y172.length : Int) := of_decide_eq_true (by first | (with_reducible assumption) | assumption); obtain ⟨ad175, e175, hx175_0⟩ := Kd.at_int (Kd.R_reads' HO174.out).2.2 0 p175 q175; cases e175; have qi175 : (0 < y172.length) = True := eq_true (by omega); (try rw [show ((0 : Int)).toNat = 0 from rfl] at hx175_0); (try rw [Addr.add_zero'] at hx175_0); replace p175 := eq_true p175; replace q175 := eq_true q175; have p9 : 0 ≤ (0 : Int) := (by omega); have q9 : (0 : Int) < ((y172.length : Int) : Int) := of_decide_eq_true (by first | (with_reducible assumption) | assumption); have qi9 : (0 < y172.length) = True := eq_true (by omega); obtain ⟨go9, co9, eo9, gb9, gl9, cl9, HG9⟩ := Kd.R_form HO174.out (by omega); (first | cases eo9 | (injection eo9 with ea_ en_ ec_; (first | subst ea_ | (injection ea_ with ea_; subst ea_)); subst ec_; clear en_)); have GB9 := Aside0.mk gb9; have GG9 := Aside0.mk HG9; clear gb9 gl9 HG9; (first | simp only [add_plain] at hx175_0 | skip); obtain ⟨hx9_0, hf9_0⟩ := Kd.R_celln 0 HO174.out (0 : Int) p9 q9; (try rw [show ((0 : Int)).toNat = 0 from rfl] at hx9_0); (try simp only [Nat.reduceMul, Nat.zero_mul, Nat.zero_add, Nat.reduceAdd] at hx9_0); (try rw [show ((0 : Int)).toNat = 0 from rfl] at hf9_0); (try simp only [Nat.reduceMul, Nat.zero_mul, Nat.zero_add, Nat.reduceAdd] at hf9_0); replace p9 := eq_true p9; replace q9 := eq_true q9; obtain ⟨hy12_, hz12_⟩ := Kd.R_celln 0 HO174.out (0 : Int) (by omega) (of_decide_eq_true (by first | (with_reducible assumption) | assumption)); (try simp only [Int.reduceToNat, Int.toNat_zero, Int.toNat_ofNat, Nat.reduceMul, Nat.zero_mul, Nat.zero_add] at hy12_ hz12_); (try rw [show ((0 : Int)).toNat = 0 from rfl] at hy12_); (try rw [show ((0 : Int)).toNat = 0 from rfl] at hz12_); have HP12 := Kd.R_putg HO174.out (0 : Int) (Go.bits .and .u8 (rd y172 0) (ji8))) | ((with_reducible refine gate_store (t := 5) (p := 18) rfl ?_); refine store_event (t := 5) (p := 18) (v := ?vo_w13) (w1 := (w10.setCell ⟨go9, (0 : Int).toNat, none⟩ (.int .u8 (Go.bits .and .u8 (rd y172 0) (ji8))))) ?hg ?ho ?hn ?hr ?_; (case ho => rfl); (case hg => rfl); (case hn => rfl); (case hr => first | (go_simp; done) | (go_simp; rfl)); intro w13 hw; have hg : w10.grownBy w13 (some go9) := (by rw [hw]; exact HP12.2); have hp_ : Kd.R (Kd.int .u8) 5 w13 w.heap.size (fun _ => True) (.slice (some ⟨go9, 0, none⟩) y172.length co11) y176 := (by rw [hw, Ny176.out]; exact HP12.1); clear HP12; have n0_ := Aside0.mk (hp_); have n1_ := Aside0.mk ((by rw [hw]; exact below_set (HB.out) GB9.out : Below w.heap.size w w13)); clear HO174; clear HB; have HO174 := n0_; have HB := n1_; clear n0_ n1_; clear hg hw hp_))
     go_ret
     exact ⟨_, by first | rfl | (simp [errW_none, errW_some] <;> rfl) | (simp only [← hji6, ← hji8]; first | rfl | (simp [errW_none, errW_some] <;> rfl)) | (simp [*, errW_none, errW_some] <;> rfl), by (with_reducible repeat (first | apply Kd.R_alloc | apply Kd.R_drewN | apply Kd.R_drew)); exact HO174.out, by repeat with_reducible first | exact HB.out | apply below_alloc | apply pw_below_drewN | apply below_drew1⟩
    ·rw [if_neg c7] at H
     exact absurd H (by simp)
   ·rw [if_neg c5] at H
    exact absurd H (by simp)
  ·rw [if_neg c4] at H
   have c4b0 : decide (0 < (y172.length : Int)) = false := decide_eq_false c4
   have c4b1 : decide (0 < y172.length) = false := decide_eq_false (by omega)
   clear c4
   obtain rfl := Option.some.inj H
   go_enter Try.func35, Try.ntmps35
   go_wp2_with (first | ((with_reducible refine gate_builtin (b := .append) (xs := #[.const (.slice none 0 0), .tmp 6]) rfl ?_); at_builtin; refine Kd.R_append_rows (Kd.int .u8) (w0 := w) w.heap.size rfl (.const (.slice none 0 0)) (.tmp 6) 22 5 (.int .u8 0) 1 rfl Try.underlying22 info5 rfl (by decide) (by omega) (.slice none 0 0) ([] : List Int) l0 _ _ _ (fun _ => True) (fun _ => False) rfl rfl ?aO ?aR (fun _ _ h => h) (fun _ h => h.elim) ?aF ?aB ?aS ?aL ?_; (case aR => repeat (first | exact HR0.out | (with_reducible refine Kd.C_alloc ?_ _) | (with_reducible refine Kd.C_drewN ?_ _) | (with_reducible refine Kd.C_drew ?_))); (case aB => exact (by repeat with_reducible first | exact HB.out | apply below_alloc | apply pw_below_drewN | apply below_drew1)); (case aF => exact (fun _ _ => trivial)); (case aO => exact ((Kd.R_nil _ _ _ _ (fun _ => True)))); (case aS => exact (below_size (by repeat with_reducible first | exact HB.out | apply below_alloc | apply pw_below_drewN | apply below_drew1))); (case aL => have := LMc3.out; omega); intro v173 w14 ho hb hg hat; rw [← Ny172.out] at ho; have n0_ := Aside0.mk (hb); have n1_ := Aside0.mk (ho); clear HB; have HB := n0_; have HO174 := n1_; clear n0_ n1_; clear ho hb hg hat; obtain ⟨Ao15, co15, eo15⟩ := Kd.R_slice HO174.out; subst eo15))
   go_ret
   exact ⟨_, by first | rfl | (simp [errW_none, errW_some] <;> rfl) | (simp [*, errW_none, errW_some] <;> rfl), by (with_reducible repeat (first | apply Kd.R_alloc | apply Kd.R_drewN | apply Kd.R_drew)); exact HO174.out, by repeat with_reducible first | exact HB.out | apply below_alloc | apply pw_below_drewN | apply below_drew1⟩
 ·rw [if_neg c3] at H
  exact absurd H (by simp)

-- sconceref13_Sum: printed in YtincnnmojgphmaaPTx

-- sconceref13_Size: printed in YtincnnmojgphmaaPTx

-- sconceref13_Mask: printed in YtincnnmojgphmaaPTx

-- sconceref13_Xor: printed in YtincnnmojgphmaaPTx

/-! ### sconceref23_Salted: function 14 -/
def sconceref23_Salted.j0 : Nat → Int → List Int → Int → List Int → Int → Bool → Option (List Int × Int)
 | 0, _, _, _, _, _, _ => none
 | k + 1, x0, x1, x2, x3, x10, x28 => if x28 = true then (some (([] : List Int), 1)) else (if (wrap64 ((wrap64 ((wrap64 (Int.tdiv (wrap64 (x2 + 7)) 8)) - x10)) - 2)) < (x3.length : Int) then (some (([] : List Int), 232)) else ((sconceref13_Sum.f x0 x1).bind fun bt178 => (if 8 ≤ 281474976710656 then ((some (List.replicate 8 0 : List Int)).bind fun y182 => (if y182.length + bt178.1.length < 140737488355328 then ((some (y182 ++ bt178.1 : List Int)).bind fun y185 => (if y185.length + x3.length < 140737488355328 then ((sconceref13_Sum.f x0 (y185 ++ x3)).bind fun bt191 => (if 0 ≤ (wrap64 ((wrap64 ((wrap64 ((wrap64 (Int.tdiv (wrap64 (x2 + 7)) 8)) - x10)) - (x3.length : Int))) - 2)) then (if (wrap64 ((wrap64 ((wrap64 ((wrap64 (Int.tdiv (wrap64 (x2 + 7)) 8)) - x10)) - (x3.length : Int))) - 2) : Int).toNat ≤ 281474976710656 then ((some (List.replicate (wrap64 ((wrap64 ((wrap64 ((wrap64 (Int.tdiv (wrap64 (x2 + 7)) 8)) - x10)) - (x3.length : Int))) - 2) : Int).toNat 0 : List Int)).bind fun y195 => (if y195.length < 140737488355328 then ((some (y195 ++ [1] : List Int)).bind fun y198 => (if y198.length + x3.length < 140737488355328 then ((some (y198 ++ x3 : List Int)).bind fun y201 => ((sconceref13_Mask.f k x0 bt191.1 (y201.length : Int)).bind fun bt204 => ((sconceref13_Xor.f k y201 bt204.1).bind fun t208 => ((sconceref23_clear.f t208 (wrap64 ((wrap64 (8 * (wrap64 (Int.tdiv (wrap64 (x2 + 7)) 8)))) - x2))).bind fun t211 => (if t211.length + bt191.1.length < 140737488355328 then ((some (t211 ++ bt191.1 : List Int)).bind fun y214 => (if y214.length < 140737488355328 then (some ((y214 ++ [188]), 0)) else (none))) else (none)))))) else (none))) else (none))) else (none)) else (none))) else (none))) else (none))) else (none))))
def sconceref23_Salted.f (k : Nat) (a0 : Int) (l1 : List Int) (a2 : Int) (l3 : List Int) : Option (List Int × Int) := (sconceref13_Size.f a0).bind fun t177 => (if t177 = 0 then (some (([] : List Int), 130)) else (if a2 < 1 then (sconceref23_Salted.j0 k a0 l1 a2 l3 t177 true) else (sconceref23_Salted.j0 k a0 l1 a2 l3 t177 (decide (a2 > 8192)))))
theorem sconceref23_Salted.mono_l : ∀ k, (∀ y0 y1 y2 y3 y4 y5, LeO (sconceref23_Salted.j0 k y0 y1 y2 y3 y4 y5) (sconceref23_Salted.j0 (k + 1) y0 y1 y2 y3 y4 y5))
 | 0 => fun _ _ _ _ _ _ r h => by simp [sconceref23_Salted.j0] at h
 | k + 1 => by
  have ih0 := sconceref23_Salted.mono_l k
  ·intro y0 y1 y2 y3 y4 y5
   unfold sconceref23_Salted.j0
   repeat' first
   | (with_reducible exact ih0 _ _ _ _ _ _)
   | (with_reducible exact sconceref13_Mask.mono _ _ _ _)
   | (with_reducible exact sconceref13_Xor.mono _ _ _)
   | (with_reducible exact LeO.refl _)
   | (with_reducible exact LeO.none _)
   | (with_reducible refine LeO.ite ?_ ?_)
   | (with_reducible refine LeO.bind ?_ (fun _ => ?_))
   | exact ih0 _ _ _ _ _ _
   | exact sconceref13_Mask.mono _ _ _ _
   | exact sconceref13_Xor.mono _ _ _
   | exact LeO.none _
   | refine LeO.ite ?_ ?_
   | refine LeO.bind ?_ (fun _ => ?_)
theorem sconceref23_Salted.mono : ∀ a0 a1 a2 a3 k, LeO (sconceref23_Salted.f k a0 a1 a2 a3) (sconceref23_Salted.f (k + 1) a0 a1 a2 a3) := by
 intro a0 a1 a2 a3 k
 have ih0 := sconceref23_Salted.mono_l k
 unfold sconceref23_Salted.f
 repeat' first
   | (with_reducible exact ih0 _ _ _ _ _ _)
   | (with_reducible exact sconceref13_Mask.mono _ _ _ _)
   | (with_reducible exact sconceref13_Xor.mono _ _ _)
   | (with_reducible exact LeO.refl _)
   | (with_reducible exact LeO.none _)
   | (with_reducible refine LeO.ite ?_ ?_)
   | (with_reducible refine LeO.bind ?_ (fun _ => ?_))
   | exact ih0 _ _ _ _ _ _
   | exact sconceref13_Mask.mono _ _ _ _
   | exact sconceref13_Xor.mono _ _ _
   | exact LeO.none _
   | refine LeO.ite ?_ ?_
   | refine LeO.bind ?_ (fun _ => ?_)
set_option maxHeartbeats 8000000 in
set_option maxRecDepth 100000 in
theorem sconceref23_Salted.calls (k : Nat) (a0 : Int) (A1 : Option Addr) (c1 : Nat) (l1 : List Int) (a2 : Int) (A3 : Option Addr) (c3 : Nat) (l3 : List Int) (r1 : List Int) (r2 : Int) (w : World) (hr1 : Kd.C (Kd.int .u8) w A1 l1.length l1) (hc1 : l1.length ≤ c1) (hr3 : Kd.C (Kd.int .u8) w A3 l3.length l3) (hc3 : l3.length ≤ c3) (h : sconceref23_Salted.f k a0 l1 a2 l3 = some (r1, r2)) :
  Calls Try.prog 14 #[.int .i64 a0, .slice A1 l1.length c1, .int .i64 a2, .slice A3 l3.length c3] w fun e w' => ∃ v0_ : Value, e = .returned (.tuple #[v0_, .int .i64 r2]) ∧ Kd.R (Kd.int .u8) 5 w' w.heap.size (fun _ => True) v0_ r1 ∧ Below w.heap.size w w' := by
 have HR1 := Aside0.mk hr1
 have HC1 := Aside0.mk hc1
 clear hr1 hc1
 have HR3 := Aside0.mk hr3
 have HC3 := Aside0.mk hc3
 clear hr3 hc3
 have HB := Aside0.mk (Below.refl w.heap.size w)
 have H : ((sconceref13_Size.f a0).bind fun t177 => (if t177 = 0 then (some (([] : List Int), 130)) else (if a2 < 1 then (sconceref23_Salted.j0 k a0 l1 a2 l3 t177 true) else (sconceref23_Salted.j0 k a0 l1 a2 l3 t177 (decide (a2 > 8192)))))) = some (r1, r2) := h
 clear h
 replace H := Option.bind_eq_some_iff.mp H
 obtain ⟨t177, A50, H⟩ := H
 replace H : (if t177 = 0 then (some (([] : List Int), 130)) else (if a2 < 1 then (sconceref23_Salted.j0 k a0 l1 a2 l3 t177 true) else (sconceref23_Salted.j0 k a0 l1 a2 l3 t177 (decide (a2 > 8192))))) = some (r1, r2) := H
 have A5 := Aside0.mk A50
 clear A50
 by_cases c6 : t177 = 0
 ·rw [if_pos c6] at H
  have c6b0 : (t177 == 0) = true := beq_iff_eq.mpr c6
  have c6b1 : (t177 != 0) = false := bne_eq_false_iff_eq.mpr c6
  clear c6
  simp only [Option.some.injEq, Prod.mk.injEq] at H
  obtain ⟨rfl, rfl⟩ := H
  go_enter Try.func14, Try.ntmps14
  go_wp2_with (first | ((with_reducible refine gate_callee (f := 33) rfl ?_); refine goesL_ (some 20) rfl rfl Try.func33 (by kernel_rfl) rfl #[.int .i64 a0] rfl (by (try simp only [List.map_toArray, List.map_cons, List.map_nil]); first | done | rfl | (simp only [List.length_drop, List.length_take]; rfl)) ?_; (with_reducible refine (sconceref13_Size.calls a0 t177 _ A5.out).mono ?_); rintro e w' ⟨rfl, ⟨nd, rfl⟩⟩; refine ⟨_, rfl, ?_⟩))
  go_ret2
  exact ⟨_, by first | rfl | (simp [errW_none, errW_some] <;> rfl) | (simp [*, errW_none, errW_some] <;> rfl), by first | exact Kd.R_nil _ _ _ _ _ | exact Kd.N_nil _ _ _ _ _ | exact Kd.V_nil _ _ _ _ _ | exact Kd.Q_nil _ _ _ _ _ | exact Kd.S_nil _ _ _ _ _, by repeat with_reducible first | exact HB.out | apply below_alloc | apply pw_below_drewN | apply below_drew1⟩
 ·rw [if_neg c6] at H
  have c6b0 : (t177 == 0) = false := beq_eq_false_iff_ne.mpr c6
  have c6b1 : (t177 != 0) = true := bne_iff_ne.mpr c6
  have HC7 := Aside0.mk H
  clear H
  go_enter Try.func14, Try.ntmps14
  go_upto_region 4 with (first | ((with_reducible refine gate_callee (f := 33) rfl ?_); refine goesL_ (some 20) rfl rfl Try.func33 (by kernel_rfl) rfl #[.int .i64 a0] rfl (by (try simp only [List.map_toArray, List.map_cons, List.map_nil]); first | done | rfl | (simp only [List.length_drop, List.length_take]; rfl)) ?_; (with_reducible refine (sconceref13_Size.calls a0 t177 _ A5.out).mono ?_); rintro e w' ⟨rfl, ⟨nd, rfl⟩⟩; refine ⟨_, rfl, ?_⟩))
  (try simp only [Act.put, List.setIfInBounds_toArray, List.set_cons_zero, List.set_cons_succ])
  go_cut [28] (fun v28 wc => ∃ (kq : Nat) (x28_6 : Bool), v28 = .bool x28_6 ∧ Aside0 (sconceref23_Salted.j0 kq a0 l1 a2 l3 t177 x28_6 = some (r1, r2)) ∧ Aside0 (kq ≤ k) ∧ Aside0 (Below w.heap.size w wc))
  case first =>
   have H := HC7.out
   clear HC7
   by_cases c8 : a2 < 1
   ·rw [if_pos c8] at H
    have c8b0 : decide (a2 < 1) = true := decide_eq_true c8
    clear c8
    (first | rw [c8b0] | (simp only [i64_w, i32_w]; rw [c8b0]) | skip)
    have H' := Aside0.mk H
    clear H
    go_wp2
    go_meet
    case rel => exact ⟨_, (true), (by first | rfl | (simp; done) | (simp [*]; done)), H', ⟨by first | omega | exact Nat.le_refl _⟩, ⟨by repeat with_reducible first | exact HB.out | apply below_alloc | apply pw_below_drewN | apply below_drew1⟩⟩
   ·rw [if_neg c8] at H
    have c8b0 : decide (a2 < 1) = false := decide_eq_false c8
    clear c8
    (first | rw [c8b0] | (simp only [i64_w, i32_w]; rw [c8b0]) | skip)
    have H' := Aside0.mk H
    clear H
    go_wp2
    go_meet
    case rel => exact ⟨_, (decide (a2 > 8192)), (by first | rfl | (simp; done) | (simp [*]; done)), H', ⟨by first | omega | exact Nat.le_refl _⟩, ⟨by repeat with_reducible first | exact HB.out | apply below_alloc | apply pw_below_drewN | apply below_drew1⟩⟩
  case rest =>
   clear HC7
   try clear c1
   try clear p2
   try clear c3
   try clear c6
   try clear c6b0
   try clear c6b1
   try clear c8
   try clear c8b0
   obtain ⟨kq, x28_6, rfl, HA, HJ6, HB⟩ := hcut
   cases kq with
   | zero => exact absurd HA.out (by simp [sconceref23_Salted.j0])
   | succ kj6 =>
    have H := HA.out
    clear HA
    simp only [sconceref23_Salted.j0] at H
    by_cases c9 : x28_6 = true
    ·subst c9
     have H1 : (some (([] : List Int), 1)) = some (r1, r2) := by rw [if_pos rfl] at H; exact H
     clear H
     have H := H1
     clear H1
     simp only [Option.some.injEq, Prod.mk.injEq] at H
     obtain ⟨rfl, rfl⟩ := H
     go_wp2
     go_ret2
     exact ⟨_, by first | rfl | (simp [errW_none, errW_some] <;> rfl) | (simp [*, errW_none, errW_some] <;> rfl), by first | exact Kd.R_nil _ _ _ _ _ | exact Kd.N_nil _ _ _ _ _ | exact Kd.V_nil _ _ _ _ _ | exact Kd.Q_nil _ _ _ _ _ | exact Kd.S_nil _ _ _ _ _, by repeat with_reducible first | exact HB.out | apply below_alloc | apply pw_below_drewN | apply below_drew1⟩
    ·replace c9 := Bool.eq_false_iff.mpr c9
     subst c9
     have H1 : (if (wrap64 ((wrap64 ((wrap64 (Int.tdiv (wrap64 (a2 + 7)) 8)) - t177)) - 2)) < (l3.length : Int) then (some (([] : List Int), 232)) else ((sconceref13_Sum.f a0 l1).bind fun bt178 => (if 8 ≤ 281474976710656 then ((some (List.replicate 8 0 : List Int)).bind fun y182 => (if y182.length + bt178.1.length < 140737488355328 then ((some (y182 ++ bt178.1 : List Int)).bind fun y185 => (if y185.length + l3.length < 140737488355328 then ((sconceref13_Sum.f a0 (y185 ++ l3)).bind fun bt191 => (if 0 ≤ (wrap64 ((wrap64 ((wrap64 ((wrap64 (Int.tdiv (wrap64 (a2 + 7)) 8)) - t177)) - (l3.length : Int))) - 2)) then (if (wrap64 ((wrap64 ((wrap64 ((wrap64 (Int.tdiv (wrap64 (a2 + 7)) 8)) - t177)) - (l3.length : Int))) - 2) : Int).toNat ≤ 281474976710656 then ((some (List.replicate (wrap64 ((wrap64 ((wrap64 ((wrap64 (Int.tdiv (wrap64 (a2 + 7)) 8)) - t177)) - (l3.length : Int))) - 2) : Int).toNat 0 : List Int)).bind fun y195 => (if y195.length < 140737488355328 then ((some (y195 ++ [1] : List Int)).bind fun y198 => (if y198.length + l3.length < 140737488355328 then ((some (y198 ++ l3 : List Int)).bind fun y201 => ((sconceref13_Mask.f kj6 a0 bt191.1 (y201.length : Int)).bind fun bt204 => ((sconceref13_Xor.f kj6 y201 bt204.1).bind fun t208 => ((sconceref23_clear.f t208 (wrap64 ((wrap64 (8 * (wrap64 (Int.tdiv (wrap64 (a2 + 7)) 8)))) - a2))).bind fun t211 => (if t211.length + bt191.1.length < 140737488355328 then ((some (t211 ++ bt191.1 : List Int)).bind fun y214 => (if y214.length < 140737488355328 then (some ((y214 ++ [188]), 0)) else (none))) else (none)))))) else (none))) else (none))) else (none)) else (none))) else (none))) else (none))) else (none)))) = some (r1, r2) := by rw [if_neg (show ¬ (false = true) by decide)] at H; exact H
     clear H
     have H := H1
     clear H1
     by_cases c10 : (wrap64 ((wrap64 ((wrap64 (Int.tdiv (wrap64 (a2 + 7)) 8)) - t177)) - 2)) < (l3.length : Int)
     ·rw [if_pos c10] at H
      have c10b0 : decide ((wrap64 ((wrap64 ((wrap64 (Int.tdiv (wrap64 (a2 + 7)) 8)) - t177)) - 2)) < (l3.length : Int)) = true := decide_eq_true c10
      clear c10
      simp only [Option.some.injEq, Prod.mk.injEq] at H
      obtain ⟨rfl, rfl⟩ := H
      go_wp2
      go_ret2
      exact ⟨_, by first | rfl | (simp [errW_none, errW_some] <;> rfl) | (simp [*, errW_none, errW_some] <;> rfl), by first | exact Kd.R_nil _ _ _ _ _ | exact Kd.N_nil _ _ _ _ _ | exact Kd.V_nil _ _ _ _ _ | exact Kd.Q_nil _ _ _ _ _ | exact Kd.S_nil _ _ _ _ _, by repeat with_reducible first | exact HB.out | apply below_alloc | apply pw_below_drewN | apply below_drew1⟩
     ·rw [if_neg c10] at H
      have c10b0 : decide ((wrap64 ((wrap64 ((wrap64 (Int.tdiv (wrap64 (a2 + 7)) 8)) - t177)) - 2)) < (l3.length : Int)) = false := decide_eq_false c10
      clear c10
      replace H := Option.bind_eq_some_iff.mp H
      obtain ⟨⟨t178, t179⟩, A110, H⟩ := H
      replace H : (if 8 ≤ 281474976710656 then ((some (List.replicate 8 0 : List Int)).bind fun y182 => (if y182.length + t178.length < 140737488355328 then ((some (y182 ++ t178 : List Int)).bind fun y185 => (if y185.length + l3.length < 140737488355328 then ((sconceref13_Sum.f a0 (y185 ++ l3)).bind fun bt191 => (if 0 ≤ (wrap64 ((wrap64 ((wrap64 ((wrap64 (Int.tdiv (wrap64 (a2 + 7)) 8)) - t177)) - (l3.length : Int))) - 2)) then (if (wrap64 ((wrap64 ((wrap64 ((wrap64 (Int.tdiv (wrap64 (a2 + 7)) 8)) - t177)) - (l3.length : Int))) - 2) : Int).toNat ≤ 281474976710656 then ((some (List.replicate (wrap64 ((wrap64 ((wrap64 ((wrap64 (Int.tdiv (wrap64 (a2 + 7)) 8)) - t177)) - (l3.length : Int))) - 2) : Int).toNat 0 : List Int)).bind fun y195 => (if y195.length < 140737488355328 then ((some (y195 ++ [1] : List Int)).bind fun y198 => (if y198.length + l3.length < 140737488355328 then ((some (y198 ++ l3 : List Int)).bind fun y201 => ((sconceref13_Mask.f kj6 a0 bt191.1 (y201.length : Int)).bind fun bt204 => ((sconceref13_Xor.f kj6 y201 bt204.1).bind fun t208 => ((sconceref23_clear.f t208 (wrap64 ((wrap64 (8 * (wrap64 (Int.tdiv (wrap64 (a2 + 7)) 8)))) - a2))).bind fun t211 => (if t211.length + bt191.1.length < 140737488355328 then ((some (t211 ++ bt191.1 : List Int)).bind fun y214 => (if y214.length < 140737488355328 then (some ((y214 ++ [188]), 0)) else (none))) else (none)))))) else (none))) else (none))) else (none)) else (none))) else (none))) else (none))) else (none)) = some (r1, r2) := H
      have A11 := Aside0.mk A110
      clear A110
      by_cases c12 : 8 ≤ 281474976710656
      ·rw [if_pos c12] at H
       have c12b0 := eq_true c12
       have c12b1 : decide (8 ≤ 281474976710656) = true := decide_eq_true c12
       clear c12
       obtain ⟨y182, hy182⟩ : ∃ y_ : List Int, y_ = (List.replicate 8 0) := ⟨_, rfl⟩
       replace H : (if y182.length + t178.length < 140737488355328 then ((some (y182 ++ t178 : List Int)).bind fun y185 => (if y185.length + l3.length < 140737488355328 then ((sconceref13_Sum.f a0 (y185 ++ l3)).bind fun bt191 => (if 0 ≤ (wrap64 ((wrap64 ((wrap64 ((wrap64 (Int.tdiv (wrap64 (a2 + 7)) 8)) - t177)) - (l3.length : Int))) - 2)) then (if (wrap64 ((wrap64 ((wrap64 ((wrap64 (Int.tdiv (wrap64 (a2 + 7)) 8)) - t177)) - (l3.length : Int))) - 2) : Int).toNat ≤ 281474976710656 then ((some (List.replicate (wrap64 ((wrap64 ((wrap64 ((wrap64 (Int.tdiv (wrap64 (a2 + 7)) 8)) - t177)) - (l3.length : Int))) - 2) : Int).toNat 0 : List Int)).bind fun y195 => (if y195.length < 140737488355328 then ((some (y195 ++ [1] : List Int)).bind fun y198 => (if y198.length + l3.length < 140737488355328 then ((some (y198 ++ l3 : List Int)).bind fun y201 => ((sconceref13_Mask.f kj6 a0 bt191.1 (y201.length : Int)).bind fun bt204 => ((sconceref13_Xor.f kj6 y201 bt204.1).bind fun t208 => ((sconceref23_clear.f t208 (wrap64 ((wrap64 (8 * (wrap64 (Int.tdiv (wrap64 (a2 + 7)) 8)))) - a2))).bind fun t211 => (if t211.length + bt191.1.length < 140737488355328 then ((some (t211 ++ bt191.1 : List Int)).bind fun y214 => (if y214.length < 140737488355328 then (some ((y214 ++ [188]), 0)) else (none))) else (none)))))) else (none))) else (none))) else (none)) else (none))) else (none))) else (none)) = some (r1, r2) := by first | (rw [hy182]; with_reducible exact H) | (have H2_ := (Option.bind_some _ _).symm.trans H; rw [hy182]; with_reducible exact H2_) | (have H2_ := (Option.bind_some _ _).symm.trans H; with_reducible exact H2_) | with_reducible exact H | (rw [hy182]; exact H) | exact H
       have Ny182 := Aside0.mk hy182
       clear hy182
       by_cases c13 : y182.length + t178.length < 140737488355328
       ·rw [if_pos c13] at H
        have LMc13 := Aside0.mk c13
        clear c13
        obtain ⟨y185, hy185⟩ : ∃ y_ : List Int, y_ = (y182 ++ t178) := ⟨_, rfl⟩
        replace H : (if y185.length + l3.length < 140737488355328 then ((sconceref13_Sum.f a0 (y185 ++ l3)).bind fun bt191 => (if 0 ≤ (wrap64 ((wrap64 ((wrap64 ((wrap64 (Int.tdiv (wrap64 (a2 + 7)) 8)) - t177)) - (l3.length : Int))) - 2)) then (if (wrap64 ((wrap64 ((wrap64 ((wrap64 (Int.tdiv (wrap64 (a2 + 7)) 8)) - t177)) - (l3.length : Int))) - 2) : Int).toNat ≤ 281474976710656 then ((some (List.replicate (wrap64 ((wrap64 ((wrap64 ((wrap64 (Int.tdiv (wrap64 (a2 + 7)) 8)) - t177)) - (l3.length : Int))) - 2) : Int).toNat 0 : List Int)).bind fun y195 => (if y195.length < 140737488355328 then ((some (y195 ++ [1] : List Int)).bind fun y198 => (if y198.length + l3.length < 140737488355328 then ((some (y198 ++ l3 : List Int)).bind fun y201 => ((sconceref13_Mask.f kj6 a0 bt191.1 (y201.length : Int)).bind fun bt204 => ((sconceref13_Xor.f kj6 y201 bt204.1).bind fun t208 => ((sconceref23_clear.f t208 (wrap64 ((wrap64 (8 * (wrap64 (Int.tdiv (wrap64 (a2 + 7)) 8)))) - a2))).bind fun t211 => (if t211.length + bt191.1.length < 140737488355328 then ((some (t211 ++ bt191.1 : List Int)).bind fun y214 => (if y214.length < 140737488355328 then (some ((y214 ++ [188]), 0)) else (none))) else (none)))))) else (none))) else (none))) else (none)) else (none))) else (none)) = some (r1, r2) := by first | (rw [hy185]; with_reducible exact H) | (have H2_ := (Option.bind_some _ _).symm.trans H; rw [hy185]; with_reducible exact H2_) | (have H2_ := (Option.bind_some _ _).symm.trans H; with_reducible exact H2_) | with_reducible exact H | (rw [hy185]; exact H) | exact H
        have Ny185 := Aside0.mk hy185
        clear hy185
        by_cases c14 : y185.length + l3.length < 140737488355328
        ·rw [if_pos c14] at H
         have LMc14 := Aside0.mk c14
         clear c14
         obtain ⟨y188, hy188⟩ : ∃ y_ : List Int, y_ = (y185 ++ l3) := ⟨_, rfl⟩
         replace H : ((sconceref13_Sum.f a0 y188).bind fun bt191 => (if 0 ≤ (wrap64 ((wrap64 ((wrap64 ((wrap64 (Int.tdiv (wrap64 (a2 + 7)) 8)) - t177)) - (l3.length : Int))) - 2)) then (if (wrap64 ((wrap64 ((wrap64 ((wrap64 (Int.tdiv (wrap64 (a2 + 7)) 8)) - t177)) - (l3.length : Int))) - 2) : Int).toNat ≤ 281474976710656 then ((some (List.replicate (wrap64 ((wrap64 ((wrap64 ((wrap64 (Int.tdiv (wrap64 (a2 + 7)) 8)) - t177)) - (l3.length : Int))) - 2) : Int).toNat 0 : List Int)).bind fun y195 => (if y195.length < 140737488355328 then ((some (y195 ++ [1] : List Int)).bind fun y198 => (if y198.length + l3.length < 140737488355328 then ((some (y198 ++ l3 : List Int)).bind fun y201 => ((sconceref13_Mask.f kj6 a0 bt191.1 (y201.length : Int)).bind fun bt204 => ((sconceref13_Xor.f kj6 y201 bt204.1).bind fun t208 => ((sconceref23_clear.f t208 (wrap64 ((wrap64 (8 * (wrap64 (Int.tdiv (wrap64 (a2 + 7)) 8)))) - a2))).bind fun t211 => (if t211.length + bt191.1.length < 140737488355328 then ((some (t211 ++ bt191.1 : List Int)).bind fun y214 => (if y214.length < 140737488355328 then (some ((y214 ++ [188]), 0)) else (none))) else (none)))))) else (none))) else (none))) else (none)) else (none))) = some (r1, r2) := by first | (rw [hy188]; with_reducible exact H) | (have H2_ := (Option.bind_some _ _).symm.trans H; rw [hy188]; with_reducible exact H2_) | (have H2_ := (Option.bind_some _ _).symm.trans H; with_reducible exact H2_) | with_reducible exact H | (rw [hy188]; exact H) | exact H
         have Ny188 := Aside0.mk hy188
         clear hy188
         replace H := Option.bind_eq_some_iff.mp H
         obtain ⟨⟨t191, t192⟩, A150, H⟩ := H
         replace H : (if 0 ≤ (wrap64 ((wrap64 ((wrap64 ((wrap64 (Int.tdiv (wrap64 (a2 + 7)) 8)) - t177)) - (l3.length : Int))) - 2)) then (if (wrap64 ((wrap64 ((wrap64 ((wrap64 (Int.tdiv (wrap64 (a2 + 7)) 8)) - t177)) - (l3.length : Int))) - 2) : Int).toNat ≤ 281474976710656 then ((some (List.replicate (wrap64 ((wrap64 ((wrap64 ((wrap64 (Int.tdiv (wrap64 (a2 + 7)) 8)) - t177)) - (l3.length : Int))) - 2) : Int).toNat 0 : List Int)).bind fun y195 => (if y195.length < 140737488355328 then ((some (y195 ++ [1] : List Int)).bind fun y198 => (if y198.length + l3.length < 140737488355328 then ((some (y198 ++ l3 : List Int)).bind fun y201 => ((sconceref13_Mask.f kj6 a0 t191 (y201.length : Int)).bind fun bt204 => ((sconceref13_Xor.f kj6 y201 bt204.1).bind fun t208 => ((sconceref23_clear.f t208 (wrap64 ((wrap64 (8 * (wrap64 (Int.tdiv (wrap64 (a2 + 7)) 8)))) - a2))).bind fun t211 => (if t211.length + t191.length < 140737488355328 then ((some (t211 ++ t191 : List Int)).bind fun y214 => (if y214.length < 140737488355328 then (some ((y214 ++ [188]), 0)) else (none))) else (none)))))) else (none))) else (none))) else (none)) else (none)) = some (r1, r2) := H
         have A15 := Aside0.mk A150
         clear A150
         obtain ⟨ji16, hji16⟩ : ∃ j_ : Int, (wrap64 ((wrap64 ((wrap64 ((wrap64 (Int.tdiv (wrap64 (a2 + 7)) 8)) - t177)) - (l3.length : Int))) - 2)) = j_ := ⟨_, rfl⟩
         replace H : (if 0 ≤ (ji16) then (if (ji16 : Int).toNat ≤ 281474976710656 then ((some (List.replicate (ji16 : Int).toNat 0 : List Int)).bind fun y195 => (if y195.length < 140737488355328 then ((some (y195 ++ [1] : List Int)).bind fun y198 => (if y198.length + l3.length < 140737488355328 then ((some (y198 ++ l3 : List Int)).bind fun y201 => ((sconceref13_Mask.f kj6 a0 t191 (y201.length : Int)).bind fun bt204 => ((sconceref13_Xor.f kj6 y201 bt204.1).bind fun t208 => ((sconceref23_clear.f t208 (wrap64 ((wrap64 (8 * (wrap64 (Int.tdiv (wrap64 (a2 + 7)) 8)))) - a2))).bind fun t211 => (if t211.length + t191.length < 140737488355328 then ((some (t211 ++ t191 : List Int)).bind fun y214 => (if y214.length < 140737488355328 then (some ((y214 ++ [188]), 0)) else (none))) else (none)))))) else (none))) else (none))) else (none)) else (none)) = some (r1, r2) := by first | (rw [hji16] at H; exact H) | (simp only [hji16] at H ⊢; exact H)
         (try rw [hji16] at A11)
         (try rw [hji16] at A15)
         have hji16w : (IntKind.i64.wrap ((wrap64 ((wrap64 ((wrap64 (Int.tdiv (wrap64 (a2 + 7)) 8)) - t177)) - (l3.length : Int))) - 2)) = ji16 := (i64_w _).trans hji16
         by_cases c17 : 0 ≤ (ji16)
         ·rw [if_pos c17] at H
          have c17b0 := eq_true c17
          have c17b1 : decide (0 ≤ (ji16)) = true := decide_eq_true c17
          clear c17
          by_cases c18 : (ji16 : Int).toNat ≤ 281474976710656
          ·rw [if_pos c18] at H
           have c18b0 := eq_true c18
           have c18b1 : decide ((ji16 : Int).toNat ≤ 281474976710656) = true := decide_eq_true c18
           clear c18
           obtain ⟨y195, hy195⟩ : ∃ y_ : List Int, y_ = (List.replicate (ji16 : Int).toNat 0) := ⟨_, rfl⟩
           replace H : (if y195.length < 140737488355328 then ((some (y195 ++ [1] : List Int)).bind fun y198 => (if y198.length + l3.length < 140737488355328 then ((some (y198 ++ l3 : List Int)).bind fun y201 => ((sconceref13_Mask.f kj6 a0 t191 (y201.length : Int)).bind fun bt204 => ((sconceref13_Xor.f kj6 y201 bt204.1).bind fun t208 => ((sconceref23_clear.f t208 (wrap64 ((wrap64 (8 * (wrap64 (Int.tdiv (wrap64 (a2 + 7)) 8)))) - a2))).bind fun t211 => (if t211.length + t191.length < 140737488355328 then ((some (t211 ++ t191 : List Int)).bind fun y214 => (if y214.length < 140737488355328 then (some ((y214 ++ [188]), 0)) else (none))) else (none)))))) else (none))) else (none)) = some (r1, r2) := by first | (rw [hy195]; with_reducible exact H) | (have H2_ := (Option.bind_some _ _).symm.trans H; rw [hy195]; with_reducible exact H2_) | (have H2_ := (Option.bind_some _ _).symm.trans H; with_reducible exact H2_) | with_reducible exact H | (rw [hy195]; exact H) | exact H
           have Ny195 := Aside0.mk hy195
           clear hy195
           by_cases c19 : y195.length < 140737488355328
           ·rw [if_pos c19] at H
            have LMc19 := Aside0.mk c19
            clear c19
            obtain ⟨y198, hy198⟩ : ∃ y_ : List Int, y_ = (y195 ++ [1]) := ⟨_, rfl⟩
            replace H : (if y198.length + l3.length < 140737488355328 then ((some (y198 ++ l3 : List Int)).bind fun y201 => ((sconceref13_Mask.f kj6 a0 t191 (y201.length : Int)).bind fun bt204 => ((sconceref13_Xor.f kj6 y201 bt204.1).bind fun t208 => ((sconceref23_clear.f t208 (wrap64 ((wrap64 (8 * (wrap64 (Int.tdiv (wrap64 (a2 + 7)) 8)))) - a2))).bind fun t211 => (if t211.length + t191.length < 140737488355328 then ((some (t211 ++ t191 : List Int)).bind fun y214 => (if y214.length < 140737488355328 then (some ((y214 ++ [188]), 0)) else (none))) else (none)))))) else (none)) = some (r1, r2) := by first | (rw [hy198]; with_reducible exact H) | (have H2_ := (Option.bind_some _ _).symm.trans H; rw [hy198]; with_reducible exact H2_) | (have H2_ := (Option.bind_some _ _).symm.trans H; with_reducible exact H2_) | with_reducible exact H | (rw [hy198]; exact H) | exact H
            have Ny198 := Aside0.mk hy198
            clear hy198
            by_cases c20 : y198.length + l3.length < 140737488355328
            ·rw [if_pos c20] at H
             have LMc20 := Aside0.mk c20
             clear c20
             obtain ⟨y201, hy201⟩ : ∃ y_ : List Int, y_ = (y198 ++ l3) := ⟨_, rfl⟩
             replace H : ((sconceref13_Mask.f kj6 a0 t191 (y201.length : Int)).bind fun bt204 => ((sconceref13_Xor.f kj6 y201 bt204.1).bind fun t208 => ((sconceref23_clear.f t208 (wrap64 ((wrap64 (8 * (wrap64 (Int.tdiv (wrap64 (a2 + 7)) 8)))) - a2))).bind fun t211 => (if t211.length + t191.length < 140737488355328 then ((some (t211 ++ t191 : List Int)).bind fun y214 => (if y214.length < 140737488355328 then (some ((y214 ++ [188]), 0)) else (none))) else (none))))) = some (r1, r2) := by first | (rw [hy201]; with_reducible exact H) | (have H2_ := (Option.bind_some _ _).symm.trans H; rw [hy201]; with_reducible exact H2_) | (have H2_ := (Option.bind_some _ _).symm.trans H; with_reducible exact H2_) | with_reducible exact H | (rw [hy201]; exact H) | exact H
             have Ny201 := Aside0.mk hy201
             clear hy201
             replace H := Option.bind_eq_some_iff.mp H
             obtain ⟨⟨t204, t205⟩, A210, H⟩ := H
             replace H : ((sconceref13_Xor.f kj6 y201 t204).bind fun t208 => ((sconceref23_clear.f t208 (wrap64 ((wrap64 (8 * (wrap64 (Int.tdiv (wrap64 (a2 + 7)) 8)))) - a2))).bind fun t211 => (if t211.length + t191.length < 140737488355328 then ((some (t211 ++ t191 : List Int)).bind fun y214 => (if y214.length < 140737488355328 then (some ((y214 ++ [188]), 0)) else (none))) else (none)))) = some (r1, r2) := H
             have A21 := Aside0.mk A210
             clear A210
             replace H := Option.bind_eq_some_iff.mp H
             obtain ⟨t208, A220, H⟩ := H
             replace H : ((sconceref23_clear.f t208 (wrap64 ((wrap64 (8 * (wrap64 (Int.tdiv (wrap64 (a2 + 7)) 8)))) - a2))).bind fun t211 => (if t211.length + t191.length < 140737488355328 then ((some (t211 ++ t191 : List Int)).bind fun y214 => (if y214.length < 140737488355328 then (some ((y214 ++ [188]), 0)) else (none))) else (none))) = some (r1, r2) := H
             have A22 := Aside0.mk A220
             clear A220
             replace H := Option.bind_eq_some_iff.mp H
             obtain ⟨t211, A230, H⟩ := H
             replace H : (if t211.length + t191.length < 140737488355328 then ((some (t211 ++ t191 : List Int)).bind fun y214 => (if y214.length < 140737488355328 then (some ((y214 ++ [188]), 0)) else (none))) else (none)) = some (r1, r2) := H
             have A23 := Aside0.mk A230
             clear A230
             by_cases c24 : t211.length + t191.length < 140737488355328
             ·rw [if_pos c24] at H
              have LMc24 := Aside0.mk c24
              clear c24
              obtain ⟨y214, hy214⟩ : ∃ y_ : List Int, y_ = (t211 ++ t191) := ⟨_, rfl⟩
              replace H : (if y214.length < 140737488355328 then (some ((y214 ++ [188]), 0)) else (none)) = some (r1, r2) := by first | (rw [hy214]; with_reducible exact H) | (have H2_ := (Option.bind_some _ _).symm.trans H; rw [hy214]; with_reducible exact H2_) | (have H2_ := (Option.bind_some _ _).symm.trans H; with_reducible exact H2_) | with_reducible exact H | (rw [hy214]; exact H) | exact H
              have Ny214 := Aside0.mk hy214
              clear hy214
              by_cases c25 : y214.length < 140737488355328
              ·rw [if_pos c25] at H
               have LMc25 := Aside0.mk c25
               clear c25
               obtain ⟨y217, hy217⟩ : ∃ y_ : List Int, y_ = (y214 ++ [188]) := ⟨_, rfl⟩
               replace H : (some (y217, 0)) = some (r1, r2) := by first | (rw [hy217]; with_reducible exact H) | (have H2_ := (Option.bind_some _ _).symm.trans H; rw [hy217]; with_reducible exact H2_) | (have H2_ := (Option.bind_some _ _).symm.trans H; with_reducible exact H2_) | with_reducible exact H | (rw [hy217]; exact H) | exact H
               have Ny217 := Aside0.mk hy217
               clear hy217
               simp only [Option.some.injEq, Prod.mk.injEq] at H
               obtain ⟨rfl, rfl⟩ := H
               go_wp2_with (first | ((with_reducible refine gate_callee (f := 26) rfl ?_); refine goesL_ (some 42) rfl rfl Try.func26 (by kernel_rfl) rfl #[.int .i64 a0, .slice A1 l1.length c1] rfl (by (try simp only [List.map_toArray, List.map_cons, List.map_nil]); first | done | rfl | (simp only [List.length_drop, List.length_take]; rfl)) ?_; (with_reducible refine (sconceref13_Sum.calls a0 _ _ l1 t178 t179 _ ?side1 ?side2 A11.out).mono ?_); (case side1 => repeat (first | exact (Kd.C_below HR1.out HB.out) | (with_reducible refine Kd.C_alloc ?_ _) | (with_reducible refine Kd.C_drewN ?_ _) | (with_reducible refine Kd.C_drew ?_))); (case side2 => exact HC1.out); rintro e w26 ⟨v180, rfl, ho0, hb⟩; refine ⟨_, rfl, ?_⟩; have n0_ := Aside0.mk (Kd.R_lower ho0 (below_size (by repeat with_reducible first | exact HB.out | apply below_alloc | apply pw_below_drewN | apply below_drew1))); have n1_ := Aside0.mk (below_step (by repeat with_reducible first | exact HB.out | apply below_alloc | apply pw_below_drewN | apply below_drew1) hb); clear HB; have HO181 := n0_; have HB := n1_; clear n0_ n1_; (try clear hb); (try clear hb2); (try clear hk); (try clear hi); (try clear ho0)) | ((with_reducible refine gate_dst (N := 47) rfl ?_); refine Kd.R_make (Kd.int .u8) _ 5 rfl (N := 47) rfl 22 _ _ rfl 8 rfl rfl Try.underlying22 (.int .u8 0) 1 info5 rfl (by decide) (by omega) 0 (ok := fun _ => True) (okp := fun _ => True) rfl (fun _ hk => hk) trivial (by omega) (by omega) (Below.refl _ _) (Nat.le_refl _) ?_; intro v183 w27 ho28 hb hg_ hnew_; clear hg_ hnew_; (first | rw [← Ny182.out] at ho28 | (simp only [Int.reduceToNat] at ho28; rw [← Ny182.out] at ho28)); have n0_ := Aside0.mk (Kd.R_elder' (by (with_reducible repeat (first | apply Kd.R_alloc | apply Kd.R_drewN | apply Kd.R_drew)); exact HO181.out) (Kd.R_base ho28) hb); have n1_ := Aside0.mk (Kd.R_lower (Kd.R_new' ho28 (Kd.R_lt (by (with_reducible repeat (first | apply Kd.R_alloc | apply Kd.R_drewN | apply Kd.R_drew)); exact HO181.out))) (below_size (by repeat with_reducible first | exact HB.out | apply below_alloc | apply pw_below_drewN | apply below_drew1))); have n2_ := Aside0.mk (below_step (by repeat with_reducible first | exact HB.out | apply below_alloc | apply pw_below_drewN | apply below_drew1) hb); clear HO181; clear HB; have HO181 := n0_; have HO184 := n1_; have HB := n2_; clear n0_ n1_ n2_; clear hb ho28; obtain ⟨Ao30, co30, eo30⟩ := Kd.R_slice HO181.out; subst eo30) | ((with_reducible refine gate_builtin (b := .append) (xs := #[.tmp 47, .tmp 48]) rfl ?_); at_builtin; refine Kd.R_append_rows (Kd.int .u8) (w0 := w) w.heap.size rfl (.tmp 47) (.tmp 48) 22 5 (.int .u8 0) 1 rfl Try.underlying22 info5 rfl (by decide) (by omega) v183 y182 t178 _ _ _ (fun k_ => some k_ ≠ (.slice Ao30 t178.length co30 : Value).ownBlock) (fun _ => False) rfl rfl ?aO ?aR (fun _ _ h => h) (fun _ h => h.elim) ?aF ?aB ?aS ?aL ?_; (case aR => repeat (first | exact (Kd.R_reads' HO181.out).2.2 | (with_reducible refine Kd.C_alloc ?_ _) | (with_reducible refine Kd.C_drewN ?_ _) | (with_reducible refine Kd.C_drew ?_))); (case aB => exact (by repeat with_reducible first | exact HB.out | apply below_alloc | apply pw_below_drewN | apply below_drew1)); (case aF => exact (fun k_ hk => Kd.fresh' (Kd.R_lt (by (with_reducible repeat (first | apply Kd.R_alloc | apply Kd.R_drewN | apply Kd.R_drew)); exact HO181.out)) k_ hk)); (case aO => exact (by (with_reducible repeat (first | apply Kd.R_alloc | apply Kd.R_drewN | apply Kd.R_drew)); exact Kd.R_mono HO184.out (fun _ hk => hk.2))); (case aS => exact (below_size (by repeat with_reducible first | exact HB.out | apply below_alloc | apply pw_below_drewN | apply below_drew1))); (case aL => have := LMc13.out; omega); intro v186 w29 ho hb hg hat; rw [← Ny185.out] at ho; have n0_ := Aside0.mk (Kd.R_after (ok := (fun _ => True)) (by (with_reducible repeat (first | apply Kd.R_alloc | apply Kd.R_drewN | apply Kd.R_drew)); exact HO181.out) hg hat); have n1_ := Aside0.mk (hb); have n2_ := Aside0.mk (ho); clear HO181; clear HB; clear HO184; have HO181 := n0_; have HB := n1_; have HO187 := n2_; clear n0_ n1_ n2_; clear ho hb hg hat) | ((with_reducible refine gate_builtin (b := .append) (xs := #[.tmp 49, .tmp 50]) rfl ?_); at_builtin; refine Kd.R_append_rows (Kd.int .u8) (w0 := w) w.heap.size rfl (.tmp 49) (.tmp 50) 22 5 (.int .u8 0) 1 rfl Try.underlying22 info5 rfl (by decide) (by omega) v186 y185 l3 _ _ _ (fun k_ => some k_ ≠ (.slice Ao30 t178.length co30 : Value).ownBlock) (fun _ => False) rfl rfl ?aO ?aR (fun _ _ h => h) (fun _ h => h.elim) ?aF ?aB ?aS ?aL ?_; (case aR => repeat (first | exact (Kd.C_below HR3.out HB.out) | (with_reducible refine Kd.C_alloc ?_ _) | (with_reducible refine Kd.C_drewN ?_ _) | (with_reducible refine Kd.C_drew ?_))); (case aB => exact (by repeat with_reducible first | exact HB.out | apply below_alloc | apply pw_below_drewN | apply below_drew1)); (case aF => exact (fun k_ hk => Kd.fresh' (Kd.R_lt (by (with_reducible repeat (first | apply Kd.R_alloc | apply Kd.R_drewN | apply Kd.R_drew)); exact HO181.out)) k_ hk)); (case aO => exact (by (with_reducible repeat (first | apply Kd.R_alloc | apply Kd.R_drewN | apply Kd.R_drew)); exact HO187.out)); (case aS => exact (below_size (by repeat with_reducible first | exact HB.out | apply below_alloc | apply pw_below_drewN | apply below_drew1))); (case aL => have := LMc14.out; omega); intro v189 w31 ho hb hg hat; rw [← Ny188.out] at ho; have n0_ := Aside0.mk (Kd.R_after (ok := (fun _ => True)) (by (with_reducible repeat (first | apply Kd.R_alloc | apply Kd.R_drewN | apply Kd.R_drew)); exact HO181.out) hg hat); have n1_ := Aside0.mk (hb); have n2_ := Aside0.mk (ho); clear HO181; clear HB; clear HO187; have HO181 := n0_; have HB := n1_; have HO190 := n2_; clear n0_ n1_ n2_; clear ho hb hg hat; obtain ⟨Ao32, co32, eo32⟩ := Kd.R_slice HO190.out; subst eo32) | ((with_reducible refine gate_callee (f := 26) rfl ?_); refine goesL_ (some 52) rfl rfl Try.func26 (by kernel_rfl) rfl #[.int .i64 a0, .slice Ao32 y188.length co32] rfl (by (try simp only [List.map_toArray, List.map_cons, List.map_nil]); first | done | rfl | (simp only [List.length_drop, List.length_take]; rfl)) ?_; (with_reducible refine (sconceref13_Sum.calls a0 _ _ y188 t191 t192 _ ?side1 ?side2 A15.out).mono ?_); (case side1 => repeat (first | exact (Kd.R_reads' HO190.out).2.2 | (with_reducible refine Kd.C_alloc ?_ _) | (with_reducible refine Kd.C_drewN ?_ _) | (with_reducible refine Kd.C_drew ?_))); (case side2 => exact (Kd.R_reads' HO190.out).2.1); rintro e w33 ⟨v193, rfl, ho0, hb⟩; refine ⟨_, rfl, ?_⟩; have n0_ := Aside0.mk (Kd.R_elder' (by (with_reducible repeat (first | apply Kd.R_alloc | apply Kd.R_drewN | apply Kd.R_drew)); exact HO181.out) (Kd.R_base ho0) hb); have n1_ := Aside0.mk (Kd.R_elder' (by (with_reducible repeat (first | apply Kd.R_alloc | apply Kd.R_drewN | apply Kd.R_drew)); exact HO190.out) (Kd.R_base ho0) hb); have n2_ := Aside0.mk (Kd.R_lower (Kd.R_new' (Kd.R_new' ho0 (Kd.R_lt (by (with_reducible repeat (first | apply Kd.R_alloc | apply Kd.R_drewN | apply Kd.R_drew)); exact HO181.out))) (Kd.R_lt (by (with_reducible repeat (first | apply Kd.R_alloc | apply Kd.R_drewN | apply Kd.R_drew)); exact HO190.out))) (below_size (by repeat with_reducible first | exact HB.out | apply below_alloc | apply pw_below_drewN | apply below_drew1))); have n3_ := Aside0.mk (below_step (by repeat with_reducible first | exact HB.out | apply below_alloc | apply pw_below_drewN | apply below_drew1) hb); clear HO181; clear HO190; clear HB; have HO181 := n0_; have HO190 := n1_; have HO194 := n2_; have HB := n3_; clear n0_ n1_ n2_ n3_; (try clear hb); (try clear hb2); (try clear hk); (try clear hi); (try clear ho0)) | ((with_reducible refine gate_dst (N := 62) rfl ?_); refine Kd.R_make (Kd.int .u8) _ 5 rfl (N := 62) rfl 22 _ _ rfl ji16 rfl rfl Try.underlying22 (.int .u8 0) 1 info5 rfl (by decide) (by omega) 0 (ok := fun _ => True) (okp := fun _ => True) rfl (fun _ hk => hk) trivial (of_decide_eq_true (by first | (with_reducible assumption) | assumption)) (Nat.le_trans (Nat.mul_le_mul_right _ (of_decide_eq_true (by first | (with_reducible assumption) | assumption) : ji16.toNat ≤ 281474976710656)) (by omega)) (Below.refl _ _) (Nat.le_refl _) ?_; intro v196 w34 ho35 hb hg_ hnew_; clear hg_ hnew_; (first | rw [← Ny195.out] at ho35 | (simp only [Int.reduceToNat] at ho35; rw [← Ny195.out] at ho35)); have n0_ := Aside0.mk (Kd.R_elder' (by (with_reducible repeat (first | apply Kd.R_alloc | apply Kd.R_drewN | apply Kd.R_drew)); exact HO181.out) (Kd.R_base ho35) hb); have n1_ := Aside0.mk (Kd.R_elder' (by (with_reducible repeat (first | apply Kd.R_alloc | apply Kd.R_drewN | apply Kd.R_drew)); exact HO190.out) (Kd.R_base ho35) hb); have n2_ := Aside0.mk (Kd.R_elder' (by (with_reducible repeat (first | apply Kd.R_alloc | apply Kd.R_drewN | apply Kd.R_drew)); exact HO194.out) (Kd.R_base ho35) hb); have n3_ := Aside0.mk (Kd.R_lower (Kd.R_new' (Kd.R_new' (Kd.R_new' ho35 (Kd.R_lt (by (with_reducible repeat (first | apply Kd.R_alloc | apply Kd.R_drewN | apply Kd.R_drew)); exact HO181.out))) (Kd.R_lt (by (with_reducible repeat (first | apply Kd.R_alloc | apply Kd.R_drewN | apply Kd.R_drew)); exact HO190.out))) (Kd.R_lt (by (with_reducible repeat (first | apply Kd.R_alloc | apply Kd.R_drewN | apply Kd.R_drew)); exact HO194.out))) (below_size (by repeat with_reducible first | exact HB.out | apply below_alloc | apply pw_below_drewN | apply below_drew1))); have n4_ := Aside0.mk (below_step (by repeat with_reducible first | exact HB.out | apply below_alloc | apply pw_below_drewN | apply below_drew1) hb); clear HO181; clear HO190; clear HO194; clear HB; have HO181 := n0_; have HO190 := n1_; have HO194 := n2_; have HO197 := n3_; have HB := n4_; clear n0_ n1_ n2_ n3_ n4_; clear hb ho35) | ((with_reducible refine gate_builtin (b := .append) (xs := #[.tmp 62, .tmp 63]) rfl ?_); at_builtin; refine Kd.R_append (Kd.int .u8) (w0 := w) w.heap.size rfl (.tmp 62) (.tmp 63) 22 5 (.int .u8 0) 1 rfl Try.underlying22 info5 rfl (by decide) (by omega) v196 y195 1 [.int .u8 1] (fun k_ => some k_ ≠ (.slice Ao30 t178.length co30 : Value).ownBlock ∧ some k_ ≠ (.slice Ao32 y188.length co32 : Value).ownBlock ∧ some k_ ≠ (v193 : Value).ownBlock) (fun _ => False) rfl rfl ?aP (fun _ hk => hk.elim) ?aF ?aO ?aB ?aS ?aL ?_; (case aP => exact rfl); (case aB => exact (by repeat with_reducible first | exact HB.out | apply below_alloc | apply pw_below_drewN | apply below_drew1)); (case aF => exact (fun k_ hk => ⟨Kd.fresh' (Kd.R_lt (by (with_reducible repeat (first | apply Kd.R_alloc | apply Kd.R_drewN | apply Kd.R_drew)); exact HO181.out)) k_ hk, Kd.fresh' (Kd.R_lt (by (with_reducible repeat (first | apply Kd.R_alloc | apply Kd.R_drewN | apply Kd.R_drew)); exact HO190.out)) k_ hk, Kd.fresh' (Kd.R_lt (by (with_reducible repeat (first | apply Kd.R_alloc | apply Kd.R_drewN | apply Kd.R_drew)); exact HO194.out)) k_ hk⟩)); (case aO => exact (by (with_reducible repeat (first | apply Kd.R_alloc | apply Kd.R_drewN | apply Kd.R_drew)); exact Kd.R_mono HO197.out (fun _ hk => ⟨hk.1.1.2, ⟨hk.1.2, hk.2⟩⟩))); (case aS => exact (below_size (by repeat with_reducible first | exact HB.out | apply below_alloc | apply pw_below_drewN | apply below_drew1))); (case aL => have := LMc19.out; omega); intro v199 w36 ho hb hg hat; rw [← Ny198.out] at ho; have n0_ := Aside0.mk (Kd.R_after (ok := (fun k_ => some k_ ≠ (.slice Ao32 y188.length co32 : Value).ownBlock ∧ some k_ ≠ (v193 : Value).ownBlock)) (by (with_reducible repeat (first | apply Kd.R_alloc | apply Kd.R_drewN | apply Kd.R_drew)); exact Kd.R_mono HO181.out (fun _ hk => ⟨⟨hk.1.1.2, hk.1.2⟩, hk.2⟩)) hg hat); have n1_ := Aside0.mk (Kd.R_after (ok := (fun k_ => some k_ ≠ (.slice Ao30 t178.length co30 : Value).ownBlock ∧ some k_ ≠ (v193 : Value).ownBlock)) (by (with_reducible repeat (first | apply Kd.R_alloc | apply Kd.R_drewN | apply Kd.R_drew)); exact HO190.out) hg hat); have n2_ := Aside0.mk (Kd.R_after (ok := (fun k_ => some k_ ≠ (.slice Ao30 t178.length co30 : Value).ownBlock ∧ some k_ ≠ (.slice Ao32 y188.length co32 : Value).ownBlock)) (by (with_reducible repeat (first | apply Kd.R_alloc | apply Kd.R_drewN | apply Kd.R_drew)); exact Kd.R_mono HO194.out (fun _ hk => ⟨⟨hk.1.1.2, hk.1.2⟩, hk.2⟩)) hg hat); have n3_ := Aside0.mk (hb); have n4_ := Aside0.mk (ho); clear HO181; clear HO190; clear HO194; clear HB; clear HO197; have HO181 := n0_; have HO190 := n1_; have HO194 := n2_; have HB := n3_; have HO200 := n4_; clear n0_ n1_ n2_ n3_ n4_; clear ho hb hg hat) | ((with_reducible refine gate_builtin (b := .append) (xs := #[.tmp 64, .tmp 65]) rfl ?_); at_builtin; refine Kd.R_append_rows (Kd.int .u8) (w0 := w) w.heap.size rfl (.tmp 64) (.tmp 65) 22 5 (.int .u8 0) 1 rfl Try.underlying22 info5 rfl (by decide) (by omega) v199 y198 l3 _ _ _ (fun k_ => some k_ ≠ (.slice Ao30 t178.length co30 : Value).ownBlock ∧ some k_ ≠ (.slice Ao32 y188.length co32 : Value).ownBlock ∧ some k_ ≠ (v193 : Value).ownBlock) (fun _ => False) rfl rfl ?aO ?aR (fun _ _ h => h) (fun _ h => h.elim) ?aF ?aB ?aS ?aL ?_; (case aR => repeat (first | exact (Kd.C_below HR3.out HB.out) | (with_reducible refine Kd.C_alloc ?_ _) | (with_reducible refine Kd.C_drewN ?_ _) | (with_reducible refine Kd.C_drew ?_))); (case aB => exact (by repeat with_reducible first | exact HB.out | apply below_alloc | apply pw_below_drewN | apply below_drew1)); (case aF => exact (fun k_ hk => ⟨Kd.fresh' (Kd.R_lt (by (with_reducible repeat (first | apply Kd.R_alloc | apply Kd.R_drewN | apply Kd.R_drew)); exact HO181.out)) k_ hk, Kd.fresh' (Kd.R_lt (by (with_reducible repeat (first | apply Kd.R_alloc | apply Kd.R_drewN | apply Kd.R_drew)); exact HO190.out)) k_ hk, Kd.fresh' (Kd.R_lt (by (with_reducible repeat (first | apply Kd.R_alloc | apply Kd.R_drewN | apply Kd.R_drew)); exact HO194.out)) k_ hk⟩)); (case aO => exact (by (with_reducible repeat (first | apply Kd.R_alloc | apply Kd.R_drewN | apply Kd.R_drew)); exact HO200.out)); (case aS => exact (below_size (by repeat with_reducible first | exact HB.out | apply below_alloc | apply pw_below_drewN | apply below_drew1))); (case aL => have := LMc20.out; omega); intro v202 w37 ho hb hg hat; rw [← Ny201.out] at ho; have n0_ := Aside0.mk (Kd.R_after (ok := (fun k_ => some k_ ≠ (.slice Ao32 y188.length co32 : Value).ownBlock ∧ some k_ ≠ (v193 : Value).ownBlock)) (by (with_reducible repeat (first | apply Kd.R_alloc | apply Kd.R_drewN | apply Kd.R_drew)); exact HO181.out) hg hat); have n1_ := Aside0.mk (Kd.R_after (ok := (fun k_ => some k_ ≠ (.slice Ao30 t178.length co30 : Value).ownBlock ∧ some k_ ≠ (v193 : Value).ownBlock)) (by (with_reducible repeat (first | apply Kd.R_alloc | apply Kd.R_drewN | apply Kd.R_drew)); exact HO190.out) hg hat); have n2_ := Aside0.mk (Kd.R_after (ok := (fun k_ => some k_ ≠ (.slice Ao30 t178.length co30 : Value).ownBlock ∧ some k_ ≠ (.slice Ao32 y188.length co32 : Value).ownBlock)) (by (with_reducible repeat (first | apply Kd.R_alloc | apply Kd.R_drewN | apply Kd.R_drew)); exact HO194.out) hg hat); have n3_ := Aside0.mk (hb); have n4_ := Aside0.mk (ho); clear HO181; clear HO190; clear HO194; clear HB; clear HO200; have HO181 := n0_; have HO190 := n1_; have HO194 := n2_; have HB := n3_; have HO203 := n4_; clear n0_ n1_ n2_ n3_ n4_; clear ho hb hg hat; obtain ⟨Ao38, co38, eo38⟩ := Kd.R_slice HO203.out; subst eo38; obtain ⟨Ao39, co39, eo39⟩ := Kd.R_slice HO194.out; subst eo39) | ((with_reducible refine gate_callee (f := 34) rfl ?_); refine goesL_ (some 72) rfl rfl Try.func34 (by kernel_rfl) rfl #[.int .i64 a0, .slice Ao39 t191.length co39, .int .i64 (y201.length : Int)] rfl (by (try simp only [List.map_toArray, List.map_cons, List.map_nil]); first | done | rfl | (simp only [List.length_drop, List.length_take]; rfl)) ?_; (with_reducible refine (sconceref13_Mask.calls kj6 a0 _ _ t191 (y201.length : Int) t204 t205 _ ?side1 ?side2 A21.out).mono ?_); (case side1 => repeat (first | exact (Kd.R_reads' HO194.out).2.2 | (with_reducible refine Kd.C_alloc ?_ _) | (with_reducible refine Kd.C_drewN ?_ _) | (with_reducible refine Kd.C_drew ?_))); (case side2 => exact (Kd.R_reads' HO194.out).2.1); rintro e w40 ⟨v206, rfl, ho0, hb⟩; refine ⟨_, rfl, ?_⟩; have n0_ := Aside0.mk (Kd.R_elder' (by (with_reducible repeat (first | apply Kd.R_alloc | apply Kd.R_drewN | apply Kd.R_drew)); exact HO181.out) (Kd.R_base ho0) hb); have n1_ := Aside0.mk (Kd.R_elder' (by (with_reducible repeat (first | apply Kd.R_alloc | apply Kd.R_drewN | apply Kd.R_drew)); exact HO190.out) (Kd.R_base ho0) hb); have n2_ := Aside0.mk (Kd.R_elder' (by (with_reducible repeat (first | apply Kd.R_alloc | apply Kd.R_drewN | apply Kd.R_drew)); exact HO194.out) (Kd.R_base ho0) hb); have n3_ := Aside0.mk (Kd.R_elder' (by (with_reducible repeat (first | apply Kd.R_alloc | apply Kd.R_drewN | apply Kd.R_drew)); exact HO203.out) (Kd.R_base ho0) hb); have n4_ := Aside0.mk (Kd.R_lower (Kd.R_new' (Kd.R_new' (Kd.R_new' (Kd.R_new' ho0 (Kd.R_lt (by (with_reducible repeat (first | apply Kd.R_alloc | apply Kd.R_drewN | apply Kd.R_drew)); exact HO181.out))) (Kd.R_lt (by (with_reducible repeat (first | apply Kd.R_alloc | apply Kd.R_drewN | apply Kd.R_drew)); exact HO190.out))) (Kd.R_lt (by (with_reducible repeat (first | apply Kd.R_alloc | apply Kd.R_drewN | apply Kd.R_drew)); exact HO194.out))) (Kd.R_lt (by (with_reducible repeat (first | apply Kd.R_alloc | apply Kd.R_drewN | apply Kd.R_drew)); exact HO203.out))) (below_size (by repeat with_reducible first | exact HB.out | apply below_alloc | apply pw_below_drewN | apply below_drew1))); have n5_ := Aside0.mk (below_step (by repeat with_reducible first | exact HB.out | apply below_alloc | apply pw_below_drewN | apply below_drew1) hb); clear HO181; clear HO190; clear HO194; clear HO203; clear HB; have HO181 := n0_; have HO190 := n1_; have HO194 := n2_; have HO203 := n3_; have HO207 := n4_; have HB := n5_; clear n0_ n1_ n2_ n3_ n4_ n5_; (try clear hb); (try clear hb2); (try clear hk); (try clear hi); (try clear ho0); obtain ⟨Ao41, co41, eo41⟩ := Kd.R_slice HO207.out; subst eo41) | ((with_reducible refine gate_callee (f := 36) rfl ?_); refine goesL_ (some 77) rfl rfl Try.func36 (by kernel_rfl) rfl #[.slice Ao38 y201.length co38, .slice Ao41 t204.length co41] rfl (by (try simp only [List.map_toArray, List.map_cons, List.map_nil]); first | done | rfl | (simp only [List.length_drop, List.length_take]; rfl)) ?_; (with_reducible refine (sconceref13_Xor.calls kj6 _ _ y201 _ _ t204 t208 _ ?side1 ?side2 ?side3 ?side4 A22.out).mono ?_); (case side1 => repeat (first | exact (Kd.R_reads' HO203.out).2.2 | (with_reducible refine Kd.C_alloc ?_ _) | (with_reducible refine Kd.C_drewN ?_ _) | (with_reducible refine Kd.C_drew ?_))); (case side2 => exact (Kd.R_reads' HO203.out).2.1); (case side3 => repeat (first | exact (Kd.R_reads' HO207.out).2.2 | (with_reducible refine Kd.C_alloc ?_ _) | (with_reducible refine Kd.C_drewN ?_ _) | (with_reducible refine Kd.C_drew ?_))); (case side4 => exact (Kd.R_reads' HO207.out).2.1); rintro e w42 ⟨v209, rfl, ho0, hb⟩; refine ⟨_, rfl, ?_⟩; have n0_ := Aside0.mk (Kd.R_elder' (by (with_reducible repeat (first | apply Kd.R_alloc | apply Kd.R_drewN | apply Kd.R_drew)); exact HO181.out) (Kd.R_base ho0) hb); have n1_ := Aside0.mk (Kd.R_elder' (by (with_reducible repeat (first | apply Kd.R_alloc | apply Kd.R_drewN | apply Kd.R_drew)); exact HO190.out) (Kd.R_base ho0) hb); have n2_ := Aside0.mk (Kd.R_elder' (by (with_reducible repeat (first | apply Kd.R_alloc | apply Kd.R_drewN | apply Kd.R_drew)); exact HO194.out) (Kd.R_base ho0) hb); have n3_ := Aside0.mk (Kd.R_elder' (by (with_reducible repeat (first | apply Kd.R_alloc | apply Kd.R_drewN | apply Kd.R_drew)); exact HO203.out) (Kd.R_base ho0) hb); have n4_ := Aside0.mk (Kd.R_elder' (by (with_reducible repeat (first | apply Kd.R_alloc | apply Kd.R_drewN | apply Kd.R_drew)); exact HO207.out) (Kd.R_base ho0) hb); have n5_ := Aside0.mk (Kd.R_lower (Kd.R_new' (Kd.R_new' (Kd.R_new' (Kd.R_new' (Kd.R_new' ho0 (Kd.R_lt (by (with_reducible repeat (first | apply Kd.R_alloc | apply Kd.R_drewN | apply Kd.R_drew)); exact HO181.out))) (Kd.R_lt (by (with_reducible repeat (first | apply Kd.R_alloc | apply Kd.R_drewN | apply Kd.R_drew)); exact HO190.out))) (Kd.R_lt (by (with_reducible repeat (first | apply Kd.R_alloc | apply Kd.R_drewN | apply Kd.R_drew)); exact HO194.out))) (Kd.R_lt (by (with_reducible repeat (first | apply Kd.R_alloc | apply Kd.R_drewN | apply Kd.R_drew)); exact HO203.out))) (Kd.R_lt (by (with_reducible repeat (first | apply Kd.R_alloc | apply Kd.R_drewN | apply Kd.R_drew)); exact HO207.out))) (below_size (by repeat with_reducible first | exact HB.out | apply below_alloc | apply pw_below_drewN | apply below_drew1))); have n6_ := Aside0.mk (below_step (by repeat with_reducible first | exact HB.out | apply below_alloc | apply pw_below_drewN | apply below_drew1) hb); clear HO181; clear HO190; clear HO194; clear HO203; clear HO207; clear HB; have HO181 := n0_; have HO190 := n1_; have HO194 := n2_; have HO203 := n3_; have HO207 := n4_; have HO210 := n5_; have HB := n6_; clear n0_ n1_ n2_ n3_ n4_ n5_ n6_; (try clear hb); (try clear hb2); (try clear hk); (try clear hi); (try clear ho0); obtain ⟨Ao43, co43, eo43⟩ := Kd.R_slice HO210.out; subst eo43) | ((with_reducible refine gate_callee (f := 35) rfl ?_); refine goesL_ (some 82) rfl rfl Try.func35 (by kernel_rfl) rfl #[.slice Ao43 t208.length co43, .int .i64 (wrap64 ((wrap64 (8 * (wrap64 (Int.tdiv (wrap64 (a2 + 7)) 8)))) - a2))] rfl (by (try simp only [List.map_toArray, List.map_cons, List.map_nil]); first | done | rfl | (simp only [List.length_drop, List.length_take]; rfl)) ?_; (with_reducible refine (sconceref23_clear.calls _ _ t208 (wrap64 ((wrap64 (8 * (wrap64 (Int.tdiv (wrap64 (a2 + 7)) 8)))) - a2)) t211 _ ?side1 ?side2 A23.out).mono ?_); (case side1 => repeat (first | exact (Kd.R_reads' HO210.out).2.2 | (with_reducible refine Kd.C_alloc ?_ _) | (with_reducible refine Kd.C_drewN ?_ _) | (with_reducible refine Kd.C_drew ?_))); (case side2 => exact (Kd.R_reads' HO210.out).2.1); rintro e w44 ⟨v212, rfl, ho0, hb⟩; refine ⟨_, rfl, ?_⟩; have n0_ := Aside0.mk (Kd.R_elder' (by (with_reducible repeat (first | apply Kd.R_alloc | apply Kd.R_drewN | apply Kd.R_drew)); exact HO181.out) (Kd.R_base ho0) hb); have n1_ := Aside0.mk (Kd.R_elder' (by (with_reducible repeat (first | apply Kd.R_alloc | apply Kd.R_drewN | apply Kd.R_drew)); exact HO190.out) (Kd.R_base ho0) hb); have n2_ := Aside0.mk (Kd.R_elder' (by (with_reducible repeat (first | apply Kd.R_alloc | apply Kd.R_drewN | apply Kd.R_drew)); exact HO194.out) (Kd.R_base ho0) hb); have n3_ := Aside0.mk (Kd.R_elder' (by (with_reducible repeat (first | apply Kd.R_alloc | apply Kd.R_drewN | apply Kd.R_drew)); exact HO203.out) (Kd.R_base ho0) hb); have n4_ := Aside0.mk (Kd.R_elder' (by (with_reducible repeat (first | apply Kd.R_alloc | apply Kd.R_drewN | apply Kd.R_drew)); exact HO207.out) (Kd.R_base ho0) hb); have n5_ := Aside0.mk (Kd.R_elder' (by (with_reducible repeat (first | apply Kd.R_alloc | apply Kd.R_drewN | apply Kd.R_drew)); exact HO210.out) (Kd.R_base ho0) hb); have n6_ := Aside0.mk (Kd.R_lower (Kd.R_new' (Kd.R_new' (Kd.R_new' (Kd.R_new' (Kd.R_new' (Kd.R_new' ho0 (Kd.R_lt (by (with_reducible repeat (first | apply Kd.R_alloc | apply Kd.R_drewN | apply Kd.R_drew)); exact HO181.out))) (Kd.R_lt (by (with_reducible repeat (first | apply Kd.R_alloc | apply Kd.R_drewN | apply Kd.R_drew)); exact HO190.out))) (Kd.R_lt (by (with_reducible repeat (first | apply Kd.R_alloc | apply Kd.R_drewN | apply Kd.R_drew)); exact HO194.out))) (Kd.R_lt (by (with_reducible repeat (first | apply Kd.R_alloc | apply Kd.R_drewN | apply Kd.R_drew)); exact HO203.out))) (Kd.R_lt (by (with_reducible repeat (first | apply Kd.R_alloc | apply Kd.R_drewN | apply Kd.R_drew)); exact HO207.out))) (Kd.R_lt (by (with_reducible repeat (first | apply Kd.R_alloc | apply Kd.R_drewN | apply Kd.R_drew)); exact HO210.out))) (below_size (by repeat with_reducible first | exact HB.out | apply below_alloc | apply pw_below_drewN | apply below_drew1))); have n7_ := Aside0.mk (below_step (by repeat with_reducible first | exact HB.out | apply below_alloc | apply pw_below_drewN | apply below_drew1) hb); clear HO181; clear HO190; clear HO194; clear HO203; clear HO207; clear HO210; clear HB; have HO181 := n0_; have HO190 := n1_; have HO194 := n2_; have HO203 := n3_; have HO207 := n4_; have HO210 := n5_; have HO213 := n6_; have HB := n7_; clear n0_ n1_ n2_ n3_ n4_ n5_ n6_ n7_; (try clear hb); (try clear hb2); (try clear hk); (try clear hi); (try clear ho0)) | ((with_reducible refine gate_builtin (b := .append) (xs := #[.tmp 83, .tmp 84]) rfl ?_); at_builtin; refine Kd.R_append_rows (Kd.int .u8) (w0 := w) w.heap.size rfl (.tmp 83) (.tmp 84) 22 5 (.int .u8 0) 1 rfl Try.underlying22 info5 rfl (by decide) (by omega) v212 t211 t191 _ _ _ (fun k_ => some k_ ≠ (.slice Ao30 t178.length co30 : Value).ownBlock ∧ some k_ ≠ (.slice Ao32 y188.length co32 : Value).ownBlock ∧ some k_ ≠ (.slice Ao39 t191.length co39 : Value).ownBlock ∧ some k_ ≠ (.slice Ao38 y201.length co38 : Value).ownBlock ∧ some k_ ≠ (.slice Ao41 t204.length co41 : Value).ownBlock ∧ some k_ ≠ (.slice Ao43 t208.length co43 : Value).ownBlock) (fun _ => False) rfl rfl ?aO ?aR (fun _ _ h => h) (fun _ h => h.elim) ?aF ?aB ?aS ?aL ?_; (case aR => repeat (first | exact (Kd.R_reads' HO194.out).2.2 | (with_reducible refine Kd.C_alloc ?_ _) | (with_reducible refine Kd.C_drewN ?_ _) | (with_reducible refine Kd.C_drew ?_))); (case aB => exact (by repeat with_reducible first | exact HB.out | apply below_alloc | apply pw_below_drewN | apply below_drew1)); (case aF => exact (fun k_ hk => ⟨Kd.fresh' (Kd.R_lt (by (with_reducible repeat (first | apply Kd.R_alloc | apply Kd.R_drewN | apply Kd.R_drew)); exact HO181.out)) k_ hk, Kd.fresh' (Kd.R_lt (by (with_reducible repeat (first | apply Kd.R_alloc | apply Kd.R_drewN | apply Kd.R_drew)); exact HO190.out)) k_ hk, Kd.fresh' (Kd.R_lt (by (with_reducible repeat (first | apply Kd.R_alloc | apply Kd.R_drewN | apply Kd.R_drew)); exact HO194.out)) k_ hk, Kd.fresh' (Kd.R_lt (by (with_reducible repeat (first | apply Kd.R_alloc | apply Kd.R_drewN | apply Kd.R_drew)); exact HO203.out)) k_ hk, Kd.fresh' (Kd.R_lt (by (with_reducible repeat (first | apply Kd.R_alloc | apply Kd.R_drewN | apply Kd.R_drew)); exact HO207.out)) k_ hk, Kd.fresh' (Kd.R_lt (by (with_reducible repeat (first | apply Kd.R_alloc | apply Kd.R_drewN | apply Kd.R_drew)); exact HO210.out)) k_ hk⟩)); (case aO => exact (by (with_reducible repeat (first | apply Kd.R_alloc | apply Kd.R_drewN | apply Kd.R_drew)); exact Kd.R_mono HO213.out (fun _ hk => ⟨hk.1.1.1.1.1.2, ⟨hk.1.1.1.1.2, ⟨hk.1.1.1.2, ⟨hk.1.1.2, ⟨hk.1.2, hk.2⟩⟩⟩⟩⟩))); (case aS => exact (below_size (by repeat with_reducible first | exact HB.out | apply below_alloc | apply pw_below_drewN | apply below_drew1))); (case aL => have := LMc24.out; omega); intro v215 w45 ho hb hg hat; rw [← Ny214.out] at ho; have n0_ := Aside0.mk (Kd.R_after (ok := (fun k_ => some k_ ≠ (.slice Ao32 y188.length co32 : Value).ownBlock ∧ some k_ ≠ (.slice Ao39 t191.length co39 : Value).ownBlock ∧ some k_ ≠ (.slice Ao38 y201.length co38 : Value).ownBlock ∧ some k_ ≠ (.slice Ao41 t204.length co41 : Value).ownBlock ∧ some k_ ≠ (.slice Ao43 t208.length co43 : Value).ownBlock)) (by (with_reducible repeat (first | apply Kd.R_alloc | apply Kd.R_drewN | apply Kd.R_drew)); exact Kd.R_mono HO181.out (fun _ hk => ⟨⟨hk.1.1.1.1.1, ⟨hk.1.1.1.1.2, ⟨hk.1.1.1.2, ⟨hk.1.1.2, hk.1.2⟩⟩⟩⟩, hk.2⟩)) hg hat); have n1_ := Aside0.mk (Kd.R_after (ok := (fun k_ => some k_ ≠ (.slice Ao30 t178.length co30 : Value).ownBlock ∧ some k_ ≠ (.slice Ao39 t191.length co39 : Value).ownBlock ∧ some k_ ≠ (.slice Ao38 y201.length co38 : Value).ownBlock ∧ some k_ ≠ (.slice Ao41 t204.length co41 : Value).ownBlock ∧ some k_ ≠ (.slice Ao43 t208.length co43 : Value).ownBlock)) (by (with_reducible repeat (first | apply Kd.R_alloc | apply Kd.R_drewN | apply Kd.R_drew)); exact Kd.R_mono HO190.out (fun _ hk => ⟨⟨hk.1.1.1.1.1, ⟨hk.1.1.1.1.2, ⟨hk.1.1.1.2, ⟨hk.1.1.2, hk.1.2⟩⟩⟩⟩, hk.2⟩)) hg hat); have n2_ := Aside0.mk (Kd.R_after (ok := (fun k_ => some k_ ≠ (.slice Ao30 t178.length co30 : Value).ownBlock ∧ some k_ ≠ (.slice Ao32 y188.length co32 : Value).ownBlock ∧ some k_ ≠ (.slice Ao38 y201.length co38 : Value).ownBlock ∧ some k_ ≠ (.slice Ao41 t204.length co41 : Value).ownBlock ∧ some k_ ≠ (.slice Ao43 t208.length co43 : Value).ownBlock)) (by (with_reducible repeat (first | apply Kd.R_alloc | apply Kd.R_drewN | apply Kd.R_drew)); exact Kd.R_mono HO194.out (fun _ hk => ⟨⟨hk.1.1.1.1.1, ⟨hk.1.1.1.1.2, ⟨hk.1.1.1.2, ⟨hk.1.1.2, hk.1.2⟩⟩⟩⟩, hk.2⟩)) hg hat); have n3_ := Aside0.mk (Kd.R_after (ok := (fun k_ => some k_ ≠ (.slice Ao30 t178.length co30 : Value).ownBlock ∧ some k_ ≠ (.slice Ao32 y188.length co32 : Value).ownBlock ∧ some k_ ≠ (.slice Ao39 t191.length co39 : Value).ownBlock ∧ some k_ ≠ (.slice Ao41 t204.length co41 : Value).ownBlock ∧ some k_ ≠ (.slice Ao43 t208.length co43 : Value).ownBlock)) (by (with_reducible repeat (first | apply Kd.R_alloc | apply Kd.R_drewN | apply Kd.R_drew)); exact Kd.R_mono HO203.out (fun _ hk => ⟨⟨hk.1.1.1.1, ⟨hk.1.1.1.2.1, ⟨hk.1.1.1.2.2, ⟨hk.1.1.2, hk.1.2⟩⟩⟩⟩, hk.2⟩)) hg hat); have n4_ := Aside0.mk (Kd.R_after (ok := (fun k_ => some k_ ≠ (.slice Ao30 t178.length co30 : Value).ownBlock ∧ some k_ ≠ (.slice Ao32 y188.length co32 : Value).ownBlock ∧ some k_ ≠ (.slice Ao39 t191.length co39 : Value).ownBlock ∧ some k_ ≠ (.slice Ao38 y201.length co38 : Value).ownBlock ∧ some k_ ≠ (.slice Ao43 t208.length co43 : Value).ownBlock)) (by (with_reducible repeat (first | apply Kd.R_alloc | apply Kd.R_drewN | apply Kd.R_drew)); exact Kd.R_mono HO207.out (fun _ hk => ⟨⟨hk.1.1.1.1.1.2, ⟨hk.1.1.1.1.2, ⟨hk.1.1.1.2, ⟨hk.1.1.2, hk.1.2⟩⟩⟩⟩, hk.2⟩)) hg hat); have n5_ := Aside0.mk (Kd.R_after (ok := (fun k_ => some k_ ≠ (.slice Ao30 t178.length co30 : Value).ownBlock ∧ some k_ ≠ (.slice Ao32 y188.length co32 : Value).ownBlock ∧ some k_ ≠ (.slice Ao39 t191.length co39 : Value).ownBlock ∧ some k_ ≠ (.slice Ao38 y201.length co38 : Value).ownBlock ∧ some k_ ≠ (.slice Ao41 t204.length co41 : Value).ownBlock)) (by (with_reducible repeat (first | apply Kd.R_alloc | apply Kd.R_drewN | apply Kd.R_drew)); exact Kd.R_mono HO210.out (fun _ hk => ⟨⟨hk.1.1.1.1.1.2, ⟨hk.1.1.1.1.2, ⟨hk.1.1.1.2, ⟨hk.1.1.2, hk.1.2⟩⟩⟩⟩, hk.2⟩)) hg hat); have n6_ := Aside0.mk (hb); have n7_ := Aside0.mk (ho); clear HO181; clear HO190; clear HO194; clear HO203; clear HO207; clear HO210; clear HB; clear HO213; have HO181 := n0_; have HO190 := n1_; have HO194 := n2_; have HO203 := n3_; have HO207 := n4_; have HO210 := n5_; have HB := n6_; have HO216 := n7_; clear n0_ n1_ n2_ n3_ n4_ n5_ n6_ n7_; clear ho hb hg hat) | ((with_reducible refine gate_builtin (b := .append) (xs := #[.tmp 85, .tmp 86]) rfl ?_); at_builtin; refine Kd.R_append (Kd.int .u8) (w0 := w) w.heap.size rfl (.tmp 85) (.tmp 86) 22 5 (.int .u8 0) 1 rfl Try.underlying22 info5 rfl (by decide) (by omega) v215 y214 188 [.int .u8 188] (fun k_ => some k_ ≠ (.slice Ao30 t178.length co30 : Value).ownBlock ∧ some k_ ≠ (.slice Ao32 y188.length co32 : Value).ownBlock ∧ some k_ ≠ (.slice Ao39 t191.length co39 : Value).ownBlock ∧ some k_ ≠ (.slice Ao38 y201.length co38 : Value).ownBlock ∧ some k_ ≠ (.slice Ao41 t204.length co41 : Value).ownBlock ∧ some k_ ≠ (.slice Ao43 t208.length co43 : Value).ownBlock) (fun _ => False) rfl rfl ?aP (fun _ hk => hk.elim) ?aF ?aO ?aB ?aS ?aL ?_; (case aP => exact rfl); (case aB => exact (by repeat with_reducible first | exact HB.out | apply below_alloc | apply pw_below_drewN | apply below_drew1)); (case aF => exact (fun k_ hk => ⟨Kd.fresh' (Kd.R_lt (by (with_reducible repeat (first | apply Kd.R_alloc | apply Kd.R_drewN | apply Kd.R_drew)); exact HO181.out)) k_ hk, Kd.fresh' (Kd.R_lt (by (with_reducible repeat (first | apply Kd.R_alloc | apply Kd.R_drewN | apply Kd.R_drew)); exact HO190.out)) k_ hk, Kd.fresh' (Kd.R_lt (by (with_reducible repeat (first | apply Kd.R_alloc | apply Kd.R_drewN | apply Kd.R_drew)); exact HO194.out)) k_ hk, Kd.fresh' (Kd.R_lt (by (with_reducible repeat (first | apply Kd.R_alloc | apply Kd.R_drewN | apply Kd.R_drew)); exact HO203.out)) k_ hk, Kd.fresh' (Kd.R_lt (by (with_reducible repeat (first | apply Kd.R_alloc | apply Kd.R_drewN | apply Kd.R_drew)); exact HO207.out)) k_ hk, Kd.fresh' (Kd.R_lt (by (with_reducible repeat (first | apply Kd.R_alloc | apply Kd.R_drewN | apply Kd.R_drew)); exact HO210.out)) k_ hk⟩)); (case aO => exact (by (with_reducible repeat (first | apply Kd.R_alloc | apply Kd.R_drewN | apply Kd.R_drew)); exact HO216.out)); (case aS => exact (below_size (by repeat with_reducible first | exact HB.out | apply below_alloc | apply pw_below_drewN | apply below_drew1))); (case aL => have := LMc25.out; omega); intro v218 w46 ho hb hg hat; rw [← Ny217.out] at ho; have n0_ := Aside0.mk (Kd.R_after (ok := (fun k_ => some k_ ≠ (.slice Ao32 y188.length co32 : Value).ownBlock ∧ some k_ ≠ (.slice Ao39 t191.length co39 : Value).ownBlock ∧ some k_ ≠ (.slice Ao38 y201.length co38 : Value).ownBlock ∧ some k_ ≠ (.slice Ao41 t204.length co41 : Value).ownBlock ∧ some k_ ≠ (.slice Ao43 t208.length co43 : Value).ownBlock)) (by (with_reducible repeat (first | apply Kd.R_alloc | apply Kd.R_drewN | apply Kd.R_drew)); exact HO181.out) hg hat); have n1_ := Aside0.mk (Kd.R_after (ok := (fun k_ => some k_ ≠ (.slice Ao30 t178.length co30 : Value).ownBlock ∧ some k_ ≠ (.slice Ao39 t191.length co39 : Value).ownBlock ∧ some k_ ≠ (.slice Ao38 y201.length co38 : Value).ownBlock ∧ some k_ ≠ (.slice Ao41 t204.length co41 : Value).ownBlock ∧ some k_ ≠ (.slice Ao43 t208.length co43 : Value).ownBlock)) (by (with_reducible repeat (first | apply Kd.R_alloc | apply Kd.R_drewN | apply Kd.R_drew)); exact HO190.out) hg hat); have n2_ := Aside0.mk (Kd.R_after (ok := (fun k_ => some k_ ≠ (.slice Ao30 t178.length co30 : Value).ownBlock ∧ some k_ ≠ (.slice Ao32 y188.length co32 : Value).ownBlock ∧ some k_ ≠ (.slice Ao38 y201.length co38 : Value).ownBlock ∧ some k_ ≠ (.slice Ao41 t204.length co41 : Value).ownBlock ∧ some k_ ≠ (.slice Ao43 t208.length co43 : Value).ownBlock)) (by (with_reducible repeat (first | apply Kd.R_alloc | apply Kd.R_drewN | apply Kd.R_drew)); exact HO194.out) hg hat); have n3_ := Aside0.mk (Kd.R_after (ok := (fun k_ => some k_ ≠ (.slice Ao30 t178.length co30 : Value).ownBlock ∧ some k_ ≠ (.slice Ao32 y188.length co32 : Value).ownBlock ∧ some k_ ≠ (.slice Ao39 t191.length co39 : Value).ownBlock ∧ some k_ ≠ (.slice Ao41 t204.length co41 : Value).ownBlock ∧ some k_ ≠ (.slice Ao43 t208.length co43 : Value).ownBlock)) (by (with_reducible repeat (first | apply Kd.R_alloc | apply Kd.R_drewN | apply Kd.R_drew)); exact HO203.out) hg hat); have n4_ := Aside0.mk (Kd.R_after (ok := (fun k_ => some k_ ≠ (.slice Ao30 t178.length co30 : Value).ownBlock ∧ some k_ ≠ (.slice Ao32 y188.length co32 : Value).ownBlock ∧ some k_ ≠ (.slice Ao39 t191.length co39 : Value).ownBlock ∧ some k_ ≠ (.slice Ao38 y201.length co38 : Value).ownBlock ∧ some k_ ≠ (.slice Ao43 t208.length co43 : Value).ownBlock)) (by (with_reducible repeat (first | apply Kd.R_alloc | apply Kd.R_drewN | apply Kd.R_drew)); exact HO207.out) hg hat); have n5_ := Aside0.mk (Kd.R_after (ok := (fun k_ => some k_ ≠ (.slice Ao30 t178.length co30 : Value).ownBlock ∧ some k_ ≠ (.slice Ao32 y188.length co32 : Value).ownBlock ∧ some k_ ≠ (.slice Ao39 t191.length co39 : Value).ownBlock ∧ some k_ ≠ (.slice Ao38 y201.length co38 : Value).ownBlock ∧ some k_ ≠ (.slice Ao41 t204.length co41 : Value).ownBlock)) (by (with_reducible repeat (first | apply Kd.R_alloc | apply Kd.R_drewN | apply Kd.R_drew)); exact HO210.out) hg hat); have n6_ := Aside0.mk (hb); have n7_ := Aside0.mk (ho); clear HO181; clear HO190; clear HO194; clear HO203; clear HO207; clear HO210; clear HB; clear HO216; have HO181 := n0_; have HO190 := n1_; have HO194 := n2_; have HO203 := n3_; have HO207 := n4_; have HO210 := n5_; have HB := n6_; have HO219 := n7_; clear n0_ n1_ n2_ n3_ n4_ n5_ n6_ n7_; clear ho hb hg hat))
               go_ret2
               exact ⟨_, by first | rfl | (simp [errW_none, errW_some] <;> rfl) | (simp only [← hji16]; first | rfl | (simp [errW_none, errW_some] <;> rfl)) | (simp [*, errW_none, errW_some] <;> rfl), by (with_reducible repeat (first | apply Kd.R_alloc | apply Kd.R_drewN | apply Kd.R_drew)); exact Kd.R_mono HO219.out (fun _ hk => trivial), by repeat with_reducible first | exact HB.out | apply below_alloc | apply pw_below_drewN | apply below_drew1⟩
              ·rw [if_neg c25] at H
               exact absurd H (by simp)
             ·rw [if_neg c24] at H
              exact absurd H (by simp)
            ·rw [if_neg c20] at H
             exact absurd H (by simp)
           ·rw [if_neg c19] at H
            exact absurd H (by simp)
          ·rw [if_neg c18] at H
           exact absurd H (by simp)
         ·rw [if_neg c17] at H
          exact absurd H (by simp)
        ·rw [if_neg c14] at H
         exact absurd H (by simp)
       ·rw [if_neg c13] at H
        exact absurd H (by simp)
      ·rw [if_neg c12] at H
       exact absurd H (by simp)

-- sconceref13_Same: printed in YtincnnmojgphmaaPTx

/-! ### sconceref23_Holds: function 17 -/
def sconceref23_Holds.j0 : Nat → Int → List Int → List Int → Int → Int → Int → Int → Bool → Option (Bool)
 | 0, _, _, _, _, _, _, _, _ => none
 | k + 1, x0, x1, x2, x3, x4, x11, x12, x51 => if x51 = true then (some false) else (if 0 ≤ (wrap64 ((wrap64 (x12 - x11)) - 1)) then (if (wrap64 ((wrap64 (x12 - x11)) - 1)) ≤ (x2.length : Int) then (if (wrap64 ((wrap64 (x12 - x11)) - 1)) ≤ (wrap64 (x12 - 1)) then (if (wrap64 (x12 - 1)) ≤ (x2.length : Int) then ((sconceref13_Mask.f k x0 ((x2.take ((wrap64 (x12 - 1)) : Int).toNat).drop ((wrap64 ((wrap64 (x12 - x11)) - 1)) : Int).toNat) ((x2.take ((wrap64 ((wrap64 (x12 - x11)) - 1)) : Int).toNat).length : Int)).bind fun bt223 => ((sconceref13_Xor.f k (x2.take ((wrap64 ((wrap64 (x12 - x11)) - 1)) : Int).toNat) bt223.1).bind fun t227 => (if 0 ≤ (wrap64 ((t227.length : Int) - x4)) then (if (wrap64 ((t227.length : Int) - x4)) ≤ (t227.length : Int) then ((sconceref23_Salted.f k x0 x1 x3 (t227.drop ((wrap64 ((t227.length : Int) - x4)) : Int).toNat)).bind fun bt234 => (if bt234.2 = 0 then ((sconceref13_Same.f bt234.1 x2).bind fun t238 => (some t238)) else (some false))) else (none)) else (none)))) else (none)) else (none)) else (none)) else (none))
def sconceref23_Holds.f (k : Nat) (a0 : Int) (l1 : List Int) (l2 : List Int) (a3 : Int) (a4 : Int) : Option (Bool) := (sconceref13_Size.f a0).bind fun t220 => (if t220 = 0 then (sconceref23_Holds.j0 k a0 l1 l2 a3 a4 t220 (wrap64 (Int.tdiv (wrap64 (a3 + 7)) 8)) true) else (if a3 < 1 then (sconceref23_Holds.j0 k a0 l1 l2 a3 a4 t220 (wrap64 (Int.tdiv (wrap64 (a3 + 7)) 8)) true) else (if a3 > 8192 then (sconceref23_Holds.j0 k a0 l1 l2 a3 a4 t220 (wrap64 (Int.tdiv (wrap64 (a3 + 7)) 8)) true) else (if (l2.length : Int) = (wrap64 (Int.tdiv (wrap64 (a3 + 7)) 8)) then (if a4 < 0 then (sconceref23_Holds.j0 k a0 l1 l2 a3 a4 t220 (wrap64 (Int.tdiv (wrap64 (a3 + 7)) 8)) true) else (sconceref23_Holds.j0 k a0 l1 l2 a3 a4 t220 (wrap64 (Int.tdiv (wrap64 (a3 + 7)) 8)) (decide (a4 > (wrap64 ((wrap64 ((wrap64 (Int.tdiv (wrap64 (a3 + 7)) 8)) - t220)) - 2)))))) else (sconceref23_Holds.j0 k a0 l1 l2 a3 a4 t220 (wrap64 (Int.tdiv (wrap64 (a3 + 7)) 8)) true)))))
theorem sconceref23_Holds.mono_l : ∀ k, (∀ y0 y1 y2 y3 y4 y5 y6 y7, LeO (sconceref23_Holds.j0 k y0 y1 y2 y3 y4 y5 y6 y7) (sconceref23_Holds.j0 (k + 1) y0 y1 y2 y3 y4 y5 y6 y7))
 | 0 => fun _ _ _ _ _ _ _ _ r h => by simp [sconceref23_Holds.j0] at h
 | k + 1 => by
  have ih0 := sconceref23_Holds.mono_l k
  ·intro y0 y1 y2 y3 y4 y5 y6 y7
   unfold sconceref23_Holds.j0
   repeat' first
   | (with_reducible exact ih0 _ _ _ _ _ _ _ _)
   | (with_reducible exact sconceref13_Mask.mono _ _ _ _)
   | (with_reducible exact sconceref13_Xor.mono _ _ _)
   | (with_reducible exact sconceref23_Salted.mono _ _ _ _ _)
   | (with_reducible exact LeO.refl _)
   | (with_reducible exact LeO.none _)
   | (with_reducible refine LeO.ite ?_ ?_)
   | (with_reducible refine LeO.bind ?_ (fun _ => ?_))
   | exact ih0 _ _ _ _ _ _ _ _
   | exact sconceref13_Mask.mono _ _ _ _
   | exact sconceref13_Xor.mono _ _ _
   | exact sconceref23_Salted.mono _ _ _ _ _
   | exact LeO.none _
   | refine LeO.ite ?_ ?_
   | refine LeO.bind ?_ (fun _ => ?_)
theorem sconceref23_Holds.mono : ∀ a0 a1 a2 a3 a4 k, LeO (sconceref23_Holds.f k a0 a1 a2 a3 a4) (sconceref23_Holds.f (k + 1) a0 a1 a2 a3 a4) := by
 intro a0 a1 a2 a3 a4 k
 have ih0 := sconceref23_Holds.mono_l k
 unfold sconceref23_Holds.f
 repeat' first
   | (with_reducible exact ih0 _ _ _ _ _ _ _ _)
   | (with_reducible exact sconceref13_Mask.mono _ _ _ _)
   | (with_reducible exact sconceref13_Xor.mono _ _ _)
   | (with_reducible exact sconceref23_Salted.mono _ _ _ _ _)
   | (with_reducible exact LeO.refl _)
   | (with_reducible exact LeO.none _)
   | (with_reducible refine LeO.ite ?_ ?_)
   | (with_reducible refine LeO.bind ?_ (fun _ => ?_))
   | exact ih0 _ _ _ _ _ _ _ _
   | exact sconceref13_Mask.mono _ _ _ _
   | exact sconceref13_Xor.mono _ _ _
   | exact sconceref23_Salted.mono _ _ _ _ _
   | exact LeO.none _
   | refine LeO.ite ?_ ?_
   | refine LeO.bind ?_ (fun _ => ?_)
set_option maxHeartbeats 8000000 in
set_option maxRecDepth 100000 in
theorem sconceref23_Holds.calls (k : Nat) (a0 : Int) (A1 : Option Addr) (c1 : Nat) (l1 : List Int) (A2 : Option Addr) (c2 : Nat) (l2 : List Int) (a3 : Int) (a4 : Int) (r : Bool) (w : World) (hr1 : Kd.C (Kd.int .u8) w A1 l1.length l1) (hc1 : l1.length ≤ c1) (hr2 : Kd.C (Kd.int .u8) w A2 l2.length l2) (hc2 : l2.length ≤ c2) (h : sconceref23_Holds.f k a0 l1 l2 a3 a4 = some r) :
  Calls Try.prog 17 #[.int .i64 a0, .slice A1 l1.length c1, .slice A2 l2.length c2, .int .i64 a3, .int .i64 a4] w fun e w' => e = .returned (.bool r) ∧ Below w.heap.size w w' := by
 have HR1 := Aside0.mk hr1
 have HC1 := Aside0.mk hc1
 clear hr1 hc1
 have HR2 := Aside0.mk hr2
 have HC2 := Aside0.mk hc2
 clear hr2 hc2
 have HB := Aside0.mk (Below.refl w.heap.size w)
 have H : ((sconceref13_Size.f a0).bind fun t220 => (if t220 = 0 then (sconceref23_Holds.j0 k a0 l1 l2 a3 a4 t220 (wrap64 (Int.tdiv (wrap64 (a3 + 7)) 8)) true) else (if a3 < 1 then (sconceref23_Holds.j0 k a0 l1 l2 a3 a4 t220 (wrap64 (Int.tdiv (wrap64 (a3 + 7)) 8)) true) else (if a3 > 8192 then (sconceref23_Holds.j0 k a0 l1 l2 a3 a4 t220 (wrap64 (Int.tdiv (wrap64 (a3 + 7)) 8)) true) else (if (l2.length : Int) = (wrap64 (Int.tdiv (wrap64 (a3 + 7)) 8)) then (if a4 < 0 then (sconceref23_Holds.j0 k a0 l1 l2 a3 a4 t220 (wrap64 (Int.tdiv (wrap64 (a3 + 7)) 8)) true) else (sconceref23_Holds.j0 k a0 l1 l2 a3 a4 t220 (wrap64 (Int.tdiv (wrap64 (a3 + 7)) 8)) (decide (a4 > (wrap64 ((wrap64 ((wrap64 (Int.tdiv (wrap64 (a3 + 7)) 8)) - t220)) - 2)))))) else (sconceref23_Holds.j0 k a0 l1 l2 a3 a4 t220 (wrap64 (Int.tdiv (wrap64 (a3 + 7)) 8)) true)))))) = some r := h
 clear h
 replace H := Option.bind_eq_some_iff.mp H
 obtain ⟨t220, A60, H⟩ := H
 replace H : (if t220 = 0 then (sconceref23_Holds.j0 k a0 l1 l2 a3 a4 t220 (wrap64 (Int.tdiv (wrap64 (a3 + 7)) 8)) true) else (if a3 < 1 then (sconceref23_Holds.j0 k a0 l1 l2 a3 a4 t220 (wrap64 (Int.tdiv (wrap64 (a3 + 7)) 8)) true) else (if a3 > 8192 then (sconceref23_Holds.j0 k a0 l1 l2 a3 a4 t220 (wrap64 (Int.tdiv (wrap64 (a3 + 7)) 8)) true) else (if (l2.length : Int) = (wrap64 (Int.tdiv (wrap64 (a3 + 7)) 8)) then (if a4 < 0 then (sconceref23_Holds.j0 k a0 l1 l2 a3 a4 t220 (wrap64 (Int.tdiv (wrap64 (a3 + 7)) 8)) true) else (sconceref23_Holds.j0 k a0 l1 l2 a3 a4 t220 (wrap64 (Int.tdiv (wrap64 (a3 + 7)) 8)) (decide (a4 > (wrap64 ((wrap64 ((wrap64 (Int.tdiv (wrap64 (a3 + 7)) 8)) - t220)) - 2)))))) else (sconceref23_Holds.j0 k a0 l1 l2 a3 a4 t220 (wrap64 (Int.tdiv (wrap64 (a3 + 7)) 8)) true))))) = some r := H
 have A6 := Aside0.mk A60
 clear A60
 have HC7 := Aside0.mk H
 clear H
 go_enter Try.func17, Try.ntmps17
 go_upto_region 3 with (first | ((with_reducible refine gate_callee (f := 33) rfl ?_); refine goesL_ (some 20) rfl rfl Try.func33 (by kernel_rfl) rfl #[.int .i64 a0] rfl (by (try simp only [List.map_toArray, List.map_cons, List.map_nil]); first | done | rfl | (simp only [List.length_drop, List.length_take]; rfl)) ?_; (with_reducible refine (sconceref13_Size.calls a0 t220 _ A6.out).mono ?_); rintro e w' ⟨rfl, ⟨nd, rfl⟩⟩; refine ⟨_, rfl, ?_⟩))
 (try simp only [Act.put, List.setIfInBounds_toArray, List.set_cons_zero, List.set_cons_succ])
 go_cut [51] (fun v51 wc => ∃ (kq : Nat) (x51_6 : Bool), v51 = .bool x51_6 ∧ Aside0 (sconceref23_Holds.j0 kq a0 l1 l2 a3 a4 t220 (wrap64 (Int.tdiv (wrap64 (a3 + 7)) 8)) x51_6 = some r) ∧ Aside0 (kq ≤ k) ∧ Aside0 (Below w.heap.size w wc))
 case first =>
  have H := HC7.out
  clear HC7
  by_cases c8 : t220 = 0
  ·rw [if_pos c8] at H
   have c8b0 : (t220 == 0) = true := beq_iff_eq.mpr c8
   have c8b1 : (t220 != 0) = false := bne_eq_false_iff_eq.mpr c8
   clear c8
   (first | rw [c8b0] | (simp only [i64_w, i32_w]; rw [c8b0]) | skip)
   have H' := Aside0.mk H
   clear H
   go_wp2
   go_meet
   case rel => exact ⟨_, (true), (by first | rfl | (simp; done) | (simp [*]; done)), H', ⟨by first | omega | exact Nat.le_refl _⟩, ⟨by repeat with_reducible first | exact HB.out | apply below_alloc | apply pw_below_drewN | apply below_drew1⟩⟩
  ·rw [if_neg c8] at H
   have c8b0 : (t220 == 0) = false := beq_eq_false_iff_ne.mpr c8
   have c8b1 : (t220 != 0) = true := bne_iff_ne.mpr c8
   (first | rw [c8b0] | (simp only [i64_w, i32_w]; rw [c8b0]) | skip)
   by_cases c9 : a3 < 1
   ·rw [if_pos c9] at H
    have c9b0 : decide (a3 < 1) = true := decide_eq_true c9
    clear c9
    have H' := Aside0.mk H
    clear H
    go_wp2
    go_meet
    case rel => exact ⟨_, (true), (by first | rfl | (simp; done) | (simp [*]; done)), H', ⟨by first | omega | exact Nat.le_refl _⟩, ⟨by repeat with_reducible first | exact HB.out | apply below_alloc | apply pw_below_drewN | apply below_drew1⟩⟩
   ·rw [if_neg c9] at H
    have c9b0 : decide (a3 < 1) = false := decide_eq_false c9
    clear c9
    by_cases c10 : a3 > 8192
    ·rw [if_pos c10] at H
     have c10b0 : decide (8192 < a3) = true := decide_eq_true c10
     clear c10
     have H' := Aside0.mk H
     clear H
     go_wp2
     go_meet
     case rel => exact ⟨_, (true), (by first | rfl | (simp; done) | (simp [*]; done)), H', ⟨by first | omega | exact Nat.le_refl _⟩, ⟨by repeat with_reducible first | exact HB.out | apply below_alloc | apply pw_below_drewN | apply below_drew1⟩⟩
    ·rw [if_neg c10] at H
     have c10b0 : decide (8192 < a3) = false := decide_eq_false c10
     clear c10
     by_cases c11 : (l2.length : Int) = (wrap64 (Int.tdiv (wrap64 (a3 + 7)) 8))
     ·rw [if_pos c11] at H
      have c11b0 : ((l2.length : Int) == (wrap64 (Int.tdiv (wrap64 (a3 + 7)) 8))) = true := beq_iff_eq.mpr c11
      have c11b1 : ((l2.length : Int) != (wrap64 (Int.tdiv (wrap64 (a3 + 7)) 8))) = false := bne_eq_false_iff_eq.mpr c11
      clear c11
      by_cases c12 : a4 < 0
      ·rw [if_pos c12] at H
       have c12b0 : decide (a4 < 0) = true := decide_eq_true c12
       clear c12
       have H' := Aside0.mk H
       clear H
       go_wp2
       go_meet
       case rel => exact ⟨_, (true), (by first | rfl | (simp; done) | (simp [*]; done)), H', ⟨by first | omega | exact Nat.le_refl _⟩, ⟨by repeat with_reducible first | exact HB.out | apply below_alloc | apply pw_below_drewN | apply below_drew1⟩⟩
      ·rw [if_neg c12] at H
       have c12b0 : decide (a4 < 0) = false := decide_eq_false c12
       clear c12
       have H' := Aside0.mk H
       clear H
       go_wp2
       go_meet
       case rel => exact ⟨_, (decide (a4 > (wrap64 ((wrap64 ((wrap64 (Int.tdiv (wrap64 (a3 + 7)) 8)) - t220)) - 2)))), (by first | rfl | (simp; done) | (simp [*]; done)), H', ⟨by first | omega | exact Nat.le_refl _⟩, ⟨by repeat with_reducible first | exact HB.out | apply below_alloc | apply pw_below_drewN | apply below_drew1⟩⟩
     ·rw [if_neg c11] at H
      have c11b0 : ((l2.length : Int) == (wrap64 (Int.tdiv (wrap64 (a3 + 7)) 8))) = false := beq_eq_false_iff_ne.mpr c11
      have c11b1 : ((l2.length : Int) != (wrap64 (Int.tdiv (wrap64 (a3 + 7)) 8))) = true := bne_iff_ne.mpr c11
      have H' := Aside0.mk H
      clear H
      go_wp2
      go_meet
      case rel => exact ⟨_, (true), (by first | rfl | (simp; done) | (simp [*]; done)), H', ⟨by first | omega | exact Nat.le_refl _⟩, ⟨by repeat with_reducible first | exact HB.out | apply below_alloc | apply pw_below_drewN | apply below_drew1⟩⟩
 case rest =>
  clear HC7
  try clear c1
  try clear c2
  try clear p2
  try clear c3
  try clear p6
  try clear c8
  try clear c8b0
  try clear c8b1
  try clear c9
  try clear c9b0
  try clear c10
  try clear c10b0
  try clear c11
  try clear c11b0
  try clear c11b1
  try clear c12
  try clear c12b0
  obtain ⟨kq, x51_6, rfl, HA, HJ6, HB⟩ := hcut
  cases kq with
  | zero => exact absurd HA.out (by simp [sconceref23_Holds.j0])
  | succ kj6 =>
   have H := HA.out
   clear HA
   simp only [sconceref23_Holds.j0] at H
   by_cases c13 : x51_6 = true
   ·subst c13
    have H1 : (some false) = some r := by rw [if_pos rfl] at H; exact H
    clear H
    have H := H1
    clear H1
    obtain rfl := Option.some.inj H
    go_wp2
    go_ret
    exact ⟨by first | rfl | (simp [errW_none, errW_some] <;> rfl) | (simp [*, errW_none, errW_some] <;> rfl), by repeat with_reducible first | exact HB.out | apply below_alloc | apply pw_below_drewN | apply below_drew1⟩
   ·replace c13 := Bool.eq_false_iff.mpr c13
    subst c13
    have H1 : (if 0 ≤ (wrap64 ((wrap64 ((wrap64 (Int.tdiv (wrap64 (a3 + 7)) 8)) - t220)) - 1)) then (if (wrap64 ((wrap64 ((wrap64 (Int.tdiv (wrap64 (a3 + 7)) 8)) - t220)) - 1)) ≤ (l2.length : Int) then (if (wrap64 ((wrap64 ((wrap64 (Int.tdiv (wrap64 (a3 + 7)) 8)) - t220)) - 1)) ≤ (wrap64 ((wrap64 (Int.tdiv (wrap64 (a3 + 7)) 8)) - 1)) then (if (wrap64 ((wrap64 (Int.tdiv (wrap64 (a3 + 7)) 8)) - 1)) ≤ (l2.length : Int) then ((sconceref13_Mask.f kj6 a0 ((l2.take ((wrap64 ((wrap64 (Int.tdiv (wrap64 (a3 + 7)) 8)) - 1)) : Int).toNat).drop ((wrap64 ((wrap64 ((wrap64 (Int.tdiv (wrap64 (a3 + 7)) 8)) - t220)) - 1)) : Int).toNat) ((l2.take ((wrap64 ((wrap64 ((wrap64 (Int.tdiv (wrap64 (a3 + 7)) 8)) - t220)) - 1)) : Int).toNat).length : Int)).bind fun bt223 => ((sconceref13_Xor.f kj6 (l2.take ((wrap64 ((wrap64 ((wrap64 (Int.tdiv (wrap64 (a3 + 7)) 8)) - t220)) - 1)) : Int).toNat) bt223.1).bind fun t227 => (if 0 ≤ (wrap64 ((t227.length : Int) - a4)) then (if (wrap64 ((t227.length : Int) - a4)) ≤ (t227.length : Int) then ((sconceref23_Salted.f kj6 a0 l1 a3 (t227.drop ((wrap64 ((t227.length : Int) - a4)) : Int).toNat)).bind fun bt234 => (if bt234.2 = 0 then ((sconceref13_Same.f bt234.1 l2).bind fun t238 => (some t238)) else (some false))) else (none)) else (none)))) else (none)) else (none)) else (none)) else (none)) = some r := by rw [if_neg (show ¬ (false = true) by decide)] at H; exact H
    clear H
    have H := H1
    clear H1
    obtain ⟨ji14, hji14⟩ : ∃ j_ : Int, (wrap64 ((wrap64 ((wrap64 (Int.tdiv (wrap64 (a3 + 7)) 8)) - t220)) - 1)) = j_ := ⟨_, rfl⟩
    replace H : (if 0 ≤ (ji14) then (if (ji14) ≤ (l2.length : Int) then (if (ji14) ≤ (wrap64 ((wrap64 (Int.tdiv (wrap64 (a3 + 7)) 8)) - 1)) then (if (wrap64 ((wrap64 (Int.tdiv (wrap64 (a3 + 7)) 8)) - 1)) ≤ (l2.length : Int) then ((sconceref13_Mask.f kj6 a0 ((l2.take ((wrap64 ((wrap64 (Int.tdiv (wrap64 (a3 + 7)) 8)) - 1)) : Int).toNat).drop ((ji14) : Int).toNat) ((l2.take ((ji14) : Int).toNat).length : Int)).bind fun bt223 => ((sconceref13_Xor.f kj6 (l2.take ((ji14) : Int).toNat) bt223.1).bind fun t227 => (if 0 ≤ (wrap64 ((t227.length : Int) - a4)) then (if (wrap64 ((t227.length : Int) - a4)) ≤ (t227.length : Int) then ((sconceref23_Salted.f kj6 a0 l1 a3 (t227.drop ((wrap64 ((t227.length : Int) - a4)) : Int).toNat)).bind fun bt234 => (if bt234.2 = 0 then ((sconceref13_Same.f bt234.1 l2).bind fun t238 => (some t238)) else (some false))) else (none)) else (none)))) else (none)) else (none)) else (none)) else (none)) = some r := by first | (rw [hji14] at H; exact H) | (simp only [hji14] at H ⊢; exact H)
    have hji14w : (IntKind.i64.wrap ((wrap64 ((wrap64 (Int.tdiv (wrap64 (a3 + 7)) 8)) - t220)) - 1)) = ji14 := (i64_w _).trans hji14
    by_cases c15 : 0 ≤ (ji14)
    ·rw [if_pos c15] at H
     have c15b0 := eq_true c15
     have c15b1 : decide (0 ≤ (ji14)) = true := decide_eq_true c15
     clear c15
     by_cases c16 : (ji14) ≤ (l2.length : Int)
     ·rw [if_pos c16] at H
      have c16b0 := eq_true c16
      have c16b1 : decide ((ji14) ≤ (l2.length : Int)) = true := decide_eq_true c16
      clear c16
      have c17b0 := eq_true (of_decide_eq_true (by first | (with_reducible assumption) | assumption) : 0 ≤ (ji14))
      by_cases c18 : (ji14) ≤ (wrap64 ((wrap64 (Int.tdiv (wrap64 (a3 + 7)) 8)) - 1))
      ·rw [if_pos c18] at H
       have c18b0 := eq_true c18
       have c18b1 : decide ((ji14) ≤ (wrap64 ((wrap64 (Int.tdiv (wrap64 (a3 + 7)) 8)) - 1))) = true := decide_eq_true c18
       by_cases c19 : (wrap64 ((wrap64 (Int.tdiv (wrap64 (a3 + 7)) 8)) - 1)) ≤ (l2.length : Int)
       ·rw [if_pos c19] at H
        have c19b0 := eq_true c19
        have c19b1 : decide ((wrap64 ((wrap64 (Int.tdiv (wrap64 (a3 + 7)) 8)) - 1)) ≤ (l2.length : Int)) = true := decide_eq_true c19
        replace H := Option.bind_eq_some_iff.mp H
        obtain ⟨⟨t223, t224⟩, A200, H⟩ := H
        replace H : ((sconceref13_Xor.f kj6 (l2.take ((ji14) : Int).toNat) t223).bind fun t227 => (if 0 ≤ (wrap64 ((t227.length : Int) - a4)) then (if (wrap64 ((t227.length : Int) - a4)) ≤ (t227.length : Int) then ((sconceref23_Salted.f kj6 a0 l1 a3 (t227.drop ((wrap64 ((t227.length : Int) - a4)) : Int).toNat)).bind fun bt234 => (if bt234.2 = 0 then ((sconceref13_Same.f bt234.1 l2).bind fun t238 => (some t238)) else (some false))) else (none)) else (none))) = some r := H
        have A20 := Aside0.mk A200
        clear A200
        replace H := Option.bind_eq_some_iff.mp H
        obtain ⟨t227, A210, H⟩ := H
        replace H : (if 0 ≤ (wrap64 ((t227.length : Int) - a4)) then (if (wrap64 ((t227.length : Int) - a4)) ≤ (t227.length : Int) then ((sconceref23_Salted.f kj6 a0 l1 a3 (t227.drop ((wrap64 ((t227.length : Int) - a4)) : Int).toNat)).bind fun bt234 => (if bt234.2 = 0 then ((sconceref13_Same.f bt234.1 l2).bind fun t238 => (some t238)) else (some false))) else (none)) else (none)) = some r := H
        have A21 := Aside0.mk A210
        clear A210
        obtain ⟨ji22, hji22⟩ : ∃ j_ : Int, (wrap64 ((t227.length : Int) - a4)) = j_ := ⟨_, rfl⟩
        replace H : (if 0 ≤ (ji22) then (if (ji22) ≤ (t227.length : Int) then ((sconceref23_Salted.f kj6 a0 l1 a3 (t227.drop ((ji22) : Int).toNat)).bind fun bt234 => (if bt234.2 = 0 then ((sconceref13_Same.f bt234.1 l2).bind fun t238 => (some t238)) else (some false))) else (none)) else (none)) = some r := by first | (rw [hji22] at H; exact H) | (simp only [hji22] at H ⊢; exact H)
        (try rw [hji22] at A20)
        (try rw [hji22] at A21)
        have hji22w : (IntKind.i64.wrap ((t227.length : Int) - a4)) = ji22 := (i64_w _).trans hji22
        by_cases c23 : 0 ≤ (ji22)
        ·rw [if_pos c23] at H
         have c23b0 := eq_true c23
         have c23b1 : decide (0 ≤ (ji22)) = true := decide_eq_true c23
         clear c23
         by_cases c24 : (ji22) ≤ (t227.length : Int)
         ·rw [if_pos c24] at H
          have c24b0 := eq_true c24
          have c24b1 : decide ((ji22) ≤ (t227.length : Int)) = true := decide_eq_true c24
          clear c24
          obtain ⟨y230, hy230⟩ : ∃ y_ : List Int, y_ = (t227.drop ((ji22) : Int).toNat) := ⟨_, rfl⟩
          replace H : ((sconceref23_Salted.f kj6 a0 l1 a3 y230).bind fun bt234 => (if bt234.2 = 0 then ((sconceref13_Same.f bt234.1 l2).bind fun t238 => (some t238)) else (some false))) = some r := by first | (rw [hy230]; with_reducible exact H) | (have H2_ := (Option.bind_some _ _).symm.trans H; rw [hy230]; with_reducible exact H2_) | (have H2_ := (Option.bind_some _ _).symm.trans H; with_reducible exact H2_) | with_reducible exact H | (rw [hy230]; exact H) | exact H
          have Ny230 := Aside0.mk hy230
          clear hy230
          replace H := Option.bind_eq_some_iff.mp H
          obtain ⟨⟨t234, t235⟩, A250, H⟩ := H
          replace H : (if t235 = 0 then ((sconceref13_Same.f t234 l2).bind fun t238 => (some t238)) else (some false)) = some r := H
          have A25 := Aside0.mk A250
          clear A250
          by_cases c26 : t235 = 0
          ·rw [if_pos c26] at H
           have c26b0 : (t235 == 0) = true := beq_iff_eq.mpr c26
           have c26b1 : (t235 != 0) = false := bne_eq_false_iff_eq.mpr c26
           clear c26
           replace H := Option.bind_eq_some_iff.mp H
           obtain ⟨t238, A270, H⟩ := H
           replace H : (some t238) = some r := H
           have A27 := Aside0.mk A270
           clear A270
           obtain rfl := Option.some.inj H
           obtain ⟨i028, hi028, _, hsz28, _⟩ := info_parts info5
           obtain ⟨hcut28, hA28, hC28⟩ := print_take_of (P := Try.prog) (Value.int .u8) 0 22 5 .i64 Try.underlying22 hi028 hsz28 A2 c2 l2 (ji14) (of_decide_eq_true (by first | (with_reducible assumption) | assumption)) (of_decide_eq_true (by first | (with_reducible assumption) | assumption)) HC2.out
           have HR221 := Aside0.mk (Kd.C_of_reads (h1 := fun _ => rfl) (hA28 _ (Kd.reads_of_C HR2.out)))
           have HC221 := Aside0.mk hC28
           clear hA28 hC28 hi028 hsz28
           obtain ⟨i029, hi029, _, hsz29, _⟩ := info_parts info5
           obtain ⟨A29, hcut29, hA29, hC29⟩ := print_mid_of (P := Try.prog) (Value.int .u8) 0 22 5 .i64 .i64 Try.underlying22 hi029 hsz29 A2 c2 l2 (ji14) (wrap64 ((wrap64 (Int.tdiv (wrap64 (a3 + 7)) 8)) - 1)) (of_decide_eq_true (by first | (with_reducible assumption) | assumption)) (by first | omega | exact of_decide_eq_true (by first | (with_reducible assumption) | assumption)) (of_decide_eq_true (by first | (with_reducible assumption) | assumption)) HC2.out
           (try have KM29 : ((l2.take ((wrap64 ((wrap64 (Int.tdiv (wrap64 (a3 + 7)) 8)) - 1)) : Int).toNat).drop ((ji14) : Int).toNat).length = (((wrap64 ((wrap64 (Int.tdiv (wrap64 (a3 + 7)) 8)) - 1)) : Int).toNat - ((ji14) : Int).toNat) := by rw [List.length_drop, List.length_take]; have h_ : ((wrap64 ((wrap64 (Int.tdiv (wrap64 (a3 + 7)) 8)) - 1)) : Int) ≤ (l2.length : Int) := of_decide_eq_true (by first | (with_reducible assumption) | assumption); omega)
           have HR222 := Aside0.mk (Kd.C_of_reads (h1 := fun _ => rfl) (hA29 _ (Kd.reads_of_C HR2.out)))
           have HC222 := Aside0.mk hC29
           clear hA29 hC29 hi029 hsz29
           go_wp2_with (first | ((with_reducible refine gate_callee (f := 34) rfl ?_); refine goesL_ (some 70) rfl rfl Try.func34 (by kernel_rfl) rfl #[.int .i64 a0, .slice A29 ((l2.take ((wrap64 ((wrap64 (Int.tdiv (wrap64 (a3 + 7)) 8)) - 1)) : Int).toNat).drop ((ji14) : Int).toNat).length (c2 - (ji14).toNat), .int .i64 ((l2.take ((ji14) : Int).toNat).length : Int)] rfl (by (try simp only [List.map_toArray, List.map_cons, List.map_nil]); first | done | (rw [show ((l2.take ((wrap64 ((wrap64 (Int.tdiv (wrap64 (a3 + 7)) 8)) - 1)) : Int).toNat).drop ((ji14) : Int).toNat).length = ((wrap64 ((wrap64 (Int.tdiv (wrap64 (a3 + 7)) 8)) - 1)).toNat - (ji14).toNat) from (by rw [List.length_drop, List.length_take]; have h_ : ((wrap64 ((wrap64 (Int.tdiv (wrap64 (a3 + 7)) 8)) - 1)) : Int) ≤ (l2.length : Int) := of_decide_eq_true (by first | (with_reducible assumption) | assumption); omega)] <;> rfl) | (simp only [hji14]; rfl) | rfl | (simp only [List.length_drop, List.length_take]; rfl) | (simp only [KM29]; rfl) | (simp (disch := assumption) only [List.length_drop, px_take_len, Int.ofNat_toNat] <;> rfl)) ?_; (with_reducible refine (sconceref13_Mask.calls kj6 a0 _ _ ((l2.take ((wrap64 ((wrap64 (Int.tdiv (wrap64 (a3 + 7)) 8)) - 1)) : Int).toNat).drop ((ji14) : Int).toNat) ((l2.take ((ji14) : Int).toNat).length : Int) t223 t224 _ ?side1 ?side2 A20.out).mono ?_); (case side1 => repeat (first | exact (Kd.C_below HR222.out HB.out) | (with_reducible refine Kd.C_alloc ?_ _) | (with_reducible refine Kd.C_drewN ?_ _) | (with_reducible refine Kd.C_drew ?_))); (case side2 => exact HC222.out); rintro e w30 ⟨v225, rfl, ho0, hb⟩; refine ⟨_, rfl, ?_⟩; have n0_ := Aside0.mk (Kd.R_lower ho0 (below_size (by repeat with_reducible first | exact HB.out | apply below_alloc | apply pw_below_drewN | apply below_drew1))); have n1_ := Aside0.mk (below_step (by repeat with_reducible first | exact HB.out | apply below_alloc | apply pw_below_drewN | apply below_drew1) hb); clear HB; have HO226 := n0_; have HB := n1_; clear n0_ n1_; (try clear hb); (try clear hb2); (try clear hk); (try clear hi); (try clear ho0); obtain ⟨Ao31, co31, eo31⟩ := Kd.R_slice HO226.out; subst eo31) | ((with_reducible refine gate_callee (f := 36) rfl ?_); refine goesL_ (some 75) rfl rfl Try.func36 (by kernel_rfl) rfl #[.slice A2 (l2.take ((ji14) : Int).toNat).length c2, .slice Ao31 t223.length co31] rfl (by (try simp only [List.map_toArray, List.map_cons, List.map_nil]); first | done | (rw [show (l2.take ((ji14) : Int).toNat).length = (ji14).toNat from (by rw [List.length_take]; have h_ : ((ji14) : Int) ≤ (l2.length : Int) := of_decide_eq_true (by first | (with_reducible assumption) | assumption); omega)] <;> rfl) | (simp only [hji14]; rfl) | rfl | (simp only [List.length_drop, List.length_take]; rfl) | (simp only [KM29]; rfl) | (simp (disch := assumption) only [List.length_drop, px_take_len, Int.ofNat_toNat] <;> rfl)) ?_; (with_reducible refine (sconceref13_Xor.calls kj6 _ _ (l2.take ((ji14) : Int).toNat) _ _ t223 t227 _ ?side1 ?side2 ?side3 ?side4 A21.out).mono ?_); (case side1 => repeat (first | exact (Kd.C_below HR221.out HB.out) | (with_reducible refine Kd.C_alloc ?_ _) | (with_reducible refine Kd.C_drewN ?_ _) | (with_reducible refine Kd.C_drew ?_))); (case side2 => exact HC221.out); (case side3 => repeat (first | exact (Kd.R_reads' HO226.out).2.2 | (with_reducible refine Kd.C_alloc ?_ _) | (with_reducible refine Kd.C_drewN ?_ _) | (with_reducible refine Kd.C_drew ?_))); (case side4 => exact (Kd.R_reads' HO226.out).2.1); rintro e w32 ⟨v228, rfl, ho0, hb⟩; refine ⟨_, rfl, ?_⟩; have n0_ := Aside0.mk (Kd.R_elder' (by (with_reducible repeat (first | apply Kd.R_alloc | apply Kd.R_drewN | apply Kd.R_drew)); exact HO226.out) (Kd.R_base ho0) hb); have n1_ := Aside0.mk (Kd.R_lower (Kd.R_new' ho0 (Kd.R_lt (by (with_reducible repeat (first | apply Kd.R_alloc | apply Kd.R_drewN | apply Kd.R_drew)); exact HO226.out))) (below_size (by repeat with_reducible first | exact HB.out | apply below_alloc | apply pw_below_drewN | apply below_drew1))); have n2_ := Aside0.mk (below_step (by repeat with_reducible first | exact HB.out | apply below_alloc | apply pw_below_drewN | apply below_drew1) hb); clear HO226; clear HB; have HO226 := n0_; have HO229 := n1_; have HB := n2_; clear n0_ n1_ n2_; (try clear hb); (try clear hb2); (try clear hk); (try clear hi); (try clear ho0); obtain ⟨Ao33, co33, eo33⟩ := Kd.R_slice HO229.out; subst eo33; have q34 : ((ji22) : Int) ≤ ((t227.length : Int) : Int) := of_decide_eq_true (by first | (with_reducible assumption) | assumption); obtain ⟨i034, hi034, _, hsz34, _⟩ := info_parts info5; have hroom34 : t227.length ≤ co33 := (Kd.R_reads' HO229.out).2.1; have hC34 : Kd.C (Kd.int .u8) _ Ao33 t227.length t227 := (Kd.R_reads' HO229.out).2.2; have q034 : (0 : Int) ≤ ((ji22) : Int) := of_decide_eq_true (by first | (with_reducible assumption) | assumption); have hcut34 := cut_from (P := Try.prog) 22 5 .i64 Try.underlying22 hi034 1 hsz34 Ao33 t227.length co33 (ji22) q034 q34; have hr34 := Kd.C_drop (m := ((ji22) : Int).toNat) (c := co33) hC34 (by omega) hroom34; obtain ⟨A34, hA34⟩ : ∃ A1, A1 = (if co33 = ((ji22) : Int).toNat then Ao33 else (Ao33 : Option Addr).map (·.add (((ji22) : Int).toNat * 1))) := ⟨_, rfl⟩; obtain ⟨c34, hc34⟩ : ∃ c1, c1 = co33 - ((ji22) : Int).toNat := ⟨_, rfl⟩; have hy34 : y230.length = t227.length - ((ji22) : Int).toNat := (by rw [Ny230.out, List.length_drop] <;> omega); rw [show (t227).drop ((ji22) : Int).toNat = y230 from Ny230.out.symm] at hr34; replace hr34 : Kd.C (Kd.int .u8) _ A34 y230.length y230 := (by rw [hA34]; exact hr34); rw [← hy34, ← hA34, ← hc34] at hcut34; have HR233 := Aside0.mk hr34; have HC233 := Aside0.mk (show y230.length ≤ c34 from by rw [hy34, hc34]; exact Nat.sub_le_sub_right hroom34 _); clear hr34 hC34 hroom34 hi034 hsz34 hc34; have KY34 := Aside0.mk hy34; have KA34 := Aside0.mk hA34; clear hy34 hA34; have KL34 := Aside0.mk (show ((ji22) : Int).toNat ≤ t227.length from by omega); replace q34 := eq_true q34) | ((with_reducible refine gate_callee (f := 14) rfl ?_); refine goesL_ (some 86) rfl rfl Try.func14 (by kernel_rfl) rfl #[.int .i64 a0, .slice A1 l1.length c1, .int .i64 a3, .slice A34 y230.length c34] rfl (by (try simp only [List.map_toArray, List.map_cons, List.map_nil]); first | done | rfl | (simp only [List.length_drop, List.length_take]; rfl)) ?_; (with_reducible refine (sconceref23_Salted.calls kj6 a0 _ _ l1 a3 _ _ y230 t234 t235 _ ?side1 ?side2 ?side3 ?side4 A25.out).mono ?_); (case side1 => repeat (first | exact (Kd.C_below HR1.out HB.out) | (with_reducible refine Kd.C_alloc ?_ _) | (with_reducible refine Kd.C_drewN ?_ _) | (with_reducible refine Kd.C_drew ?_))); (case side2 => exact HC1.out); (case side3 => repeat (first | exact (by repeat (first | (with_reducible exact HR233.out) | (with_reducible refine Kd.C_alloc ?_ _) | (with_reducible refine Kd.C_drewN ?_ _) | (with_reducible refine Kd.C_drew ?_) | exact HR233.out)) | (with_reducible refine Kd.C_alloc ?_ _) | (with_reducible refine Kd.C_drewN ?_ _) | (with_reducible refine Kd.C_drew ?_))); (case side4 => exact HC233.out); rintro e w35 ⟨v236, rfl, ho0, hb⟩; refine ⟨_, rfl, ?_⟩; have n0_ := Aside0.mk (Kd.R_elder' (by (with_reducible repeat (first | apply Kd.R_alloc | apply Kd.R_drewN | apply Kd.R_drew)); exact HO226.out) (Kd.R_base ho0) hb); have n1_ := Aside0.mk (Kd.R_elder' (by (with_reducible repeat (first | apply Kd.R_alloc | apply Kd.R_drewN | apply Kd.R_drew)); exact HO229.out) (Kd.R_base ho0) hb); have n2_ := Aside0.mk (Kd.R_lower (Kd.R_new' (Kd.R_new' ho0 (Kd.R_lt (by (with_reducible repeat (first | apply Kd.R_alloc | apply Kd.R_drewN | apply Kd.R_drew)); exact HO226.out))) (Kd.R_lt (by (with_reducible repeat (first | apply Kd.R_alloc | apply Kd.R_drewN | apply Kd.R_drew)); exact HO229.out))) (below_size (by repeat with_reducible first | exact HB.out | apply below_alloc | apply pw_below_drewN | apply below_drew1))); have n3_ := Aside0.mk (Kd.C_below (by repeat (first | (with_reducible exact HR233.out) | (with_reducible refine Kd.C_alloc ?_ _) | (with_reducible refine Kd.C_drewN ?_ _) | (with_reducible refine Kd.C_drew ?_) | exact HR233.out)) hb); have n4_ := Aside0.mk (below_step (by repeat with_reducible first | exact HB.out | apply below_alloc | apply pw_below_drewN | apply below_drew1) hb); clear HO226; clear HO229; clear HR233; clear HB; have HO226 := n0_; have HO229 := n1_; have HO237 := n2_; have HR233 := n3_; have HB := n4_; clear n0_ n1_ n2_ n3_ n4_; (try clear hb); (try clear hb2); (try clear hk); (try clear hi); (try clear ho0); obtain ⟨Ao36, co36, eo36⟩ := Kd.R_slice HO237.out; subst eo36) | (go_at_call 15; (with_reducible refine (sconceref13_Same.calls _ _ t234 _ _ l2 t238 _ ?side1 ?side2 ?side3 ?side4 A27.out).mono ?_); (case side1 => repeat (first | exact (Kd.R_reads' HO237.out).2.2 | (with_reducible refine Kd.C_alloc ?_ _) | (with_reducible refine Kd.C_drewN ?_ _) | (with_reducible refine Kd.C_drew ?_))); (case side2 => exact (Kd.R_reads' HO237.out).2.1); (case side3 => repeat (first | exact (Kd.C_below HR2.out HB.out) | (with_reducible refine Kd.C_alloc ?_ _) | (with_reducible refine Kd.C_drewN ?_ _) | (with_reducible refine Kd.C_drew ?_))); (case side4 => exact HC2.out); rintro e w' ⟨rfl, ⟨nd, rfl⟩⟩))
           go_ret
           exact ⟨by first | rfl | (simp [errW_none, errW_some] <;> rfl) | (simp only [← hji14, ← hji22]; first | rfl | (simp [errW_none, errW_some] <;> rfl)) | (simp [*, errW_none, errW_some] <;> rfl), by repeat with_reducible first | exact HB.out | apply below_alloc | apply pw_below_drewN | apply below_drew1⟩
          ·rw [if_neg c26] at H
           have c26b0 : (t235 == 0) = false := beq_eq_false_iff_ne.mpr c26
           have c26b1 : (t235 != 0) = true := bne_iff_ne.mpr c26
           obtain rfl := Option.some.inj H
           obtain ⟨i037, hi037, _, hsz37, _⟩ := info_parts info5
           obtain ⟨hcut37, hA37, hC37⟩ := print_take_of (P := Try.prog) (Value.int .u8) 0 22 5 .i64 Try.underlying22 hi037 hsz37 A2 c2 l2 (ji14) (of_decide_eq_true (by first | (with_reducible assumption) | assumption)) (of_decide_eq_true (by first | (with_reducible assumption) | assumption)) HC2.out
           have HR221 := Aside0.mk (Kd.C_of_reads (h1 := fun _ => rfl) (hA37 _ (Kd.reads_of_C HR2.out)))
           have HC221 := Aside0.mk hC37
           clear hA37 hC37 hi037 hsz37
           obtain ⟨i038, hi038, _, hsz38, _⟩ := info_parts info5
           obtain ⟨A38, hcut38, hA38, hC38⟩ := print_mid_of (P := Try.prog) (Value.int .u8) 0 22 5 .i64 .i64 Try.underlying22 hi038 hsz38 A2 c2 l2 (ji14) (wrap64 ((wrap64 (Int.tdiv (wrap64 (a3 + 7)) 8)) - 1)) (of_decide_eq_true (by first | (with_reducible assumption) | assumption)) (by first | omega | exact of_decide_eq_true (by first | (with_reducible assumption) | assumption)) (of_decide_eq_true (by first | (with_reducible assumption) | assumption)) HC2.out
           (try have KM38 : ((l2.take ((wrap64 ((wrap64 (Int.tdiv (wrap64 (a3 + 7)) 8)) - 1)) : Int).toNat).drop ((ji14) : Int).toNat).length = (((wrap64 ((wrap64 (Int.tdiv (wrap64 (a3 + 7)) 8)) - 1)) : Int).toNat - ((ji14) : Int).toNat) := by rw [List.length_drop, List.length_take]; have h_ : ((wrap64 ((wrap64 (Int.tdiv (wrap64 (a3 + 7)) 8)) - 1)) : Int) ≤ (l2.length : Int) := of_decide_eq_true (by first | (with_reducible assumption) | assumption); omega)
           have HR222 := Aside0.mk (Kd.C_of_reads (h1 := fun _ => rfl) (hA38 _ (Kd.reads_of_C HR2.out)))
           have HC222 := Aside0.mk hC38
           clear hA38 hC38 hi038 hsz38
           go_wp2_with (first | ((with_reducible refine gate_callee (f := 34) rfl ?_); refine goesL_ (some 70) rfl rfl Try.func34 (by kernel_rfl) rfl #[.int .i64 a0, .slice A38 ((l2.take ((wrap64 ((wrap64 (Int.tdiv (wrap64 (a3 + 7)) 8)) - 1)) : Int).toNat).drop ((ji14) : Int).toNat).length (c2 - (ji14).toNat), .int .i64 ((l2.take ((ji14) : Int).toNat).length : Int)] rfl (by (try simp only [List.map_toArray, List.map_cons, List.map_nil]); first | done | (rw [show ((l2.take ((wrap64 ((wrap64 (Int.tdiv (wrap64 (a3 + 7)) 8)) - 1)) : Int).toNat).drop ((ji14) : Int).toNat).length = ((wrap64 ((wrap64 (Int.tdiv (wrap64 (a3 + 7)) 8)) - 1)).toNat - (ji14).toNat) from (by rw [List.length_drop, List.length_take]; have h_ : ((wrap64 ((wrap64 (Int.tdiv (wrap64 (a3 + 7)) 8)) - 1)) : Int) ≤ (l2.length : Int) := of_decide_eq_true (by first | (with_reducible assumption) | assumption); omega)] <;> rfl) | (simp only [hji14]; rfl) | rfl | (simp only [List.length_drop, List.length_take]; rfl) | (simp only [KM29]; rfl) | (simp only [KM38]; rfl) | (simp (disch := assumption) only [List.length_drop, px_take_len, Int.ofNat_toNat] <;> rfl)) ?_; (with_reducible refine (sconceref13_Mask.calls kj6 a0 _ _ ((l2.take ((wrap64 ((wrap64 (Int.tdiv (wrap64 (a3 + 7)) 8)) - 1)) : Int).toNat).drop ((ji14) : Int).toNat) ((l2.take ((ji14) : Int).toNat).length : Int) t223 t224 _ ?side1 ?side2 A20.out).mono ?_); (case side1 => repeat (first | exact (Kd.C_below HR222.out HB.out) | (with_reducible refine Kd.C_alloc ?_ _) | (with_reducible refine Kd.C_drewN ?_ _) | (with_reducible refine Kd.C_drew ?_))); (case side2 => exact HC222.out); rintro e w39 ⟨v225, rfl, ho0, hb⟩; refine ⟨_, rfl, ?_⟩; have n0_ := Aside0.mk (Kd.R_lower ho0 (below_size (by repeat with_reducible first | exact HB.out | apply below_alloc | apply pw_below_drewN | apply below_drew1))); have n1_ := Aside0.mk (below_step (by repeat with_reducible first | exact HB.out | apply below_alloc | apply pw_below_drewN | apply below_drew1) hb); clear HB; have HO226 := n0_; have HB := n1_; clear n0_ n1_; (try clear hb); (try clear hb2); (try clear hk); (try clear hi); (try clear ho0); obtain ⟨Ao40, co40, eo40⟩ := Kd.R_slice HO226.out; subst eo40) | ((with_reducible refine gate_callee (f := 36) rfl ?_); refine goesL_ (some 75) rfl rfl Try.func36 (by kernel_rfl) rfl #[.slice A2 (l2.take ((ji14) : Int).toNat).length c2, .slice Ao40 t223.length co40] rfl (by (try simp only [List.map_toArray, List.map_cons, List.map_nil]); first | done | (rw [show (l2.take ((ji14) : Int).toNat).length = (ji14).toNat from (by rw [List.length_take]; have h_ : ((ji14) : Int) ≤ (l2.length : Int) := of_decide_eq_true (by first | (with_reducible assumption) | assumption); omega)] <;> rfl) | (simp only [hji14]; rfl) | rfl | (simp only [List.length_drop, List.length_take]; rfl) | (simp only [KM29]; rfl) | (simp only [KM38]; rfl) | (simp (disch := assumption) only [List.length_drop, px_take_len, Int.ofNat_toNat] <;> rfl)) ?_; (with_reducible refine (sconceref13_Xor.calls kj6 _ _ (l2.take ((ji14) : Int).toNat) _ _ t223 t227 _ ?side1 ?side2 ?side3 ?side4 A21.out).mono ?_); (case side1 => repeat (first | exact (Kd.C_below HR221.out HB.out) | (with_reducible refine Kd.C_alloc ?_ _) | (with_reducible refine Kd.C_drewN ?_ _) | (with_reducible refine Kd.C_drew ?_))); (case side2 => exact HC221.out); (case side3 => repeat (first | exact (Kd.R_reads' HO226.out).2.2 | (with_reducible refine Kd.C_alloc ?_ _) | (with_reducible refine Kd.C_drewN ?_ _) | (with_reducible refine Kd.C_drew ?_))); (case side4 => exact (Kd.R_reads' HO226.out).2.1); rintro e w41 ⟨v228, rfl, ho0, hb⟩; refine ⟨_, rfl, ?_⟩; have n0_ := Aside0.mk (Kd.R_elder' (by (with_reducible repeat (first | apply Kd.R_alloc | apply Kd.R_drewN | apply Kd.R_drew)); exact HO226.out) (Kd.R_base ho0) hb); have n1_ := Aside0.mk (Kd.R_lower (Kd.R_new' ho0 (Kd.R_lt (by (with_reducible repeat (first | apply Kd.R_alloc | apply Kd.R_drewN | apply Kd.R_drew)); exact HO226.out))) (below_size (by repeat with_reducible first | exact HB.out | apply below_alloc | apply pw_below_drewN | apply below_drew1))); have n2_ := Aside0.mk (below_step (by repeat with_reducible first | exact HB.out | apply below_alloc | apply pw_below_drewN | apply below_drew1) hb); clear HO226; clear HB; have HO226 := n0_; have HO229 := n1_; have HB := n2_; clear n0_ n1_ n2_; (try clear hb); (try clear hb2); (try clear hk); (try clear hi); (try clear ho0); obtain ⟨Ao42, co42, eo42⟩ := Kd.R_slice HO229.out; subst eo42; have q43 : ((ji22) : Int) ≤ ((t227.length : Int) : Int) := of_decide_eq_true (by first | (with_reducible assumption) | assumption); obtain ⟨i043, hi043, _, hsz43, _⟩ := info_parts info5; have hroom43 : t227.length ≤ co42 := (Kd.R_reads' HO229.out).2.1; have hC43 : Kd.C (Kd.int .u8) _ Ao42 t227.length t227 := (Kd.R_reads' HO229.out).2.2; have q043 : (0 : Int) ≤ ((ji22) : Int) := of_decide_eq_true (by first | (with_reducible assumption) | assumption); have hcut43 := cut_from (P := Try.prog) 22 5 .i64 Try.underlying22 hi043 1 hsz43 Ao42 t227.length co42 (ji22) q043 q43; have hr43 := Kd.C_drop (m := ((ji22) : Int).toNat) (c := co42) hC43 (by omega) hroom43; obtain ⟨A43, hA43⟩ : ∃ A1, A1 = (if co42 = ((ji22) : Int).toNat then Ao42 else (Ao42 : Option Addr).map (·.add (((ji22) : Int).toNat * 1))) := ⟨_, rfl⟩; obtain ⟨c43, hc43⟩ : ∃ c1, c1 = co42 - ((ji22) : Int).toNat := ⟨_, rfl⟩; have hy43 : y230.length = t227.length - ((ji22) : Int).toNat := (by rw [Ny230.out, List.length_drop] <;> omega); rw [show (t227).drop ((ji22) : Int).toNat = y230 from Ny230.out.symm] at hr43; replace hr43 : Kd.C (Kd.int .u8) _ A43 y230.length y230 := (by rw [hA43]; exact hr43); rw [← hy43, ← hA43, ← hc43] at hcut43; have HR233 := Aside0.mk hr43; have HC233 := Aside0.mk (show y230.length ≤ c43 from by rw [hy43, hc43]; exact Nat.sub_le_sub_right hroom43 _); clear hr43 hC43 hroom43 hi043 hsz43 hc43; have KY43 := Aside0.mk hy43; have KA43 := Aside0.mk hA43; clear hy43 hA43; have KL43 := Aside0.mk (show ((ji22) : Int).toNat ≤ t227.length from by omega); replace q43 := eq_true q43) | ((with_reducible refine gate_callee (f := 14) rfl ?_); refine goesL_ (some 86) rfl rfl Try.func14 (by kernel_rfl) rfl #[.int .i64 a0, .slice A1 l1.length c1, .int .i64 a3, .slice A43 y230.length c43] rfl (by (try simp only [List.map_toArray, List.map_cons, List.map_nil]); first | done | rfl | (simp only [List.length_drop, List.length_take]; rfl)) ?_; (with_reducible refine (sconceref23_Salted.calls kj6 a0 _ _ l1 a3 _ _ y230 t234 t235 _ ?side1 ?side2 ?side3 ?side4 A25.out).mono ?_); (case side1 => repeat (first | exact (Kd.C_below HR1.out HB.out) | (with_reducible refine Kd.C_alloc ?_ _) | (with_reducible refine Kd.C_drewN ?_ _) | (with_reducible refine Kd.C_drew ?_))); (case side2 => exact HC1.out); (case side3 => repeat (first | exact (by repeat (first | (with_reducible exact HR233.out) | (with_reducible refine Kd.C_alloc ?_ _) | (with_reducible refine Kd.C_drewN ?_ _) | (with_reducible refine Kd.C_drew ?_) | exact HR233.out)) | (with_reducible refine Kd.C_alloc ?_ _) | (with_reducible refine Kd.C_drewN ?_ _) | (with_reducible refine Kd.C_drew ?_))); (case side4 => exact HC233.out); rintro e w44 ⟨v236, rfl, ho0, hb⟩; refine ⟨_, rfl, ?_⟩; have n0_ := Aside0.mk (Kd.R_elder' (by (with_reducible repeat (first | apply Kd.R_alloc | apply Kd.R_drewN | apply Kd.R_drew)); exact HO226.out) (Kd.R_base ho0) hb); have n1_ := Aside0.mk (Kd.R_elder' (by (with_reducible repeat (first | apply Kd.R_alloc | apply Kd.R_drewN | apply Kd.R_drew)); exact HO229.out) (Kd.R_base ho0) hb); have n2_ := Aside0.mk (Kd.R_lower (Kd.R_new' (Kd.R_new' ho0 (Kd.R_lt (by (with_reducible repeat (first | apply Kd.R_alloc | apply Kd.R_drewN | apply Kd.R_drew)); exact HO226.out))) (Kd.R_lt (by (with_reducible repeat (first | apply Kd.R_alloc | apply Kd.R_drewN | apply Kd.R_drew)); exact HO229.out))) (below_size (by repeat with_reducible first | exact HB.out | apply below_alloc | apply pw_below_drewN | apply below_drew1))); have n3_ := Aside0.mk (Kd.C_below (by repeat (first | (with_reducible exact HR233.out) | (with_reducible refine Kd.C_alloc ?_ _) | (with_reducible refine Kd.C_drewN ?_ _) | (with_reducible refine Kd.C_drew ?_) | exact HR233.out)) hb); have n4_ := Aside0.mk (below_step (by repeat with_reducible first | exact HB.out | apply below_alloc | apply pw_below_drewN | apply below_drew1) hb); clear HO226; clear HO229; clear HR233; clear HB; have HO226 := n0_; have HO229 := n1_; have HO237 := n2_; have HR233 := n3_; have HB := n4_; clear n0_ n1_ n2_ n3_ n4_; (try clear hb); (try clear hb2); (try clear hk); (try clear hi); (try clear ho0)))
           go_ret
           exact ⟨by first | rfl | (simp [errW_none, errW_some] <;> rfl) | (simp only [← hji14, ← hji22]; first | rfl | (simp [errW_none, errW_some] <;> rfl)) | (simp [*, errW_none, errW_some] <;> rfl), by repeat with_reducible first | exact HB.out | apply below_alloc | apply pw_below_drewN | apply below_drew1⟩
         ·rw [if_neg c24] at H
          exact absurd H (by simp)
        ·rw [if_neg c23] at H
         exact absurd H (by simp)
       ·rw [if_neg c19] at H
        exact absurd H (by simp)
      ·rw [if_neg c18] at H
       exact absurd H (by simp)
     ·rw [if_neg c16] at H
      exact absurd H (by simp)
    ·rw [if_neg c15] at H
     exact absurd H (by simp)

end Go.Proofs.Ytincnnmojgphmaa.PP
/- one space a level -/
