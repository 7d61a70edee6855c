/- sha512's Sum and Sum384, by walking their text. -/
import Derived.Test.YtmmbbkdbebfhiaaHWhole
set_option linter.unusedVariables false
set_option linter.unusedSimpArgs false
namespace Go.Proofs.Ytmmbbkdbebfhiaa.H
open Go.RowKit Go.Proofs.YtmmbbkdbebfhiaaW.PrintWords Go.Proofs.YtmmbbkdbebfhiaaW.PrintLast Go.Proofs.Ytmmbbkdbebfhiaa.Sha Go.Proofs.YtmmbbkdbebfhiaaW.PrintMore
attribute [local go_sem] Oper.semAt_some

instance inB_dec (b : Nat) (l : List Int) : Decidable (inB b l) := by unfold inB; infer_instance
theorem sum6_length (s b : List Int) (hs : s.length = 8) : (sum6 s b).length = 64 := by
  rw [sum6, out6_length, st6, fold6_length _ hs]
def sha512_Sum.f (l0 : List Int) : Option (List Int) := if inB 8 l0 ∧ l0.length ≤ 140737488351232 then some (sum6 (S6 false) l0) else none
theorem sha512_Sum.calls (A0 : Option Addr) (c0 : Nat) (l0 : List Int) (r : List Int) (w : World) (hr0 : Kd.C (Kd.int .u8) w A0 l0.length l0) (hc0 : l0.length ≤ c0) (h : sha512_Sum.f l0 = some r) :
    Calls Try.prog 24 #[.slice A0 l0.length c0] w fun e w' => ∃ v0_ : Value, e = .returned v0_ ∧ Kd.V (Kd.int .u8) 5 w' w.heap.size (fun k_ => (w.heap.size ≤ k_)) v0_ r ∧ Below w.heap.size w w' := by
  unfold sha512_Sum.f at h
  split at h
  · rename_i hb
    obtain rfl := Option.some.inj h
    have H : Hid (∀ w1, Below w.heap.size w w1 → Calls Try.prog 48 #[.agg (nums .u64 (S6 false)).toArray, .slice A0 l0.length c0] w1 fun e w' => ∃ v0_ : Value, e = .returned v0_ ∧ Kd.R (Kd.int .u8) 5 w' w1.heap.size (fun _ => True) v0_ (sum6 (S6 false) l0) ∧ Below w1.heap.size w1 w') :=
      fun w1 hb1 => whole_any (S6 false) (S6_length _) (S6_in _) A0 c0 l0 w1 (C_same hr0 (fun i hi => hb1.block i hi)) hc0 hb.1 hb.2
    clear h hb
    go_enter Try.func24, Try.ntmps24
    go_wp2_with fail
    refine (start_any false _).mono ?_
    rintro e w1 ⟨rfl, hb1⟩
    have HB1 := Lib.hid hb1
    clear hb1
    go_wp2_with fail
    refine (H.out w1 HB1.out).mono ?_
    rintro e w2 ⟨v, rfl, hR, hb2⟩
    have HR := Lib.hid hR
    have HB2 := Lib.hid hb2
    clear hR hb2
    go_wp2_with fail
    go_ret
    exact ⟨v, rfl, Kd.V_mono (Kd.R_V (Kd.R_bound HR.out)) (fun k hk => Nat.le_trans HB1.out.size hk.2.1), HB1.out.trans (HB2.out.mono HB1.out.size)⟩
  · cases h

def sha512_Sum384.f (l0 : List Int) : Option (List Int) := if inB 8 l0 ∧ l0.length ≤ 140737488351232 then some ((sum6 (S6 true) l0).take 48) else none
theorem sha512_Sum384.calls (A0 : Option Addr) (c0 : Nat) (l0 : List Int) (r : List Int) (w : World) (hr0 : Kd.C (Kd.int .u8) w A0 l0.length l0) (hc0 : l0.length ≤ c0) (h : sha512_Sum384.f l0 = some r) :
    Calls Try.prog 26 #[.slice A0 l0.length c0] w fun e w' => ∃ v0_ : Value, e = .returned v0_ ∧ Kd.V (Kd.int .u8) 5 w' w.heap.size (fun k_ => (w.heap.size ≤ k_)) v0_ r ∧ Below w.heap.size w w' := by
  unfold sha512_Sum384.f at h
  split at h
  · rename_i hb
    obtain rfl := Option.some.inj h
    have H : Hid (∀ w1, Below w.heap.size w w1 → Calls Try.prog 48 #[.agg (nums .u64 (S6 true)).toArray, .slice A0 l0.length c0] w1 fun e w' => ∃ v0_ : Value, e = .returned v0_ ∧ Kd.R (Kd.int .u8) 5 w' w1.heap.size (fun _ => True) v0_ (sum6 (S6 true) l0) ∧ Below w1.heap.size w1 w') :=
      fun w1 hb1 => whole_any (S6 true) (S6_length _) (S6_in _) A0 c0 l0 w1 (C_same hr0 (fun i hi => hb1.block i hi)) hc0 hb.1 hb.2
    clear h hb
    go_enter Try.func26, Try.ntmps26
    go_wp2_with fail
    refine (start_any true _).mono ?_
    rintro e w1 ⟨rfl, hb1⟩
    have HB1 := Lib.hid hb1
    clear hb1
    go_wp2_with fail
    refine (H.out w1 HB1.out).mono ?_
    rintro e w2 ⟨v, rfl, hR, hb2⟩
    have HR := Lib.hid hR
    have HB2 := Lib.hid hb2
    have h64 : (sum6 (S6 true) l0).length = 64 := sum6_length _ _ (S6_length _)
    have HL := Lib.hid h64
    obtain ⟨A, c, hv, hc, _⟩ := Kd.R_reads hR
    rw [h64] at hv hc
    subst hv
    have c1 : (48 : Int) ≤ (c : Int) := by omega
    clear hR hb2 h64
    go_wp2_with fail
    go_ret
    refine ⟨_, rfl, ?_, HB1.out.trans (HB2.out.mono HB1.out.size)⟩
    have h1 := Kd.V_mono (ok' := fun k_ => w.heap.size ≤ k_) (Kd.R_V (base' := w.heap.size) (Kd.R_bound HR.out)) (fun k hk => Nat.le_trans HB1.out.size hk.2.1)
    have h2 := (Kd.V_at h1).2.2
    have h3 := Kd.F_take h2 (m := 48) (by rw [HL.out]; decide)
    have h4 : ((sum6 (S6 true) l0).take 48).length = 48 := by rw [List.length_take, HL.out]; rfl
    have h5 := Kd.V_mk (e := 5) (base := w.heap.size) (c := 48) (by rw [h4]; exact Nat.le_refl _) h3
    rw [h4] at h5
    exact h5
  · cases h
end Go.Proofs.Ytmmbbkdbebfhiaa.H
