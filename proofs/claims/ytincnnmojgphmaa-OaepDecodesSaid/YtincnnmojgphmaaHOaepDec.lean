/- The law OaepDecodes, by walking its text. -/
import Derived.Test.YtincnnmojgphmaaHOaep
import Derived.Test.YtincnnmojgphmaaHFewO
set_option linter.unusedVariables false
set_option linter.unusedSimpArgs false
namespace Go.Proofs.Ytincnnmojgphmaa.H
open Go.RowKit Go.Proofs.YtincnnmojgphmaaW.PrintWords Go.Proofs.YtincnnmojgphmaaW.PrintLast Go.Proofs.Ytincnnmojgphmaa.Sha Go.Proofs.YtincnnmojgphmaaW.PrintMore Go.Proofs.Ytincnnmojgphmaa.PT Go.Proofs.Ytincnnmojgphmaa.PO
attribute [local go_sem] Oper.semAt_some

set_option maxRecDepth 100000 in
set_option maxHeartbeats 2000000 in
theorem oaepDecodes_ok (h : Int) (A1 : Option Addr) (c1 : Nat) (label : List Int) (A2 : Option Addr) (c2 : Nat) (em : List Int) (w : World) (h1 : Kd.C (Kd.int .u8) w A1 label.length label) (hc1 : label.length ≤ c1) (h2 : Kd.C (Kd.int .u8) w A2 em.length em) (hc2 : em.length ≤ c2)
    (hb1 : inB 8 label) (hb2 : inB 8 em) (hm2 : em.length ≤ 140737488351232) :
    Calls Try.prog 7 #[.int .i64 h, .slice A1 label.length c1, .slice A2 em.length c2] w fun e w' => e = .returned (.bool true) ∧ Below w.heap.size w w' := by
  have HAw : Hid (∀ W, Calls Try.prog 18 #[] W fun e w' => e = .returned (.bool true) ∧ Below W.heap.size W w') := fun W => awake24_ok W
  have HFe : Hid (∀ W, Below w.heap.size w W → Calls Try.prog 19 #[.slice (some ⟨W.heap.size, 0, none⟩) 1 1] (W.alloc (.cells #[.slice A1 label.length c1] 22)) fun e w' => e = .returned (.bool (decide (label.length ≤ 400))) ∧ Below W.heap.size W w') := fun W hW =>
    (fewO1.calls A1 c1 label _ W (C_same h1 (fun i hi => hW.block i hi)) hc1 rfl).mono (by
      rintro e w' ⟨rfl, hb⟩
      exact ⟨rfl, hb⟩)
  have H1 := Lib.hid h1
  have H2 := Lib.hid h2
  clear h1 h2
  go_enter Try.func7, Try.ntmps7
  go_wp2_with fail
  refine (HAw.out _).mono ?_
  rintro e w2 ⟨rfl, hb2'⟩
  have HB2 := Lib.hid hb2'
  clear hb2'
  go_wp2_with fail
  refine (HFe.out _ HB2.out).mono ?_
  rintro e w3 ⟨rfl, hb3⟩
  have HB3 := Lib.hid (HB2.out.trans (hb3.mono HB2.out.size))
  clear hb3
  by_cases hl : label.length ≤ 400
  · by_cases he : em.length ≤ 500 ∨ em.length = 1025
    · obtain ⟨r1, r2, hr⟩ : ∃ r1 r2, oaep_Decode.f h label em = some (r1, r2) := by
        unfold oaep_Decode.f
        rw [if_pos ⟨hb1, hb2, by omega, by omega⟩]
        by_cases hh : h = 1 ∨ h = 2 ∨ h = 3
        · rw [if_pos hh]
          by_cases hs : em.length < 2 * hlen h + 2 ∨ 1024 < em.length
          · rw [if_pos hs]; exact ⟨_, _, rfl⟩
          · rw [if_neg hs]; exact ⟨_, _, rfl⟩
        · rw [if_neg hh]; exact ⟨_, _, rfl⟩
      have hr' : sconceref23_Open.f 30000 h label em = some (r1, r2) := by rw [ropen_spec h label em hb1 hb2 (by omega) (by omega) 30000 (by omega)]; exact hr
      have HDe : Hid (∀ W, Below w.heap.size w W → Calls Try.prog 20 #[.pointer none, .int .i64 h, .slice A1 label.length c1, .slice A2 em.length c2] W fun e w' => ∃ v0_ : Value, e = .returned (.tuple #[v0_, .int .i64 r2]) ∧ Kd.R (Kd.int .u8) 5 w' W.heap.size (fun _ => True) v0_ r1 ∧ Below W.heap.size W w') :=
        fun W hW => oaep_Decode.calls h A1 c1 label A2 c2 em r1 r2 W (C_same H1.out (fun i hi => hW.block i hi)) hc1 (C_same H2.out (fun i hi => hW.block i hi)) hc2 hr
      have HOp : Hid (∀ W, Below w.heap.size w W → Calls Try.prog 21 #[.int .i64 h, .slice A1 label.length c1, .slice A2 em.length c2] W fun e w' => ∃ v0_ : Value, e = .returned (.tuple #[v0_, .int .i64 r2]) ∧ Kd.R (Kd.int .u8) 5 w' W.heap.size (fun _ => True) v0_ r1 ∧ Below W.heap.size W w') :=
        fun W hW => sconceref23_Open.calls 30000 h A1 c1 label A2 c2 em r1 r2 W (C_same H1.out (fun i hi => hW.block i hi)) hc1 (C_same H2.out (fun i hi => hW.block i hi)) hc2 hr'
      have hd1 : decide (label.length ≤ 400) = true := decide_eq_true hl
      have q1 : (decide (500 < (em.length : Int)) && decide ((em.length : Int) ≠ 1025)) = false := by
        rcases he with he | he
        · rw [decide_eq_false (by omega)]; rfl
        · rw [decide_eq_false (p := (em.length : Int) ≠ 1025) (by omega), Bool.and_false]
      clear hr hr'
      rcases he with he | he
      · have q2 : ¬ (500 : Int) < (em.length : Int) := by omega
        go_wp2_with fail
        refine (HDe.out _ HB3.out).mono ?_
        rintro e w4 ⟨v4, rfl, hv4, hb4⟩
        obtain ⟨A4, c4, rfl⟩ := Kd.R_slice hv4
        have hr4 := Kd.R_reads' hv4
        have HB4 : Hid (Below w.heap.size w w4) := HB3.out.trans (hb4.mono HB3.out.size)
        have HR4 := Lib.hid hr4
        clear hv4 hb4 hr4
        go_wp2_with fail
        refine (HOp.out _ HB4.out).mono ?_
        rintro e w5 ⟨v5, rfl, hv5, hb5⟩
        obtain ⟨A5, c5, rfl⟩ := Kd.R_slice hv5
        have hr5 := Kd.R_reads' hv5
        have HC4 : Hid (Kd.C (Kd.int .u8) w5 A4 r1.length r1) := C_same HR4.out.2.2 (fun i hi => hb5.block i hi)
        have HB5 : Hid (Below w.heap.size w w5) := HB4.out.trans (hb5.mono HB4.out.size)
        have HSa : Hid (Calls Try.prog 15 #[.slice A4 r1.length c4, .slice A5 r1.length c5] w5 fun e w' => e = .returned (.bool true) ∧ Drawn0 w5 w') := sconceref13_Same.calls A4 c4 r1 A5 c5 r1 true w5 HC4.out HR4.out.2.1 hr5.2.2 hr5.2.1 (same13 r1)
        clear hv5 hb5 hr5
        go_wp2_with fail
        refine HSa.out.mono ?_
        rintro e w6 ⟨rfl, hd6⟩
        have HB6 : Hid (Below w.heap.size w w6) := HB5.out.trans (hd6.below.mono HB5.out.size)
        clear hd6
        go_wp2_with fail
        go_ret
        exact ⟨rfl, HB6.out⟩
      · have q2 : (500 : Int) < (em.length : Int) := by omega
        have q3 : (em.length : Int) = 1025 := by omega
        rw [he] at HDe HOp
        go_wp2_with fail
        refine (HDe.out _ HB3.out).mono ?_
        rintro e w4 ⟨v4, rfl, hv4, hb4⟩
        obtain ⟨A4, c4, rfl⟩ := Kd.R_slice hv4
        have hr4 := Kd.R_reads' hv4
        have HB4 : Hid (Below w.heap.size w w4) := HB3.out.trans (hb4.mono HB3.out.size)
        have HR4 := Lib.hid hr4
        clear hv4 hb4 hr4
        go_wp2_with fail
        refine (HOp.out _ HB4.out).mono ?_
        rintro e w5 ⟨v5, rfl, hv5, hb5⟩
        obtain ⟨A5, c5, rfl⟩ := Kd.R_slice hv5
        have hr5 := Kd.R_reads' hv5
        have HC4 : Hid (Kd.C (Kd.int .u8) w5 A4 r1.length r1) := C_same HR4.out.2.2 (fun i hi => hb5.block i hi)
        have HB5 : Hid (Below w.heap.size w w5) := HB4.out.trans (hb5.mono HB4.out.size)
        have HSa : Hid (Calls Try.prog 15 #[.slice A4 r1.length c4, .slice A5 r1.length c5] w5 fun e w' => e = .returned (.bool true) ∧ Drawn0 w5 w') := sconceref13_Same.calls A4 c4 r1 A5 c5 r1 true w5 HC4.out HR4.out.2.1 hr5.2.2 hr5.2.1 (same13 r1)
        clear hv5 hb5 hr5
        go_wp2_with fail
        refine HSa.out.mono ?_
        rintro e w6 ⟨rfl, hd6⟩
        have HB6 : Hid (Below w.heap.size w w6) := HB5.out.trans (hd6.below.mono HB5.out.size)
        clear hd6
        go_wp2_with fail
        go_ret
        exact ⟨rfl, HB6.out⟩
    · have hd1 : decide (label.length ≤ 400) = true := decide_eq_true hl
      have q2 : (500 : Int) < (em.length : Int) := by omega
      have q3 : ¬ (em.length : Int) = 1025 := by omega
      have q4 : ¬ em.length = 1025 := by omega
      clear he
      go_wp2_with fail
      go_ret
      exact ⟨rfl, HB3.out⟩
  · have hd1 : decide (label.length ≤ 400) = false := decide_eq_false hl
    go_wp2_with fail
    go_ret
    exact ⟨rfl, HB3.out⟩
def sconcelaw24_OaepDecodes.f (a0 : Int) (l1 l2 : List Int) : Option Bool := if inB 8 l1 ∧ inB 8 l2 ∧ l2.length ≤ 140737488351232 then some true else none
theorem sconcelaw24_OaepDecodes.calls (a0 : Int) (A1 : Option Addr) (c1 : Nat) (l1 : List Int) (A2 : Option Addr) (c2 : Nat) (l2 : List Int) (r : Bool) (w : World) (hr1 : Kd.C (Kd.int .u8) w A1 l1.length l1) (hc1 : l1.length ≤ c1) (hr2 : Kd.C (Kd.int .u8) w A2 l2.length l2) (hc2 : l2.length ≤ c2) (h : sconcelaw24_OaepDecodes.f a0 l1 l2 = some r) :
    Calls Try.prog 7 #[.int .i64 a0, .slice A1 l1.length c1, .slice A2 l2.length c2] w fun e w' => e = .returned (.bool r) ∧ Below w.heap.size w w' := by
  unfold sconcelaw24_OaepDecodes.f at h
  split at h
  case isFalse => cases h
  rename_i hh
  cases h
  exact oaepDecodes_ok a0 A1 c1 l1 A2 c2 l2 w hr1 hc1 hr2 hc2 hh.1 hh.2.1 hh.2.2
end Go.Proofs.Ytincnnmojgphmaa.H
