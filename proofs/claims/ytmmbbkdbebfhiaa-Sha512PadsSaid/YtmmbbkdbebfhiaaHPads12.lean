/- The law Sha512Pads, by walking its text. -/
import Derived.Test.YtmmbbkdbebfhiaaHArr
set_option linter.unusedVariables false
set_option linter.unusedSimpArgs false
namespace Go.Proofs.Ytmmbbkdbebfhiaa.H
open Go.RowKit Go.Proofs.YtmmbbkdbebfhiaaW.PrintWords Go.Proofs.YtmmbbkdbebfhiaaW.PrintLast Go.Proofs.Ytmmbbkdbebfhiaa.Sha Go.Proofs.YtmmbbkdbebfhiaaW.PrintMore Go.Proofs.Ytmmbbkdbebfhiaa.PS
attribute [local go_sem] Oper.semAt_some

set_option maxRecDepth 100000 in
set_option maxHeartbeats 4000000 in
theorem pads12 (a : Int) (m : Nat) (ha : (if a < 0 then (0 : Int) else a) = (m : Int)) (hm : m < 2 ^ 63) (b : Bool) (w : World) :
    Calls Try.prog 7 #[.int .i64 a, .bool b] w fun e w' => e = .returned (.bool true) ∧ Below w.heap.size w w' := by
  have HP := Lib.hid (pad_any a m ha hm)
  have HRP := Lib.hid (fun W => sconceref12_Pad.calls 200 a (pd6 m) W (rpad6 a m ha hm 200 (Nat.le_refl _)))
  have hel := fun W : World => run_eql_nums (P := Try.prog) (t := 34) (e := 33) (k := .u64) (S6 b) (S6_length b) Try.underlying34 Try.underlying33 (by kernel_rfl) W
  clear ha hm
  go_enter Try.func7, Try.ntmps7
  go_wp2_with fail
  refine (awake12 w).mono ?_
  rintro e w1 ⟨rfl, hb1⟩
  have HB1 := Lib.hid hb1
  clear hb1
  go_wp2_with fail
  refine (HP.out w1).mono ?_
  rintro e w2 ⟨v2, rfl, hR2, hb2⟩
  have HR2 := Lib.hid hR2
  have HB2 : Hid (Below w.heap.size w w2) := HB1.out.trans (hb2.mono HB1.out.size)
  clear hR2 hb2 HB1
  go_wp2_with fail
  refine (HRP.out w2).mono ?_
  rintro e w3 ⟨v3, rfl, hR3, hb3⟩
  have HR3 := Lib.hid hR3
  have HR2' := Lib.hid (Kd.R_below HR2.out hb3)
  have HB3 : Hid (Below w.heap.size w w3) := HB2.out.trans (hb3.mono HB2.out.size)
  clear hR3 hb3 HB2 HR2
  obtain ⟨A2, c2, e2, hl2, hC2⟩ := Kd.R_reads HR2'.out
  obtain ⟨A3, c3, e3, hl3, hC3⟩ := Kd.R_reads HR3.out
  subst e2
  subst e3
  have HS : Hid (Calls Try.prog 23 #[.slice A2 (pd6 m).length c2, .slice A3 (pd6 m).length c3] w3 fun e w' => e = .returned (.bool true) ∧ Drawn0 w3 w') := sconcelaw12_same.calls A2 c2 (pd6 m) A3 c3 (pd6 m) true w3 hC2 hl2 hC3 hl3 (by simp [sconcelaw12_same.f])
  clear hC2 hl2 hC3 hl3
  go_wp2_with fail
  refine HS.out.mono ?_
  rintro e w4 ⟨rfl, hd⟩
  have HB4 : Hid (Below w.heap.size w w4) := HB3.out.trans (hd.below.mono HB3.out.size)
  clear hd HB3
  go_wp2_with fail
  refine (start_any b w4).mono ?_
  rintro e w5 ⟨rfl, hb5⟩
  have HB5 : Hid (Below w.heap.size w w5) := HB4.out.trans (hb5.mono HB4.out.size)
  clear hb5 HB4
  go_wp2_with fail
  refine (rstart_any b w5).mono ?_
  rintro e w6 ⟨rfl, hb6⟩
  have HB6 : Hid (Below w.heap.size w w6) := HB5.out.trans (hb6.mono HB5.out.size)
  clear hb6 HB5
  go_wp2_with fail
  go_ret
  exact ⟨rfl, HB6.out⟩

def sconcelaw12_Sha512Pads.f (a0 : Int) (a1 : Bool) : Option Bool := if a0 < 2 ^ 63 then some true else none
theorem sconcelaw12_Sha512Pads.calls (a0 : Int) (a1 : Bool) (r : Bool) (w : World) (h : sconcelaw12_Sha512Pads.f a0 a1 = some r) :
    Calls Try.prog 7 #[.int .i64 a0, .bool a1] w fun e w' => e = .returned (.bool r) ∧ Below w.heap.size w w' := by
  unfold sconcelaw12_Sha512Pads.f at h
  split at h
  · obtain rfl := Option.some.inj h
    exact pads12 a0 a0.toNat (by split <;> omega) (by omega) a1 w
  · cases h
end Go.Proofs.Ytmmbbkdbebfhiaa.H
