/- The examples of chapter 12, by walking their text. -/
import Derived.Test.YtmmbbkdbebfhiaaHRSum
set_option linter.unusedVariables false
set_option linter.unusedSimpArgs false
namespace Go.Proofs.Ytmmbbkdbebfhiaa.H
open Go.RowKit Go.Proofs.YtmmbbkdbebfhiaaW.PrintWords Go.Proofs.YtmmbbkdbebfhiaaW.PrintLast Go.Proofs.Ytmmbbkdbebfhiaa.Sha Go.Proofs.YtmmbbkdbebfhiaaW.PrintMore
attribute [local go_sem] Oper.semAt_some

theorem C_of_block {W : World} {g : Nat} {k : IntKind} {xs : List Int} {cs : Array Value} {t : TypeId} {fr : Nat × Nat}
    (hb : W.heap[g]? = some (.cells cs t fr)) (hcs : ∀ j, j < xs.length → cs[j]? = some (.int k (xs.getD j 0))) (hm : xs.length ≤ 9223372036854775807) : Kd.C (Kd.int k) W (some ⟨g, 0, none⟩) xs.length xs := by
  refine Kd.C_of_reads (d := (0 : Int)) (h1 := fun _ => rfl) ⟨rfl, hm, fun _ => ⟨_, rfl, fun j hj => ?_⟩⟩
  rw [add_plain, cell_of_row W g _ cs t fr hb]
  simpa using hcs j hj
/-- A hash's bytes, read. -/
theorem V_cell {W : World} {e base n c : Nat} {k : IntKind} {ok : Nat → Prop} {A : Option Addr} {xs : List Int} (h : Kd.V (Kd.int k) e W base ok (.slice A n c) xs) (j : Nat) (hj : j < xs.length) : ∃ ad, A = some ad ∧ W.cell? (ad.add j) = some (.int k (xs.getD j 0)) := by
  obtain ⟨_, _, hC⟩ := Kd.V_reads' h
  obtain ⟨ad, e, hc⟩ := (Kd.reads_of_C (d := (0 : Int)) hC).2.2 (by omega)
  exact ⟨ad, e, hc j hj⟩
def abc : List Int := [97, 98, 99]
set_option maxRecDepth 100000 in
theorem abc_512 : ∃ l, sha512_Sum.f abc = some l ∧ l.length = 64 ∧ l.getD 0 0 = 221 ∧ l.getD 1 0 = 175 := by
  refine ⟨sum6 (S6 false) abc, ?_, ?_, ?_, ?_⟩
  · rw [sha512_Sum.f, if_pos (by decide)]
  · exact sum6_length _ _ (S6_length _)
  · decide +kernel
  · decide +kernel
set_option maxRecDepth 100000 in
theorem abc_384 : ∃ l, sha512_Sum384.f abc = some l ∧ l.length = 48 ∧ l.getD 0 0 = 203 ∧ l.getD 1 0 = 0 := by
  refine ⟨(sum6 (S6 true) abc).take 48, ?_, ?_, ?_, ?_⟩
  · rw [sha512_Sum384.f, if_pos (by decide)]
  · rw [List.length_take, sum6_length _ _ (S6_length _)]; rfl
  · decide +kernel
  · decide +kernel
set_option maxRecDepth 100000 in
set_option maxHeartbeats 4000000 in
theorem awake12 (w : World) : Calls Try.prog 22 #[] w fun e w' => e = .returned (.bool true) ∧ Below w.heap.size w w' := by
  obtain ⟨l, hl, hl1, hl2, hl3⟩ := abc_512
  obtain ⟨m, hm, hm1, hm2, hm3⟩ := abc_384
  have kc := fun (w : World) (C : Array Value) (n c : Nat) => Lib.run_convert_bytes_const (P := Try.prog) w 24 5 C n c Try.underlying24 Try.underlying5
  have H1 : Hid (∀ W : World, Calls Try.prog 24 #[.slice (some ⟨W.heap.size, 0, none⟩) 3 3] (W.alloc (.cells #[.int .u8 97, .int .u8 98, .int .u8 99] 5 (3, 4))) fun e w' => ∃ v0_ : Value, e = .returned v0_ ∧ Kd.V (Kd.int .u8) 5 w' (W.alloc (.cells #[.int .u8 97, .int .u8 98, .int .u8 99] 5 (3, 4))).heap.size (fun _ => True) v0_ l ∧ Below (W.alloc (.cells #[.int .u8 97, .int .u8 98, .int .u8 99] 5 (3, 4))).heap.size (W.alloc (.cells #[.int .u8 97, .int .u8 98, .int .u8 99] 5 (3, 4))) w') := fun W => by
    have hC : Kd.C (Kd.int .u8) (W.alloc (.cells #[.int .u8 97, .int .u8 98, .int .u8 99] 5 (3, 4))) (some ⟨W.heap.size, 0, none⟩) abc.length abc := C_of_block (heap_alloc_new _ _) (fun j hj => by match j, hj with | 0, _ | 1, _ | 2, _ => rfl) (by decide)
    exact (sha512_Sum.calls (some ⟨W.heap.size, 0, none⟩) 3 abc l _ hC (by decide) hl).mono fun e w' ⟨v, he, hv, hb⟩ => ⟨v, he, Kd.V_mono hv (fun _ _ => trivial), hb⟩
  have H2 : Hid (∀ W : World, Calls Try.prog 26 #[.slice (some ⟨W.heap.size, 0, none⟩) 3 3] (W.alloc (.cells #[.int .u8 97, .int .u8 98, .int .u8 99] 5 (3, 4))) fun e w' => ∃ v0_ : Value, e = .returned v0_ ∧ Kd.V (Kd.int .u8) 5 w' (W.alloc (.cells #[.int .u8 97, .int .u8 98, .int .u8 99] 5 (3, 4))).heap.size (fun _ => True) v0_ m ∧ Below (W.alloc (.cells #[.int .u8 97, .int .u8 98, .int .u8 99] 5 (3, 4))).heap.size (W.alloc (.cells #[.int .u8 97, .int .u8 98, .int .u8 99] 5 (3, 4))) w') := fun W => by
    have hC : Kd.C (Kd.int .u8) (W.alloc (.cells #[.int .u8 97, .int .u8 98, .int .u8 99] 5 (3, 4))) (some ⟨W.heap.size, 0, none⟩) abc.length abc := C_of_block (heap_alloc_new _ _) (fun j hj => by match j, hj with | 0, _ | 1, _ | 2, _ => rfl) (by decide)
    exact (sha512_Sum384.calls (some ⟨W.heap.size, 0, none⟩) 3 abc m _ hC (by decide) hm).mono fun e w' ⟨v, he, hv, hb⟩ => ⟨v, he, Kd.V_mono hv (fun _ _ => trivial), hb⟩
  have HL1 := Lib.hid hl1
  have HL2 := Lib.hid hl2
  have HL3 := Lib.hid hl3
  have HM1 := Lib.hid hm1
  have HM2 := Lib.hid hm2
  have HM3 := Lib.hid hm3
  clear hl hm hl1 hl2 hl3 hm1 hm2 hm3
  go_enter Try.func22, Try.ntmps22
  go_wp2_with fail
  refine (H1.out w).mono ?_
  rintro e w1 ⟨v1, rfl, hv1, hb1⟩
  have HV1 := Lib.hid hv1
  have HB1 : Hid (Below w.heap.size w w1) := ((Below.refl w.heap.size w).alloc (Nat.le_refl _) _).trans (hb1.mono (by simp))
  clear hv1 hb1
  go_wp2_with fail
  refine (H2.out w1).mono ?_
  rintro e w2 ⟨v2, rfl, hv2, hb2⟩
  have HV2 := Lib.hid hv2
  have HB2 : Hid (Below w1.heap.size w1 w2) := ((Below.refl w1.heap.size w1).alloc (Nat.le_refl _) _).trans (hb2.mono (by simp))
  have HV1' := Lib.hid (Kd.V_below HV1.out HB2.out)
  obtain ⟨A1, c1, hs1⟩ := Kd.V_slice HV1'.out
  subst hs1
  obtain ⟨A2, c2, hs2⟩ := Kd.V_slice HV2.out
  subst hs2
  rw [HL1.out] at HV1'
  rw [HM1.out] at HV2
  obtain ⟨ad1, hA1, q10⟩ := V_cell HV1'.out 0 (by rw [HL1.out]; decide)
  subst hA1
  obtain ⟨ad2, hA2, q20⟩ := V_cell HV2.out 0 (by rw [HM1.out]; decide)
  subst hA2
  obtain ⟨ad1', e1, q11⟩ := V_cell HV1'.out 1 (by rw [HL1.out]; decide)
  obtain rfl := Option.some.inj e1
  obtain ⟨ad2', e2, q21⟩ := V_cell HV2.out 1 (by rw [HM1.out]; decide)
  obtain rfl := Option.some.inj e2
  rw [HL2.out] at q10
  rw [HL3.out] at q11
  rw [HM2.out] at q20
  rw [HM3.out] at q21
  rw [HL1.out, HM1.out]
  have r10 : w2.cell? ad1 = some (.int .u8 221) := q10
  have r20 : w2.cell? ad2 = some (.int .u8 203) := q20
  have r11 : w2.cell? ⟨ad1.block, ad1.off + 1, none⟩ = some (.int .u8 175) := q11
  have r21 : w2.cell? ⟨ad2.block, ad2.off + 1, none⟩ = some (.int .u8 0) := q21
  clear hv2 hb2 e1 e2 q10 q20 q11 q21
  go_wp2_with fail
  go_ret
  exact ⟨rfl, HB1.out.trans (HB2.out.mono HB1.out.size)⟩

def sconcelaw12_awake.f : Option Bool := some true
theorem sconcelaw12_awake.calls (r : Bool) (w : World) (h : sconcelaw12_awake.f = some r) :
    Calls Try.prog 22 #[] w fun e w' => e = .returned (.bool r) ∧ Below w.heap.size w w' := by
  obtain rfl := Option.some.inj h
  exact awake12 w
end Go.Proofs.Ytmmbbkdbebfhiaa.H
