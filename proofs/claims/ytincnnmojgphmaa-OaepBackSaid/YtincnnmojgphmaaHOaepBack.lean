/- The law OaepBack, by walking its text. -/
import Derived.Test.YtincnnmojgphmaaHOaep
import Derived.Test.YtincnnmojgphmaaHFewO
set_option linter.unusedVariables false
set_option linter.unusedSimpArgs false
namespace Go.Proofs.Ytincnnmojgphmaa.H
open Go.RowKit Go.Proofs.YtincnnmojgphmaaW.PrintWords Go.Proofs.YtincnnmojgphmaaW.PrintLast Go.Proofs.Ytincnnmojgphmaa.Sha Go.Proofs.YtincnnmojgphmaaW.PrintMore Go.Proofs.Ytincnnmojgphmaa.PT Go.Proofs.Ytincnnmojgphmaa.PO
attribute [local go_sem] Oper.semAt_some

theorem C_lt {w : World} {A : Option Addr} {n : Nat} {xs : List Int} (h : Kd.C (Kd.int .u8) w A n xs) (hn : 0 < n) : ∀ ad, A = some ad → ad.block < w.heap.size := by
  intro ad e
  obtain ⟨ad', e', hc⟩ := (Kd.reads_of_C (d := (0 : Int)) h).2.2 hn
  rw [e'] at e
  cases e
  have := World.block_lt_of_cell? w _ (hc 0 hn)
  rw [addr_block] at this
  exact this
theorem enc_cases (h : Int) (label m : List Int) (k : Int) (b : List Int) (X : List Int) (r2 : Int) (hf : oaep_Encode.f h label m k b = some (X, r2)) :
    (r2 ≠ 0 ∧ X = []) ∨ (r2 = 0 ∧ (h = 1 ∨ h = 2 ∨ h = 3) ∧ k = (X.length : Int) ∧ X.length ≤ 1024 ∧ m.length + 2 * hlen h + 2 ≤ X.length ∧ inB 8 X ∧ ∃ seed, inB 8 seed ∧ seed.length = hlen h ∧ X = encL h label m X.length seed) := by
  unfold oaep_Encode.f at hf
  split at hf
  case isFalse => cases hf
  rename_i hb
  by_cases he : (roomR h k).2 ≠ 0
  · rw [if_pos he] at hf
    cases hf
    exact .inl ⟨he, rfl⟩
  · rw [if_neg he] at hf
    by_cases hm : (roomR h k).1 < (m.length : Int)
    · rw [if_pos hm] at hf
      cases hf
      exact .inl ⟨by decide, rfl⟩
    · rw [if_neg hm] at hf
      by_cases hs : b.length < hlen h
      · rw [if_pos hs] at hf
        cases hf
        exact .inl ⟨by decide, rfl⟩
      · rw [if_neg hs] at hf
        have hgood : (h = 1 ∨ h = 2 ∨ h = 3) ∧ 0 ≤ k ∧ k ≤ 1024 ∧ 2 * (hlen h : Int) + 2 ≤ k ∧ (roomR h k).1 = k - 2 * (hlen h : Int) - 2 := by
          by_cases hh : h = 1 ∨ h = 2 ∨ h = 3
          · by_cases k0 : k < 0 ∨ 1024 < k
            · exact absurd (show (roomR h k).2 ≠ 0 by unfold roomR; rw [if_pos hh, if_pos k0]; decide) he
            · by_cases k1 : k < 2 * (hlen h : Int) + 2
              · exact absurd (show (roomR h k).2 ≠ 0 by unfold roomR; rw [if_pos hh, if_neg k0, if_pos k1]; decide) he
              · exact ⟨hh, by omega, by omega, by omega, by unfold roomR; rw [if_pos hh, if_neg k0, if_neg k1]⟩
          · exact absurd (show (roomR h k).2 ≠ 0 by unfold roomR; rw [if_neg hh]; decide) he
        obtain ⟨hh, k0, k1, k2, k3⟩ := hgood
        rw [k3] at hm
        obtain ⟨kn, rfl⟩ := Int.eq_ofNat_of_zero_le k0
        rw [Int.toNat_natCast] at hf
        have hlb : (b.take (hlen h)).length = hlen h := by rw [List.length_take]; omega
        have hrl := rawL_length h label m kn (b.take (hlen h)) hlb (by omega)
        have hel : (encL h label m kn (b.take (hlen h))).length = kn := by
          unfold encL
          rw [maskE_length _ _ _ _ _ _ (by rw [maskE_length _ _ _ _ _ _ (by rw [hrl]; omega), hrl]; omega), maskE_length _ _ _ _ _ _ (by rw [hrl]; omega), hrl]
        have hbs : inB 8 (b.take (hlen h)) := inB_take hb.2.2.1 _
        cases hf
        refine .inr ⟨rfl, hh, by rw [hel], by rw [hel]; omega, by rw [hel]; omega, ?_, _, hbs, hlb, by rw [hel]⟩
        unfold encL
        refine maskE_in h hh _ (maskE_in h hh _ ?_ _ _ _ _) _ _ _ _
        unfold rawL
        refine inB_append (inB_append (inB_append (inB_append (inB_append ?_ hbs) (hsum_in h hh label hb.1)) ?_) ?_) hb.2.1
        · intro x hx; rw [List.mem_singleton] at hx; subst hx; decide
        · intro x hx; rw [List.eq_of_mem_replicate hx]; decide
        · intro x hx; rw [List.mem_singleton] at hx; subst hx; decide
set_option maxRecDepth 100000 in
set_option maxHeartbeats 4000000 in
theorem oaepBack_ok (h : Int) (A1 : Option Addr) (c1 : Nat) (label : List Int) (A2 : Option Addr) (c2 : Nat) (m : List Int) (k : Int) (A4 : Option Addr) (c4 : Nat) (b : List Int) (A5 : Option Addr) (c5 : Nat) (other : List Int) (w : World)
    (h1 : Kd.C (Kd.int .u8) w A1 label.length label) (hc1 : label.length ≤ c1) (h2 : Kd.C (Kd.int .u8) w A2 m.length m) (hc2 : m.length ≤ c2) (h4 : Kd.C (Kd.int .u8) w A4 b.length b) (hc4 : b.length ≤ c4) (h5 : Kd.C (Kd.int .u8) w A5 other.length other) (hc5 : other.length ≤ c5)
    (hb1 : inB 8 label) (hb2 : inB 8 m) (hb4 : inB 8 b) (hb5 : inB 8 other) :
    Calls Try.prog 9 #[.int .i64 h, .slice A1 label.length c1, .slice A2 m.length c2, .int .i64 k, .slice A4 b.length c4, .slice A5 other.length c5] w fun e w' => e = .returned (.bool true) ∧ Below w.heap.size w w' := by
  have HAw : Hid (∀ W, Calls Try.prog 18 #[] W fun e w' => e = .returned (.bool true) ∧ Below W.heap.size W w') := fun W => awake24_ok W
  have HFe : Hid (∀ W, Below w.heap.size w W → Calls Try.prog 19 #[.slice (some ⟨W.heap.size, 0, none⟩) 4 4] (W.alloc (.cells #[.slice A1 label.length c1, .slice A2 m.length c2, .slice A4 b.length c4, .slice A5 other.length c5] 22)) fun e w' => e = .returned (.bool (decide (label.length ≤ 400 ∧ m.length ≤ 400 ∧ b.length ≤ 400 ∧ other.length ≤ 400))) ∧ Below W.heap.size W w') := fun W hW =>
    (fewO4.calls A1 c1 label A2 c2 m A4 c4 b A5 c5 other _ W (C_same h1 (fun i hi => hW.block i hi)) hc1 (C_same h2 (fun i hi => hW.block i hi)) hc2 (C_same h4 (fun i hi => hW.block i hi)) hc4 (C_same h5 (fun i hi => hW.block i hi)) hc5 rfl).mono (by
      rintro e w' ⟨rfl, hb⟩
      exact ⟨rfl, hb⟩)
  have H1 := Lib.hid h1
  have H2 := Lib.hid h2
  have H4 := Lib.hid h4
  have H5 := Lib.hid h5
  clear h1 h2 h4 h5
  go_enter Try.func9, Try.ntmps9
  go_wp2_with fail
  refine (HAw.out _).mono ?_
  rintro e w2 ⟨rfl, hb2'⟩
  have HB2 := Lib.hid hb2'
  clear hb2'
  go_wp2_with fail
  refine (HFe.out _ HB2.out).mono ?_
  rintro e w3 ⟨rfl, hb3⟩
  have HB3 := Lib.hid (HB2.out.trans (hb3.mono HB2.out.size))
  clear hb3
  by_cases hl : label.length ≤ 400 ∧ m.length ≤ 400 ∧ b.length ≤ 400 ∧ other.length ≤ 400
  · have hd1 : decide (label.length ≤ 400 ∧ m.length ≤ 400 ∧ b.length ≤ 400 ∧ other.length ≤ 400) = true := decide_eq_true hl
    rw [hd1]
    have HL := Lib.hid hl
    clear hd1 hl HFe
    by_cases hk : 500 < k
    · go_wp2_with fail
      go_ret
      exact ⟨rfl, HB3.out⟩
    · obtain ⟨X, r2, hX⟩ : ∃ X r2, oaep_Encode.f h label m k b = some (X, r2) := by
        unfold oaep_Encode.f
        have := HL.out
        rw [if_pos ⟨hb1, hb2, hb4, by omega, by omega⟩]
        split
        · exact ⟨_, _, rfl⟩
        · split
          · exact ⟨_, _, rfl⟩
          · split <;> exact ⟨_, _, rfl⟩
      have HX := Lib.hid hX
      clear hX
      go_wp2_with fail
      have hnew := new_ok A4 c4 b w3 (C_same H4.out (fun i hi => HB3.out.block i hi)) hc4 (by have := HL.out; omega)
      refine hnew.mono ?_
      rintro e w5 ⟨sb, rfl, hsb, hscr, hb5, hsl⟩
      have HB5 : Hid (Below w.heap.size w w5) := HB3.out.trans (hb5.mono HB3.out.size)
      have HSB : Hid (w.heap.size ≤ sb) := Nat.le_trans HB3.out.size hsb
      have HSC := Lib.hid hscr
      have HSL := Lib.hid hsl
      clear hnew hsb hscr hb5 hsl
      go_wp2_with fail
      refine (encode_any h A1 c1 label A2 c2 m k sb b w5 (C_same H1.out (fun i hi => HB5.out.block i hi)) hc1 (C_same H2.out (fun i hi => HB5.out.block i hi)) hc2
        (fun hn ad e => by have := C_lt H1.out hn ad e; have := HSB.out; omega) (fun hn ad e => by have := C_lt H2.out hn ad e; have := HSB.out; omega) HSC.out HSL.out X r2 HX.out).mono ?_
      rintro e w6 ⟨Ax, cx, rfl, hcx, hCx, ha6⟩
      have HB6 : Hid (Below w.heap.size w w6) := Away.below HB5.out ha6 (fun i hi => by rw [hi]; exact HSB.out) HB5.out.size
      have HCX := Lib.hid hCx
      have HCL := Lib.hid hcx
      clear hcx hCx ha6
      rcases enc_cases h label m k b X r2 HX.out with ⟨hr2, rfl⟩ | ⟨rfl, hh, hkX, hX1, hX2, hXb, seed, hsb2, hsl2, hXe⟩
      · have q : (r2 != 0) = true := by simpa using hr2
        clear hk
        go_wp2_with fail
        go_ret
        exact ⟨rfl, HB6.out⟩
      · subst hkX
        have hop1 := open_enc h hh label label m hb1 hb2 X.length seed hsb2 hsl2 hX2
        rw [← hXe, if_pos rfl] at hop1
        have hop2 := open_enc h hh label other m hb1 hb2 X.length seed hsb2 hsl2 hX2
        rw [← hXe] at hop2
        obtain ⟨z, g, hzg⟩ : ∃ z g, (if hsum h label = hsum h other then (m, (0 : Int)) else ([], 230)) = (z, g) := ⟨_, _, rfl⟩
        rw [hzg] at hop2
        have hLL := HL.out
        have hd1 : oaep_Decode.f h label X = some (m, 0) := by
          unfold oaep_Decode.f
          rw [if_pos ⟨hb1, hXb, by omega, by omega⟩, if_pos hh, if_neg (by omega), hop1]
        have hd2 : oaep_Decode.f h other X = some (z, g) := by
          unfold oaep_Decode.f
          rw [if_pos ⟨hb5, hXb, by omega, by omega⟩, if_pos hh, if_neg (by omega), hop2]
        have HDe1 : Hid (Calls Try.prog 20 #[.pointer none, .int .i64 h, .slice A1 label.length c1, .slice Ax X.length cx] w6 fun e w' => ∃ v0_ : Value, e = .returned (.tuple #[v0_, .int .i64 0]) ∧ Kd.R (Kd.int .u8) 5 w' w6.heap.size (fun _ => True) v0_ m ∧ Below w6.heap.size w6 w') :=
          oaep_Decode.calls h A1 c1 label Ax cx X m 0 w6 (C_same H1.out (fun i hi => HB6.out.block i hi)) hc1 HCX.out HCL.out hd1
        have HDe2 : Hid (∀ W, Below w6.heap.size w6 W → Calls Try.prog 20 #[.pointer none, .int .i64 h, .slice A5 other.length c5, .slice Ax X.length cx] W fun e w' => ∃ v0_ : Value, e = .returned (.tuple #[v0_, .int .i64 g]) ∧ Kd.R (Kd.int .u8) 5 w' W.heap.size (fun _ => True) v0_ z ∧ Below W.heap.size W w') :=
          fun W hW => oaep_Decode.calls h A5 c5 other Ax cx X z g W (C_same H5.out (fun i hi => (hW.block i (Nat.lt_of_lt_of_le hi HB6.out.size)).trans (HB6.out.block i hi))) hc5 (C_same HCX.out (fun i hi => hW.block i hi)) HCL.out hd2
        have HRs : ∀ (A : Option Addr) (c : Nat) (l : List Int), Kd.C (Kd.int .u8) w A l.length l → l.length ≤ c → inB 8 l → l.length ≤ 400 → Hid (∀ W, Below w.heap.size w W → Calls Try.prog 26 #[.int .i64 h, .slice A l.length c] W fun e w' => ∃ v0_ : Value, e = .returned (.tuple #[v0_, .int .i64 0]) ∧ Kd.R (Kd.int .u8) 5 w' W.heap.size (fun _ => True) v0_ (hsum h l) ∧ Below W.heap.size W w') :=
          fun A c l hC hc hb hl W hW => sconceref13_Sum.calls h A c l (hsum h l) 0 W (C_same hC (fun i hi => hW.block i hi)) hc (rsum_at h hh l hb (by omega))
        have HS1 := HRs A1 c1 label H1.out hc1 hb1 (by omega)
        have HS2 := HRs A5 c5 other H5.out hc5 hb5 (by omega)
        have HZG := Lib.hid hzg
        have hin1 := hsum_in h hh label hb1
        have hin2 := hsum_in h hh other hb5
        have HIN : Hid (sconceref13_Same.f (hsum h label) (hsum h other) = some (decide (hsum h label = hsum h other))) := rsame_13 _ _ hin1 hin2
        clear hop1 hop2 hd1 hd2 HRs hin1 hin2 hzg hXe hLL hX1 hX2
        go_wp2_with fail
        refine HDe1.out.mono ?_
        rintro e w7 ⟨v7, rfl, hv7, hb7⟩
        obtain ⟨A7, c7, rfl⟩ := Kd.R_slice hv7
        have hr7 := Kd.R_reads' hv7
        have HR7 := Lib.hid hr7
        have HB7 := Lib.hid hb7
        clear hv7 hr7 hb7
        go_wp2_with fail
        refine (HDe2.out _ HB7.out).mono ?_
        rintro e w8 ⟨v8, rfl, hv8, hb8⟩
        obtain ⟨A8, c8, rfl⟩ := Kd.R_slice hv8
        have hr8 := Kd.R_reads' hv8
        have HR8 := Lib.hid hr8
        have HC78 : Hid (Kd.C (Kd.int .u8) w8 A7 m.length m) := C_same HR7.out.2.2 (fun i hi => hb8.block i hi)
        have HB8 : Hid (Below w.heap.size w w8) := (HB6.out.trans (HB7.out.mono HB6.out.size)).trans (hb8.mono (Nat.le_trans HB6.out.size HB7.out.size))
        have HSa : Hid (Calls Try.prog 15 #[.slice A7 m.length c7, .slice A2 m.length c2] w8 fun e w' => e = .returned (.bool true) ∧ Drawn0 w8 w') := sconceref13_Same.calls A7 c7 m A2 c2 m true w8 HC78.out HR7.out.2.1 (C_same H2.out (fun i hi => HB8.out.block i hi)) hc2 (same13 m)
        clear hv8 hr8 hb8
        go_wp2_with fail
        refine HSa.out.mono ?_
        rintro e w9 ⟨rfl, hd9⟩
        have HC89 : Hid (Kd.C (Kd.int .u8) w9 A8 z.length z) := C_same HR8.out.2.2 (fun i hi => hd9.below.block i hi)
        have HB9 : Hid (Below w.heap.size w w9) := HB8.out.trans (hd9.below.mono HB8.out.size)
        clear hd9
        go_wp2_with fail
        refine (HS1.out _ HB9.out).mono ?_
        rintro e w10 ⟨v10, rfl, hv10, hb10⟩
        obtain ⟨A10, c10, rfl⟩ := Kd.R_slice hv10
        have hr10 := Kd.R_reads' hv10
        have HR10 := Lib.hid hr10
        have HC810 : Hid (Kd.C (Kd.int .u8) w10 A8 z.length z) := C_same HC89.out (fun i hi => hb10.block i hi)
        have HB10 : Hid (Below w.heap.size w w10) := HB9.out.trans (hb10.mono HB9.out.size)
        clear hv10 hr10 hb10
        go_wp2_with fail
        refine (HS2.out _ HB10.out).mono ?_
        rintro e w11 ⟨v11, rfl, hv11, hb11⟩
        obtain ⟨A11, c11, rfl⟩ := Kd.R_slice hv11
        have hr11 := Kd.R_reads' hv11
        have HC811 : Hid (Kd.C (Kd.int .u8) w11 A8 z.length z) := C_same HC810.out (fun i hi => hb11.block i hi)
        have HB11 : Hid (Below w.heap.size w w11) := HB10.out.trans (hb11.mono HB10.out.size)
        have HS3 : Hid (Calls Try.prog 15 #[.slice A10 (hsum h label).length c10, .slice A11 (hsum h other).length c11] w11 fun e w' => e = .returned (.bool (decide (hsum h label = hsum h other))) ∧ Drawn0 w11 w') :=
          sconceref13_Same.calls A10 c10 (hsum h label) A11 c11 (hsum h other) _ w11 (C_same HR10.out.2.2 (fun i hi => hb11.block i hi)) HR10.out.2.1 hr11.2.2 hr11.2.1 HIN.out
        clear hv11 hr11 hb11
        go_wp2_with fail
        refine HS3.out.mono ?_
        rintro e w12 ⟨rfl, hd12⟩
        have HC812 : Hid (Kd.C (Kd.int .u8) w12 A8 z.length z) := C_same HC811.out (fun i hi => hd12.below.block i hi)
        have HB12 : Hid (Below w.heap.size w w12) := HB11.out.trans (hd12.below.mono HB11.out.size)
        clear hd12
        by_cases heq : hsum h label = hsum h other
        · have hde : decide (hsum h label = hsum h other) = true := decide_eq_true heq
          have hzz := HZG.out
          rw [if_pos heq] at hzz
          cases hzz
          rw [hde]
          have HS4 : Hid (Calls Try.prog 15 #[.slice A8 m.length c8, .slice A2 m.length c2] w12 fun e w' => e = .returned (.bool true) ∧ Drawn0 w12 w') := sconceref13_Same.calls A8 c8 m A2 c2 m true w12 HC812.out HR8.out.2.1 (C_same H2.out (fun i hi => HB12.out.block i hi)) hc2 (same13 m)
          clear hde heq
          go_wp2_with fail
          refine HS4.out.mono ?_
          rintro e w13 ⟨rfl, hd13⟩
          have HB13 : Hid (Below w.heap.size w w13) := HB12.out.trans (hd13.below.mono HB12.out.size)
          clear hd13
          go_wp2_with fail
          go_ret
          exact ⟨rfl, HB13.out⟩
        · have hde : decide (hsum h label = hsum h other) = false := decide_eq_false heq
          have hzz := HZG.out
          rw [if_neg heq] at hzz
          cases hzz
          rw [hde]
          clear hde heq
          go_wp2_with fail
          go_ret
          exact ⟨rfl, HB12.out⟩
  · have hd1 : decide (label.length ≤ 400 ∧ m.length ≤ 400 ∧ b.length ≤ 400 ∧ other.length ≤ 400) = false := decide_eq_false hl
    rw [hd1]
    go_wp2_with fail
    go_ret
    exact ⟨rfl, HB3.out⟩
def sconcelaw24_OaepBack.f (a0 : Int) (l1 l2 : List Int) (a3 : Int) (l4 l5 : List Int) : Option Bool := if inB 8 l1 ∧ inB 8 l2 ∧ inB 8 l4 ∧ inB 8 l5 then some true else none
theorem sconcelaw24_OaepBack.calls (a0 : Int) (A1 : Option Addr) (c1 : Nat) (l1 : List Int) (A2 : Option Addr) (c2 : Nat) (l2 : List Int) (a3 : Int) (A4 : Option Addr) (c4 : Nat) (l4 : List Int) (A5 : Option Addr) (c5 : Nat) (l5 : List Int) (r : Bool) (w : World) (hr1 : Kd.C (Kd.int .u8) w A1 l1.length l1) (hc1 : l1.length ≤ c1) (hr2 : Kd.C (Kd.int .u8) w A2 l2.length l2) (hc2 : l2.length ≤ c2) (hr4 : Kd.C (Kd.int .u8) w A4 l4.length l4) (hc4 : l4.length ≤ c4) (hr5 : Kd.C (Kd.int .u8) w A5 l5.length l5) (hc5 : l5.length ≤ c5) (h : sconcelaw24_OaepBack.f a0 l1 l2 a3 l4 l5 = some r) :
    Calls Try.prog 9 #[.int .i64 a0, .slice A1 l1.length c1, .slice A2 l2.length c2, .int .i64 a3, .slice A4 l4.length c4, .slice A5 l5.length c5] w fun e w' => e = .returned (.bool r) ∧ Below w.heap.size w w' := by
  unfold sconcelaw24_OaepBack.f at h
  split at h
  case isFalse => cases h
  rename_i hh
  cases h
  exact oaepBack_ok a0 A1 c1 l1 A2 c2 l2 a3 A4 c4 l4 A5 c5 l5 w hr1 hc1 hr2 hc2 hr4 hc4 hr5 hc5 hh.1 hh.2.1 hh.2.2.1 hh.2.2.2
end Go.Proofs.Ytincnnmojgphmaa.H
