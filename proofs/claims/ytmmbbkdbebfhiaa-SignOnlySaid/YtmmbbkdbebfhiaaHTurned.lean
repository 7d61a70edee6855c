/- sha256's turned, by walking its text. -/
import Derived.Test.YtmmbbkdbebfhiaaHKeys5
import Derived.Test.YtmmbbkdbebfhiaaHBlk
set_option linter.unusedVariables false
set_option linter.unusedSimpArgs false
namespace Go.Proofs.Ytmmbbkdbebfhiaa.H
open Go.RowKit Go.Proofs.YtmmbbkdbebfhiaaW.PrintWords Go.Proofs.YtmmbbkdbebfhiaaW.PrintLast Go.Proofs.Ytmmbbkdbebfhiaa.Sha
attribute [local go_sem] Oper.semAt_some

set_option maxRecDepth 100000 in
theorem tn_pos (x : Int) (n B : Nat) (hn : n ≤ 32) (w : World) (hc : w.cell? ⟨B, 0, none⟩ = some (.int .u32 x)) : Calls Try.prog 76 #[.int .i64 (n : Int), .pointer (some ⟨B, 0, none⟩)] w fun e w' => e = .returned (.int .u32 (R5 n x)) ∧ Drawn0 w w' := by
  have h0 : (0 : Int) ≤ (n : Int) := by omega
  have h1 : (n : Int) ≤ 32 := by omega
  have h2 : (0 : Int) ≤ 32 - (n : Int) := by omega
  go_enter Try.func76, Try.ntmps76
  go_wp2
  go_quiet (fail)
  go_wp2
  exact bodyPost_ret (by simp [results, go_sem]; rfl) rfl ⟨rfl, ⟨⟨_, rfl⟩⟩⟩
set_option maxRecDepth 100000 in
theorem tn_neg (x : Int) (n B : Nat) (hn : n ≤ 32) (h0 : 0 < n) (w : World) (hc : w.cell? ⟨B, 0, none⟩ = some (.int .u32 x)) : Calls Try.prog 76 #[.int .i64 (-(n : Int)), .pointer (some ⟨B, 0, none⟩)] w fun e w' => e = .returned (.int .u32 (x / 2 ^ n)) ∧ Drawn0 w w' := by
  have h1 : -(n : Int) < 0 := by omega
  have h2 : (-(n : Int)) ≥ -32 := by omega
  have h3 : - (-(n : Int)) = (n : Int) := by omega
  go_enter Try.func76, Try.ntmps76
  go_wp2
  go_ret
  exact ⟨rfl, Drawn0.refl _⟩

/-- What a call of the closure comes to, wherever its word lies. -/
def Tn (x n y : Int) : Prop := ∀ (B : Nat) (w : World), w.cell? ⟨B, 0, none⟩ = some (.int .u32 x) → Calls Try.prog 76 #[.int .i64 n, .pointer (some ⟨B, 0, none⟩)] w fun e w' => e = .returned (.int .u32 y) ∧ Drawn0 w w'
theorem Tn_pos (x : Int) (n : Nat) (h : n ≤ 32) : Tn x n (R5 n x) := fun B w hc => tn_pos x n B h w hc
theorem Tn_neg (x : Int) (n : Nat) (h : n ≤ 32) (h0 : 0 < n) : Tn x (-(n : Int)) (x / 2 ^ n) := fun B w hc => tn_neg x n B h h0 w hc
set_option maxRecDepth 100000 in
set_option maxHeartbeats 1000000 in
theorem turned_of (x a b c ya yb yc : Int) (ha : Tn x a ya) (hb : Tn x b yb) (hc : Tn x c yc) (w : World) :
    Calls Try.prog 70 #[.int .u32 x, .int .i64 a, .int .i64 b, .int .i64 c] w fun e w' => e = .returned (.int .u32 (X5 (X5 ya yb) yc)) ∧ Below w.heap.size w w' := by
  have HA := Lib.hid ha
  have HB := Lib.hid hb
  have HC := Lib.hid hc
  have hB0 : Hid (Below w.heap.size w (w.alloc (.cells #[.int .u32 x] 73))) := (Below.refl _ w).alloc (Nat.le_refl _) _
  have hcell : Hid ((w.alloc (.cells #[.int .u32 x] 73)).cell? ⟨w.heap.size, 0, none⟩ = some (.int .u32 x)) := World.cell?_alloc_at _ _ _ _ rfl
  clear ha hb hc
  go_enter Try.func70, Try.ntmps70
  go_wp2_with fail
  refine (HA.out w.heap.size _ hcell.out).mono ?_
  rintro e w1 ⟨rfl, hd1⟩
  have HB1 : Hid (Below w.heap.size w w1) := hB0.out.trans (hd1.below.mono hB0.out.size)
  have HC1 : Hid (w1.cell? ⟨w.heap.size, 0, none⟩ = some (.int .u32 x)) := by
    obtain ⟨n, rfl⟩ := hd1.out
    exact hcell.out
  clear hd1 hB0 hcell
  go_wp2_with fail
  refine (HB.out w.heap.size _ HC1.out).mono ?_
  rintro e w2 ⟨rfl, hd1⟩
  have HB2 : Hid (Below w.heap.size w w2) := HB1.out.trans (hd1.below.mono HB1.out.size)
  have HC2 : Hid (w2.cell? ⟨w.heap.size, 0, none⟩ = some (.int .u32 x)) := by
    obtain ⟨n, rfl⟩ := hd1.out
    exact HC1.out
  clear hd1 HB1 HC1
  go_wp2_with fail
  refine (HC.out w.heap.size _ HC2.out).mono ?_
  rintro e w3 ⟨rfl, hd1⟩
  have HB3 : Hid (Below w.heap.size w w3) := HB2.out.trans (hd1.below.mono HB2.out.size)
  clear hd1 HB2 HC2
  go_wp2_with fail
  go_ret
  exact ⟨rfl, HB3.out⟩
theorem tur_7_18_3 (x : Int) (w : World) : Calls Try.prog 70 #[.int .u32 x, .int .i64 7, .int .i64 18, .int .i64 (-3)] w fun e w' => e = .returned (.int .u32 (X5 (X5 (R5 7 x) (R5 18 x)) (x / 8))) ∧ Below w.heap.size w w' := turned_of x 7 18 (-3) _ _ _ (Tn_pos x 7 (by decide)) (Tn_pos x 18 (by decide)) (Tn_neg x 3 (by decide) (by decide)) w
theorem tur_17_19_10 (x : Int) (w : World) : Calls Try.prog 70 #[.int .u32 x, .int .i64 17, .int .i64 19, .int .i64 (-10)] w fun e w' => e = .returned (.int .u32 (X5 (X5 (R5 17 x) (R5 19 x)) (x / 1024))) ∧ Below w.heap.size w w' := turned_of x 17 19 (-10) _ _ _ (Tn_pos x 17 (by decide)) (Tn_pos x 19 (by decide)) (Tn_neg x 10 (by decide) (by decide)) w
theorem tur_6_11_25 (x : Int) (w : World) : Calls Try.prog 70 #[.int .u32 x, .int .i64 6, .int .i64 11, .int .i64 (25)] w fun e w' => e = .returned (.int .u32 (X5 (X5 (R5 6 x) (R5 11 x)) (R5 25 x))) ∧ Below w.heap.size w w' := turned_of x 6 11 (25) _ _ _ (Tn_pos x 6 (by decide)) (Tn_pos x 11 (by decide)) (Tn_pos x 25 (by decide)) w
theorem tur_2_13_22 (x : Int) (w : World) : Calls Try.prog 70 #[.int .u32 x, .int .i64 2, .int .i64 13, .int .i64 (22)] w fun e w' => e = .returned (.int .u32 (X5 (X5 (R5 2 x) (R5 13 x)) (R5 22 x))) ∧ Below w.heap.size w w' := turned_of x 2 13 (22) _ _ _ (Tn_pos x 2 (by decide)) (Tn_pos x 13 (by decide)) (Tn_pos x 22 (by decide)) w
end Go.Proofs.Ytmmbbkdbebfhiaa.H
