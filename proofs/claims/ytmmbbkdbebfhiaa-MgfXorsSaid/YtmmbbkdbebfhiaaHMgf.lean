/- mgf.Mask's contract in closed form, its refusals with it. -/
import Derived.Test.YtmmbbkdbebfhiaaHMask2
import Derived.Test.YtmmbbkdbebfhiaaPTx2
import Derived.OpenShut
set_option linter.unusedVariables false
set_option linter.unusedSimpArgs false
namespace Go.Proofs.Ytmmbbkdbebfhiaa.H
open Go.RowKit Go.Proofs.YtmmbbkdbebfhiaaW.PrintWords Go.Proofs.YtmmbbkdbebfhiaaW.PrintLast Go.Proofs.Ytmmbbkdbebfhiaa.Sha Go.Proofs.YtmmbbkdbebfhiaaW.PrintMore Go.Proofs.Ytmmbbkdbebfhiaa.PT
attribute [local go_sem] Oper.semAt_some

/-- The mask of n bytes. -/
def maskL (h : Int) (l : List Int) (n : Nat) : List Int := (outI h l n).take n
theorem outI_more (h : Int) (l : List Int) (n i d : Nat) (hi : n ≤ i * hlen h) : (outI h l (i + d)).take n = (outI h l i).take n := by
  induction d with
  | zero => rfl
  | succ d ih =>
    rw [← Nat.add_assoc, outI, List.take_append_of_le_length, ih]
    rw [outI_length]
    exact Nat.le_trans hi (Nat.mul_le_mul_right _ (by omega))
theorem le_hlen (h : Int) (n : Nat) : n ≤ n * hlen h := by
  have h1 := hlen_pos h
  have h2 : n * 1 ≤ n * hlen h := Nat.mul_le_mul_left _ (by omega)
  omega
theorem outI_take (h : Int) (l : List Int) (n i : Nat) (hi : n ≤ i * hlen h) : (outI h l i).take n = maskL h l n := by
  unfold maskL
  rcases Nat.le_total i n with h1 | h1
  · obtain ⟨d, rfl⟩ := Nat.exists_eq_add_of_le h1
    exact (outI_more h l _ i d hi).symm
  · obtain ⟨d, rfl⟩ := Nat.exists_eq_add_of_le h1
    exact outI_more h l _ n d (le_hlen h n)
theorem maskL_length (h : Int) (l : List Int) (n : Nat) : (maskL h l n).length = n := by
  have := le_hlen h n
  rw [maskL, List.length_take, outI_length]; omega
theorem maskL_take (h : Int) (l : List Int) (n m : Nat) : (maskL h l (n + m)).take n = maskL h l n := by
  have := le_hlen h n
  have h2 := le_hlen h (n + m)
  rw [← outI_take h l (n + m) (n + m) h2, List.take_take, Nat.min_eq_left (by omega)]
  exact outI_take h l n _ (by omega)

/-- mgf.Mask, in closed form. -/
def mgf_Mask.f (a0 : Int) (l1 : List Int) (a2 : Int) : Option (List Int × Int) :=
  if inB 8 l1 ∧ l1.length ≤ 100000 then
    (if a0 = 1 ∨ a0 = 2 ∨ a0 = 3 then
      (if a2 < 0 then some ([], 1) else if 10000 < a2 then some ([], 2) else some (maskL a0 l1 a2.toNat, 0))
     else some ([], 130))
  else none
set_option maxRecDepth 100000 in
set_option maxHeartbeats 2000000 in
theorem mgf_Mask.calls (a0 : Int) (A1 : Option Addr) (c1 : Nat) (l1 : List Int) (a2 : Int) (r1 : List Int) (r2 : Int) (w : World) (hr1 : Kd.C (Kd.int .u8) w A1 l1.length l1) (hc1 : l1.length ≤ c1) (h : mgf_Mask.f a0 l1 a2 = some (r1, r2)) :
    Calls Try.prog 38 #[.int .i64 a0, .slice A1 l1.length c1, .int .i64 a2] w fun e w' => ∃ v0_ : Value, e = .returned (.tuple #[v0_, .int .i64 r2]) ∧ Kd.V (Kd.int .u8) 5 w' w.heap.size (fun k_ => (w.heap.size ≤ k_)) v0_ r1 ∧ Below w.heap.size w w' := by
  unfold mgf_Mask.f at h
  split at h
  case isFalse => cases h
  rename_i hh
  obtain ⟨n, hn⟩ : ∃ n : Nat, 4 ≤ n := ⟨4, Nat.le_refl _⟩
  refine (callsIn_wide (n := n)).1 ?_
  by_cases h1 : a0 = 1 ∨ a0 = 2 ∨ a0 = 3
  · rw [if_pos h1] at h
    by_cases h2 : a2 < 0
    · rw [if_pos h2] at h
      cases h
      have hsz : Hid (∀ W, Calls Try.prog 35 #[.int .i64 a0] W fun e w' => e = .returned (.int .i64 (hlen a0 : Int)) ∧ Below W.heap.size W w') := fun W => hash_Size.calls a0 _ W (size_at a0 h1)
      have hl0 : ((hlen a0 : Int) == 0) = false := by have := hlen_pos a0; simp; omega
      have hN : decide (a2 < 0) = true := decide_eq_true h2
      clear h1 hh
      refine callsIn_of_wp_marks Try.func38 rfl trivial ?_ rfl
      simp only [Try.ntmps38, List.size_toArray, List.length_cons, List.length_nil, Nat.reduceAdd, Nat.reduceSub, Array.replicate_succ, Array.replicate_zero, List.push_toArray, List.append_toArray, List.nil_append, List.cons_append]
      gi_wp2_with fail
      refine ⟨trivial, fun _ => by omega, ?_⟩
      refine (callsIn_wide.2 (hsz.out _)).mono ?_
      rintro e w1 ⟨rfl, hb1⟩
      have hcn1 : w1.heap[w.heap.size]? = some (.cells #[.int .i64 a2] 3 (0, 0)) := (hb1.block _ (by simp)).trans (heap_alloc_new _ _)
      have hc1 := blk_cell hcn1 0
      have hc1' : w1.cell? ⟨w.heap.size, 0, none⟩ = some (.int .i64 a2) := hc1
      have HB1 : Hid (Below w.heap.size w w1) := ((Below.refl w.heap.size w).alloc (Nat.le_refl _) _).trans (hb1.mono (by simp))
      clear hb1 hc1 hcn1
      gi_wp2_with fail
      refine ⟨.tuple #[.slice none 0 0, .int .i64 1], by simp [results, go_sem], _, rfl, Kd.V_nil _ _ _ _ _, HB1.out⟩
    · rw [if_neg h2] at h
      by_cases h3 : 10000 < a2
      · rw [if_pos h3] at h
        cases h
        have hsz : Hid (∀ W, Calls Try.prog 35 #[.int .i64 a0] W fun e w' => e = .returned (.int .i64 (hlen a0 : Int)) ∧ Below W.heap.size W w') := fun W => hash_Size.calls a0 _ W (size_at a0 h1)
        have hl0 : ((hlen a0 : Int) == 0) = false := by have := hlen_pos a0; simp; omega
        have hN : decide (a2 < 0) = false := decide_eq_false h2
        have hN2 : decide (10000 < a2) = true := decide_eq_true h3
        clear h1 hh
        refine callsIn_of_wp_marks Try.func38 rfl trivial ?_ rfl
        simp only [Try.ntmps38, List.size_toArray, List.length_cons, List.length_nil, Nat.reduceAdd, Nat.reduceSub, Array.replicate_succ, Array.replicate_zero, List.push_toArray, List.append_toArray, List.nil_append, List.cons_append]
        gi_wp2_with fail
        refine ⟨trivial, fun _ => by omega, ?_⟩
        refine (callsIn_wide.2 (hsz.out _)).mono ?_
        rintro e w1 ⟨rfl, hb1⟩
        have hcn1 : w1.heap[w.heap.size]? = some (.cells #[.int .i64 a2] 3 (0, 0)) := (hb1.block _ (by simp)).trans (heap_alloc_new _ _)
        have hc1 := blk_cell hcn1 0
        have hc1' : w1.cell? ⟨w.heap.size, 0, none⟩ = some (.int .i64 a2) := hc1
        have HB1 : Hid (Below w.heap.size w w1) := ((Below.refl w.heap.size w).alloc (Nat.le_refl _) _).trans (hb1.mono (by simp))
        clear hb1 hc1 hcn1
        gi_wp2_with fail
        refine ⟨.tuple #[.slice none 0 0, .int .i64 2], by simp [results, go_sem], _, rfl, Kd.V_nil _ _ _ _ _, HB1.out⟩
      · rw [if_neg h3] at h
        obtain ⟨m, rfl⟩ : ∃ m : Nat, a2 = (m : Int) := ⟨a2.toNat, by omega⟩
        rw [Int.toNat_natCast] at h
        cases h
        refine (mask_in n hn a0 h1 A1 c1 l1 w hr1 hc1 hh.2 hh.1 m (by omega)).mono ?_
        rintro e w' ⟨i, v, rfl, hi, hv, hb⟩
        rw [outI_take a0 l1 m i hi] at hv
        exact ⟨v, rfl, hv, hb⟩
  · rw [if_neg h1] at h
    cases h
    have hs0 : hash_Size.f a0 = some 0 := by
      rw [hash_Size.f, if_neg (by omega), if_neg (by omega), if_neg (by omega)]
    have hsz : Hid (∀ W, Calls Try.prog 35 #[.int .i64 a0] W fun e w' => e = .returned (.int .i64 0) ∧ Below W.heap.size W w') := fun W => hash_Size.calls a0 _ W hs0
    clear h1 hh hs0
    refine callsIn_of_wp_marks Try.func38 rfl trivial ?_ rfl
    simp only [Try.ntmps38, List.size_toArray, List.length_cons, List.length_nil, Nat.reduceAdd, Nat.reduceSub, Array.replicate_succ, Array.replicate_zero, List.push_toArray, List.append_toArray, List.nil_append, List.cons_append]
    gi_wp2_with fail
    refine ⟨trivial, fun _ => by omega, ?_⟩
    refine (callsIn_wide.2 (hsz.out _)).mono ?_
    rintro e w1 ⟨rfl, hb1⟩
    have HB1 : Hid (Below w.heap.size w w1) := ((Below.refl w.heap.size w).alloc (Nat.le_refl _) _).trans (hb1.mono (by simp))
    clear hb1
    gi_wp2_with fail
    refine ⟨.tuple #[.slice none 0 0, .int .i64 130], by simp [results, go_sem], _, rfl, Kd.V_nil _ _ _ _ _, HB1.out⟩
end Go.Proofs.Ytmmbbkdbebfhiaa.H

set_option linter.unusedVariables false
set_option linter.unusedSimpArgs false
namespace Go.Proofs.Ytmmbbkdbebfhiaa.H
open Go.RowKit Go.Proofs.Ytmmbbkdbebfhiaa.PT Go.Proofs.Ytmmbbkdbebfhiaa.PS Go.Proofs.YtmmbbkdbebfhiaaW.PrintWords Go.Proofs.YtmmbbkdbebfhiaaW.PrintLast Go.Proofs.Ytmmbbkdbebfhiaa.Sha

theorem same13 (l : List Int) : sconceref13_Same.f l l = some true := by simp [sconceref13_Same.f]
theorem inB_of_wf {l : List Int} (h : ∀ x ∈ l, (Lit.int .u8 x).wf = true) : inB 8 l := fun x hx => by
  have := bounds_u8 (h x hx)
  omega
/-- The reference's sum is the program's. -/
theorem rsum_at (h : Int) (hh : h = 1 ∨ h = 2 ∨ h = 3) (l : List Int) (hb : inB 8 l) (hl : l.length ≤ 140737488351232) : sconceref13_Sum.f h l = some (hsum h l, 0) := by
  have hc : inB 8 l ∧ l.length ≤ 140737488351232 := ⟨hb, hl⟩
  rcases hh with rfl | rfl | rfl
  · simp [sconceref13_Sum.f, sconceref11_Sum.f, hc, hsum]
  · simp only [sconceref13_Sum.f, sconceref12_Sum.f, hc, hsum, and_self, if_true, Option.bind_some, show ¬ ((2 : Int) = 1) by decide, if_false]
  · simp [sconceref13_Sum.f, sconceref12_Sum.f, hc, hsum]

theorem rmask_loop (h : Int) (hh : h = 1 ∨ h = 2 ∨ h = 3) (l : List Int) (hb : inB 8 l) (hl : l.length ≤ 100000) (n : Nat) (hn : n ≤ 10000) :
    ∀ (d i k : Nat), n ≤ i + d → i ≤ n → d < k → sconceref13_Mask.l0 k h l (n : Int) (outI h l i) (i : Int) = some (maskL h l n, 0) := by
  have hlp := hlen_pos h
  have hll := hlen_le h
  intro d
  induction d with
  | zero =>
    intro i k hi hin hk
    obtain ⟨k, rfl⟩ : ∃ m, k = m + 1 := ⟨k - 1, by omega⟩
    have hle := le_hlen h i
    have hol : (outI h l i).length = i * hlen h := outI_length h l i
    unfold sconceref13_Mask.l0
    rw [if_neg (by omega), if_pos (by omega), if_pos (by omega), Int.toNat_natCast, outI_take h l n i (by omega)]
  | succ d ih =>
    intro i k hi hin hk
    obtain ⟨k, rfl⟩ : ∃ m, k = m + 1 := ⟨k - 1, by omega⟩
    have hle := le_hlen h i
    have hol : (outI h l i).length = i * hlen h := outI_length h l i
    unfold sconceref13_Mask.l0
    by_cases hc : ((outI h l i).length : Int) < (n : Int)
    · have hin2 : i < n := by omega
      have hsz : (outI h l i).length + hlen h < 140737488355328 := by omega
      have hsl : l.length < 140737488355324 := by omega
      have hw : wrap64 ((i : Int) + 1) = ((i + 1 : Nat) : Int) := by unfold wrap64; omega
      have ih1 := ih (i + 1) k (by omega) (by omega) (by omega)
      clear ih hll hlp hle
      rw [if_pos hc, if_pos (by simp; omega)]
      simp only [Option.bind_some, List.nil_append]
      rw [if_pos (by simp; omega)]
      have hs := rsum_at h hh (l ++ be4 (i : Int)) (inB_append hb (be4_in i)) (by rw [List.length_append]; simp [be4]; omega)
      unfold be4 at hs
      rw [hs]
      simp only [Option.bind_some]
      have hbl := blkOf_length h l i
      have e : outI h l i ++ hsum h (l ++ [(i : Int) / 16777216 % 256, (i : Int) / 65536 % 256, (i : Int) / 256 % 256, (i : Int) % 256]) = outI h l (i + 1) := rfl
      have hb2 : (hsum h (l ++ [(i : Int) / 16777216 % 256, (i : Int) / 65536 % 256, (i : Int) / 256 % 256, (i : Int) % 256])).length = hlen h := hsum_length _ _
      rw [hb2, if_pos hsz, e, hw]
      exact ih1
    · rw [if_neg hc, if_pos (by omega), if_pos (by omega), Int.toNat_natCast, outI_take h l n i (by omega)]
theorem rmask_at (h : Int) (l : List Int) (hb : inB 8 l) (hl : l.length ≤ 100000) (n : Int) (k : Nat) (hk : 10001 < k) : sconceref13_Mask.f k h l n = mgf_Mask.f h l n := by
  have hc : inB 8 l ∧ l.length ≤ 100000 := ⟨hb, hl⟩
  unfold sconceref13_Mask.f mgf_Mask.f
  rw [if_pos hc]
  by_cases hh : h = 1 ∨ h = 2 ∨ h = 3
  · have hs : ∃ t, sconceref13_Size.f h = some t ∧ t ≠ 0 := by
      rcases hh with rfl | rfl | rfl <;> simp [sconceref13_Size.f]
    obtain ⟨t, ht, ht0⟩ := hs
    rw [ht, if_pos hh]
    simp only [Option.bind_some]
    rw [if_neg ht0]
    by_cases h2 : n < 0
    · rw [if_pos h2, if_pos h2]
    · rw [if_neg h2, if_neg h2]
      by_cases h3 : n > 10000
      · rw [if_pos h3, if_pos (by omega)]
      · rw [if_neg h3, if_neg (by omega)]
        obtain ⟨m, rfl⟩ : ∃ m : Nat, n = (m : Int) := ⟨n.toNat, by omega⟩
        rw [Int.toNat_natCast]
        exact rmask_loop h hh l hb hl m (by omega) m 0 k (by omega) (by omega) (by omega)
  · rw [if_neg hh]
    have hs : sconceref13_Size.f h = some 0 := by
      unfold sconceref13_Size.f
      rw [if_neg (by omega), if_neg (by omega), if_neg (by omega)]
    rw [hs]
    simp
theorem mask_some (h : Int) (l : List Int) (hb : inB 8 l) (hl : l.length ≤ 100000) (n : Int) : ∃ r e, mgf_Mask.f h l n = some (r, e) := by
  unfold mgf_Mask.f
  rw [if_pos ⟨hb, hl⟩]
  repeat' split
  all_goals exact ⟨_, _, rfl⟩

/-- Bytes put together bit by bit, as long as the first. -/
def xorL : List Int → List Int → List Int
  | [], _ => []
  | x :: a, [] => x :: a
  | x :: a, y :: b => Go.bits .xor .u8 x y :: xorL a b
theorem xorL_nil (a : List Int) : xorL a [] = a := by cases a <;> rfl
theorem xorL_length : ∀ (a b : List Int), (xorL a b).length = a.length
  | [], _ => rfl
  | x :: a, [] => rfl
  | x :: a, y :: b => by simp [xorL, xorL_length a b]
theorem xor_u8_in (x y : Int) (hx : 0 ≤ x ∧ x < 256) (hy : 0 ≤ y ∧ y < 256) : 0 ≤ Go.bits .xor .u8 x y ∧ Go.bits .xor .u8 x y < 256 := by
  rw [u8_xor x y hx.1 hx.2 hy.1 hy.2]
  have h1 : x.toNat ^^^ y.toNat < 2 ^ 8 := Nat.xor_lt_two_pow (by omega) (by omega)
  omega
theorem xor_u8_back (x y : Int) (hx : 0 ≤ x ∧ x < 256) (hy : 0 ≤ y ∧ y < 256) : Go.bits .xor .u8 (Go.bits .xor .u8 x y) y = x := by
  have h2 := xor_u8_in x y hx hy
  rw [u8_xor _ y h2.1 h2.2 hy.1 hy.2, u8_xor x y hx.1 hx.2 hy.1 hy.2, Int.toNat_natCast, Nat.xor_assoc, Nat.xor_self, Nat.xor_zero]
  omega
theorem xorL_in : ∀ (a b : List Int), inB 8 a → inB 8 b → inB 8 (xorL a b)
  | [], _, _, _ => fun x hx => by simp [xorL] at hx
  | x :: a, [], ha, _ => ha
  | x :: a, y :: b, ha, hb => by
    intro z hz
    simp only [xorL, List.mem_cons] at hz
    rcases hz with rfl | hz
    · have := xor_u8_in x y (by have := ha x (by simp); omega) (by have := hb y (by simp); omega)
      omega
    · exact xorL_in a b (fun u hu => ha u (by simp [hu])) (fun u hu => hb u (by simp [hu])) z hz
theorem xorL_back : ∀ (a b : List Int), inB 8 a → inB 8 b → xorL (xorL a b) b = a
  | [], _, _, _ => rfl
  | x :: a, [], ha, _ => rfl
  | x :: a, y :: b, ha, hb => by
    simp only [xorL]
    rw [xor_u8_back x y (by have := ha x (by simp); omega) (by have := hb y (by simp); omega), xorL_back a b (fun u hu => ha u (by simp [hu])) (fun u hu => hb u (by simp [hu]))]
theorem rd_at {x : List Int} {i : Nat} (h : i < x.length) : rd x (i : Int) = x[i] := by
  simp [rd, h]
theorem set_step {x : List Int} {i : Nat} (h : i < x.length) (v : Int) : (x.set i v).take (i + 1) = x.take i ++ [v] ∧ (x.set i v).drop (i + 1) = x.drop (i + 1) := by
  constructor
  · rw [List.take_set, List.take_succ_eq_append_getElem h, List.set_append_right _ _ (by simp; omega)]
    simp [Nat.min_eq_left (Nat.le_of_lt h)]
  · rw [List.drop_set, if_pos (by omega)]

theorem xor_loop (b : List Int) : ∀ (d i k : Nat) (x : List Int) (n : Nat), n = min x.length b.length → i + d = n → d < k → x.length < 140737488355328 →
    mgf_Xor.l0 k b x (n : Int) (i : Int) = some (x.take i ++ xorL (x.drop i) (b.drop i)) := by
  intro d
  induction d with
  | zero =>
    intro i k x n hn hi hk hx
    obtain ⟨k, rfl⟩ : ∃ m, k = m + 1 := ⟨k - 1, by omega⟩
    unfold mgf_Xor.l0
    rw [if_neg (by omega)]
    have h1 : xorL (x.drop i) (b.drop i) = x.drop i := by
      by_cases hb : b.length ≤ i
      · rw [List.drop_eq_nil_of_le hb, xorL_nil]
      · rw [List.drop_eq_nil_of_le (by omega)]; rfl
    rw [h1, List.take_append_drop]
  | succ d ih =>
    intro i k x n hn hi hk hx
    obtain ⟨k, rfl⟩ : ∃ m, k = m + 1 := ⟨k - 1, by omega⟩
    have hix : i < x.length := by omega
    have hib : i < b.length := by omega
    unfold mgf_Xor.l0
    rw [if_pos (by omega), if_pos (by omega), if_pos (by omega), if_pos (by omega)]
    have hw : wrap64 ((i : Int) + 1) = ((i + 1 : Nat) : Int) := by unfold wrap64; omega
    rw [hw, Int.toNat_natCast, rd_at hix, rd_at hib, ih (i + 1) k _ n (by simp; omega) (by omega) (by omega) (by simpa using hx)]
    obtain ⟨e1, e2⟩ := set_step hix (Go.bits .xor .u8 x[i] b[i])
    rw [e1, e2, List.drop_eq_getElem_cons hix, List.drop_eq_getElem_cons hib]
    simp [xorL]
theorem rxor_loop (b : List Int) : ∀ (d i k : Nat) (x : List Int), i + d = x.length → d < k → x.length < 140737488355328 →
    sconceref13_Xor.l0 k b x (x.length : Int) (i : Int) = some (x.take i ++ xorL (x.drop i) (b.drop i)) := by
  intro d
  induction d with
  | zero =>
    intro i k x hi hk hx
    obtain ⟨k, rfl⟩ : ∃ m, k = m + 1 := ⟨k - 1, by omega⟩
    unfold sconceref13_Xor.l0
    rw [if_neg (by omega), List.drop_eq_nil_of_le (by omega), List.take_of_length_le (by omega)]
    simp [xorL]
  | succ d ih =>
    intro i k x hi hk hx
    obtain ⟨k, rfl⟩ : ∃ m, k = m + 1 := ⟨k - 1, by omega⟩
    have hix : i < x.length := by omega
    have hw : wrap64 ((i : Int) + 1) = ((i + 1 : Nat) : Int) := by unfold wrap64; omega
    unfold sconceref13_Xor.l0
    rw [if_pos (by omega)]
    by_cases hib : i < b.length
    · rw [if_pos (by omega), if_pos (by omega), if_pos (by omega)]
      rw [hw, Int.toNat_natCast, rd_at hix, rd_at hib]
      have h1 := ih (i + 1) k (x.set i (Go.bits .xor .u8 x[i] b[i])) (by simp; omega) (by omega) (by simpa using hx)
      rw [List.length_set] at h1
      rw [h1]
      obtain ⟨e1, e2⟩ := set_step hix (Go.bits .xor .u8 x[i] b[i])
      rw [e1, e2, List.drop_eq_getElem_cons hix, List.drop_eq_getElem_cons hib]
      simp [xorL]
    · rw [if_neg (by omega), hw, ih (i + 1) k x (by omega) (by omega) hx]
      rw [List.drop_eq_nil_of_le (show b.length ≤ i + 1 by omega), List.drop_eq_nil_of_le (show b.length ≤ i by omega), xorL_nil, xorL_nil, List.take_append_drop, List.take_append_drop]
theorem xor_at (a b : List Int) (ha : a.length < 140737488351232) (k : Nat) (hk : a.length < k) : mgf_Xor.f k a b = some (xorL a b) := by
  unfold mgf_Xor.f
  rw [slices_Clone_byte_byte.f, if_pos (by omega)]
  simp only [Option.bind_some]
  have hm : mn (a.length : Int) (b.length : Int) = ((min a.length b.length : Nat) : Int) := by unfold mn; omega
  rw [hm]
  have := xor_loop b (min a.length b.length) 0 k a _ rfl (by omega) (by omega) (by omega)
  simpa using this
theorem rxor_at (a b : List Int) (ha : a.length < 140737488351232) (k : Nat) (hk : a.length < k) : sconceref13_Xor.f k a b = some (xorL a b) := by
  unfold sconceref13_Xor.f
  rw [if_pos (by simp; omega)]
  simp only [Option.bind_some, List.nil_append]
  have := rxor_loop b a.length 0 k a (by omega) (by omega) (by omega)
  simpa using this
end Go.Proofs.Ytmmbbkdbebfhiaa.H
