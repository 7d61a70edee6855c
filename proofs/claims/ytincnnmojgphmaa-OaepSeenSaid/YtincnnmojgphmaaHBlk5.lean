/- What a block of bytes makes of a state of 32 bit words: the plain meaning, at whole numbers, in the walks' own words. -/
import Derived.Test.YtincnnmojgphmaaSha
import Derived.Test.YtincnnmojgphmaaHBlk
set_option linter.unusedVariables false
set_option linter.unusedSimpArgs false
namespace Go.Proofs.Ytincnnmojgphmaa.Sha
open Go.RowKit Go.Proofs.YtincnnmojgphmaaW.PrintWords Go.Proofs.YtincnnmojgphmaaW.PrintLast

theorem wrap32_in (x : Int) : 0 ≤ IntKind.u32.wrap x ∧ IntKind.u32.wrap x < 2 ^ 32 := by
  have := IntKind.wrap_u32' x
  omega
/-! ### 32 bits -/
def X5 (a b : Int) : Int := Go.bits .xor .u32 a b
def A5 (a b : Int) : Int := Go.bits .and .u32 a b
def O5 (a b : Int) : Int := Go.bits .or .u32 a b
def P5 (a b : Int) : Int := IntKind.u32.wrap (a + b)
/-- A word turned by n places. -/
def R5 (n : Nat) (x : Int) : Int := O5 (x / 2 ^ n) (IntKind.u32.wrap (x * 2 ^ (32 - n)))
/-- The words that the rounds add. -/
def K5 : List Int := [1116352408, 1899447441, 3049323471, 3921009573, 961987163, 1508970993, 2453635748, 2870763221, 3624381080, 310598401, 607225278, 1426881987, 1925078388, 2162078206, 2614888103, 3248222580, 3835390401, 4022224774, 264347078, 604807628, 770255983, 1249150122, 1555081692, 1996064986, 2554220882, 2821834349, 2952996808, 3210313671, 3336571891, 3584528711, 113926993, 338241895, 666307205, 773529912, 1294757372, 1396182291, 1695183700, 1986661051, 2177026350, 2456956037, 2730485921, 2820302411, 3259730800, 3345764771, 3516065817, 3600352804, 4094571909, 275423344, 430227734, 506948616, 659060556, 883997877, 958139571, 1322822218, 1537002063, 1747873779, 1955562222, 2024104815, 2227730452, 2361852424, 2428436474, 2756734187, 3204031479, 3329325298]
/-- Bytes as one word. -/
def ld5 (a : Int) (l : List Int) : Int := l.foldl (fun a c => O5 (IntKind.u32.wrap (a * 256)) (IntKind.u32.wrap c)) a
def sch5 (L : List Int) (t : Nat) : Int :=
  P5 (P5 (P5 (L.getD (t - 16) 0) (X5 (X5 (R5 7 (L.getD (t - 15) 0)) (R5 18 (L.getD (t - 15) 0))) (L.getD (t - 15) 0 / 8))) (L.getD (t - 7) 0)) (X5 (X5 (R5 17 (L.getD (t - 2) 0)) (R5 19 (L.getD (t - 2) 0))) (L.getD (t - 2) 0 / 1024))
def sched5 (b : List Int) : Nat → List Int
  | 0 => []
  | t + 1 => sched5 b t ++ [if t < 16 then ld5 0 ((b.drop (4 * t)).take 4) else sch5 (sched5 b t) t]
def rnd5 (r : List Int) (k w : Int) : List Int :=
  let e := r.getD 4 0
  let a := r.getD 0 0
  let t1 := P5 (P5 (P5 (P5 (r.getD 7 0) (X5 (X5 (R5 6 e) (R5 11 e)) (R5 25 e))) (X5 (r.getD 6 0) (A5 e (X5 (r.getD 5 0) (r.getD 6 0))))) k) w
  let t2 := P5 (X5 (X5 (R5 2 a) (R5 13 a)) (R5 22 a)) (O5 (A5 a (r.getD 1 0)) (A5 (r.getD 2 0) (O5 a (r.getD 1 0))))
  [P5 t1 t2, a, r.getD 1 0, r.getD 2 0, P5 (r.getD 3 0) t1, e, r.getD 5 0, r.getD 6 0]
def rnds5 (s W : List Int) : Nat → List Int
  | 0 => s
  | t + 1 => rnd5 (rnds5 s W t) (K5.getD t 0) (W.getD t 0)
def blk5 (s b : List Int) : List Int := (List.range 8).map fun i => P5 (s.getD i 0) ((rnds5 s (sched5 b 64) 64).getD i 0)
theorem sched5_length (b : List Int) : ∀ t, (sched5 b t).length = t
  | 0 => rfl
  | t + 1 => by simp [sched5, sched5_length b t]
theorem rnds5_length {s : List Int} (W : List Int) (h : s.length = 8) : ∀ t, (rnds5 s W t).length = 8
  | 0 => h
  | t + 1 => by simp [rnds5, rnd5]
/-- The words so far, the others 0. -/
def sw5 (b : List Int) (t : Nat) : List Int := sched5 b t ++ List.replicate (64 - t) 0
theorem sw5_length (b : List Int) (t : Nat) (h : t ≤ 64) : (sw5 b t).length = 64 := by simp [sw5, sched5_length]; omega
/-- .. the word t being read, j of its bytes there. -/
def sj5 (b : List Int) (t j : Nat) : List Int := sched5 b t ++ [ld5 0 (((b.drop (4 * t)).take 4).take j)] ++ List.replicate (63 - t) 0
theorem sj5_length (b : List Int) (t j : Nat) (h : t < 64) : (sj5 b t j).length = 64 := by simp [sj5, sched5_length]; omega
theorem sched5_getD (b : List Int) (t i : Nat) (h : i < t) : (sw5 b t).getD i 0 = (sched5 b t).getD i 0 := by
  rw [sw5, List.getD_eq_getElem?_getD, List.getD_eq_getElem?_getD, List.getElem?_append_left (by rw [sched5_length]; exact h)]
theorem set_at5 (A : List Int) (n : Nat) (v : Int) (h : 0 < n) : (A ++ List.replicate n 0).set A.length v = A ++ [v] ++ List.replicate (n - 1) 0 := by
  obtain ⟨m, rfl⟩ : ∃ m, n = m + 1 := ⟨n - 1, by omega⟩
  rw [List.set_append_right _ _ (Nat.le_refl _), Nat.sub_self, List.replicate_succ]
  simp
theorem sw5_step (b : List Int) (k : Nat) (h16 : ¬ k < 16) (hk : k < 64) : (sw5 b k).set k (sch5 (sw5 b k) k) = sw5 b (k + 1) := by
  have e : sch5 (sw5 b k) k = sch5 (sched5 b k) k := by
    unfold sch5
    rw [sched5_getD b k (k - 16) (by omega), sched5_getD b k (k - 15) (by omega), sched5_getD b k (k - 7) (by omega), sched5_getD b k (k - 2) (by omega)]
  rw [e]
  have := set_at5 (sched5 b k) (64 - k) (sch5 (sched5 b k) k) (by omega)
  rw [sched5_length] at this
  rw [sw5, this, sw5, sched5, if_neg h16, show 64 - k - 1 = 64 - (k + 1) by omega]
theorem sj5_start (b : List Int) (k : Nat) (hk : k < 64) : sw5 b k = sj5 b k 0 := by
  rw [sw5, sj5, show 64 - k = (63 - k) + 1 by omega, List.replicate_succ]
  simp [ld5]
theorem sj5_end (b : List Int) (k : Nat) (h16 : k < 16) : sj5 b k 4 = sw5 b (k + 1) := by
  rw [sj5, sw5, sched5, if_pos h16, show 64 - (k + 1) = 63 - k by omega, List.take_of_length_le (by simp; omega)]
theorem sj5_step (b : List Int) (k j : Nat) (hk : k < 16) (hj : j < 4) (hb : b.length = 64) :
    (sj5 b k j).set k (O5 (IntKind.u32.wrap ((sj5 b k j).getD k 0 * 256)) (IntKind.u32.wrap (b.getD (4 * k + j) 0))) = sj5 b k (j + 1) := by
  have hg : (sj5 b k j).getD k 0 = ld5 0 (((b.drop (4 * k)).take 4).take j) := by
    rw [sj5, List.append_assoc, List.getD_eq_getElem?_getD, List.getElem?_append_right (by rw [sched5_length]; exact Nat.le_refl _), sched5_length]
    simp
  have ht : ((b.drop (4 * k)).take 4).take (j + 1) = ((b.drop (4 * k)).take 4).take j ++ [b.getD (4 * k + j) 0] := by
    rw [List.take_add_one, List.getElem?_take_of_lt hj, List.getElem?_drop, List.getElem?_eq_getElem (by omega), List.getD_eq_getElem?_getD, List.getElem?_eq_getElem (by omega)]
    rfl
  rw [hg]
  conv => rhs; rw [sj5, ht, ld5, List.foldl_append]
  rw [sj5, List.append_assoc, List.set_append_right _ _ (by rw [sched5_length]; exact Nat.le_refl _), sched5_length, Nat.sub_self]
  simp [ld5]
/-- The state, its first t words with the turned ones added. -/
def sm5 (s r : List Int) (t : Nat) : List Int := (List.range 8).map fun i => if i < t then P5 (s.getD i 0) (r.getD i 0) else s.getD i 0
theorem sm5_length (s r : List Int) (t : Nat) : (sm5 s r t).length = 8 := by simp [sm5]
theorem sm5_zero (s r : List Int) (h : s.length = 8) : sm5 s r 0 = s := by
  apply List.ext_getElem
  · rw [sm5_length, h]
  · intro j h1 h2
    simp [sm5, List.getElem?_eq_getElem h2]
theorem sm5_step (s r : List Int) (t : Nat) (h : t < 8) : (sm5 s r t).set t (P5 ((sm5 s r t).getD t 0) (r.getD t 0)) = sm5 s r (t + 1) := by
  have hg : (sm5 s r t).getD t 0 = s.getD t 0 := by
    rw [List.getD_eq_getElem?_getD, List.getElem?_eq_getElem (by rw [sm5_length]; exact h)]
    simp [sm5]
  rw [hg]
  apply List.ext_getElem
  · simp [sm5]
  · intro j h1 h2
    rw [List.getElem_set]
    simp only [sm5, List.getElem_map, List.getElem_range]
    by_cases hj : t = j
    · subst hj; simp
    · rw [if_neg hj]
      by_cases h3 : j < t
      · rw [if_pos h3, if_pos (by omega)]
      · rw [if_neg h3, if_neg (by omega)]
theorem sm5_all (s r : List Int) : sm5 s r 8 = (List.range 8).map fun i => P5 (s.getD i 0) (r.getD i 0) := by
  simp only [sm5]
  apply List.map_congr_left
  intro j hj
  rw [List.mem_range] at hj
  rw [if_pos hj]
end Go.Proofs.Ytincnnmojgphmaa.Sha

set_option linter.unusedVariables false
set_option linter.unusedSimpArgs false
namespace Go.Proofs.Ytincnnmojgphmaa.H
open Go.RowKit Go.Proofs.YtincnnmojgphmaaW.PrintWords Go.Proofs.YtincnnmojgphmaaW.PrintLast Go.Proofs.Ytincnnmojgphmaa.Sha
attribute [local go_sem] Oper.semAt_some

set_option maxRecDepth 100000 in
set_option maxHeartbeats 4000000 in
theorem keys5_any (w : World) : Calls Try.prog 85 #[] w fun e w' => e = .returned (.agg (nums .u32 K5).toArray) ∧ Below w.heap.size w w' := by
  go_enter Try.func85, Try.ntmps85
  go_wp2_with (first
    | (with_reducible refine wpList_build rfl 105 _ rfl (by kernel_rfl) ?_; generalize hg : (Program.built _ _ _).getD #[] = cs; (obtain rfl : cs = (nums .u32 K5).toArray := by (rw [← hg]; kernel_rfl)); clear hg)
    | (with_reducible refine wpList_store_row rfl 105 (.tmp 0) (.tmp 1) rfl w.heap.size (nums .u32 K5).toArray (by simp [Act.eval, Act.put]) (by simp [Act.eval, Act.put]) 105 #[.int .u32 0, .int .u32 0, .int .u32 0, .int .u32 0, .int .u32 0, .int .u32 0, .int .u32 0, .int .u32 0, .int .u32 0, .int .u32 0, .int .u32 0, .int .u32 0, .int .u32 0, .int .u32 0, .int .u32 0, .int .u32 0, .int .u32 0, .int .u32 0, .int .u32 0, .int .u32 0, .int .u32 0, .int .u32 0, .int .u32 0, .int .u32 0, .int .u32 0, .int .u32 0, .int .u32 0, .int .u32 0, .int .u32 0, .int .u32 0, .int .u32 0, .int .u32 0, .int .u32 0, .int .u32 0, .int .u32 0, .int .u32 0, .int .u32 0, .int .u32 0, .int .u32 0, .int .u32 0, .int .u32 0, .int .u32 0, .int .u32 0, .int .u32 0, .int .u32 0, .int .u32 0, .int .u32 0, .int .u32 0, .int .u32 0, .int .u32 0, .int .u32 0, .int .u32 0, .int .u32 0, .int .u32 0, .int .u32 0, .int .u32 0, .int .u32 0, .int .u32 0, .int .u32 0, .int .u32 0, .int .u32 0, .int .u32 0, .int .u32 0, .int .u32 0] (by rw [heap_at, if_pos rfl]) (by kernel_rfl) (by kernel_rfl) (by kernel_rfl) ?_))
  exact bodyPost_ret (results_cell_row rfl _ _ w.heap.size 105 _ (0, 0) _ rfl (setRow_heap _ _ _ _ _ _ (by rw [heap_at, if_pos rfl])) Try.underlying105 rfl (by kernel_rfl)) rfl ⟨rfl, below_setRow' ((Below.refl _ w).alloc (Nat.le_refl _) _) (Nat.le_refl _) _⟩

def S5 : List Int := [1779033703, 3144134277, 1013904242, 2773480762, 1359893119, 2600822924, 528734635, 1541459225]
theorem S5_length : S5.length = 8 := rfl
theorem S5_in : inB 32 S5 := by unfold inB; decide
set_option maxRecDepth 100000 in
set_option maxHeartbeats 4000000 in
theorem start5_any (w : World) : Calls Try.prog 74 #[] w fun e w' => e = .returned (.agg (nums .u32 S5).toArray) ∧ Below w.heap.size w w' := by
  go_enter Try.func74, Try.ntmps74
  go_wp2_with (first
    | (with_reducible refine wpList_build rfl 89 _ rfl (by kernel_rfl) ?_; generalize hg : (Program.built _ _ _).getD #[] = cs; (obtain rfl : cs = (nums .u32 S5).toArray := by (rw [← hg]; kernel_rfl)); clear hg)
    | (with_reducible refine wpList_store_row rfl 89 (.tmp 0) (.tmp 1) rfl w.heap.size (nums .u32 S5).toArray (by simp [Act.eval, Act.put]) (by simp [Act.eval, Act.put]) 89 #[.int .u32 0, .int .u32 0, .int .u32 0, .int .u32 0, .int .u32 0, .int .u32 0, .int .u32 0, .int .u32 0] (by rw [heap_at, if_pos rfl]) (by kernel_rfl) (by kernel_rfl) (by kernel_rfl) ?_))
  exact bodyPost_ret (results_cell_row rfl _ _ w.heap.size 89 _ (0, 0) _ rfl (setRow_heap _ _ _ _ _ _ (by rw [heap_at, if_pos rfl])) Try.underlying89 rfl (by kernel_rfl)) rfl ⟨rfl, below_setRow' ((Below.refl _ w).alloc (Nat.le_refl _) _) (Nat.le_refl _) _⟩
set_option maxRecDepth 100000 in
set_option maxHeartbeats 4000000 in
theorem rstart5_any (w : World) : Calls Try.prog 65 #[] w fun e w' => e = .returned (.agg (nums .u32 S5).toArray) ∧ Below w.heap.size w w' := by
  go_enter Try.func65, Try.ntmps65
  go_wp2_with (first
    | (with_reducible refine wpList_build rfl 89 _ rfl (by kernel_rfl) ?_; generalize hg : (Program.built _ _ _).getD #[] = cs; (obtain rfl : cs = (nums .u32 S5).toArray := by (rw [← hg]; kernel_rfl)); clear hg)
    | (with_reducible refine wpList_store_row rfl 89 (.tmp 0) (.tmp 1) rfl w.heap.size (nums .u32 S5).toArray (by simp [Act.eval, Act.put]) (by simp [Act.eval, Act.put]) 89 #[.int .u32 0, .int .u32 0, .int .u32 0, .int .u32 0, .int .u32 0, .int .u32 0, .int .u32 0, .int .u32 0] (by rw [heap_at, if_pos rfl]) (by kernel_rfl) (by kernel_rfl) (by kernel_rfl) ?_))
  exact bodyPost_ret (results_cell_row rfl _ _ w.heap.size 89 _ (0, 0) _ rfl (setRow_heap _ _ _ _ _ _ (by rw [heap_at, if_pos rfl])) Try.underlying89 rfl (by kernel_rfl)) rfl ⟨rfl, below_setRow' ((Below.refl _ w).alloc (Nat.le_refl _) _) (Nat.le_refl _) _⟩
end Go.Proofs.Ytincnnmojgphmaa.H

set_option linter.unusedVariables false
set_option linter.unusedSimpArgs false
namespace Go.Proofs.Ytincnnmojgphmaa.H
open Go.RowKit Go.Proofs.YtincnnmojgphmaaW.PrintWords Go.Proofs.YtincnnmojgphmaaW.PrintLast Go.Proofs.Ytincnnmojgphmaa.Sha
attribute [local go_sem] Oper.semAt_some

set_option maxRecDepth 100000 in
theorem tn_pos (x : Int) (n B : Nat) (hn : n ≤ 32) (w : World) (hc : w.cell? ⟨B, 0, none⟩ = some (.int .u32 x)) : Calls Try.prog 88 #[.int .i64 (n : Int), .pointer (some ⟨B, 0, none⟩)] w fun e w' => e = .returned (.int .u32 (R5 n x)) ∧ Drawn0 w w' := by
  have h0 : (0 : Int) ≤ (n : Int) := by omega
  have h1 : (n : Int) ≤ 32 := by omega
  have h2 : (0 : Int) ≤ 32 - (n : Int) := by omega
  go_enter Try.func88, Try.ntmps88
  go_wp2
  go_quiet (fail)
  go_wp2
  exact bodyPost_ret (by simp [results, go_sem]; rfl) rfl ⟨rfl, ⟨⟨_, rfl⟩⟩⟩
set_option maxRecDepth 100000 in
theorem tn_neg (x : Int) (n B : Nat) (hn : n ≤ 32) (h0 : 0 < n) (w : World) (hc : w.cell? ⟨B, 0, none⟩ = some (.int .u32 x)) : Calls Try.prog 88 #[.int .i64 (-(n : Int)), .pointer (some ⟨B, 0, none⟩)] w fun e w' => e = .returned (.int .u32 (x / 2 ^ n)) ∧ Drawn0 w w' := by
  have h1 : -(n : Int) < 0 := by omega
  have h2 : (-(n : Int)) ≥ -32 := by omega
  have h3 : - (-(n : Int)) = (n : Int) := by omega
  go_enter Try.func88, Try.ntmps88
  go_wp2
  go_ret
  exact ⟨rfl, Drawn0.refl _⟩

/-- What a call of the closure comes to, wherever its word lies. -/
def Tn (x n y : Int) : Prop := ∀ (B : Nat) (w : World), w.cell? ⟨B, 0, none⟩ = some (.int .u32 x) → Calls Try.prog 88 #[.int .i64 n, .pointer (some ⟨B, 0, none⟩)] w fun e w' => e = .returned (.int .u32 y) ∧ Drawn0 w w'
theorem Tn_pos (x : Int) (n : Nat) (h : n ≤ 32) : Tn x n (R5 n x) := fun B w hc => tn_pos x n B h w hc
theorem Tn_neg (x : Int) (n : Nat) (h : n ≤ 32) (h0 : 0 < n) : Tn x (-(n : Int)) (x / 2 ^ n) := fun B w hc => tn_neg x n B h h0 w hc
set_option maxRecDepth 100000 in
set_option maxHeartbeats 1000000 in
theorem turned_of (x a b c ya yb yc : Int) (ha : Tn x a ya) (hb : Tn x b yb) (hc : Tn x c yc) (w : World) :
    Calls Try.prog 84 #[.int .u32 x, .int .i64 a, .int .i64 b, .int .i64 c] w fun e w' => e = .returned (.int .u32 (X5 (X5 ya yb) yc)) ∧ Below w.heap.size w w' := by
  have HA := Lib.hid ha
  have HB := Lib.hid hb
  have HC := Lib.hid hc
  have hB0 : Hid (Below w.heap.size w (w.alloc (.cells #[.int .u32 x] 88))) := (Below.refl _ w).alloc (Nat.le_refl _) _
  have hcell : Hid ((w.alloc (.cells #[.int .u32 x] 88)).cell? ⟨w.heap.size, 0, none⟩ = some (.int .u32 x)) := World.cell?_alloc_at _ _ _ _ rfl
  clear ha hb hc
  go_enter Try.func84, Try.ntmps84
  go_wp2_with fail
  refine (HA.out w.heap.size _ hcell.out).mono ?_
  rintro e w1 ⟨rfl, hd1⟩
  have HB1 : Hid (Below w.heap.size w w1) := hB0.out.trans (hd1.below.mono hB0.out.size)
  have HC1 : Hid (w1.cell? ⟨w.heap.size, 0, none⟩ = some (.int .u32 x)) := by
    obtain ⟨n, rfl⟩ := hd1.out
    exact hcell.out
  clear hd1 hB0 hcell
  go_wp2_with fail
  refine (HB.out w.heap.size _ HC1.out).mono ?_
  rintro e w2 ⟨rfl, hd1⟩
  have HB2 : Hid (Below w.heap.size w w2) := HB1.out.trans (hd1.below.mono HB1.out.size)
  have HC2 : Hid (w2.cell? ⟨w.heap.size, 0, none⟩ = some (.int .u32 x)) := by
    obtain ⟨n, rfl⟩ := hd1.out
    exact HC1.out
  clear hd1 HB1 HC1
  go_wp2_with fail
  refine (HC.out w.heap.size _ HC2.out).mono ?_
  rintro e w3 ⟨rfl, hd1⟩
  have HB3 : Hid (Below w.heap.size w w3) := HB2.out.trans (hd1.below.mono HB2.out.size)
  clear hd1 HB2 HC2
  go_wp2_with fail
  go_ret
  exact ⟨rfl, HB3.out⟩
theorem tur_7_18_3 (x : Int) (w : World) : Calls Try.prog 84 #[.int .u32 x, .int .i64 7, .int .i64 18, .int .i64 (-3)] w fun e w' => e = .returned (.int .u32 (X5 (X5 (R5 7 x) (R5 18 x)) (x / 8))) ∧ Below w.heap.size w w' := turned_of x 7 18 (-3) _ _ _ (Tn_pos x 7 (by decide)) (Tn_pos x 18 (by decide)) (Tn_neg x 3 (by decide) (by decide)) w
theorem tur_17_19_10 (x : Int) (w : World) : Calls Try.prog 84 #[.int .u32 x, .int .i64 17, .int .i64 19, .int .i64 (-10)] w fun e w' => e = .returned (.int .u32 (X5 (X5 (R5 17 x) (R5 19 x)) (x / 1024))) ∧ Below w.heap.size w w' := turned_of x 17 19 (-10) _ _ _ (Tn_pos x 17 (by decide)) (Tn_pos x 19 (by decide)) (Tn_neg x 10 (by decide) (by decide)) w
theorem tur_6_11_25 (x : Int) (w : World) : Calls Try.prog 84 #[.int .u32 x, .int .i64 6, .int .i64 11, .int .i64 (25)] w fun e w' => e = .returned (.int .u32 (X5 (X5 (R5 6 x) (R5 11 x)) (R5 25 x))) ∧ Below w.heap.size w w' := turned_of x 6 11 (25) _ _ _ (Tn_pos x 6 (by decide)) (Tn_pos x 11 (by decide)) (Tn_pos x 25 (by decide)) w
theorem tur_2_13_22 (x : Int) (w : World) : Calls Try.prog 84 #[.int .u32 x, .int .i64 2, .int .i64 13, .int .i64 (22)] w fun e w' => e = .returned (.int .u32 (X5 (X5 (R5 2 x) (R5 13 x)) (R5 22 x))) ∧ Below w.heap.size w w' := turned_of x 2 13 (22) _ _ _ (Tn_pos x 2 (by decide)) (Tn_pos x 13 (by decide)) (Tn_pos x 22 (by decide)) w
end Go.Proofs.Ytincnnmojgphmaa.H

set_option linter.unusedVariables false
set_option linter.unusedSimpArgs false
namespace Go.Proofs.Ytincnnmojgphmaa.H.B5
open Go.RowKit Go.Proofs.YtincnnmojgphmaaW.PrintWords Go.Proofs.YtincnnmojgphmaaW.PrintLast Go.Proofs.Ytincnnmojgphmaa.Sha Go.Proofs.Ytincnnmojgphmaa.H
attribute [local go_sem] Oper.semAt_some

theorem P5m (a b : Int) : (a + b) % 4294967296 = P5 a b := (IntKind.wrap_u32' _).symm
theorem sum5a (a b c d e f g : Int) : (a + b + c + d + e + (f + g)) % 4294967296 = P5 (P5 (P5 (P5 (P5 a b) c) d) e) (P5 f g) := by
  simp only [P5, IntKind.wrap_u32']
  omega
theorem sum5b (x a b c d e : Int) : (x + (a + b + c + d + e)) % 4294967296 = P5 x (P5 (P5 (P5 (P5 a b) c) d) e) := by
  simp only [P5, IntKind.wrap_u32']
  omega
theorem nums_at {k : IntKind} {l : List Int} {j : Nat} (h : j < l.length) : (nums k l).toArray[j]? = some (.int k (l.getD j 0)) := by
  rw [List.getElem?_toArray, nums, List.getElem?_map, List.getElem?_eq_getElem h, List.getD_eq_getElem?_getD, List.getElem?_eq_getElem h]; rfl
/-- The blocks of the walk: the state that came in, the result, the words. -/
structure BJ (w : World) (s : List Int) (W : List Int) (wr : World) : Prop where
  bs : wr.heap[w.heap.size]? = some (.cells (nums .u32 s).toArray 89 (0, 0))
  bo : wr.heap[w.heap.size + 1]? = some (.cells (nums .u32 [0, 0, 0, 0, 0, 0, 0, 0]).toArray 89 (0, 0))
  bw : wr.heap[w.heap.size + 2]? = some (.cells (nums .u32 W).toArray 105 (0, 0))
  below : Below w.heap.size w wr
  size : w.heap.size + 3 ≤ wr.heap.size
theorem BJ.put {w : World} {s W : List Int} {wr : World} (h : BJ w s W wr) (i : Nat) (v : Int) : BJ w s (W.set i v) (wr.setCell ⟨w.heap.size + 1 + 1, i, none⟩ (.int .u32 v)) := by
  have far : ∀ k o, k ≠ w.heap.size + 2 → wr.heap[k]? = some o → (wr.setCell ⟨w.heap.size + 1 + 1, i, none⟩ (.int .u32 v)).heap[k]? = some o := fun k o hk ho => (Below.heap_setCell _ _ _ _ (by show k ≠ w.heap.size + 1 + 1; omega)).trans ho
  refine ⟨far _ _ (by omega) h.bs, far _ _ (by omega) h.bo, ?_, h.below.setCell (by show w.heap.size ≤ w.heap.size + 1 + 1; omega) _, by simpa [World.setCell] using h.size⟩
  rw [blk_set (g := w.heap.size + 1 + 1) h.bw i (.int .u32 v)]
  simp [nums, List.map_set]
theorem BJ.later {w : World} {s W : List Int} {wr w2 : World} (h : BJ w s W wr) (hb : Below wr.heap.size wr w2) : BJ w s W w2 :=
  have hz := h.size
  ⟨(hb.block _ (by omega)).trans h.bs, (hb.block _ (by omega)).trans h.bo, (hb.block _ (by omega)).trans h.bw, h.below.trans (hb.mono (by omega)), Nat.le_trans h.size hb.size⟩
theorem BJ.draw {w : World} {s W : List Int} {wr : World} (h : BJ w s W wr) : BJ w s W wr.drew := ⟨h.bs, h.bo, h.bw, h.below.drew, h.size⟩
/-- .. with the state that the rounds turn, in block g. -/
structure BG (w : World) (g : Nat) (s W r : List Int) (wr : World) : Prop where
  bs : wr.heap[w.heap.size]? = some (.cells (nums .u32 s).toArray 89 (0, 0))
  bo : wr.heap[w.heap.size + 1]? = some (.cells (nums .u32 [0, 0, 0, 0, 0, 0, 0, 0]).toArray 89 (0, 0))
  bw : wr.heap[w.heap.size + 2]? = some (.cells (nums .u32 W).toArray 105 (0, 0))
  br : wr.heap[g]? = some (.cells (nums .u32 r).toArray 89 (0, 0))
  below : Below w.heap.size w wr
  big : w.heap.size + 3 ≤ g
  size : g < wr.heap.size
theorem BG.start {w : World} {s W : List Int} {wr : World} (h : BJ w s W wr) : BG w wr.heap.size s W s ((wr.alloc (.cells #[.int .u32 0, .int .u32 0, .int .u32 0, .int .u32 0, .int .u32 0, .int .u32 0, .int .u32 0, .int .u32 0] 89)).setRow wr.heap.size (nums .u32 s).toArray) := by
  have hz := h.size
  have far : ∀ k o, k < wr.heap.size → wr.heap[k]? = some o → ((wr.alloc (.cells #[.int .u32 0, .int .u32 0, .int .u32 0, .int .u32 0, .int .u32 0, .int .u32 0, .int .u32 0, .int .u32 0] 89)).setRow wr.heap.size (nums .u32 s).toArray).heap[k]? = some o := fun k o hk ho => by
    rw [setRow_other _ _ _ _ (by omega), heap_at, if_neg (by omega)]; exact ho
  exact ⟨far _ _ (by omega) h.bs, far _ _ (by omega) h.bo, far _ _ (by omega) h.bw, setRow_heap _ _ _ _ _ _ (by rw [heap_at, if_pos rfl]), below_setRow' (h.below.alloc (by omega) _) (by omega) _, hz, by simp⟩
theorem BG.later {w : World} {g : Nat} {s W r : List Int} {wr w2 : World} (h : BG w g s W r wr) (hb : Below wr.heap.size wr w2) : BG w g s W r w2 :=
  have hz := h.size
  have hg := h.big
  ⟨(hb.block _ (by omega)).trans h.bs, (hb.block _ (by omega)).trans h.bo, (hb.block _ (by omega)).trans h.bw, (hb.block _ hz).trans h.br, h.below.trans (hb.mono (by omega)), hg, Nat.lt_of_lt_of_le h.size hb.size⟩
theorem BG.at8 {w : World} {g : Nat} {s W r r' : List Int} {wr : World} (h : BG w g s W r wr) (e : r = r') : BG w g s W r' wr := e ▸ h
theorem BG.put {w : World} {g : Nat} {s W r : List Int} {wr : World} (h : BG w g s W r wr) (i : Nat) (v : Int) : BG w g s W (r.set i v) (wr.setCell ⟨g, i, none⟩ (.int .u32 v)) := by
  have hg := h.big
  have far : ∀ k o, k ≠ g → wr.heap[k]? = some o → (wr.setCell ⟨g, i, none⟩ (.int .u32 v)).heap[k]? = some o := fun k o hk ho => (Below.heap_setCell _ _ _ _ hk).trans ho
  refine ⟨far _ _ (by omega) h.bs, far _ _ (by omega) h.bo, far _ _ (by omega) h.bw, ?_, h.below.setCell (by show w.heap.size ≤ g; omega) _, hg, by simpa [World.setCell] using h.size⟩
  rw [blk_set h.br i (.int .u32 v)]
  simp [nums, List.map_set]
theorem BG.puts {w : World} {g : Nat} {s W r : List Int} {wr : World} (h : BG w g s W r wr) (i : Nat) (v : Int) : BG w g (s.set i v) W r (wr.setCell ⟨w.heap.size, i, none⟩ (.int .u32 v)) := by
  have hg := h.big
  have far : ∀ k o, k ≠ w.heap.size → wr.heap[k]? = some o → (wr.setCell ⟨w.heap.size, i, none⟩ (.int .u32 v)).heap[k]? = some o := fun k o hk ho => (Below.heap_setCell _ _ _ _ hk).trans ho
  refine ⟨?_, far _ _ (by omega) h.bo, far _ _ (by omega) h.bw, far _ _ (by omega) h.br, h.below.setCell (Nat.le_refl _) _, hg, by simpa [World.setCell] using h.size⟩
  rw [blk_set h.bs i (.int .u32 v)]
  simp [nums, List.map_set]
theorem BG.draw {w : World} {g : Nat} {s W r : List Int} {wr : World} (h : BG w g s W r wr) : BG w g s W r wr.drew := ⟨h.bs, h.bo, h.bw, h.br, h.below.drew, h.big, h.size⟩
theorem BG.drawn {w : World} {g : Nat} {s W r : List Int} {wr : World} {n : Nat} (h : BG w g s W r wr) : BG w g s W r (wr.drewN n) :=
  ⟨h.bs, h.bo, h.bw, h.br, h.below.trans ⟨rfl, rfl, rfl, Nat.le_refl _, fun _ _ => rfl⟩, h.big, h.size⟩
theorem BG.row {w : World} {g : Nat} {s W r : List Int} {wr : World} (h : BG w g s W r wr) (r' : List Int) : BG w g s W r' (wr.setRow g (nums .u32 r').toArray) :=
  have hg := h.big
  ⟨(setRow_other _ _ _ _ (by omega)).trans h.bs, (setRow_other _ _ _ _ (by omega)).trans h.bo, (setRow_other _ _ _ _ (by omega)).trans h.bw, setRow_heap _ _ _ _ _ _ h.br, below_setRow' h.below (by omega) _, hg, by rw [setRow_size]; exact h.size⟩
theorem BG.copy {w : World} {g : Nat} {s V : List Int} {x0 x1 x2 x3 x4 x5 x6 x7 : Int} {wr : World} (h : BG w g s V [x0, x1, x2, x3, x4, x5, x6, x7] wr) : ∀ W : World, W.heap = wr.heap → W.os = wr.os → W.tape = wr.tape → W.output = wr.output →
    (∀ ty, (Builtin.copy_ #[114, 114] ty #[.slice (some ⟨g, 1, none⟩) 7 7, .slice (some ⟨g, 0, none⟩) 7 8]).run Try.prog W = .ok (goInt 7) (W.setRow g (nums .u32 [x0, x0, x1, x2, x3, x4, x5, x6]).toArray)) ∧
    Hid (BG w g s V [x0, x0, x1, x2, x3, x4, x5, x6] (W.setRow g (nums .u32 [x0, x0, x1, x2, x3, x4, x5, x6]).toArray)) := by
  intro W e1 e2 e3 e4
  have hb : W.heap[g]? = some (.cells (nums .u32 [x0, x1, x2, x3, x4, x5, x6, x7]).toArray 89 (0, 0)) := by rw [e1]; exact h.br
  refine ⟨fun ty => ?_, ?_⟩
  · have := run_copy_row Try.prog W 114 114 ty 88 g 1 7 7 ⟨g, 0, none⟩ 7 8 _ 89 (nums .u32 [x0, x1, x2, x3, x4, x5, x6]) Try.underlying114 (by kernel_rfl) hb rfl
      (fun j v hj => by
        rw [show (⟨g, 0, none⟩ : Addr).add j = ⟨g, j, none⟩ by rw [add_plain], blk_cell hb]
        have hjl := (List.getElem?_eq_some_iff.1 hj).1
        rw [List.getElem?_toArray]
        rw [← hj]
        show (nums .u32 ([x0, x1, x2, x3, x4, x5, x6] ++ [x7]))[j]? = _
        simp only [nums, List.map_append]
        rw [List.getElem?_append_left (by simpa [nums] using hjl)]) (by simp [nums]) (fun v hv => by simp only [nums, List.mem_map] at hv; obtain ⟨x, _, rfl⟩ := hv; rfl)
    rw [this]
    rfl
  · have hB : Below w.heap.size w W := h.below.trans ⟨e2, e3, e4, by rw [e1]; exact Nat.le_refl _, fun k _ => by rw [e1]⟩
    have hg := h.big
    refine ⟨(setRow_other _ _ _ _ (by omega)).trans (by rw [e1]; exact h.bs), (setRow_other _ _ _ _ (by omega)).trans (by rw [e1]; exact h.bo), (setRow_other _ _ _ _ (by omega)).trans (by rw [e1]; exact h.bw), setRow_heap _ _ _ _ _ _ hb, below_setRow' hB (by omega) _, hg, by rw [setRow_size, e1]; exact h.size⟩

set_option maxRecDepth 100000 in
set_option maxHeartbeats 8000000 in
theorem block_ok (s : List Int) (hs : s.length = 8) (hsB : inB 32 s) (A0 : Option Addr) (c0 : Nat) (b : List Int) (w : World) (hr : Kd.C (Kd.int .u8) w A0 b.length b) (hc : b.length ≤ c0) (hb : b.length = 64) (hbB : inB 8 b) :
    Calls Try.prog 75 #[.agg (nums .u32 s).toArray, .slice A0 b.length c0] w fun e w' => e = .returned (.tuple #[.agg (nums .u32 (blk5 s b)).toArray, .bool true]) ∧ Below w.heap.size w w' := by
  have hrb := hr
  rw [hb] at hr hc ⊢
  go_enter Try.func75, Try.ntmps75
  go_wp2_with fail
  obtain ⟨W0, hW0⟩ : ∃ W0, W0 = (((w.alloc (.cells (nums .u32 s).toArray 89)).alloc (.cells #[.int .u32 0, .int .u32 0, .int .u32 0, .int .u32 0, .int .u32 0, .int .u32 0, .int .u32 0, .int .u32 0] 89)).alloc (.cells #[.int .u32 0, .int .u32 0, .int .u32 0, .int .u32 0, .int .u32 0, .int .u32 0, .int .u32 0, .int .u32 0, .int .u32 0, .int .u32 0, .int .u32 0, .int .u32 0, .int .u32 0, .int .u32 0, .int .u32 0, .int .u32 0, .int .u32 0, .int .u32 0, .int .u32 0, .int .u32 0, .int .u32 0, .int .u32 0, .int .u32 0, .int .u32 0, .int .u32 0, .int .u32 0, .int .u32 0, .int .u32 0, .int .u32 0, .int .u32 0, .int .u32 0, .int .u32 0, .int .u32 0, .int .u32 0, .int .u32 0, .int .u32 0, .int .u32 0, .int .u32 0, .int .u32 0, .int .u32 0, .int .u32 0, .int .u32 0, .int .u32 0, .int .u32 0, .int .u32 0, .int .u32 0, .int .u32 0, .int .u32 0, .int .u32 0, .int .u32 0, .int .u32 0, .int .u32 0, .int .u32 0, .int .u32 0, .int .u32 0, .int .u32 0, .int .u32 0, .int .u32 0, .int .u32 0, .int .u32 0, .int .u32 0, .int .u32 0, .int .u32 0, .int .u32 0] 105)) := ⟨_, rfl⟩
  have b0 : W0.heap[w.heap.size]? = some (.cells (nums .u32 s).toArray 89 (0, 0)) := by
    rw [hW0]; simp only [heap_at, World.size_alloc]; rw [if_neg (by omega), if_neg (by omega), if_pos (by trivial)]
  have b1 : W0.heap[w.heap.size + 1]? = some (.cells (nums .u32 [0, 0, 0, 0, 0, 0, 0, 0]).toArray 89 (0, 0)) := by
    rw [hW0]; simp only [heap_at, World.size_alloc]; rw [if_neg (by omega), if_pos (by trivial)]; rfl
  have b2 : W0.heap[w.heap.size + 2]? = some (.cells (nums .u32 (sw5 b 0)).toArray 105 (0, 0)) := by
    rw [hW0]; simp only [heap_at, World.size_alloc]; rw [if_pos (by trivial)]; kernel_rfl
  have hb0 : Below w.heap.size w W0 := by
    rw [hW0]; exact (((Below.refl _ w).alloc (Nat.le_refl _) _).alloc (by simp) _).alloc (by simp; omega) _
  have hz0 : w.heap.size + 3 ≤ W0.heap.size := by rw [hW0]; simp
  have H0 : Hid (BJ w s (sw5 b 0) W0) := ⟨b0, b1, b2, hb0, hz0⟩
  rw [← hW0]
  clear hW0 b0 b1 b2 hb0 hz0
  go_loopw [22] (fun i wr => ∃ k : Nat, k ≤ 16 ∧ i = .int .i64 k ∧ Hid (BJ w s (sw5 b k) wr)) (fun i _ => 16 - (intOf i).toNat)
  case atStart => exact ⟨0, by omega, rfl, H0⟩
  case round =>
    obtain ⟨k, hk, rfl, hI⟩ := hrel
    by_cases hlt : k < 16
    ·
      --DEV<
      obtain ⟨ad, rfl, _⟩ := (Kd.reads_of_C (d := (0 : Int)) hr).2.2 (by omega)
      have HC : Hid (∀ W, Below w.heap.size w W → ∀ j, j < 4 → W.cell? ((ad.add (4 * k)).add j) = some (.int .u8 (b.getD (4 * k + j) 0))) := by
        intro W hW j hj
        have hC1 := C_same hrb (fun i hi => hW.block i hi)
        have hC2 := Kd.C_take hC1 (show 4 * k + 4 ≤ b.length by omega)
        have hC3 := Kd.C_drop hC2 (c := c0) (m := 4 * k) (by rw [List.length_take]; omega) (by rw [List.length_take]; omega)
        rw [if_neg (by omega)] at hC3
        have hl8 : ((b.take (4 * k + 4)).drop (4 * k)).length = 4 := by simp; omega
        rw [show (Kd.int IntKind.u8).sz = 1 from rfl, Nat.mul_one, hl8] at hC3
        obtain ⟨ad', e, hc'⟩ := (Kd.reads_of_C (d := (0 : Int)) hC3).2.2 (by omega)
        cases e
        have h9 := hc' j (by omega)
        rw [h9]
        congr 2
        rw [List.getD_eq_getElem?_getD, List.getD_eq_getElem?_getD, List.getElem?_drop, List.getElem?_take_of_lt (by omega)]
      have hk1 : (4 : Int) * (k : Int) ≤ 60 := by omega
      have e1 : 4 * k ≤ 4 * k + 4 := by omega
      have e2 : 4 * k + 4 - 4 * k = 4 := by omega
      have e3 : ¬ 4 * k = c0 := by omega
      have HI := Lib.hid hI.out
      have hdk : decide ((k : Int) < 16) = true := decide_eq_true (by omega)
      have HK := Lib.hid hlt
      clear hI hlt
      go_wp2_with fail
      go_loopw [33] (fun i w2 => ∃ j : Nat, j ≤ 4 ∧ i = .int .i64 j ∧ Hid (BJ w s (sj5 b k j) w2)) (fun i _ => 4 - (intOf i).toNat)
      case atStart => exact ⟨0, by omega, rfl, by rw [← sj5_start b k (by have := HK.out; omega)]; exact HI.out⟩
      case round =>
        obtain ⟨j, hj, rfl, hJ⟩ := hrel
        by_cases hj8 : j < 4
        · have hcb := HC.out wr hJ.out.below j hj8
          have hL := sj5_length b k j (by have := HK.out; omega)
          have hcw : wr.cell? ⟨w.heap.size + 1 + 1, k, none⟩ = some (.int .u32 ((sj5 b k j).getD k 0)) := by
            rw [show w.heap.size + 1 + 1 = w.heap.size + 2 from rfl, blk_cell hJ.out.bw k]
            exact nums_at (by rw [hL]; have := HK.out; omega)
          have hfw : wr.frozen? ⟨w.heap.size + 1 + 1, k, none⟩ = false := blk_frozen hJ.out.bw k
          have hput := Lib.hid (BJ.put hJ.out k)
          have HJ8 := Lib.hid hj8
          have k64 : (k : Int) < 64 := by have := HK.out; omega
          have k0' : (0 : Int) ≤ (k : Int) := by omega
          clear hJ hL
          go_wp2_with fail
          go_roundw
          case rel =>
            refine ⟨j + 1, by have := HJ8.out; omega, by go_num, ?_⟩
            rw [← sj5_step b k j HK.out HJ8.out hb]
            exact hput.out _
          case measure => have := HJ8.out; simp [intOf]; omega
        · obtain rfl : j = 4 := by omega
          go_wp2_with fail
          refine ⟨⟨k + 1, by have := HK.out; omega, by go_num, ?_⟩, by have := HK.out; simp [intOf]; omega⟩
          rw [← sj5_end b k HK.out]
          exact hJ
      --DEV>
    · obtain rfl : k = 16 := by omega
      have HI := Lib.hid hI.out
      clear hI hlt hk
      rw [show ((16 : Nat) : Int) = (16 : Int) from rfl]
      go_wp2_with fail
      go_loopw [10] (fun i wr => ∃ k : Nat, 16 ≤ k ∧ k ≤ 64 ∧ i = .int .i64 k ∧ Hid (BJ w s (sw5 b k) wr)) (fun i _ => 64 - (intOf i).toNat)
      case atStart => exact ⟨16, by omega, by omega, rfl, HI⟩
      case round =>
        obtain ⟨k, hk16, hk, rfl, hI⟩ := hrel
        by_cases hlt : k < 64
        ·
          --DEV<
          obtain ⟨L, hL⟩ : ∃ L, L = sw5 b k := ⟨_, rfl⟩
          rw [← hL] at hI
          have hLl : L.length = 64 := by rw [hL]; exact sw5_length b k hk
          have hq : ∀ W, BJ w s L W → ∀ i, i < 64 → W.cell? ⟨w.heap.size + 1 + 1, i, none⟩ = some (.int .u32 (L.getD i 0)) := fun W hW i hi => by
            rw [show w.heap.size + 1 + 1 = w.heap.size + 2 from rfl, blk_cell hW.bw i]
            exact nums_at (by rw [hLl]; exact hi)
          have hKP : ∀ W, BJ w s L W → W.cell? ⟨w.heap.size + 1 + 1, k - 16, none⟩ = some (.int .u32 (L.getD (k - 16) 0)) ∧ W.cell? ⟨w.heap.size + 1 + 1, k - 15, none⟩ = some (.int .u32 (L.getD (k - 15) 0)) ∧ W.cell? ⟨w.heap.size + 1 + 1, k - 7, none⟩ = some (.int .u32 (L.getD (k - 7) 0)) ∧ W.cell? ⟨w.heap.size + 1 + 1, k - 2, none⟩ = some (.int .u32 (L.getD (k - 2) 0)) :=
            fun W hW => ⟨hq W hW _ (by omega), hq W hW _ (by omega), hq W hW _ (by omega), hq W hW _ (by omega)⟩
          have hn16 : ¬ k - 16 = k := by omega
          have hn15 : ¬ k - 15 = k := by omega
          have hn7 : ¬ k - 7 = k := by omega
          have hn2 : ¬ k - 2 = k := by omega
          have HNE : Hid (k - 16 ≠ k ∧ k - 15 ≠ k ∧ k - 7 ≠ k ∧ k - 2 ≠ k) := ⟨hn16, hn15, hn7, hn2⟩
          clear hn16 hn15 hn7 hn2
          have HKP := Lib.hid hKP
          have HKS : Hid (∀ (W : World) (v : Value), BJ w s L W → (W.setCell ⟨w.heap.size + 1 + 1, k, none⟩ v).cell? ⟨w.heap.size + 1 + 1, k - 16, none⟩ = some (.int .u32 (L.getD (k - 16) 0)) ∧ (W.setCell ⟨w.heap.size + 1 + 1, k, none⟩ v).cell? ⟨w.heap.size + 1 + 1, k - 15, none⟩ = some (.int .u32 (L.getD (k - 15) 0)) ∧ (W.setCell ⟨w.heap.size + 1 + 1, k, none⟩ v).cell? ⟨w.heap.size + 1 + 1, k - 7, none⟩ = some (.int .u32 (L.getD (k - 7) 0)) ∧ (W.setCell ⟨w.heap.size + 1 + 1, k, none⟩ v).cell? ⟨w.heap.size + 1 + 1, k - 2, none⟩ = some (.int .u32 (L.getD (k - 2) 0))) := fun W v hW =>
            ⟨cell_far (hKP W hW).1 HNE.out.1, cell_far (hKP W hW).2.1 HNE.out.2.1, cell_far (hKP W hW).2.2.1 HNE.out.2.2.1, cell_far (hKP W hW).2.2.2 HNE.out.2.2.2⟩
          have HQ := Lib.hid hq
          have HI2 := Lib.hid hI.out
          have HL := Lib.hid hL
          have HLT := Lib.hid hlt
          have k64 : (k : Int) < 64 := by omega
          have k0' : (0 : Int) ≤ (k : Int) := by omega
          clear hKP hq hI hL hLl
          go_wp2_with fail
          have s16b : ((k - 16 : Nat) : Int) < 64 := by omega
          have s15b : ((k - 15 : Nat) : Int) < 64 := by omega
          have s7b : ((k - 7 : Nat) : Int) < 64 := by omega
          have s2b : ((k - 2 : Nat) : Int) < 64 := by omega
          have s16 : IntKind.i64.wrap ((k : Int) - 16) = ((k - 16 : Nat) : Int) := by rw [IntWalk.i64_in _ ⟨by omega, by omega⟩]; omega
          have s15 : IntKind.i64.wrap ((k : Int) - 15) = ((k - 15 : Nat) : Int) := by rw [IntWalk.i64_in _ ⟨by omega, by omega⟩]; omega
          have s7 : IntKind.i64.wrap ((k : Int) - 7) = ((k - 7 : Nat) : Int) := by rw [IntWalk.i64_in _ ⟨by omega, by omega⟩]; omega
          have s2 : IntKind.i64.wrap ((k : Int) - 2) = ((k - 2 : Nat) : Int) := by rw [IntWalk.i64_in _ ⟨by omega, by omega⟩]; omega
          go_region_held3 (fun W => W.cell? ⟨w.heap.size + 1 + 1, k - 16, none⟩ = some (.int .u32 (L.getD (k - 16) 0)) ∧ W.cell? ⟨w.heap.size + 1 + 1, k - 15, none⟩ = some (.int .u32 (L.getD (k - 15) 0)) ∧ W.cell? ⟨w.heap.size + 1 + 1, k - 7, none⟩ = some (.int .u32 (L.getD (k - 7) 0)) ∧ W.cell? ⟨w.heap.size + 1 + 1, k - 2, none⟩ = some (.int .u32 (L.getD (k - 2) 0)))
            (first | exact HKS.out _ _ Hb.out | exact HKP.out _ Hb.out | exact HKP.out _ Ha.out | exact HKP.out _ (BJ.draw HI2.out) | go_keep)
            ((first | (go_at_call 84; with_reducible refine (tur_7_18_3 _ _).mono ?_; rintro _ wa ⟨rfl, hba⟩; (have Ha := Lib.hid (BJ.later (BJ.draw HI2.out) hba)); clear hba) | (go_at_call 84; with_reducible refine (tur_17_19_10 _ _).mono ?_; rintro _ wb ⟨rfl, hbb⟩; (have Hb := Lib.hid (BJ.later Ha.out hbb)); (have ck := HQ.out wb Hb.out k HLT.out); (have fk : wb.frozen? ⟨w.heap.size + 1 + 1, k, none⟩ = false := blk_frozen Hb.out.bw k); clear hbb)))
          go_wp2_with fail
          go_roundw
          case rel =>
            refine ⟨k + 1, by omega, by have := HLT.out; omega, by go_num, ?_⟩
            rw [← sw5_step b k (by omega) HLT.out]
            have hput := BJ.put Hb.out
            obtain rfl := HL.out
            exact hput k (sch5 (sw5 b k) k)
          case measure => have := HLT.out; simp [intOf]; omega
          --DEV>
        · obtain rfl : k = 64 := by omega
          have HB := hI.out
          have h1c : (nums .u32 s).toArray.all (·.oneCell') = true := by simp [nums]; intro _ _; rfl
          rw [show ((64 : Nat) : Int) = (64 : Int) from rfl]
          have H3 : Hid (BG w wr.heap.size s (sched5 b 64) s ((wr.alloc (.cells #[.int .u32 0, .int .u32 0, .int .u32 0, .int .u32 0, .int .u32 0, .int .u32 0, .int .u32 0, .int .u32 0] 89)).setRow wr.heap.size (nums .u32 s).toArray)) := by
            have e64 : sw5 b 64 = sched5 b 64 := by simp [sw5]
            rw [← e64]
            exact BG.start HB
          have hs8 : (nums .u32 s).toArray.size = 8 := by simp [nums, hs]
          have hkz : (Try.prog.info? 89).map (·.size) = some (nums .u32 s).toArray.size := by rw [hs8]; kernel_rfl
          have hoz : (#[.int .u32 0, .int .u32 0, .int .u32 0, .int .u32 0, .int .u32 0, .int .u32 0, .int .u32 0, .int .u32 0] : Array Value).size = (nums .u32 s).toArray.size := by rw [hs8]; rfl
          go_wp2_with (first | (with_reducible refine wpList_load_row rfl 89 (.tmp 2) rfl w.heap.size (by simp [Act.eval, Act.put]) 89 (nums .u32 s).toArray (0, 0) _ HB.bs Try.underlying89 rfl hkz ?_) | (with_reducible refine wpList_store_row rfl 89 (.tmp 11) (.tmp 75) rfl wr.heap.size (nums .u32 s).toArray (by simp [Act.eval, Act.put]) (by simp [Act.eval, Act.put]) 89 #[.int .u32 0, .int .u32 0, .int .u32 0, .int .u32 0, .int .u32 0, .int .u32 0, .int .u32 0, .int .u32 0] (by rw [heap_at, if_pos rfl]) hkz hoz h1c ?_))
          obtain ⟨W3, hW3⟩ : ∃ W3, W3 = (wr.alloc (.cells #[.int .u32 0, .int .u32 0, .int .u32 0, .int .u32 0, .int .u32 0, .int .u32 0, .int .u32 0, .int .u32 0] 89)).setRow wr.heap.size (nums .u32 s).toArray := ⟨_, rfl⟩
          obtain ⟨g, hg⟩ : ∃ g, g = wr.heap.size := ⟨_, rfl⟩
          rw [← hW3] at H3 ⊢
          rw [← hg] at H3 ⊢
          clear hW3 hg HB hI h1c hs8 hkz hoz
          refine (keys5_any _).mono ?_
          rintro e w4 ⟨rfl, hb4⟩
          have H4 : Hid (BG w g s (sched5 b 64) s w4) := H3.out.later hb4
          clear hb4 hk hk16 hlt H3
          go_wp2_with fail
          go_loopw [77] (fun i w5 => ∃ t : Nat, t ≤ 64 ∧ i = .int .i64 t ∧ Hid (BG w g s (sched5 b 64) (rnds5 s (sched5 b 64) t) w5)) (fun i _ => 64 - (intOf i).toNat)
          case atStart => exact ⟨0, by omega, rfl, H4⟩
          case round =>
            obtain ⟨t, ht, rfl, hR⟩ := hrel
            by_cases ht8 : t < 64
            ·
              --DEV<
              have hidx : ∀ W : World, (Instr.index 105 (.agg (nums .u32 K5).toArray) (.int .i64 (t : Int))).run Try.prog W = .ok (.int .u32 (K5.getD t 0)) W := fun W => run_index_arr Try.prog 105 88 64 _ t _ .u32 W Try.underlying105 Try.underlying88 (by kernel_rfl) ht8 (nums_at (by show t < 64; exact ht8))
              obtain ⟨r, hr'⟩ : ∃ r, r = rnds5 s (sched5 b 64) t := ⟨_, rfl⟩
              rw [← hr'] at hR
              have hrl : r.length = 8 := by rw [hr']; exact rnds5_length _ hs t
              obtain ⟨V, hV⟩ : ∃ V, V = sched5 b 64 := ⟨_, rfl⟩
              rw [← hV] at hR hr'
              have hVl : V.length = 64 := by rw [hV]; exact sched5_length b 64
              obtain ⟨x0, hx0⟩ : ∃ x, x = r.getD 0 0 := ⟨_, rfl⟩
              obtain ⟨x1, hx1⟩ : ∃ x, x = r.getD 1 0 := ⟨_, rfl⟩
              obtain ⟨x2, hx2⟩ : ∃ x, x = r.getD 2 0 := ⟨_, rfl⟩
              obtain ⟨x3, hx3⟩ : ∃ x, x = r.getD 3 0 := ⟨_, rfl⟩
              obtain ⟨x4, hx4⟩ : ∃ x, x = r.getD 4 0 := ⟨_, rfl⟩
              obtain ⟨x5, hx5⟩ : ∃ x, x = r.getD 5 0 := ⟨_, rfl⟩
              obtain ⟨x6, hx6⟩ : ∃ x, x = r.getD 6 0 := ⟨_, rfl⟩
              obtain ⟨x7, hx7⟩ : ∃ x, x = r.getD 7 0 := ⟨_, rfl⟩
              obtain ⟨y, hy⟩ : ∃ y, y = V.getD t 0 := ⟨_, rfl⟩
              obtain ⟨kk, hkk⟩ : ∃ x, x = K5.getD t 0 := ⟨_, rfl⟩
              rw [← hkk] at hidx
              have hre : r = [x0, x1, x2, x3, x4, x5, x6, x7] := by
                rw [hx0, hx1, hx2, hx3, hx4, hx5, hx6, hx7]
                match r, hrl with
                | [_, _, _, _, _, _, _, _], _ => rfl
              have HR8 : Hid (BG w g s V [x0, x1, x2, x3, x4, x5, x6, x7] wr) := BG.at8 hR.out hre
              have c4' : wr.cell? ⟨g, 4, none⟩ = some (.int .u32 x4) := (blk_cell HR8.out.br 4).trans rfl
              have HKP : Hid (∀ W, BG w g s V [x0, x1, x2, x3, x4, x5, x6, x7] W → W.cell? ⟨g, 7, none⟩ = some (.int .u32 x7) ∧ W.cell? ⟨g, 6, none⟩ = some (.int .u32 x6) ∧ W.cell? ⟨g, 5, none⟩ = some (.int .u32 x5) ∧ W.cell? ⟨w.heap.size + 1 + 1, t, none⟩ = some (.int .u32 y)) := fun W hW =>
                ⟨(blk_cell hW.br 7).trans rfl, (blk_cell hW.br 6).trans rfl, (blk_cell hW.br 5).trans rfl, (blk_cell hW.bw t).trans ((nums_at (by rw [hVl]; exact ht8)).trans (by rw [hy]))⟩
              have HKQ : Hid (∀ W, BG w g s V [x0, x1, x2, x3, x4, x5, x6, x7] W → W.cell? ⟨g, 0, none⟩ = some (.int .u32 x0) ∧ W.cell? ⟨g, 1, none⟩ = some (.int .u32 x1) ∧ W.cell? ⟨g, 2, none⟩ = some (.int .u32 x2)) := fun W hW =>
                ⟨(blk_cell hW.br 0).trans rfl, (blk_cell hW.br 1).trans rfl, (blk_cell hW.br 2).trans rfl⟩
              have HRE := Lib.hid hre
              have HY := Lib.hid hy
              have HK := Lib.hid hkk
              have t64 : (t : Int) < 64 := by omega
              have t0' : (0 : Int) ≤ (t : Int) := by omega
              have HR' := Lib.hid hr'
              have HV := Lib.hid hV
              clear hr' hV hVl hx0 hx1 hx2 hx3 hx4 hx5 hx6 hx7 hy hkk hrl hre hR
              go_wp2_with fail
              go_region_held3 (fun W => W.cell? ⟨g, 7, none⟩ = some (.int .u32 x7) ∧ W.cell? ⟨g, 6, none⟩ = some (.int .u32 x6) ∧ W.cell? ⟨g, 5, none⟩ = some (.int .u32 x5) ∧ W.cell? ⟨w.heap.size + 1 + 1, t, none⟩ = some (.int .u32 y))
                (first | exact HKP.out _ Ha.out | exact HKP.out _ (BG.draw HR8.out) | go_keep)
                ((first | (go_at_call 84; with_reducible refine (tur_6_11_25 _ _).mono ?_; rintro _ wa ⟨rfl, hba⟩; (have Ha := Lib.hid (BG.later (BG.draw HR8.out) hba)); clear hba)))
              go_wp2_with fail
              go_region_held3 (fun W => W.cell? ⟨g, 0, none⟩ = some (.int .u32 x0) ∧ W.cell? ⟨g, 1, none⟩ = some (.int .u32 x1) ∧ W.cell? ⟨g, 2, none⟩ = some (.int .u32 x2))
                (first | exact HKQ.out _ Hb.out | exact HKQ.out _ (BG.draw Ha.out) | go_keep)
                ((first | (go_at_call 84; with_reducible refine (tur_2_13_22 _ _).mono ?_; rintro _ wb ⟨rfl, hbb⟩; (have Hb := Lib.hid (BG.later (BG.draw Ha.out) hbb)); clear hbb)))
              go_wp2_with fail
              have HCP := Lib.hid (BG.copy Hb.out)
              go_region_law (refine step_copy_r (m := 7) rfl (.tmp 123) (.tmp 124) 114 114 rfl (by simp [Act.eval, Act.put]) (by simp [Act.eval, Act.put]) (HCP.out wb.drew rfl rfl rfl rfl).1 (R := fun W => Hid (BG w g s V [x0, x0, x1, x2, x3, x4, x5, x6] W)) (HCP.out wb.drew rfl rfl rfl rfl).2 ?_; intro W6 H6)
              have d0 : W6.cell? ⟨g, 0, none⟩ = some (.int .u32 x0) := (blk_cell H6.out.br 0).trans rfl
              have d4 : W6.cell? ⟨g, 4, none⟩ = some (.int .u32 x3) := (blk_cell H6.out.br 4).trans rfl
              have g0 : W6.frozen? ⟨g, 0, none⟩ = false := blk_frozen H6.out.br 0
              have g4 : W6.frozen? ⟨g, 4, none⟩ = false := blk_frozen H6.out.br 4
              go_wp2_with fail
              go_roundw
              case rel =>
                refine ⟨t + 1, by omega, by go_num, ?_⟩
                have e : rnds5 s (sched5 b 64) (t + 1) = rnd5 [x0, x1, x2, x3, x4, x5, x6, x7] kk y := by
                  rw [← HV.out, show rnds5 s V (t + 1) = rnd5 (rnds5 s V t) (K5.getD t 0) (V.getD t 0) from rfl, ← HR'.out, HRE.out, ← HK.out, ← HY.out]
                rw [e, ← HV.out, sum5a, sum5b]
                exact BG.put (BG.put H6.out 0 _) 4 _
              case measure => simp [intOf]; omega
              --DEV>
            · obtain rfl : t = 64 := by omega
              have HR := Lib.hid hR.out
              clear hR
              rw [show ((64 : Nat) : Int) = (64 : Int) from rfl]
              go_wp2_with fail
              go_loopw [136] (fun i w6 => ∃ t : Nat, t ≤ 8 ∧ i = .int .i64 t ∧ Hid (BG w g (sm5 s (rnds5 s (sched5 b 64) 64) t) (sched5 b 64) (rnds5 s (sched5 b 64) 64) w6)) (fun i _ => 8 - (intOf i).toNat)
              case atStart => exact ⟨0, by omega, rfl, by rw [sm5_zero _ _ hs]; exact HR.out⟩
              case round =>
                obtain ⟨t, ht, rfl, hR⟩ := hrel
                obtain ⟨r, hr'⟩ : ∃ r, r = rnds5 s (sched5 b 64) 64 := ⟨_, rfl⟩
                have hrl : r.length = 8 := by rw [hr']; exact rnds5_length _ hs 64
                rw [← hr'] at hR
                by_cases ht8 : t < 8
                · have hsl := sm5_length s r t
                  have cs : wr.cell? ⟨w.heap.size, t, none⟩ = some (.int .u32 ((sm5 s r t).getD t 0)) := by
                    rw [blk_cell hR.out.bs t]; exact nums_at (by omega)
                  have cr : wr.cell? ⟨g, t, none⟩ = some (.int .u32 (r.getD t 0)) := by
                    rw [blk_cell hR.out.br t]; exact nums_at (by omega)
                  have fs : wr.frozen? ⟨w.heap.size, t, none⟩ = false := blk_frozen hR.out.bs t
                  obtain ⟨a, ha⟩ : ∃ a, a = (sm5 s r t).getD t 0 := ⟨_, rfl⟩
                  obtain ⟨c, hc'⟩ : ∃ c, c = r.getD t 0 := ⟨_, rfl⟩
                  rw [← ha] at cs
                  rw [← hc'] at cr
                  have HA := Lib.hid ha
                  have HC' := Lib.hid hc'
                  have HR2 := Lib.hid hr'
                  have t80 : (t : Int) < 8 := by omega
                  have t0' : (0 : Int) ≤ (t : Int) := by omega
                  clear ha hc' hr' hrl hsl
                  go_wp2_with fail
                  go_still_tail 8, (by kernel_rfl)
                  go_wp2_with fail
                  go_roundw
                  case rel =>
                    refine ⟨t + 1, by omega, by go_num, ?_⟩
                    rw [P5m, ← HR2.out, ← sm5_step s r t ht8, ← HA.out, ← HC'.out]
                    exact BG.draw (BG.puts hR.out t _)
                  case measure => simp [intOf]; omega
                · obtain rfl : t = 8 := by omega
                  have HS := hR.out
                  have hsm : (sm5 s r 8).length = 8 := sm5_length s r 8
                  have h1c : (nums .u32 (sm5 s r 8)).toArray.all (·.oneCell') = true := by simp [nums]; intro _ _; rfl
                  have hsz8 : (nums .u32 (sm5 s r 8)).toArray.size = 8 := by simp [nums, hsm]
                  have hosz : (nums .u32 [0, 0, 0, 0, 0, 0, 0, 0]).toArray.size = (nums .u32 (sm5 s r 8)).toArray.size := by rw [hsz8]; rfl
                  have hkz : (Try.prog.info? 89).map (·.size) = some (nums .u32 (sm5 s r 8)).toArray.size := by rw [hsz8]; kernel_rfl
                  have HR2 := Lib.hid hr'
                  clear hr'
                  go_wp2_with (first | (with_reducible refine wpList_load_row rfl 89 (.tmp 2) rfl w.heap.size (by simp [Act.eval, Act.put]) 89 (nums .u32 (sm5 s r 8)).toArray (0, 0) _ HS.bs Try.underlying89 rfl hkz ?_) | (with_reducible refine wpList_store_row rfl 89 (.tmp 4) (.tmp 148) rfl (w.heap.size + 1) (nums .u32 (sm5 s r 8)).toArray (by simp [Act.eval, Act.put]) (by simp [Act.eval, Act.put]) 89 _ HS.bo hkz hosz h1c ?_))
                  have hfin : ((wr.setRow (w.heap.size + 1) (nums .u32 (sm5 s r 8)).toArray)).heap[w.heap.size + 1]? = some (.cells (nums .u32 (sm5 s r 8)).toArray 89 (0, 0)) := setRow_heap _ _ _ _ _ _ HS.bo
                  refine bodyPost_ret (results_cell_row2 (p := 4) (q := 5) (ty := 89) (by kernel_rfl) _ _ (w.heap.size + 1) 89 _ (0, 0) _ rfl hfin Try.underlying89 rfl hkz) rfl ⟨?_, below_setRow' HS.below (by omega) _⟩
                  show _ = Ending.returned (.tuple #[.agg _, .bool true])
                  rw [blk5, ← sm5_all, HR2.out]
                  rfl
end Go.Proofs.Ytincnnmojgphmaa.H.B5
