/- sign.Encode, by walking its text. -/
import Derived.Test.YtmmbbkdbebfhiaaHBytes
import Derived.Test.YtmmbbkdbebfhiaaHMask
import Derived.Test.YtmmbbkdbebfhiaaHHash
set_option linter.unusedVariables false
set_option linter.unusedSimpArgs false
namespace Go.Proofs.Ytmmbbkdbebfhiaa.H
open Go.RowKit Go.Proofs.YtmmbbkdbebfhiaaW.PrintWords Go.Proofs.YtmmbbkdbebfhiaaW.PrintLast Go.Proofs.Ytmmbbkdbebfhiaa.Sha Go.Proofs.YtmmbbkdbebfhiaaW.PrintMore Go.Proofs.Ytmmbbkdbebfhiaa.PT
attribute [local go_sem] Oper.semAt_some max2_int min2_int max_two min_two

theorem bytesOf_append (a b : List Int) : Lib.bytesOf (a ++ b) = Lib.bytesOf a ++ Lib.bytesOf b := by simp [Lib.bytesOf]
theorem hlen_le' (h : Int) : hlen h ≤ 64 := by unfold hlen; split <;> (try split) <;> omega
theorem join3 (a b c : List UInt8) : Lib.join [a, b, c] [] = a ++ b ++ c := by simp [Lib.join_cons, Lib.joinTail]
theorem out6_in (l : List Int) : inB 8 (out6 l) := by
  intro x hx
  obtain ⟨y, _, hy⟩ := List.mem_flatMap.1 hx
  obtain ⟨j, _, rfl⟩ := List.mem_map.1 hy
  omega
theorem out5_in (l : List Int) : inB 8 (out5 l) := by
  intro x hx
  obtain ⟨y, _, hy⟩ := List.mem_flatMap.1 hx
  simp only [bytes5, List.mem_cons, List.not_mem_nil, or_false] at hy
  omega
theorem hsum_in (h : Int) (l : List Int) : inB 8 (hsum h l) := by
  unfold hsum
  split
  · exact out5_in _
  · split
    · exact fun x hx => out6_in _ x (List.mem_of_mem_take hx)
    · exact out6_in _
/-- Ahead of the padding's end: a nought, what tells the hash, the hash. -/
def tailL (h : Int) (l : List Int) : List Int := 0 :: (prefixL h (hlen h) ++ hsum h l)
theorem prefixL_in {h : Int} (hh : h = 1 ∨ h = 2 ∨ h = 3) : inB 8 (prefixL h (hlen h)) := by
  rcases hh with rfl | rfl | rfl <;> (intro x hx; simp [prefixL, hlen] at hx; omega)
theorem tailL_in {h : Int} (hh : h = 1 ∨ h = 2 ∨ h = 3) (l : List Int) : inB 8 (tailL h l) := by
  intro x hx
  rcases List.mem_cons.1 hx with rfl | hx
  · omega
  · rcases List.mem_append.1 hx with h1 | h1
    · exact prefixL_in hh x h1
    · exact hsum_in h l x h1
theorem tailL_length (h : Int) (l : List Int) : (tailL h l).length = 20 + hlen h := by
  simp [tailL, prefixL, hsum_length]; omega
theorem prefix_some {h : Int} (hh : h = 1 ∨ h = 2 ∨ h = 3) : hash_Prefix.f h = some (prefixL h (hlen h)) := by
  rcases hh with rfl | rfl | rfl <;> rfl
theorem holds_one {W : World} {g : Nat} {T : TypeId} (u : UInt8) {c : Nat} (h : W.heap[g]? = some (.cells #[.int .u8 (u.toNat : Int)] T (0, 0))) : Lib.HoldsBytes W (.slice (some ⟨g, 0, none⟩) 1 c) [u] := by
  refine ⟨some ⟨g, 0, none⟩, c, rfl, fun e => (by cases e), fun a ha i x hx => ?_⟩
  obtain rfl : (⟨g, 0, none⟩ : Addr) = a := Option.some.inj ha
  match i, hx with
  | 0, hx =>
    simp at hx
    subst hx
    exact (blk_cell h 0).trans rfl
  | i + 1, hx => simp at hx
theorem holds_two {W : World} {g : Nat} {T : TypeId} (u v : UInt8) {c : Nat} (h : W.heap[g]? = some (.cells #[.int .u8 (u.toNat : Int), .int .u8 (v.toNat : Int)] T (0, 0))) : Lib.HoldsBytes W (.slice (some ⟨g, 0, none⟩) 2 c) [u, v] := by
  refine ⟨some ⟨g, 0, none⟩, c, rfl, fun e => (by cases e), fun a ha i x hx => ?_⟩
  obtain rfl : (⟨g, 0, none⟩ : Addr) = a := Option.some.inj ha
  match i, hx with
  | 0, hx =>
    simp at hx
    subst hx
    exact (blk_cell h 0).trans rfl
  | 1, hx =>
    simp at hx
    subst hx
    exact (blk_cell h 1).trans rfl
  | i + 2, hx => simp at hx
theorem parts3 {W : World} {g : Nat} {T : TypeId} {v0 v1 v2 : Value} {a b c : List UInt8} (h : W.heap[g]? = some (.cells #[v0, v1, v2] T (0, 0))) (h0 : Lib.HoldsBytes W v0 a) (h1 : Lib.HoldsBytes W v1 b) (h2 : Lib.HoldsBytes W v2 c) : Lib.PartsAt W ⟨g, 0, none⟩ [v0, v1, v2] [a, b, c] := by
  refine ⟨rfl, fun i v hv => ?_, fun i v l hv hl => ?_⟩
  · rw [add_plain, blk_cell h i]
    simpa using hv
  · match i, hv, hl with
    | 0, hv, hl => simp at hv hl; subst hv; subst hl; exact h0
    | 1, hv, hl => simp at hv hl; subst hv; subst hl; exact h1
    | 2, hv, hl => simp at hv hl; subst hv; subst hl; exact h2
    | i + 3, hv, hl => simp at hv
/-- A row that is read keeps its bytes. -/
theorem holds_of_V {W : World} {base : Nat} {ok : Nat → Prop} {v : Value} {xs : List Int} (h : Kd.V (Kd.int .u8) 5 W base ok v xs) (hb : inB 8 xs) : Lib.HoldsBytes W v (Lib.bytesOf xs) := by
  obtain ⟨A, c, rfl⟩ := Kd.V_slice h
  exact holds_of_C (Kd.V_reads' h).2.2 hb

theorem tail_at (h : Int) (hh : h = 1 ∨ h = 2 ∨ h = 3) (l : List Int) (w w1 w3 W4 : World) (Ad : Option Addr) (cd : Nat) (Ap : Option Addr) (cp : Nat)
    (hW4 : W4 = w3.alloc (.cells #[.slice (some ⟨w1.heap.size, 0, none⟩) 1 1, .slice Ap (prefixL h (hlen h)).length cp, .slice Ad (hsum h l).length cd] 24))
    (HVD : Kd.V (Kd.int .u8) 5 w1 w.heap.size (fun k_ => w.heap.size ≤ k_) (.slice Ad (hsum h l).length cd) (hsum h l))
    (HVP : Kd.V (Kd.int .u8) 5 w3 (w1.alloc (.cells #[.int .u8 0] 5)).heap.size (fun k_ => (w1.alloc (.cells #[.int .u8 0] 5)).heap.size ≤ k_) (.slice Ap (prefixL h (hlen h)).length cp) (prefixL h (hlen h)))
    (HB1 : Below w.heap.size w w1) (HB3 : Below (w1.alloc (.cells #[.int .u8 0] 5)).heap.size (w1.alloc (.cells #[.int .u8 0] 5)) w3) :
    (Calls Try.prog 57 #[.slice (some ⟨w3.heap.size, 0, none⟩) 3 3] W4 fun e w' => ∃ v, e = .returned v ∧ Lib.FreshBytes W4.heap.size w' v (Lib.bytesOf (tailL h l)) ∧ Below W4.heap.size W4 w') ∧ Below w.heap.size w W4 := by
  have hz3 : w1.heap.size < w3.heap.size := Nat.lt_of_lt_of_le (by simp) HB3.size
  have hB4 : Below w3.heap.size w3 W4 := by rw [hW4]; exact (Below.refl _ w3).alloc (Nat.le_refl _) _
  have hblk : W4.heap[w1.heap.size]? = some (.cells #[.int .u8 ((0 : UInt8).toNat : Int)] 5 (0, 0)) := by
    rw [hB4.block _ hz3, HB3.block _ (by simp)]
    exact (heap_alloc_new _ _).trans rfl
  have hVd4 : Kd.V (Kd.int .u8) 5 W4 w.heap.size (fun k_ => w.heap.size ≤ k_) (.slice Ad (hsum h l).length cd) (hsum h l) := Kd.V_below (Kd.V_below (Kd.V_alloc HVD _) HB3) hB4
  have hVp4 := Kd.V_below HVP hB4
  have hpt : Lib.PartsAt W4 ⟨w3.heap.size, 0, none⟩ _ [[0], Lib.bytesOf (prefixL h (hlen h)), Lib.bytesOf (hsum h l)] := parts3 (by rw [hW4]; exact heap_alloc_new _ _) (holds_one 0 hblk) (holds_of_V hVp4 (prefixL_in hh)) (holds_of_V hVd4 (hsum_in h l))
  have hJ := joined_at w3.heap.size 3 _ _ W4 rfl (by omega) hpt (by omega) (by
    simp only [Lib.lens, List.map_cons, List.map_nil, Lib.bytesOf_length, hsum_length, List.sum_cons, List.sum_nil, List.length_cons, List.length_nil]
    have := hlen_le' h
    simp [prefixL]
    omega)
  rw [join3] at hJ
  have hbt : [0] ++ Lib.bytesOf (prefixL h (hlen h)) ++ Lib.bytesOf (hsum h l) = Lib.bytesOf (tailL h l) := by
    simp [tailL, Lib.bytesOf]
  rw [hbt] at hJ
  exact ⟨hJ, (HB1.trans ((((Below.refl w1.heap.size w1).alloc (Nat.le_refl _) _).trans (HB3.mono (by simp))).mono HB1.size)).trans (hB4.mono (Nat.le_trans HB1.size (Nat.le_of_lt hz3)))⟩

set_option maxRecDepth 100000 in
set_option maxHeartbeats 4000000 in
theorem encode_go (h : Int) (hh : h = 1 ∨ h = 2 ∨ h = 3) (A : Option Addr) (c : Nat) (l : List Int) (k : Nat) (w : World) (hC : Kd.C (Kd.int .u8) w A l.length l) (hc : l.length ≤ c) (hm : l.length ≤ 140737488351232) (hb : inB 8 l) (hk : k ≤ 1024) (hroom : (tailL h l).length + 10 ≤ k) :
    Calls Try.prog 43 #[.int .i64 h, .slice A l.length c, .int .i64 (k : Int)] w fun e w' => ∃ v0_ : Value, e = .returned (.tuple #[v0_, .int .i64 0]) ∧ Kd.V (Kd.int .u8) 5 w' w.heap.size (fun k_ => (w.heap.size ≤ k_)) v0_ ([0, 1] ++ List.replicate (k - 2 - (tailL h l).length) 255 ++ tailL h l) ∧ Below w.heap.size w w' := by
  have HS : Hid (Calls Try.prog 33 #[.int .i64 h, .slice A l.length c] w fun e w' => ∃ v0_ : Value, e = .returned (.tuple #[v0_, .int .i64 0]) ∧ Kd.V (Kd.int .u8) 5 w' w.heap.size (fun k_ => w.heap.size ≤ k_) v0_ (hsum h l) ∧ Below w.heap.size w w') := hash_Sum.calls h A c l (hsum h l) 0 w hC hc (sum_at h hh l hb hm)
  have HP : Hid (∀ W, Calls Try.prog 17 #[.int .i64 h] W fun e w' => ∃ v0_ : Value, e = .returned v0_ ∧ Kd.V (Kd.int .u8) 5 w' W.heap.size (fun k_ => W.heap.size ≤ k_) v0_ (prefixL h (hlen h)) ∧ Below W.heap.size W w') := fun W => hash_Prefix.calls h _ W (prefix_some hh)
  have HH := Lib.hid hh
  obtain ⟨T, hT⟩ : ∃ T, T = (tailL h l).length := ⟨_, rfl⟩
  rw [← hT] at hroom ⊢
  have k0 : (0 : Int) ≤ (k : Int) := by omega
  have k1 : (k : Int) ≤ 1024 := by omega
  have k2 : decide ((k : Int) < (T : Int) + 10) = false := decide_eq_false (by omega)
  have kf0 : decide ((k : Int) < 0) = false := decide_eq_false (by omega)
  have kf1 : decide (1024 < (k : Int)) = false := decide_eq_false (by omega)
  have T1 : (T : Int) ≤ 2000 := by omega
  have T0 : (0 : Int) ≤ (T : Int) := by omega
  obtain ⟨n, hn⟩ : ∃ n, n = k - 2 - T := ⟨_, rfl⟩
  have hn1 : (k : Int) - 2 - (T : Int) = (n : Int) := by omega
  have HN : Hid (1 ≤ n ∧ n ≤ 8192) := by show _ ∧ _; omega
  have HT := Lib.hid hT
  rw [← hn]
  clear hC hc hm hb hh hT hn
  go_enter Try.func43, Try.ntmps43
  go_wp2_with fail
  refine HS.out.mono ?_
  rintro e w1 ⟨vd, rfl, hvd, hb1⟩
  have HVD := Lib.hid hvd
  have HB1 := Lib.hid hb1
  obtain ⟨Ad, cd, rfl⟩ := Kd.V_slice hvd
  clear hvd hb1
  go_wp2_with fail
  refine (HP.out _).mono ?_
  rintro e w3 ⟨vp, rfl, hvp, hb3⟩
  have HVP := Lib.hid hvp
  have HB3 := Lib.hid hb3
  obtain ⟨Ap, cp, rfl⟩ := Kd.V_slice hvp
  clear hvp hb3
  go_wp2_with fail
  obtain ⟨W4, hW4⟩ : ∃ W4, W4 = w3.alloc (.cells #[.slice (some ⟨w1.heap.size, 0, none⟩) 1 1, .slice Ap (prefixL h (hlen h)).length cp, .slice Ad (hsum h l).length cd] 24) := ⟨_, rfl⟩
  obtain ⟨hJ, hB4⟩ := tail_at h HH.out l w w1 w3 W4 Ad cd Ap cp hW4 HVD.out HVP.out HB1.out HB3.out
  rw [← hW4]
  have HJ := Lib.hid hJ
  have HB4 := Lib.hid hB4
  have HZ4 : Hid (w.heap.size ≤ W4.heap.size) := HB4.out.size
  clear hJ hB4 hW4
  refine HJ.out.mono ?_
  rintro e w5 ⟨vt, rfl, hvt, hb5⟩
  have hV5 := V_of_fresh (base := w.heap.size) (tailL h l) (tailL_in HH.out l) hvt (ok := fun k_ => w.heap.size ≤ k_) (fun k_ hk => Nat.le_trans HZ4.out hk)
  obtain ⟨At, ct, hvt2⟩ := Kd.V_slice hV5
  rw [← HT.out] at hvt2
  subst hvt2
  have HV5 := Lib.hid hV5
  have HB5 : Hid (Below w.heap.size w w5) := HB4.out.trans (hb5.mono HZ4.out)
  clear hV5 hvt hb5 HJ HB4 HZ4 HVD HVP HB1 HB3
  go_wp2_with fail
  obtain ⟨W6, hW6⟩ : ∃ W6, W6 = (w5.alloc (.cells #[.int .u8 0, .int .u8 1] 5)).alloc (.cells #[.int .u8 255] 5) := ⟨_, rfl⟩
  have hB6 : Below w5.heap.size w5 W6 := by rw [hW6]; exact ((Below.refl _ w5).alloc (Nat.le_refl _) _).alloc (by simp) _
  have hz6 : W6.heap.size = w5.heap.size + 2 := by rw [hW6]; simp
  have h255 : W6.heap[w5.heap.size + 1]? = some (.cells #[.int .u8 ((255 : UInt8).toNat : Int)] 5 (0, 0)) := by
    rw [hW6, heap_at, if_pos (by simp)]
    rfl
  have h01 : W6.heap[w5.heap.size]? = some (.cells #[.int .u8 ((0 : UInt8).toNat : Int), .int .u8 ((1 : UInt8).toNat : Int)] 5 (0, 0)) := by
    rw [hW6, heap_at, if_neg (by simp), heap_at, if_pos rfl]
    rfl
  have hRp := repeat_one 255 ⟨w5.heap.size + 1, 0, none⟩ 1 n W6 HN.out.1 HN.out.2 (by rw [add_plain]; exact (blk_cell h255 0).trans rfl)
  rw [← hW6]
  have HR := Lib.hid hRp
  have H01 := Lib.hid h01
  have HB6 := Lib.hid hB6
  have HZ6 := Lib.hid hz6
  clear hRp h255 h01 hB6 hz6 hW6
  refine HR.out.mono ?_
  rintro e w7 ⟨vr, rfl, hvr, hb7⟩
  have hvr2 : Lib.FreshBytes W6.heap.size w7 vr (Lib.bytesOf (List.replicate n 255)) := by
    rw [show Lib.bytesOf (List.replicate n 255) = List.replicate n 255 by simp [Lib.bytesOf]]
    exact hvr
  have hV7 := V_of_fresh (base := w.heap.size) (List.replicate n 255) (fun x hx => by rw [(List.mem_replicate.1 hx).2]; decide) hvr2 (ok := fun k_ => w5.heap.size ≤ k_) (fun k_ hk => by have := HZ6.out; omega)
  obtain ⟨Ar, cr, hvr3⟩ := Kd.V_slice hV7
  rw [List.length_replicate] at hvr3
  subst hvr3
  have HV7 := Lib.hid hV7
  have HB7 := Lib.hid hb7
  clear hvr hvr2 hV7 hb7 HR
  go_wp2_with fail
  obtain ⟨W8, hW8⟩ : ∃ W8, W8 = w7.alloc (.cells #[.slice (some ⟨w5.heap.size, 0, none⟩) 2 2, .slice Ar n cr, .slice At T ct] 24) := ⟨_, rfl⟩
  have hB8 : Below w7.heap.size w7 W8 := by rw [hW8]; exact (Below.refl _ w7).alloc (Nat.le_refl _) _
  have h017 : W8.heap[w5.heap.size]? = some (.cells #[.int .u8 ((0 : UInt8).toNat : Int), .int .u8 ((1 : UInt8).toNat : Int)] 5 (0, 0)) := by
    have hz := HB7.out.size
    have hz6 := HZ6.out
    rw [hB8.block _ (by omega), HB7.out.block _ (by omega)]
    exact H01.out
  have hVt8 : Kd.V (Kd.int .u8) 5 W8 w.heap.size (fun k_ => w.heap.size ≤ k_) (.slice At T ct) (tailL h l) := Kd.V_below (Kd.V_below (Kd.V_below HV5.out HB6.out) HB7.out) hB8
  have hVr8 := Kd.V_below HV7.out hB8
  have hpt : Lib.PartsAt W8 ⟨w7.heap.size, 0, none⟩ _ [[0, 1], Lib.bytesOf (List.replicate n 255), Lib.bytesOf (tailL h l)] := parts3 (by rw [hW8]; exact heap_alloc_new _ _) (holds_two 0 1 h017) (holds_of_V hVr8 (fun x hx => by rw [(List.mem_replicate.1 hx).2]; decide)) (holds_of_V hVt8 (tailL_in HH.out l))
  have hJ := joined_at w7.heap.size 3 _ _ W8 rfl (by omega) hpt (by omega) (by
    simp only [Lib.lens, List.map_cons, List.map_nil, Lib.bytesOf_length, List.sum_cons, List.sum_nil, List.length_cons, List.length_nil, List.length_replicate]
    have h1 := HN.out
    have h2 := HT.out
    omega)
  rw [join3] at hJ
  have hbt : [0, 1] ++ Lib.bytesOf (List.replicate n 255) ++ Lib.bytesOf (tailL h l) = Lib.bytesOf ([0, 1] ++ List.replicate n 255 ++ tailL h l) := by
    rw [bytesOf_append, bytesOf_append]
    rfl
  rw [hbt] at hJ
  rw [← hW8]
  have HJ := Lib.hid hJ
  have hZ5 : w.heap.size ≤ w5.heap.size := HB5.out.size
  have HB8 : Hid (Below w.heap.size w W8) := ((HB5.out.trans (HB6.out.mono hZ5)).trans (HB7.out.mono (Nat.le_trans hZ5 HB6.out.size))).trans (hB8.mono (Nat.le_trans hZ5 (Nat.le_trans HB6.out.size HB7.out.size)))
  clear hJ hpt hVt8 hVr8 h017 hB8 hbt hW8 hZ5
  refine HJ.out.mono ?_
  rintro e w9 ⟨v9, rfl, hv9, hb9⟩
  have hin : inB 8 ([0, 1] ++ List.replicate n 255 ++ tailL h l) := by
    intro x hx
    rcases List.mem_append.1 hx with h1 | h1
    · rcases List.mem_append.1 h1 with h2 | h2
      · simp at h2; omega
      · rw [(List.mem_replicate.1 h2).2]; decide
    · exact tailL_in HH.out l x h1
  have hV9 := V_of_fresh (base := w.heap.size) ([0, 1] ++ List.replicate n 255 ++ tailL h l) hin hv9 (ok := fun k_ => w.heap.size ≤ k_) (fun k_ hk => Nat.le_trans HB8.out.size hk)
  have HV9 := Lib.hid hV9
  have HB9 : Hid (Below w.heap.size w w9) := HB8.out.trans (hb9.mono HB8.out.size)
  clear hV9 hv9 hb9 hin HJ
  go_wp2_with fail
  refine bodyPost_ret (v := .tuple #[v9, .int .i64 0]) (by simp [results, go_sem]) rfl ?_
  exact ⟨v9, rfl, HV9.out, HB9.out⟩

/-- sign.Encode, in closed form. -/
def sign_Encode.f (a0 : Int) (l1 : List Int) (a2 : Int) : Option (List Int × Int) :=
  if inB 8 l1 ∧ l1.length ≤ 140737488351232 then
    (if a0 = 1 ∨ a0 = 2 ∨ a0 = 3 then
      (if a2 < 0 ∨ 1024 < a2 then some ([], 1)
       else if a2 < ((tailL a0 l1).length : Int) + 10 then some ([], 232)
       else some ([0, 1] ++ List.replicate (a2.toNat - 2 - (tailL a0 l1).length) 255 ++ tailL a0 l1, 0))
     else some ([], 130))
  else none
set_option maxRecDepth 100000 in
set_option maxHeartbeats 2000000 in
theorem sign_Encode.calls (a0 : Int) (A1 : Option Addr) (c1 : Nat) (l1 : List Int) (a2 : Int) (r1 : List Int) (r2 : Int) (w : World) (hr1 : Kd.C (Kd.int .u8) w A1 l1.length l1) (hc1 : l1.length ≤ c1) (h : sign_Encode.f a0 l1 a2 = some (r1, r2)) :
    Calls Try.prog 43 #[.int .i64 a0, .slice A1 l1.length c1, .int .i64 a2] w fun e w' => ∃ v0_ : Value, e = .returned (.tuple #[v0_, .int .i64 r2]) ∧ Kd.V (Kd.int .u8) 5 w' w.heap.size (fun k_ => (w.heap.size ≤ k_)) v0_ r1 ∧ Below w.heap.size w w' := by
  unfold sign_Encode.f at h
  split at h
  case isFalse => cases h
  rename_i hb
  by_cases hh : a0 = 1 ∨ a0 = 2 ∨ a0 = 3
  · rw [if_pos hh] at h
    have HS : Hid (Calls Try.prog 33 #[.int .i64 a0, .slice A1 l1.length c1] w fun e w' => ∃ v0_ : Value, e = .returned (.tuple #[v0_, .int .i64 0]) ∧ Kd.V (Kd.int .u8) 5 w' w.heap.size (fun k_ => w.heap.size ≤ k_) v0_ (hsum a0 l1) ∧ Below w.heap.size w w') := hash_Sum.calls a0 A1 c1 l1 (hsum a0 l1) 0 w hr1 hc1 (sum_at a0 hh l1 hb.1 hb.2)
    by_cases h1 : a2 < 0 ∨ 1024 < a2
    · rw [if_pos h1] at h
      cases h
      have h2 : decide (a2 < 0) = true ∨ (decide (a2 < 0) = false ∧ decide (1024 < a2) = true) := by
        by_cases h3 : a2 < 0
        · exact .inl (decide_eq_true h3)
        · exact .inr ⟨decide_eq_false h3, decide_eq_true (by omega)⟩
      clear h1 hh hb hr1 hc1
      rcases h2 with h3 | ⟨h3, h4⟩
      all_goals
        go_enter Try.func43, Try.ntmps43
        go_wp2_with fail
        refine HS.out.mono ?_
        rintro e w1 ⟨vd, rfl, hvd, hb1⟩
        have HB1 := Lib.hid hb1
        obtain ⟨Ad, cd, rfl⟩ := Kd.V_slice hvd
        clear hvd hb1
        go_wp2_with fail
        exact bodyPost_ret (v := .tuple #[.slice none 0 0, .int .i64 1]) (by simp [results, go_sem]) rfl ⟨_, rfl, Kd.V_nil _ _ _ _ _, HB1.out⟩
    · rw [if_neg h1] at h
      obtain ⟨k, rfl⟩ : ∃ k : Nat, a2 = (k : Int) := ⟨a2.toNat, by omega⟩
      by_cases h2 : (k : Int) < ((tailL a0 l1).length : Int) + 10
      · rw [if_pos h2] at h
        cases h
        have HP : Hid (∀ W, Calls Try.prog 17 #[.int .i64 a0] W fun e w' => ∃ v0_ : Value, e = .returned v0_ ∧ Kd.V (Kd.int .u8) 5 w' W.heap.size (fun k_ => W.heap.size ≤ k_) v0_ (prefixL a0 (hlen a0)) ∧ Below W.heap.size W w') := fun W => hash_Prefix.calls a0 _ W (prefix_some hh)
        have HH := Lib.hid hh
        obtain ⟨T, hT⟩ : ∃ T, T = (tailL a0 l1).length := ⟨_, rfl⟩
        have hTl := tailL_length a0 l1
        have hl64 := hlen_le' a0
        rw [← hT] at h2 hTl
        have k2 : decide ((k : Int) < (T : Int) + 10) = true := decide_eq_true h2
        have kf0 : decide ((k : Int) < 0) = false := decide_eq_false (by omega)
        have kf1 : decide (1024 < (k : Int)) = false := decide_eq_false (by omega)
        have T1 : (T : Int) ≤ 2000 := by omega
        have T0 : (0 : Int) ≤ (T : Int) := by omega
        have HT := Lib.hid hT
        clear hh hb hr1 hc1 h1 h2 hTl hl64 hT
        go_enter Try.func43, Try.ntmps43
        go_wp2_with fail
        refine HS.out.mono ?_
        rintro e w1 ⟨vd, rfl, hvd, hb1⟩
        have HVD := Lib.hid hvd
        have HB1 := Lib.hid hb1
        obtain ⟨Ad, cd, rfl⟩ := Kd.V_slice hvd
        clear hvd hb1
        go_wp2_with fail
        refine (HP.out _).mono ?_
        rintro e w3 ⟨vp, rfl, hvp, hb3⟩
        have HVP := Lib.hid hvp
        have HB3 := Lib.hid hb3
        obtain ⟨Ap, cp, rfl⟩ := Kd.V_slice hvp
        clear hvp hb3
        go_wp2_with fail
        obtain ⟨W4, hW4⟩ : ∃ W4, W4 = w3.alloc (.cells #[.slice (some ⟨w1.heap.size, 0, none⟩) 1 1, .slice Ap (prefixL a0 (hlen a0)).length cp, .slice Ad (hsum a0 l1).length cd] 24) := ⟨_, rfl⟩
        obtain ⟨hJ, HB4⟩ := tail_at a0 HH.out l1 w w1 w3 W4 Ad cd Ap cp hW4 HVD.out HVP.out HB1.out HB3.out
        rw [← hW4]
        have HJ := Lib.hid hJ
        have HB4 := Lib.hid HB4
        clear hJ hW4
        refine HJ.out.mono ?_
        rintro e w5 ⟨vt, rfl, hvt, hb5⟩
        have hV5 := V_of_fresh (base := w.heap.size) (tailL a0 l1) (tailL_in HH.out l1) hvt (ok := fun k_ => w.heap.size ≤ k_) (fun k_ hk => Nat.le_trans HB4.out.size hk)
        obtain ⟨At, ct, hvt2⟩ := Kd.V_slice hV5
        rw [← HT.out] at hvt2
        subst hvt2
        have HB5 : Hid (Below w.heap.size w w5) := HB4.out.trans (hb5.mono HB4.out.size)
        clear hV5 hvt hb5 HJ HB4 HVD HVP HB1 HB3
        go_wp2_with fail
        exact bodyPost_ret (v := .tuple #[.slice none 0 0, .int .i64 232]) (by simp [results, go_sem]) rfl ⟨_, rfl, Kd.V_nil _ _ _ _ _, HB5.out⟩
      · rw [if_neg h2] at h
        cases h
        rw [Int.toNat_natCast]
        exact encode_go a0 hh A1 c1 l1 k w hr1 hc1 hb.2 hb.1 (by omega) (by omega)
  · rw [if_neg hh] at h
    cases h
    have hs : hash_Sum.f a0 l1 = some ([], 130) := by
      unfold hash_Sum.f
      rw [if_neg (by omega), if_neg (by omega), if_neg (by omega)]
    have HS : Hid (Calls Try.prog 33 #[.int .i64 a0, .slice A1 l1.length c1] w fun e w' => ∃ v0_ : Value, e = .returned (.tuple #[v0_, .int .i64 130]) ∧ Kd.V (Kd.int .u8) 5 w' w.heap.size (fun k_ => w.heap.size ≤ k_) v0_ ([] : List Int) ∧ Below w.heap.size w w') := hash_Sum.calls a0 A1 c1 l1 [] 130 w hr1 hc1 hs
    clear hh hb hr1 hc1 hs
    go_enter Try.func43, Try.ntmps43
    go_wp2_with fail
    refine HS.out.mono ?_
    rintro e w1 ⟨vd, rfl, hvd, hb1⟩
    have HB1 := Lib.hid hb1
    obtain ⟨Ad, cd, rfl⟩ := Kd.V_slice hvd
    clear hvd hb1
    go_wp2_with fail
    exact bodyPost_ret (v := .tuple #[.slice none 0 0, .int .i64 130]) (by simp [results, go_sem]) rfl ⟨_, rfl, Kd.V_nil _ _ _ _ _, HB1.out⟩
end Go.Proofs.Ytmmbbkdbebfhiaa.H
