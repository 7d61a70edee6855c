/- What the layer pss computes, in plain Lean: the signature's text, its salt and how it is told. -/
import Derived.Test.YtincnnmojgphmaaPPx2
import Derived.Test.YtincnnmojgphmaaHMgf
import Derived.Lib.Bytes
set_option linter.unusedVariables false
set_option linter.unusedSimpArgs false
namespace Go.Proofs.Ytincnnmojgphmaa.Q
open Go.RowKit Go.Proofs.Ytincnnmojgphmaa.PP Go.Proofs.Ytincnnmojgphmaa.PT Go.Proofs.Ytincnnmojgphmaa.PS Go.Proofs.YtincnnmojgphmaaW.PrintWords Go.Proofs.YtincnnmojgphmaaW.PrintLast Go.Proofs.YtincnnmojgphmaaW.PrintMore Go.Proofs.Ytincnnmojgphmaa.H Go.Proofs.Ytincnnmojgphmaa.Sha

theorem in_append {n : Nat} {a b : List Int} (ha : inB n a) (hb : inB n b) : inB n (a ++ b) := fun x hx => by
 rcases List.mem_append.1 hx with h | h
 ·exact ha x h
 ·exact hb x h
theorem in_cons {n : Nat} {x : Int} {b : List Int} (hx : 0 ≤ x ∧ x < 2 ^ n) (hb : inB n b) : inB n (x :: b) := fun y hy => by
 rcases List.mem_cons.1 hy with rfl | h
 ·exact hx
 ·exact hb y h
theorem in_zeros (m : Nat) : inB 8 (List.replicate m 0) := fun x hx => by
 have := List.eq_of_mem_replicate hx
 omega
theorem in_take {n m : Nat} {a : List Int} (ha : inB n a) : inB n (a.take m) := fun x hx => ha x (List.mem_of_mem_take hx)
theorem in_drop {n m : Nat} {a : List Int} (ha : inB n a) : inB n (a.drop m) := fun x hx => ha x (List.mem_of_mem_drop hx)
theorem out6_in (l : List Int) : inB 8 (out6 l) := by
 intro x hx
 obtain ⟨y, _, hy⟩ := List.mem_flatMap.1 hx
 obtain ⟨j, _, rfl⟩ := List.mem_map.1 hy
 omega
theorem out5_in (l : List Int) : inB 8 (out5 l) := by
 intro x hx
 obtain ⟨y, _, hy⟩ := List.mem_flatMap.1 hx
 simp only [bytes5, List.mem_cons, List.not_mem_nil, or_false] at hy
 omega
theorem hsum_in (h : Int) (l : List Int) : inB 8 (hsum h l) := by
 unfold hsum
 split
 ·exact out5_in _
 ·split
  ·exact fun x hx => out6_in _ x (List.mem_of_mem_take hx)
  ·exact out6_in _
theorem outI_in (h : Int) (l : List Int) : ∀ i, inB 8 (outI h l i)
 | 0 => fun x hx => by simp [outI] at hx
 | i + 1 => in_append (outI_in h l i) (hsum_in h _)
theorem maskL_in (h : Int) (l : List Int) (n : Nat) : inB 8 (maskL h l n) := in_take (outI_in h l n)
theorem numsL_bytesOf {xs : List Int} (h : inB 8 xs) : (Lib.bytesOf xs).map (fun b => (b.toNat : Int)) = xs := by
 unfold Lib.bytesOf
 rw [List.map_map]
 conv => rhs; rw [← List.map_id xs]
 apply List.map_congr_left
 intro x hx
 have := h x hx
 simp
 omega
theorem str_same {xs ys : List Int} (hx : inB 8 xs) (hy : inB 8 ys) : ((strOfNums xs).toList == (strOfNums ys).toList) = decide (xs = ys) := by
 by_cases e : xs = ys
 ·subst e
  rw [decide_eq_true rfl]
  simp
 ·rw [decide_eq_false e, beq_eq_false_iff_ne, Lib.strOfNums_toList, Lib.strOfNums_toList]
  intro he
  apply e
  rw [← numsL_bytesOf hx, he, numsL_bytesOf hy]

/-- The first byte without its n highest bits. -/
def clr (n : Nat) : List Int → List Int
 | [] => []
 | x :: r => (x % 2 ^ (8 - n)) :: r
theorem clr_length (n : Nat) (l : List Int) : (clr n l).length = l.length := by cases l <;> simp [clr]
theorem clr_drop (n m : Nat) (l : List Int) : (clr n l).drop (m + 1) = l.drop (m + 1) := by cases l <;> simp [clr]
theorem mod_in {x : Int} (n : Nat) (h : 0 ≤ x ∧ x < 256) : 0 ≤ x % 2 ^ n ∧ x % 2 ^ n < 256 ∧ x % 2 ^ n < 2 ^ n := by
 have hp : (0 : Int) < 2 ^ n := Int.pow_pos (by decide)
 have h1 := Int.emod_nonneg x (show (2 : Int) ^ n ≠ 0 by omega)
 have h2 := Int.emod_lt_of_pos x hp
 refine ⟨h1, ?_, h2⟩
 by_cases hx : x < 2 ^ n
 ·rw [Int.emod_eq_of_lt h.1 hx]; omega
 ·omega
theorem clr_in (n : Nat) {l : List Int} (h : inB 8 l) : inB 8 (clr n l) := by
 cases l with
 | nil => exact h
 | cons x r =>
  refine in_cons ?_ (fun y hy => h y (by simp [hy]))
  have := h x (by simp)
  have := mod_in (8 - n) (x := x) (by omega)
  omega
theorem clr_zero {l : List Int} (h : inB 8 l) : clr 0 l = l := by
 cases l with
 | nil => rfl
 | cons x r =>
  have := h x (by simp)
  show x % 2 ^ 8 :: r = x :: r
  rw [Int.emod_eq_of_lt this.1 this.2]
theorem xor_mod (x y : Int) (n : Nat) (hx : 0 ≤ x ∧ x < 256) (hy : 0 ≤ y ∧ y < 256) :
  Go.bits .xor .u8 (Go.bits .xor .u8 x y % 2 ^ n) y % 2 ^ n = x % 2 ^ n := by
 have h2 := xor_u8_in x y hx hy
 have h3 := mod_in n h2
 obtain ⟨a, rfl⟩ : ∃ a : Nat, x = (a : Int) := ⟨x.toNat, by omega⟩
 obtain ⟨b, rfl⟩ : ∃ b : Nat, y = (b : Int) := ⟨y.toNat, by omega⟩
 rw [u8_xor _ _ h3.1 h3.2.1 hy.1 hy.2, u8_xor _ _ hx.1 hx.2 hy.1 hy.2]
 have e1 : (((Int.toNat (a : Int) ^^^ Int.toNat (b : Int) : Nat) : Int) % 2 ^ n).toNat = (a ^^^ b) % 2 ^ n := by
  rw [Int.toNat_natCast, Int.toNat_natCast, show ((2 : Int) ^ n) = ((2 ^ n : Nat) : Int) by simp, ← Int.natCast_emod, Int.toNat_natCast]
 rw [e1, Int.toNat_natCast, show ((2 : Int) ^ n) = ((2 ^ n : Nat) : Int) by simp, ← Int.natCast_emod, ← Int.natCast_emod]
 congr 1
 rw [Nat.xor_mod_two_pow, Nat.mod_mod, Nat.xor_mod_two_pow, Nat.xor_assoc, Nat.xor_self, Nat.xor_zero]
theorem clr_xor (n : Nat) : ∀ (a M : List Int), inB 8 a → inB 8 M → clr n (xorL (clr n (xorL a M)) M) = clr n a
 | [], M, _, _ => rfl
 | x :: a, [], ha, _ => by
  simp only [xorL_nil, clr]
  rw [Int.emod_emod]
 | x :: a, y :: M, ha, hM => by
  simp only [xorL, clr]
  rw [xor_mod x y _ (by have := ha x (by simp); omega) (by have := hM y (by simp); omega), xorL_back a M (fun u hu => ha u (by simp [hu])) (fun u hu => hM u (by simp [hu]))]
theorem xor_drop (n m : Nat) : ∀ (a M : List Int), inB 8 a → inB 8 M → (xorL (clr n (xorL a M)) M).drop (m + 1) = a.drop (m + 1)
 | [], M, _, _ => rfl
 | x :: a, [], ha, _ => by simp [xorL_nil, clr]
 | x :: a, y :: M, ha, hM => by
  simp only [xorL, clr, List.drop_succ_cons]
  rw [xorL_back a M (fun u hu => ha u (by simp [hu])) (fun u hu => hM u (by simp [hu]))]
theorem clr_fix {n : Nat} (hn : n ≤ 7) {x : Int} (r : List Int) (h : 0 ≤ x ∧ x < 256) : clr n (x :: r) = x :: r ↔ x / 2 ^ (8 - n) = 0 := by
 have hp : (0 : Int) < 2 ^ (8 - n) := Int.pow_pos (by decide)
 simp only [clr, List.cons.injEq, and_true]
 constructor
 ·intro e
  have h2 := Int.emod_lt_of_pos x hp
  exact Int.ediv_eq_zero_of_lt h.1 (by omega)
 ·intro e
  have := Int.emod_add_mul_ediv x (2 ^ (8 - n))
  rw [e] at this
  omega
theorem clr_db {n : Nat} (hn : n ≤ 7) (m : Nat) (S : List Int) : clr n (List.replicate m 0 ++ 1 :: S) = List.replicate m 0 ++ 1 :: S := by
 cases m with
 | zero =>
  show (1 : Int) % 2 ^ (8 - n) :: S = _
  have : (1 : Int) % 2 ^ (8 - n) = 1 := by
   obtain ⟨j, hj⟩ : ∃ j, 8 - n = j + 1 := ⟨7 - n, by omega⟩
   rw [hj]
   refine Int.emod_eq_of_lt (by decide) ?_
   have : (0 : Int) < 2 ^ j := Int.pow_pos (by decide)
   rw [Int.pow_succ]
   omega
  rw [this]
  rfl
 | succ m => simp [List.replicate_succ, clr]

/-- The hash of a message and a salt; what stands ahead of it; the whole. -/
def dig (h : Int) (m S : List Int) : List Int := hsum h (List.replicate 8 0 ++ hsum h m ++ S)
def dbL (room : Nat) (S : List Int) : List Int := List.replicate room 0 ++ 1 :: S
theorem dbL_length (room : Nat) (S : List Int) : (dbL room S).length = room + 1 + S.length := by simp [dbL]; omega
theorem dbL_in (room : Nat) {S : List Int} (h : inB 8 S) : inB 8 (dbL room S) := in_append (in_zeros _) (in_cons (by decide) h)
def emL (h : Int) (m : List Int) (sp room : Nat) (S : List Int) : List Int :=
 clr sp (xorL (dbL room S) (maskL h (dig h m S) (room + 1 + S.length))) ++ dig h m S ++ [188]
theorem dig_length (h : Int) (m S : List Int) : (dig h m S).length = hlen h := hsum_length _ _
theorem emL_length (h : Int) (m : List Int) (sp room : Nat) (S : List Int) : (emL h m sp room S).length = room + S.length + hlen h + 2 := by
 simp only [emL, List.length_append, clr_length, xorL_length, dbL_length, dig_length, List.length_cons, List.length_nil]; omega
theorem emL_in (h : Int) (m : List Int) (sp room : Nat) {S : List Int} (hS : inB 8 S) : inB 8 (emL h m sp room S) :=
 in_append (in_append (clr_in _ (xorL_in _ _ (dbL_in _ hS) (maskL_in _ _ _))) (hsum_in _ _)) (in_cons (by decide) (fun x hx => by simp at hx))
theorem dbL_inj {r1 r2 : Nat} {S1 S2 : List Int} (h : dbL r1 S1 = dbL r2 S2) : r1 = r2 ∧ S1 = S2 := by
 induction r1 generalizing r2 with
 | zero =>
  cases r2 with
  | zero => simpa [dbL] using h
  | succ r2 => simp [dbL, List.replicate_succ] at h
 | succ r1 ih =>
  cases r2 with
  | zero => simp [dbL, List.replicate_succ] at h
  | succ r2 =>
   simp only [dbL, List.replicate_succ, List.cons_append, List.cons.injEq, true_and] at h
   obtain ⟨a, b⟩ := ih h
   exact ⟨by omega, b⟩
/-- Equal texts have equal salts. -/
theorem emL_inj {h : Int} {m : List Int} {sp r1 r2 : Nat} {S1 S2 : List Int} (hsp : sp ≤ 7) (h1 : inB 8 S1) (h2 : inB 8 S2) (hl : r1 + S1.length = r2 + S2.length)
  (e : emL h m sp r1 S1 = emL h m sp r2 S2) : r1 = r2 ∧ S1 = S2 := by
 unfold emL at e
 have hll : ∀ r S, (clr sp (xorL (dbL r S) (maskL h (dig h m S) (r + 1 + S.length)))).length = r + 1 + S.length := fun r S => by rw [clr_length, xorL_length, dbL_length]
 rw [List.append_assoc, List.append_assoc] at e
 obtain ⟨e1, e2⟩ := List.append_inj e (by rw [hll, hll]; omega)
 obtain ⟨e3, _⟩ := List.append_inj e2 (by rw [dig_length, dig_length])
 rw [e3, show r1 + 1 + S1.length = r2 + 1 + S2.length by omega] at e1
 have f1 := clr_xor sp (dbL r1 S1) (maskL h (dig h m S2) (r2 + 1 + S2.length)) (dbL_in _ h1) (maskL_in _ _ _)
 have f2 := clr_xor sp (dbL r2 S2) (maskL h (dig h m S2) (r2 + 1 + S2.length)) (dbL_in _ h2) (maskL_in _ _ _)
 rw [e1, f2] at f1
 unfold dbL at f1
 rw [clr_db hsp, clr_db hsp] at f1
 exact dbL_inj f1.symm
end Go.Proofs.Ytincnnmojgphmaa.Q

set_option linter.unusedVariables false
set_option linter.unusedSimpArgs false
namespace Go.Proofs.Ytincnnmojgphmaa.Q
open Go.RowKit Go.Proofs.Ytincnnmojgphmaa.PP Go.Proofs.Ytincnnmojgphmaa.PT Go.Proofs.Ytincnnmojgphmaa.PS Go.Proofs.YtincnnmojgphmaaW.PrintWords Go.Proofs.YtincnnmojgphmaaW.PrintLast Go.Proofs.YtincnnmojgphmaaW.PrintMore Go.Proofs.Ytincnnmojgphmaa.H Go.Proofs.Ytincnnmojgphmaa.Sha

theorem not_step : ∀ (x : Fin 256) (i : Fin 8), Go.bits .andNot .u8 ((x.val : Int) % 2 ^ (8 - i.val)) (shr .u8 128 (i.val : Int)) = (x.val : Int) % 2 ^ (7 - i.val) := by decide +kernel
theorem masked_loop (x : Int) (r : List Int) (hx : 0 ≤ x ∧ x < 256) (n : Nat) (hn : n ≤ 7) : ∀ (d i k : Nat), i + d = n → d < k →
  pss_masked.l0 k (clr i (x :: r)) (n : Int) (i : Int) = some (clr n (x :: r)) := by
 intro d
 induction d with
 | zero =>
  intro i k hi hk
  obtain ⟨k, rfl⟩ : ∃ j, k = j + 1 := ⟨k - 1, by omega⟩
  unfold pss_masked.l0
  rw [if_neg (by omega), show i = n by omega]
 | succ d ih =>
  intro i k hi hk
  obtain ⟨k, rfl⟩ : ∃ j, k = j + 1 := ⟨k - 1, by omega⟩
  have hw : wrap64 ((i : Int) + 1) = ((i + 1 : Nat) : Int) := by unfold wrap64; omega
  have h1 := ih (i + 1) k (by omega) (by omega)
  have h2 := not_step ⟨x.toNat, by omega⟩ ⟨i, by omega⟩
  simp only [show ((x.toNat : Nat) : Int) = x by omega] at h2
  have h3 : rd (clr i (x :: r)) 0 = x % 2 ^ (8 - i) := rfl
  have h4 : (clr i (x :: r)).set (0 : Int).toNat (x % 2 ^ (7 - i)) = clr (i + 1) (x :: r) := by
   show (x % 2 ^ (7 - i)) :: r = (x % 2 ^ (8 - (i + 1))) :: r
   rw [show 8 - (i + 1) = 7 - i by omega]
  unfold pss_masked.l0
  rw [if_pos (by omega), if_pos (by rw [clr_length]; simp), if_pos (by omega), h3, h2, h4, hw]
  exact h1
theorem masked_at {h : Int} (hh : h = 1 ∨ h = 2 ∨ h = 3) (a x : List Int) (ha : inB 8 a) (hx : inB 8 x) (hl : x.length ≤ 64) (n : Nat) (hn : n ≤ 7) (hn0 : a ≠ []) (hal : a.length ≤ 2000) (k : Nat) (hk : 3000 < k) :
  pss_masked.f k h a x (n : Int) = some (clr n (xorL a (maskL h x a.length))) := by
 unfold pss_masked.f mgf_Mask.f
 rw [if_pos ⟨hx, by omega⟩, if_pos hh, if_neg (by omega), if_neg (by omega), Option.bind_some, Int.toNat_natCast]
 show ((mgf_Xor.f k a (maskL h x a.length)).bind fun t120 => pss_masked.l0 k t120 (n : Int) 0) = _
 rw [xor_at a _ (by omega) k (by omega), Option.bind_some]
 have hB := xorL_in a (maskL h x a.length) ha (maskL_in _ _ _)
 have hL := xorL_length a (maskL h x a.length)
 generalize xorL a (maskL h x a.length) = z at hB hL
 cases z with
 | nil => exact absurd (List.eq_nil_of_length_eq_zero hL.symm) hn0
 | cons y r =>
  have := masked_loop y r (by have := hB y (by simp); omega) n hn n 0 k (by omega) (by omega)
  rw [clr_zero hB] at this
  exact this
theorem digest_at {h : Int} (hh : h = 1 ∨ h = 2 ∨ h = 3) (m S : List Int) (hm : inB 8 m) (hS : inB 8 S) (hml : m.length ≤ 1100) (hSl : S.length ≤ 1100) : pss_digest.f h m S = some (dig h m S) := by
 have hd := hsum_length h m
 have h64 := H.hlen_le h
 have hlen : (List.replicate 8 (0 : Int) ++ hsum h m ++ S).length = 8 + H.hlen h + S.length := by simp only [List.length_append, List.length_replicate, hd]
 unfold pss_digest.f
 rw [sum_at h hh m hm (by omega), Option.bind_some, if_pos (by decide)]
 unfold concat3.f
 rw [if_pos (by rw [hd, List.length_replicate]; omega), Option.bind_some]
 rw [sum_at h hh _ (in_append (in_append (in_zeros 8) (hsum_in _ _)) hS) (by rw [hlen]; omega), Option.bind_some]
 rfl
/-- Encode and the reference's Salted. -/
def encV (h : Int) (m : List Int) (bits : Int) (S : List Int) : List Int × Int :=
 if h = 1 ∨ h = 2 ∨ h = 3 then
  (if bits < 1 ∨ bits > 8192 then ([], 1) else
   if (bits.toNat + 7) / 8 < H.hlen h + 2 + S.length then ([], 232) else
    (emL h m (8 * ((bits.toNat + 7) / 8) - bits.toNat) ((bits.toNat + 7) / 8 - (H.hlen h + 2 + S.length)) S, 0))
 else ([], 130)
theorem size_at {h : Int} (hh : h = 1 ∨ h = 2 ∨ h = 3) : hash_Size.f h = some (H.hlen h : Int) := by
 rcases hh with rfl | rfl | rfl <;> rfl
theorem size_no {h : Int} (hh : ¬ (h = 1 ∨ h = 2 ∨ h = 3)) : hash_Size.f h = some 0 := by
 unfold hash_Size.f
 rw [if_neg (by omega), if_neg (by omega), if_neg (by omega)]
theorem n_at {b N : Nat} (hb : b ≤ 8192) (hN : N = (b + 7) / 8) : wrap64 (Int.tdiv (wrap64 ((b : Int) + 7)) 8) = (N : Int) := by
 have h1 : wrap64 ((b : Int) + 7) = ((b + 7 : Nat) : Int) := by unfold wrap64; omega
 rw [h1, show (8 : Int) = ((8 : Nat) : Int) from rfl, ← Int.ofNat_tdiv]
 have h2 : ((b + 7) / 8 : Nat) = N := hN.symm
 rw [h2]
 unfold wrap64
 omega
theorem sp_at {b N : Nat} (hb : b ≤ 8192) (h1 : 1 ≤ b) (hN : N = (b + 7) / 8) : wrap64 (wrap64 (8 * (N : Int)) - (b : Int)) = ((8 * N - b : Nat) : Int) := by
 unfold wrap64; omega
theorem encode_at (h : Int) (m : List Int) (bits : Int) (S : List Int) (hm : inB 8 m) (hS : inB 8 S) (hml : m.length ≤ 1100) (hSl : S.length ≤ 1100) (k : Nat) (hk : 3000 < k) :
  pss_Encode.f k h m bits S = some (encV h m bits S) := by
 unfold pss_Encode.f encV
 by_cases hh : ¬ (h = 1 ∨ h = 2 ∨ h = 3)
 ·rw [size_no hh, Option.bind_some, if_pos rfl, if_neg hh]
 replace hh := Classical.not_not.1 hh
 have h32 := H.hlen_pos h
 have h64 := H.hlen_le h
 rw [size_at hh, Option.bind_some, if_neg (by omega), if_pos hh]
 by_cases h1 : bits < 1
 ·rw [if_pos h1, if_pos (.inl h1)]
 by_cases h2 : bits > 8192
 ·rw [if_neg h1, if_pos h2, if_pos (.inr h2)]
 rw [if_neg h1, if_neg h2]
 obtain ⟨b, rfl⟩ : ∃ b : Nat, bits = (b : Int) := ⟨bits.toNat, by omega⟩
 rw [if_neg (show ¬ ((b : Int) < 1 ∨ (b : Int) > 8192) by omega)]
 obtain ⟨N, hN⟩ : ∃ N, N = (b + 7) / 8 := ⟨_, rfl⟩
 rw [n_at (by omega) hN, sp_at (by omega) (by omega) hN, Int.toNat_natCast, ← hN]
 obtain ⟨s, hs⟩ : ∃ s, s = H.hlen h := ⟨_, rfl⟩
 have hsp : 8 * N - b ≤ 7 := by omega
 by_cases h3 : N < s + 2 + S.length
 ·rw [if_pos (by rw [← hs]; unfold wrap64; omega), if_pos (by rw [← hs]; exact h3)]
 obtain ⟨room, hroom⟩ : ∃ r, r = N - (s + 2 + S.length) := ⟨_, rfl⟩
 have hw : wrap64 (wrap64 (wrap64 ((N : Int) - (H.hlen h : Int)) - 2) - (S.length : Int)) = (room : Int) := by rw [← hs]; unfold wrap64; omega
 rw [hw, if_neg (by omega), if_neg (by rw [← hs]; exact h3), ← hs, ← hroom, digest_at hh m S hm hS hml hSl, Option.bind_some, if_pos (by omega), Int.toNat_natCast, if_pos (by omega)]
 have hdl := dig_length h m S
 have hdin : inB 8 (dig h m S) := hsum_in _ _
 have hdb : List.replicate room (0 : Int) ++ [1] ++ S = dbL room S := by simp [dbL]
 have hdbl := dbL_length room S
 have e1 : concat3.f (List.replicate room 0) [1] S = some (dbL room S) := by
  unfold concat3.f
  rw [if_pos (by simp; omega), hdb]
 rw [e1, Option.bind_some, masked_at hh (dbL room S) (dig h m S) (dbL_in room hS) hdin (by rw [hdl]; omega) _ hsp (by simp [dbL]) (by rw [hdbl]; omega) k hk, Option.bind_some]
 have hml2 : (clr (8 * N - b) (xorL (dbL room S) (maskL h (dig h m S) (dbL room S).length))).length = room + 1 + S.length := by rw [clr_length, xorL_length, hdbl]
 unfold concat3.f
 rw [if_pos (by rw [hml2, hdl, ← hs]; simp; omega), Option.bind_some]
 unfold emL
 rw [hdbl]
end Go.Proofs.Ytincnnmojgphmaa.Q

set_option linter.unusedVariables false
set_option linter.unusedSimpArgs false
namespace Go.Proofs.Ytincnnmojgphmaa.Q
open Go.RowKit Go.Proofs.Ytincnnmojgphmaa.PP Go.Proofs.Ytincnnmojgphmaa.PT Go.Proofs.Ytincnnmojgphmaa.PS Go.Proofs.YtincnnmojgphmaaW.PrintWords Go.Proofs.YtincnnmojgphmaaW.PrintLast Go.Proofs.YtincnnmojgphmaaW.PrintMore Go.Proofs.Ytincnnmojgphmaa.H Go.Proofs.Ytincnnmojgphmaa.Sha

/-- What Holds and Verify tell. -/
def saltOf (h : Int) (em : List Int) (N t : Nat) : List Int :=
 (xorL (em.take (N - hlen h - 1)) (maskL h ((em.take (N - 1)).drop (N - hlen h - 1)) (N - hlen h - 1))).drop (N - hlen h - 1 - t)
def okArgs (h : Int) (em : List Int) (bits salt : Int) : Prop := (h = 1 ∨ h = 2 ∨ h = 3) ∧ 1 ≤ bits ∧ bits ≤ 8192 ∧ em.length = (bits.toNat + 7) / 8 ∧ 0 ≤ salt ∧ salt.toNat + hlen h + 2 ≤ (bits.toNat + 7) / 8
instance (h : Int) (em : List Int) (bits salt : Int) : Decidable (okArgs h em bits salt) := by unfold okArgs; infer_instance
def verV (h : Int) (m em : List Int) (bits salt : Int) : Bool :=
 if okArgs h em bits salt then
  decide (emL h m (8 * ((bits.toNat + 7) / 8) - bits.toNat) ((bits.toNat + 7) / 8 - (hlen h + 2 + salt.toNat)) (saltOf h em ((bits.toNat + 7) / 8) salt.toNat) = em)
 else false
theorem saltOf_length (h : Int) (em : List Int) (N t : Nat) (hl : em.length = N) (ht : t + hlen h + 2 ≤ N) : (saltOf h em N t).length = t := by
 unfold saltOf
 rw [List.length_drop, xorL_length, List.length_take]
 omega
theorem saltOf_in (h : Int) (em : List Int) (N t : Nat) (hB : inB 8 em) : inB 8 (saltOf h em N t) := in_drop (xorL_in _ _ (in_take hB) (maskL_in _ _ _))
end Go.Proofs.Ytincnnmojgphmaa.Q

set_option linter.unusedVariables false
set_option linter.unusedSimpArgs false
namespace Go.Proofs.Ytincnnmojgphmaa.Q
open Go.RowKit Go.Proofs.Ytincnnmojgphmaa.PP Go.Proofs.Ytincnnmojgphmaa.PT Go.Proofs.Ytincnnmojgphmaa.PS Go.Proofs.YtincnnmojgphmaaW.PrintWords Go.Proofs.YtincnnmojgphmaaW.PrintLast Go.Proofs.YtincnnmojgphmaaW.PrintMore Go.Proofs.Ytincnnmojgphmaa.H Go.Proofs.Ytincnnmojgphmaa.Sha

/-- Verify's tests. -/
def Tests (h : Int) (m em : List Int) (sp N t : Nat) : Prop :=
 rd em ((N - 1 : Nat) : Int) = 188 ∧ rd em 0 / 2 ^ (8 - sp) = 0 ∧
 (let db := clr sp (xorL (em.take (N - hlen h - 1)) (maskL h ((em.take (N - 1)).drop (N - hlen h - 1)) (N - hlen h - 1)))
 rd db ((N - (hlen h + 2 + t) : Nat) : Int) = 1 ∧ db.take (N - (hlen h + 2 + t)) = List.replicate (N - (hlen h + 2 + t)) 0 ∧
 dig h m (db.drop (N - (hlen h + 2 + t) + 1)) = (em.take (N - 1)).drop (N - hlen h - 1))
instance (h : Int) (m em : List Int) (sp N t : Nat) : Decidable (Tests h m em sp N t) := by unfold Tests; infer_instance
theorem tests_iff {h : Int} (m em : List Int) (sp N t : Nat) (he : inB 8 em) (hsp : sp ≤ 7) (hel : em.length = N) (ht : t + hlen h + 2 ≤ N) :
  Tests h m em sp N t ↔ emL h m sp (N - (hlen h + 2 + t)) (saltOf h em N t) = em := by
 have h32 := H.hlen_pos h
 have hsl := saltOf_length h em N t hel ht
 have hsi := saltOf_in h em N t he
 unfold Tests
 obtain ⟨s, hs⟩ : ∃ s, s = H.hlen h := ⟨_, rfl⟩
 rw [← hs]
 obtain ⟨room, hroom⟩ : ∃ r, r = N - (s + 2 + t) := ⟨_, rfl⟩
 rw [← hroom]
 have hL : N - s - 1 = room + 1 + t := by omega
 have hsalt : saltOf h em N t = (xorL (em.take (N - s - 1)) (maskL h ((em.take (N - 1)).drop (N - s - 1)) (N - s - 1))).drop (room + 1) := by
  unfold saltOf
  rw [← hs, show N - s - 1 - t = room + 1 by omega]
 -- the text's three parts
 obtain ⟨A, hA⟩ : ∃ A, A = em.take (N - s - 1) := ⟨_, rfl⟩
 obtain ⟨X, hX⟩ : ∃ X, X = (em.take (N - 1)).drop (N - s - 1) := ⟨_, rfl⟩
 have hAl : A.length = room + 1 + t := by rw [hA, List.length_take]; omega
 have hXl : X.length = s := by rw [hX, List.length_drop, List.length_take]; omega
 have hAi : inB 8 A := by rw [hA]; exact in_take he
 have hlast : em.drop (N - 1) = [rd em ((N - 1 : Nat) : Int)] := by
  have hlt : N - 1 < em.length := by omega
  rw [List.drop_eq_getElem_cons hlt, rd_at hlt, List.drop_eq_nil_of_le (by omega)]
 have hem : em = A ++ X ++ [rd em ((N - 1 : Nat) : Int)] := by
  rw [← hlast, hA, hX]
  conv => lhs; rw [← List.take_append_drop (N - 1) em]
  congr 1
  conv => lhs; rw [← List.take_append_drop (N - s - 1) (em.take (N - 1))]
  rw [List.take_take, Nat.min_eq_left (by omega)]
 rw [← hA, ← hX, hL] at hsalt
 rw [← hA, ← hX, hL]
 obtain ⟨M, hM⟩ : ∃ M, M = maskL h X (room + 1 + t) := ⟨_, rfl⟩
 have hMi : inB 8 M := by rw [hM]; exact maskL_in _ _ _
 rw [← hM] at hsalt
 rw [← hM]
 have hAne : ∃ a r, A = a :: r := by
  cases A with
  | nil => simp at hAl; omega
  | cons a r => exact ⟨a, r, rfl⟩
 have hrd0 : rd em 0 / 2 ^ (8 - sp) = 0 ↔ clr sp A = A := by
  obtain ⟨a, r, ea⟩ := hAne
  have ha := hAi a (by rw [ea]; simp)
  have e0 : rd em 0 = a := by rw [hem, ea]; rfl
  rw [e0, ea]
  exact (clr_fix hsp r ha).symm
 have hdbdrop : (clr sp (xorL A M)).drop (room + 1) = saltOf h em N t := by rw [clr_drop, hsalt]
 have hdbl : (clr sp (xorL A M)).length = room + 1 + t := by rw [clr_length, xorL_length, hAl]
 have hdb : (rd (clr sp (xorL A M)) (room : Int) = 1 ∧ (clr sp (xorL A M)).take room = List.replicate room 0) ↔ clr sp (xorL A M) = dbL room (saltOf h em N t) := by
  have hlt : room < (clr sp (xorL A M)).length := by omega
  rw [rd_at hlt]
  constructor
  ·rintro ⟨e1, e2⟩
   conv => lhs; rw [← List.take_append_drop room (clr sp (xorL A M)), List.drop_eq_getElem_cons hlt, e1, e2, hdbdrop]
   rfl
  ·intro e
   refine ⟨?_, ?_⟩
   ·have : (dbL room (saltOf h em N t))[room]'(by rw [dbL_length]; omega) = 1 := by
     unfold dbL
     rw [List.getElem_append_right (by simp)]
     simp
    rw [← this]
    congr 1
   ·rw [e]
    unfold dbL
    rw [List.take_left' (by simp)]
 rw [hrd0]
 dsimp only
 rw [hdbdrop]
 constructor
 ·rintro ⟨h1, h2, h3, h4, h5⟩
  have e := hdb.1 ⟨h3, h4⟩
  unfold emL
  rw [h5, hsl, ← hM, ← e, clr_xor sp A M hAi hMi, h2]
  rw [h1] at hem
  exact hem.symm
 ·intro e
  unfold emL at e
  rw [hsl] at e
  have e0 := e.trans hem
  obtain ⟨e1, e2⟩ := List.append_inj' e0 rfl
  obtain ⟨e3, e4⟩ := List.append_inj e1 (by rw [clr_length, xorL_length, dbL_length, hsl, hAl])
  have e5 : rd em ((N - 1 : Nat) : Int) = 188 := by simpa using e2.symm
  rw [e4, ← hM] at e3
  have e6 : clr sp A = A := by
   rw [← e3]
   have hz := xorL_in _ _ (dbL_in room hsi) hMi
   cases hq : xorL (dbL room (saltOf h em N t)) M with
   | nil => rfl
   | cons x r => simp only [clr, Int.emod_emod]
  have e7 : clr sp (xorL A M) = dbL room (saltOf h em N t) := by
   rw [← e3, clr_xor sp _ M (dbL_in room hsi) hMi]
   exact clr_db hsp _ _
  obtain ⟨g1, g2⟩ := hdb.2 e7
  exact ⟨e5, e6, g1, g2, e4⟩

theorem shr8 (x : Int) (hx : 0 ≤ x ∧ x < 256) (n : Nat) (hn : n ≤ 64) : shr .i64 (wrap64 x) (n : Int) = x / 2 ^ n := by
 have hw : wrap64 x = x := by unfold wrap64; omega
 unfold shr
 rw [hw, Int.toNat_natCast, Nat.min_eq_left (show n ≤ IntKind.i64.bits from hn)]
theorem rd_in {l : List Int} (h : inB 8 l) (i : Int) : 0 ≤ rd l i ∧ rd l i < 256 := by
 unfold rd
 by_cases hi : i.toNat < l.length
 ·have e : l.getD i.toNat 0 = l[i.toNat] := by simp [hi]
  rw [e]
  exact h _ (List.getElem_mem hi)
 ·have e : l.getD i.toNat 0 = 0 := by simp [List.getElem?_eq_none (show l.length ≤ i.toNat by omega)]
  rw [e]
  omega
theorem verify_j2 {h : Int} (hh : h = 1 ∨ h = 2 ∨ h = 3) (m db X : List Int) (room : Nat) (hm : inB 8 m) (hml : m.length ≤ 1100) (hdb : inB 8 db) (hX : inB 8 X) (hdl : db.length ≤ 1100) (hr : room + 1 ≤ db.length) (K : Nat) (z : Bool) :
  pss_Verify.j2 (K + 1) h m (room : Int) X db z = some (!z && decide (dig h m (db.drop (room + 1)) = X)) := by
 unfold pss_Verify.j2
 (try dsimp only)
 cases z with
 | true => rw [if_pos rfl]; rfl
 | false =>
  have w1 : wrap64 ((room : Int) + 1) = ((room + 1 : Nat) : Int) := by unfold wrap64; omega
  rw [if_neg (by decide), w1, if_pos (by omega), if_pos (by omega), Int.toNat_natCast, digest_at hh m _ hm (in_drop hdb) hml (by rw [List.length_drop]; omega), Option.bind_some]
  unfold bytes_Equal.f
  rw [Option.bind_some, str_same (show inB 8 (dig h m (db.drop (room + 1))) from hsum_in _ _) hX]
  rfl
theorem verify_j1 {h : Int} (hh : h = 1 ∨ h = 2 ∨ h = 3) (m em : List Int) (b N t : Nat) (hm : inB 8 m) (he : inB 8 em) (hml : m.length ≤ 1100) (hb1 : 1 ≤ b) (hb2 : b ≤ 8192) (hN : N = (b + 7) / 8) (hel : em.length = N) (ht : t + hlen h + 2 ≤ N) (K : Nat) (hK : 30000 < K) (z : Bool) (hz : z = (rd em ((N - 1 : Nat) : Int) != 188)) :
  pss_Verify.j1 (K + 1) h m em (b : Int) (hlen h : Int) (N : Int) ((N - (hlen h + 2 + t) : Nat) : Int) z = some (decide (Tests h m em (8 * N - b) N t)) := by
 have h32 := H.hlen_pos h
 have h64 := H.hlen_le h
 have hsp : 8 * N - b ≤ 7 := by omega
 unfold pss_Verify.j1
 (try dsimp only)
 by_cases h1 : ¬ (rd em ((N - 1 : Nat) : Int) = 188)
 ·rw [hz, bne_iff_ne.mpr h1, if_pos rfl, decide_eq_false (fun x => h1 x.1)]
 replace h1 := Classical.not_not.1 h1
 rw [hz, bne_eq_false_iff_eq.mpr h1, if_neg (by decide)]
 obtain ⟨s, hs⟩ : ∃ s, s = H.hlen h := ⟨_, rfl⟩
 rw [← hs]
 have w1 : wrap64 (wrap64 ((N : Int) - 1) - (s : Int)) = ((N - s - 1 : Nat) : Int) := by unfold wrap64; omega
 have w2 : wrap64 ((N : Int) - 1) = ((N - 1 : Nat) : Int) := by unfold wrap64; omega
 have w3 : wrap64 (8 - ((8 * N - b : Nat) : Int)) = ((8 - (8 * N - b) : Nat) : Int) := by unfold wrap64; omega
 rw [sp_at hb2 hb1 hN, w1, w2, w3, if_pos (by omega), if_pos (by omega), if_pos (by omega), if_pos (by omega), if_pos (by omega)]
 have h0 := rd_in he 0
 rw [shr8 _ h0 _ (by omega)]
 have hq := Int.ediv_nonneg h0.1 (show (0 : Int) ≤ 2 ^ (8 - (8 * N - b)) from Int.le_of_lt (Int.pow_pos (by decide)))
 by_cases h2 : ¬ (rd em 0 / 2 ^ (8 - (8 * N - b)) = 0)
 ·rw [if_pos (by omega), decide_eq_false (fun x => h2 x.2.1)]
 replace h2 := Classical.not_not.1 h2
 rw [if_neg (by omega), if_pos (by omega)]
 simp only [Int.toNat_natCast]
 have hL : (em.take (N - s - 1)).length = N - s - 1 := by rw [List.length_take]; omega
 have hXl : ((em.take (N - 1)).drop (N - s - 1)).length = s := by rw [List.length_drop, List.length_take]; omega
 rw [masked_at hh (em.take (N - s - 1)) ((em.take (N - 1)).drop (N - s - 1)) (in_take he) (in_drop (in_take he)) (by rw [hXl]; omega) _ hsp (fun e => by rw [e] at hL; simp at hL; omega) (by rw [hL]; omega) K (by omega), Option.bind_some, hL]
 have hT : Tests h m em (8 * N - b) N t ↔ rd (clr (8 * N - b) (xorL (em.take (N - s - 1)) (maskL h ((em.take (N - 1)).drop (N - s - 1)) (N - s - 1)))) ((N - (s + 2 + t) : Nat) : Int) = 1 ∧ (clr (8 * N - b) (xorL (em.take (N - s - 1)) (maskL h ((em.take (N - 1)).drop (N - s - 1)) (N - s - 1)))).take (N - (s + 2 + t)) = List.replicate (N - (s + 2 + t)) 0 ∧ dig h m ((clr (8 * N - b) (xorL (em.take (N - s - 1)) (maskL h ((em.take (N - 1)).drop (N - s - 1)) (N - s - 1)))).drop (N - (s + 2 + t) + 1)) = (em.take (N - 1)).drop (N - s - 1) := by
  unfold Tests
  rw [← hs]
  exact ⟨fun x => x.2.2, fun x => ⟨h1, h2, x⟩⟩
 have hdi := clr_in (8 * N - b) (xorL_in _ _ (in_take (m := N - s - 1) he) (maskL_in h ((em.take (N - 1)).drop (N - s - 1)) (N - s - 1)))
 have hdl : (clr (8 * N - b) (xorL (em.take (N - s - 1)) (maskL h ((em.take (N - 1)).drop (N - s - 1)) (N - s - 1)))).length = N - s - 1 := by rw [clr_length, xorL_length, hL]
 have hXi : inB 8 ((em.take (N - 1)).drop (N - s - 1)) := in_drop (in_take he)
 generalize clr (8 * N - b) (xorL (em.take (N - s - 1)) (maskL h ((em.take (N - 1)).drop (N - s - 1)) (N - s - 1))) = db at hT hdi hdl ⊢
 generalize (em.take (N - 1)).drop (N - s - 1) = X at hT hXi ⊢
 obtain ⟨room, hroom⟩ : ∃ r, r = N - (s + 2 + t) := ⟨_, rfl⟩
 rw [← hroom] at hT ⊢
 obtain ⟨K, rfl⟩ : ∃ j, K = j + 1 := ⟨K - 1, by omega⟩
 rw [if_pos (by omega), if_pos (by omega)]
 by_cases h3 : ¬ (rd db (room : Int) = 1)
 ·rw [if_neg h3, verify_j2 hh m db X room hm hml hdi hXi (by omega) (by omega) K true, decide_eq_false (fun x => h3 (hT.1 x).1)]
  rfl
 replace h3 := Classical.not_not.1 h3
 rw [if_pos h3, if_pos (by omega), if_pos (by omega)]
 unfold bytes_Equal.f
 rw [Option.bind_some, str_same (in_take hdi) (in_zeros _), verify_j2 hh m db X room hm hml hdi hXi (by omega) (by omega) K]
 congr 1
 rw [Bool.not_not, ← Bool.decide_and]
 apply decide_eq_decide.mpr
 rw [hT]
 exact ⟨fun x => ⟨h3, x.1, x.2⟩, fun x => ⟨x.2.1, x.2.2⟩⟩

theorem verify_yes0 (K : Nat) (h : Int) (m em : List Int) (bits salt s : Int) (b : Bool) (hb : b = true) : pss_Verify.j0 (K + 1) h m em bits salt s b = some false := by
 subst hb
 unfold pss_Verify.j0
 (try dsimp only)
 rw [if_pos rfl]
theorem verify_yes1 (K : Nat) (h : Int) (m em : List Int) (bits s n r : Int) : pss_Verify.j1 (K + 1) h m em bits s n r true = some false := by
 unfold pss_Verify.j1
 (try dsimp only)
 rw [if_pos rfl]
theorem verify_at (h : Int) (m em : List Int) (bits salt : Int) (hm : inB 8 m) (he : inB 8 em) (hml : m.length ≤ 1100) (hel : em.length ≤ 1100) (k : Nat) (hk : 30003 < k) :
  pss_Verify.f k h m em bits salt = some (verV h m em bits salt) := by
 obtain ⟨k, rfl⟩ : ∃ j, k = j + 1 := ⟨k - 1, by omega⟩
 unfold pss_Verify.f verV
 by_cases hh : ¬ (h = 1 ∨ h = 2 ∨ h = 3)
 ·rw [size_no hh, Option.bind_some, if_pos rfl, verify_yes0 _ _ _ _ _ _ _ _ rfl, if_neg (fun x => hh x.1)]
 replace hh := Classical.not_not.1 hh
 have h32 := H.hlen_pos h
 have h64 := H.hlen_le h
 rw [size_at hh, Option.bind_some, if_neg (by omega)]
 by_cases h1 : bits < 1
 ·rw [if_pos h1, verify_yes0 _ _ _ _ _ _ _ _ rfl, if_neg (fun x => by have := x.2.1; omega)]
 by_cases h2 : bits > 8192
 ·rw [if_neg h1, if_pos h2, verify_yes0 _ _ _ _ _ _ _ _ rfl, if_neg (fun x => by have := x.2.2.1; omega)]
 rw [if_neg h1, if_neg h2]
 obtain ⟨b, rfl⟩ : ∃ b : Nat, bits = (b : Int) := ⟨bits.toNat, by omega⟩
 obtain ⟨N, hN⟩ : ∃ N, N = (b + 7) / 8 := ⟨_, rfl⟩
 simp only [okArgs, Int.toNat_natCast, ← hN]
 by_cases h4 : salt < 0
 ·rw [if_pos h4, verify_yes0 _ _ _ _ _ _ _ _ rfl, if_neg (fun x => by have := x.2.2.2.2.1; omega)]
 rw [if_neg h4]
 obtain ⟨t, rfl⟩ : ∃ t : Nat, salt = (t : Int) := ⟨salt.toNat, by omega⟩
 simp only [Int.toNat_natCast]
 by_cases h5 : (t : Int) > 1024
 ·rw [verify_yes0 _ _ _ _ _ _ _ _ (decide_eq_true h5), if_neg (fun x => by have := x.2.2.2.2.2; omega)]
 rw [decide_eq_false h5]
 obtain ⟨k, rfl⟩ : ∃ j, k = j + 1 := ⟨k - 1, by omega⟩
 unfold pss_Verify.j0
 (try dsimp only)
 rw [if_neg (by decide), n_at (by omega) hN]
 by_cases h6 : N < t + hlen h + 2
 ·obtain ⟨k, rfl⟩ : ∃ j, k = j + 1 := ⟨k - 1, by omega⟩
  rw [if_pos (by unfold wrap64; omega), verify_yes1, if_neg (fun x => by have := x.2.2.2.2.2; omega)]
 rw [if_neg (by unfold wrap64; omega)]
 by_cases h3 : ¬ em.length = N
 ·obtain ⟨k, rfl⟩ : ∃ j, k = j + 1 := ⟨k - 1, by omega⟩
  rw [if_neg (by omega), verify_yes1, if_neg (fun x => h3 x.2.2.2.1)]
 replace h3 := Classical.not_not.1 h3
 have w2 : wrap64 ((N : Int) - 1) = ((N - 1 : Nat) : Int) := by unfold wrap64; omega
 have w1 : wrap64 (wrap64 (wrap64 ((N : Int) - (hlen h : Int)) - 2) - (t : Int)) = ((N - (hlen h + 2 + t) : Nat) : Int) := by unfold wrap64; omega
 obtain ⟨k, rfl⟩ : ∃ j, k = j + 1 := ⟨k - 1, by omega⟩
 rw [w1, w2, if_pos (by omega), if_pos (by omega), if_pos (by omega), verify_j1 hh m em b N t hm he hml (by omega) (by omega) hN h3 (by omega) (k + 1) (by omega) _ rfl,
  if_pos ⟨hh, by omega, by omega, h3, by omega, by omega⟩]
 congr 1
 exact decide_eq_decide.mpr (tests_iff m em (8 * N - b) N t he (by omega) h3 (by omega))
end Go.Proofs.Ytincnnmojgphmaa.Q
/- one space a level -/
