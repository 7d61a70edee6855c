/- What the reference's Salted and Holds compute. -/
import Derived.Test.YtincnnmojgphmaaQPss
import Derived.Test.YtincnnmojgphmaaPQx1
set_option linter.unusedVariables false
set_option linter.unusedSimpArgs false
namespace Go.Proofs.Ytincnnmojgphmaa.Q
open Go.RowKit Go.Proofs.Ytincnnmojgphmaa.PP Go.Proofs.Ytincnnmojgphmaa.PQ Go.Proofs.Ytincnnmojgphmaa.PT Go.Proofs.Ytincnnmojgphmaa.PS Go.Proofs.YtincnnmojgphmaaW.PrintWords Go.Proofs.YtincnnmojgphmaaW.PrintLast Go.Proofs.YtincnnmojgphmaaW.PrintMore Go.Proofs.Ytincnnmojgphmaa.H Go.Proofs.Ytincnnmojgphmaa.Sha

theorem and_step : ∀ (x : Fin 256) (i : Fin 8), Go.bits .and .u8 (x.val : Int) (shr .u8 255 (i.val : Int)) = (x.val : Int) % 2 ^ (8 - i.val) := by decide +kernel
theorem clear_at (a : List Int) (ha : inB 8 a) (hal : a.length ≤ 2000) (n : Nat) (hn : n ≤ 7) : sconceref23_clear.f a (n : Int) = some (clr n a) := by
 unfold sconceref23_clear.f
 rw [if_pos (by simp; omega), Option.bind_some, List.nil_append]
 cases a with
 | nil => rfl
 | cons x r =>
  have hx := ha x (by simp)
  have hw : IntKind.u64.wrap (n : Int) = (n : Int) := by rw [IntKind.wrap_u64]; omega
  have h2 := and_step ⟨x.toNat, by omega⟩ ⟨n, by omega⟩
  simp only [show ((x.toNat : Nat) : Int) = x by omega] at h2
  rw [if_pos (by simp), if_pos (by simp), hw, if_pos (by omega), show rd (x :: r) 0 = x from rfl, h2]
  rfl

theorem rsize_at {h : Int} (hh : h = 1 ∨ h = 2 ∨ h = 3) : sconceref13_Size.f h = some (H.hlen h : Int) := by
 rcases hh with rfl | rfl | rfl <;> rfl
theorem rsize_no {h : Int} (hh : ¬ (h = 1 ∨ h = 2 ∨ h = 3)) : sconceref13_Size.f h = some 0 := by
 unfold sconceref13_Size.f
 rw [if_neg (by omega), if_neg (by omega), if_neg (by omega)]
theorem rmask_n {h : Int} (hh : h = 1 ∨ h = 2 ∨ h = 3) (x : List Int) (hx : inB 8 x) (hl : x.length ≤ 2000) (n : Nat) (hn : n ≤ 2000) (k : Nat) (hk : 10001 < k) : sconceref13_Mask.f k h x (n : Int) = some (maskL h x n, 0) := by
 rw [rmask_at h x hx (by omega) (n : Int) k hk]
 unfold mgf_Mask.f
 rw [if_pos ⟨hx, by omega⟩, if_pos hh, if_neg (by omega), if_neg (by omega), Int.toNat_natCast]
theorem salted_yes (K : Nat) (h : Int) (m : List Int) (bits : Int) (S : List Int) (s : Int) (b : Bool) (hb : b = true) : sconceref23_Salted.j0 (K + 1) h m bits S s b = some ([], 1) := by
 subst hb
 unfold sconceref23_Salted.j0
 (try dsimp only)
 rw [if_pos rfl]
theorem salted_no {h : Int} (hh : h = 1 ∨ h = 2 ∨ h = 3) (m : List Int) (b : Nat) (S : List Int) (hm : inB 8 m) (hS : inB 8 S) (hml : m.length ≤ 1100) (hSl : S.length ≤ 1100) (hb1 : 1 ≤ b) (hb2 : b ≤ 8192) (K : Nat) (hK : 20000 < K) (t : Bool) (ht : t = false) :
  sconceref23_Salted.j0 (K + 1) h m (b : Int) S (H.hlen h : Int) t = some (if (b + 7) / 8 < H.hlen h + 2 + S.length then ([], 232) else (emL h m (8 * ((b + 7) / 8) - b) ((b + 7) / 8 - (H.hlen h + 2 + S.length)) S, 0)) := by
 subst ht
 have h32 := H.hlen_pos h
 have h64 := H.hlen_le h
 unfold sconceref23_Salted.j0
 (try dsimp only)
 rw [if_neg (by decide)]
 obtain ⟨N, hN⟩ : ∃ N, N = (b + 7) / 8 := ⟨_, rfl⟩
 rw [n_at hb2 hN, sp_at hb2 hb1 hN, ← hN]
 obtain ⟨s, hs⟩ : ∃ s, s = H.hlen h := ⟨_, rfl⟩
 have hsp : 8 * N - b ≤ 7 := by omega
 rw [← hs]
 by_cases h3 : N < s + 2 + S.length
 ·rw [if_pos (by unfold wrap64; omega), if_pos h3]
 obtain ⟨room, hroom⟩ : ∃ r, r = N - (s + 2 + S.length) := ⟨_, rfl⟩
 have hw : wrap64 (wrap64 (wrap64 ((N : Int) - (s : Int)) - (S.length : Int)) - 2) = (room : Int) := by unfold wrap64; omega
 rw [if_neg (by unfold wrap64; omega), if_neg h3, ← hroom, rsum_at h hh m hm (by omega), Option.bind_some, if_pos (by omega), Option.bind_some]
 have hd := hsum_length h m
 have hlen : (List.replicate 8 (0 : Int) ++ hsum h m ++ S).length = 8 + s + S.length := by simp only [List.length_append, List.length_replicate, hd, hs]
 rw [if_pos (by rw [List.length_replicate]; show 8 + (hsum h m).length < _; rw [hd]; omega), Option.bind_some]
 rw [if_pos (by rw [List.length_append, List.length_replicate]; show 8 + (hsum h m).length + _ < _; rw [hd]; omega)]
 have hin : inB 8 (List.replicate 8 (0 : Int) ++ hsum h m ++ S) := in_append (in_append (in_zeros 8) (hsum_in _ _)) hS
 have hdl := dig_length h m S
 have hdin : inB 8 (dig h m S) := hsum_in _ _
 have e0 : sconceref13_Sum.f h (List.replicate 8 (0 : Int) ++ hsum h m ++ S) = some (dig h m S, 0) := rsum_at h hh _ hin (by rw [hlen]; omega)
 rw [e0, Option.bind_some, hw, if_pos (by omega), Int.toNat_natCast, if_pos (by omega), Option.bind_some]
 have hdb : List.replicate room (0 : Int) ++ [1] ++ S = dbL room S := by simp [dbL]
 have hdbl := dbL_length room S
 rw [if_pos (by rw [List.length_replicate]; omega), Option.bind_some, if_pos (by rw [List.length_append, List.length_replicate]; simp; omega), Option.bind_some, hdb, hdbl]
 show ((sconceref13_Mask.f K h (dig h m S) ((room + 1 + S.length : Nat) : Int)).bind _) = _
 rw [rmask_n hh _ hdin (by rw [hdl]; omega) _ (by omega) K (by omega), Option.bind_some]
 show ((sconceref13_Xor.f K (dbL room S) (maskL h (dig h m S) (room + 1 + S.length))).bind _) = _
 rw [rxor_at _ _ (by rw [hdbl]; omega) K (by rw [hdbl]; omega), Option.bind_some]
 have hxl : (xorL (dbL room S) (maskL h (dig h m S) (room + 1 + S.length))).length = room + 1 + S.length := by rw [xorL_length, hdbl]
 rw [clear_at _ (xorL_in _ _ (dbL_in _ hS) (maskL_in _ _ _)) (by rw [hxl]; omega) _ hsp, Option.bind_some]
 have hcl : (clr (8 * N - b) (xorL (dbL room S) (maskL h (dig h m S) (room + 1 + S.length)))).length = room + 1 + S.length := by rw [clr_length, hxl]
 rw [if_pos (by show _ + (dig h m S).length < _; rw [hcl, hdl]; omega), Option.bind_some]
 rw [if_pos (by show (_ ++ dig h m S).length < _; rw [List.length_append, hcl, hdl]; omega)]
 rfl
theorem salted_at (h : Int) (m : List Int) (bits : Int) (S : List Int) (hm : inB 8 m) (hS : inB 8 S) (hml : m.length ≤ 1100) (hSl : S.length ≤ 1100) (k : Nat) (hk : 20001 < k) :
  sconceref23_Salted.f k h m bits S = some (encV h m bits S) := by
 obtain ⟨k, rfl⟩ : ∃ j, k = j + 1 := ⟨k - 1, by omega⟩
 unfold sconceref23_Salted.f encV
 by_cases hh : ¬ (h = 1 ∨ h = 2 ∨ h = 3)
 ·rw [rsize_no hh, Option.bind_some, if_pos rfl, if_neg hh]
 replace hh := Classical.not_not.1 hh
 have h32 := H.hlen_pos h
 rw [rsize_at hh, Option.bind_some, if_neg (by omega), if_pos hh]
 by_cases h1 : bits < 1
 ·rw [if_pos h1, if_pos (.inl h1), salted_yes _ _ _ _ _ _ _ rfl]
 by_cases h2 : bits > 8192
 ·rw [if_neg h1, if_pos (.inr h2), salted_yes _ _ _ _ _ _ _ (decide_eq_true h2)]
 rw [if_neg h1]
 obtain ⟨b, rfl⟩ : ∃ b : Nat, bits = (b : Int) := ⟨bits.toNat, by omega⟩
 rw [if_neg (show ¬ ((b : Int) < 1 ∨ (b : Int) > 8192) by omega), Int.toNat_natCast]
 exact salted_no hh m b S hm hS hml hSl (by omega) (by omega) k (by omega) _ (decide_eq_false h2)

end Go.Proofs.Ytincnnmojgphmaa.Q
/- one space a level -/
