/- The law PssShape over the printed functions. -/
import Derived.Test.YtincnnmojgphmaaPPssShapex1
import Derived.Test.YtincnnmojgphmaaQPss
namespace Go.Proofs.Ytincnnmojgphmaa.Pure
open Go.RowKit Go.Proofs.Ytincnnmojgphmaa.PPssShape Go.Proofs.Ytincnnmojgphmaa.PP Go.Proofs.Ytincnnmojgphmaa.PT Go.Proofs.YtincnnmojgphmaaW.PrintWords Go.Proofs.YtincnnmojgphmaaW.PrintLast Go.Proofs.YtincnnmojgphmaaW.PrintMore Go.Proofs.Ytincnnmojgphmaa.H Go.Proofs.Ytincnnmojgphmaa.Sha Go.Proofs.Ytincnnmojgphmaa.Q

theorem awakeS60 : sconcelaw26_awake.f 60 = some true := by decide +kernel
theorem awakeSOk : ∀ d, sconcelaw26_awake.f (60 + d) = some true
  | 0 => awakeS60
  | d + 1 => sconcelaw26_awake.mono (60 + d) _ (awakeSOk d)
theorem last_of (C : List Int) (x : Int) (n : Nat) (h : C.length = n) : rd (C ++ [x]) (n : Int) = x := by subst h; simp [rd]
theorem PssShape : sconcelaw26_PssShape.Pure := by
  intro h m bits S _ _ _ hm _ _ _ hS
  have hmB := inB_of_wf hm
  have hSB := inB_of_wf hS
  obtain ⟨K, hK⟩ : ∃ K : Nat, 40000 < K := ⟨40001, by omega⟩
  refine ⟨60 + K, ?_⟩
  unfold sconcelaw26_PssShape.f
  rw [awakeSOk, Option.bind_some, if_pos rfl]
  unfold fewP2.f
  rw [Option.bind_some]
  by_cases hf : ¬ (m.length ≤ 1100 ∧ S.length ≤ 1100)
  · rw [decide_eq_false hf, if_neg (by decide)]
  replace hf := Classical.not_not.1 hf
  rw [decide_eq_true hf, if_pos rfl, encode_at h m bits S hmB hSB hf.1 hf.2 _ (by omega), Option.bind_some]
  unfold encV
  by_cases hh : ¬ (h = 1 ∨ h = 2 ∨ h = 3)
  · rw [if_neg hh]; rfl
  replace hh := Classical.not_not.1 hh
  rw [if_pos hh]
  by_cases h1 : bits < 1 ∨ bits > 8192
  · rw [if_pos h1]; rfl
  rw [if_neg h1]
  by_cases h2 : (bits.toNat + 7) / 8 < hlen h + 2 + S.length
  · rw [if_pos h2]; rfl
  rw [if_neg h2]
  obtain ⟨b, rfl⟩ : ∃ b : Nat, bits = (b : Int) := ⟨bits.toNat, by omega⟩
  simp only [Int.toNat_natCast] at h2 ⊢
  obtain ⟨N, hN⟩ : ∃ N, N = (b + 7) / 8 := ⟨_, rfl⟩
  rw [n_at (by omega) hN, ← hN]
  rw [← hN] at h2
  obtain ⟨room, hroom⟩ : ∃ r, r = N - (hlen h + 2 + S.length) := ⟨_, rfl⟩
  rw [← hroom]
  have hel := emL_length h m (8 * N - b) room S
  have hei := emL_in h m (8 * N - b) room hSB
  have hsp : 8 * N - b ≤ 7 := by omega
  have w1 : wrap64 ((N : Int) - 1) = ((N - 1 : Nat) : Int) := by unfold wrap64; omega
  have w2 : IntKind.u64.wrap (wrap64 (wrap64 (8 - wrap64 (8 * (N : Int))) + (b : Int))) = ((8 - (8 * N - b) : Nat) : Int) := by
    have e1 : wrap64 (8 * (N : Int)) = 8 * (N : Int) := by unfold wrap64; omega
    have e2 : wrap64 (8 - 8 * (N : Int)) = 8 - 8 * (N : Int) := by unfold wrap64; omega
    have e3 : wrap64 (8 - 8 * (N : Int) + (b : Int)) = ((8 - (8 * N - b) : Nat) : Int) := by unfold wrap64; omega
    rw [e1, e2, e3, IntKind.wrap_u64]
    omega
  have hlast : rd (emL h m (8 * N - b) room S) ((N - 1 : Nat) : Int) = 188 := by
    refine last_of _ 188 _ ?_
    rw [List.length_append, clr_length, xorL_length, dbL_length, dig_length]
    omega
  have hhead : rd (emL h m (8 * N - b) room S) 0 / 2 ^ (8 - (8 * N - b)) = 0 := by
    unfold emL
    obtain ⟨x, r, e⟩ : ∃ x r, xorL (dbL room S) (maskL h (dig h m S) (room + 1 + S.length)) = x :: r := by
      have hl : (xorL (dbL room S) (maskL h (dig h m S) (room + 1 + S.length))).length = room + 1 + S.length := by rw [xorL_length, dbL_length]
      cases hq : xorL (dbL room S) (maskL h (dig h m S) (room + 1 + S.length)) with
      | nil => rw [hq] at hl; simp at hl; omega
      | cons x r => exact ⟨x, r, rfl⟩
    have hx : inB 8 (x :: r) := by rw [← e]; exact xorL_in _ _ (dbL_in _ hSB) (maskL_in _ _ _)
    rw [e]
    show x % 2 ^ (8 - (8 * N - b)) / 2 ^ (8 - (8 * N - b)) = 0
    have := mod_in (8 - (8 * N - b)) (x := x) (by have := hx x (by simp); omega)
    exact Int.ediv_eq_zero_of_lt this.1 this.2.2
  rw [if_pos True.intro, if_pos (by show ((emL h m (8 * N - b) room S).length : Int) = _; rw [hel]; omega), w1, if_pos (by omega), w2]
  rw [if_pos (by show _ < ((emL h m (8 * N - b) room S).length : Int); rw [hel]; omega), if_pos hlast, if_pos (by show 0 < ((emL h m (8 * N - b) room S).length : Int); rw [hel]; omega), if_pos (by omega)]
  show some (shr .i64 (wrap64 (rd (emL h m (8 * N - b) room S) 0)) ((8 - (8 * N - b) : Nat) : Int) == 0) = _
  rw [shr8 _ (rd_in hei 0) _ (by omega), hhead]
  rfl
end Go.Proofs.Ytincnnmojgphmaa.Pure
