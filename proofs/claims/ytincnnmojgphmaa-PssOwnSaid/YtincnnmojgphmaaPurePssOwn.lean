/- The law PssOwn over the printed functions: what is made verifies with its salt's length, and with no other. -/
import Derived.Test.YtincnnmojgphmaaPPssOwnx1
import Derived.Test.YtincnnmojgphmaaQPss
namespace Go.Proofs.Ytincnnmojgphmaa.Pure
open Go.RowKit Go.Proofs.Ytincnnmojgphmaa.PPssOwn Go.Proofs.Ytincnnmojgphmaa.PP Go.Proofs.Ytincnnmojgphmaa.PT Go.Proofs.YtincnnmojgphmaaW.PrintWords Go.Proofs.YtincnnmojgphmaaW.PrintLast Go.Proofs.Ytincnnmojgphmaa.H Go.Proofs.Ytincnnmojgphmaa.Sha Go.Proofs.Ytincnnmojgphmaa.Q

theorem awakeO60 : sconcelaw26_awake.f 60 = some true := by decide +kernel
theorem awakeOOk : ∀ d, sconcelaw26_awake.f (60 + d) = some true
  | 0 => awakeO60
  | d + 1 => sconcelaw26_awake.mono (60 + d) _ (awakeOOk d)
/-- The salt that is found in what was made. -/
theorem salt_own {h : Int} (m S : List Int) (sp N room : Nat) (hS : inB 8 S) (hN : N = room + S.length + hlen h + 2) : saltOf h (emL h m sp room S) N S.length = S := by
  have h1 := xor_drop sp room (dbL room S) (maskL h (dig h m S) (room + 1 + S.length)) (dbL_in _ hS) (maskL_in _ _ _)
  have hcl : (clr sp (xorL (dbL room S) (maskL h (dig h m S) (room + 1 + S.length)))).length = room + 1 + S.length := by rw [clr_length, xorL_length, dbL_length]
  have hdl := dig_length h m S
  have e1 : N - hlen h - 1 = room + 1 + S.length := by omega
  have e2 : N - 1 = room + 1 + S.length + hlen h := by omega
  unfold saltOf emL
  rw [e1, e2]
  generalize hC : clr sp (xorL (dbL room S) (maskL h (dig h m S) (room + 1 + S.length))) = C at h1 hcl
  have t1 : (C ++ dig h m S ++ [188]).take (room + 1 + S.length) = C := by rw [List.append_assoc, List.take_left' hcl]
  have t2 : ((C ++ dig h m S ++ [188]).take (room + 1 + S.length + hlen h)).drop (room + 1 + S.length) = dig h m S := by
    rw [List.take_left' (by rw [List.length_append, hcl, hdl]), List.drop_left' hcl]
  rw [t1, t2, show room + 1 + S.length - S.length = room + 1 by omega, h1]
  unfold dbL
  rw [show List.replicate room (0 : Int) ++ 1 :: S = (List.replicate room 0 ++ [1]) ++ S by simp, List.drop_left' (by simp)]
theorem PssOwn : sconcelaw26_PssOwn.Pure := by
  intro h m bits S other _ _ _ hm _ _ _ hS _
  have hmB := inB_of_wf hm
  have hSB := inB_of_wf hS
  obtain ⟨K, hK⟩ : ∃ K : Nat, 40000 < K := ⟨40001, by omega⟩
  refine ⟨60 + K, ?_⟩
  unfold sconcelaw26_PssOwn.f
  rw [awakeOOk, Option.bind_some, if_pos rfl]
  unfold fewP2.f
  rw [Option.bind_some]
  by_cases hf : ¬ (m.length ≤ 1100 ∧ S.length ≤ 1100)
  · rw [decide_eq_false hf, if_neg (by decide)]
  replace hf := Classical.not_not.1 hf
  rw [decide_eq_true hf, if_pos rfl, encode_at h m bits S hmB hSB hf.1 hf.2 _ (by omega), Option.bind_some]
  unfold encV
  by_cases hh : ¬ (h = 1 ∨ h = 2 ∨ h = 3)
  · rw [if_neg hh]; rfl
  replace hh := Classical.not_not.1 hh
  rw [if_pos hh]
  by_cases h1 : bits < 1 ∨ bits > 8192
  · rw [if_pos h1]; rfl
  rw [if_neg h1]
  by_cases h2 : (bits.toNat + 7) / 8 < hlen h + 2 + S.length
  · rw [if_pos h2]; rfl
  rw [if_neg h2]
  obtain ⟨b, rfl⟩ : ∃ b : Nat, bits = (b : Int) := ⟨bits.toNat, by omega⟩
  simp only [Int.toNat_natCast] at h2 ⊢
  obtain ⟨N, hN⟩ : ∃ N, N = (b + 7) / 8 := ⟨_, rfl⟩
  rw [n_at (by omega) hN, ← hN]
  rw [← hN] at h2
  obtain ⟨room, hroom⟩ : ∃ r, r = N - (hlen h + 2 + S.length) := ⟨_, rfl⟩
  rw [← hroom]
  have hel := emL_length h m (8 * N - b) room S
  have hei := emL_in h m (8 * N - b) room hSB
  have hown := salt_own (h := h) m S (8 * N - b) N room hSB (by omega)
  have hsp : 8 * N - b ≤ 7 := by omega
  rw [if_pos True.intro, if_pos (by show ((emL h m (8 * N - b) room S).length : Int) = _; rw [hel]; omega)]
  show ((pss_Verify.f (60 + K) h m (emL h m (8 * N - b) room S) (b : Int) (S.length : Int)).bind _) = _
  have hv1 : verV h m (emL h m (8 * N - b) room S) (b : Int) (S.length : Int) = true := by
    unfold verV
    rw [if_pos ⟨hh, by omega, by omega, by rw [hel, Int.toNat_natCast]; omega, by omega, by rw [Int.toNat_natCast, Int.toNat_natCast]; omega⟩]
    apply decide_eq_true
    simp only [Int.toNat_natCast]
    rw [← hN, hown, ← hroom]
  rw [verify_at h m _ (b : Int) (S.length : Int) hmB hei hf.1 (by rw [hel]; omega) _ (by omega), Option.bind_some, hv1, if_pos rfl]
  by_cases ho : other = (S.length : Int)
  · rw [if_pos ho]
  rw [if_neg ho, verify_at h m _ (b : Int) other hmB hei hf.1 (by rw [hel]; omega) _ (by omega), Option.bind_some]
  have hv2 : verV h m (emL h m (8 * N - b) room S) (b : Int) other = false := by
    unfold verV
    split
    case isFalse => rfl
    rename_i hok
    obtain ⟨_, _, _, hl, ho0, hol⟩ := hok
    obtain ⟨t, rfl⟩ : ∃ t : Nat, other = (t : Int) := ⟨other.toNat, by omega⟩
    simp only [Int.toNat_natCast] at hl hol
    rw [← hN] at hl hol
    apply decide_eq_false
    simp only [Int.toNat_natCast]
    rw [← hN]
    intro e
    have hsl := saltOf_length h (emL h m (8 * N - b) room S) N t hl hol
    have := emL_inj hsp (saltOf_in h _ N t hei) hSB (by rw [hsl]; omega) e
    have := congrArg List.length this.2
    rw [hsl] at this
    omega
  rw [hv2]
  rfl
end Go.Proofs.Ytincnnmojgphmaa.Pure
