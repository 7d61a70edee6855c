/- The law SignEncodes over the printed functions: what stands in a signature is the reference's. -/
import Derived.Test.YtmmbbkdbebfhiaaPSignEncodesx1
import Derived.OpenShut
set_option linter.unusedVariables false
set_option linter.unusedSimpArgs false
namespace Go.Proofs.Ytmmbbkdbebfhiaa.Pure
open Go.RowKit Go.Proofs.Ytmmbbkdbebfhiaa.PSignEncodes Go.Proofs.Ytmmbbkdbebfhiaa.PT Go.Proofs.Ytmmbbkdbebfhiaa.PS Go.Proofs.YtmmbbkdbebfhiaaW.PrintWords Go.Proofs.YtmmbbkdbebfhiaaW.PrintLast Go.Proofs.Ytmmbbkdbebfhiaa.H Go.Proofs.Ytmmbbkdbebfhiaa.Sha

theorem awakeSignEncodes : sconcelaw25_awake.f = some true := by decide +kernel
theorem sameS (l : List Int) : sconceref13_Same.f l l = some true := by simp [sconceref13_Same.f]
theorem inB_of_wfS {l : List Int} (h : ∀ x ∈ l, (Lit.int .u8 x).wf = true) : inB 8 l := fun x hx => by
  have := bounds_u8 (h x hx)
  omega
theorem rsumS (h : Int) (hh : h = 1 ∨ h = 2 ∨ h = 3) (l : List Int) (hb : inB 8 l) (hl : l.length ≤ 140737488351232) : sconceref13_Sum.f h l = some (hsum h l, 0) := by
  have hc : inB 8 l ∧ l.length ≤ 140737488351232 := ⟨hb, hl⟩
  rcases hh with rfl | rfl | rfl
  · simp [sconceref13_Sum.f, sconceref11_Sum.f, hc, hsum]
  · simp only [sconceref13_Sum.f, sconceref12_Sum.f, hc, hsum, and_self, if_true, Option.bind_some, show ¬ ((2 : Int) = 1) by decide, if_false]
  · simp [sconceref13_Sum.f, sconceref12_Sum.f, hc, hsum]
theorem rprefixS {h : Int} (hh : h = 1 ∨ h = 2 ∨ h = 3) : sconceref13_Prefix.f h = some (prefixL h (hlen h)) := by
  rcases hh with rfl | rfl | rfl <;> rfl
theorem sign_loop (k T : Nat) (t : List Int) (ht : t.length + 1 = T) (hk : k ≤ 1024) (hT : T + 10 ≤ k) : ∀ (d i m : Nat), i + d = k - 2 - T → d < m →
    sconceref23_Sign.l0 m (k : Int) t ([0, 1] ++ List.replicate i 255) = some ([0, 1] ++ List.replicate (k - 2 - T) 255 ++ (0 :: t), 0) := by
  intro d
  induction d with
  | zero =>
    intro i m hi hm
    obtain ⟨m, rfl⟩ : ∃ j, m = j + 1 := ⟨m - 1, by omega⟩
    have n1 : ¬ ((2 + i : Nat) : Int) < ((k - T : Nat) : Int) := by omega
    have n2 : 2 + i < 140737488355328 := by omega
    have n3 : i = k - 2 - T := by omega
    have n4 : 2 + i + 1 + t.length < 140737488355328 := by omega
    have hw : wrap64 (wrap64 ((k : Int) - 1) - (t.length : Int)) = ((k - T : Nat) : Int) := by unfold wrap64; omega
    have hl : ([0, 1] ++ List.replicate i (255 : Int)).length = 2 + i := by simp; omega
    have hl2 : (([0, 1] ++ List.replicate i (255 : Int)) ++ [0]).length + t.length = 2 + i + 1 + t.length := by rw [List.length_append, hl]; rfl
    unfold sconceref23_Sign.l0
    rw [hw, hl, if_neg n1, if_pos n2, Option.bind_some, if_pos (by rw [hl2]; exact n4), ← n3]
    simp
  | succ d ih =>
    intro i m hi hm
    obtain ⟨m, rfl⟩ : ∃ j, m = j + 1 := ⟨m - 1, by omega⟩
    have n1 : ((2 + i : Nat) : Int) < ((k - T : Nat) : Int) := by omega
    have n2 : 2 + i < 140737488355328 := by omega
    have this := ih (i + 1) m (by omega) (by omega)
    have hw : wrap64 (wrap64 ((k : Int) - 1) - (t.length : Int)) = ((k - T : Nat) : Int) := by clear this; unfold wrap64; omega
    have hl : ([0, 1] ++ List.replicate i (255 : Int)).length = 2 + i := by simp; omega
    unfold sconceref23_Sign.l0
    rw [hw, hl, if_pos n1, if_pos n2]
    rw [List.replicate_succ', ← List.append_assoc] at this
    exact this

theorem rsign_yes (K : Nat) (a0 a2 : Int) (d : List Int) (b : Bool) (hb : b = true) : sconceref23_Sign.j0 (K + 1) a0 a2 d b = some ([], 1) := by
  subst hb
  simp only [sconceref23_Sign.j0, if_true]
theorem rsign_no (K : Nat) (hK : 3000 < K) (a0 : Int) (hh : a0 = 1 ∨ a0 = 2 ∨ a0 = 3) (k : Nat) (hk : k ≤ 1024) (d : List Int) (n T : Nat) (hd : d.length = n) (hn : n ≤ 64) (hT : T = 20 + n) (b : Bool) (hb : b = false) :
    sconceref23_Sign.j0 (K + 1) a0 (k : Int) d b = if (k : Int) < (T : Int) + 10 then some ([], 232) else some ([0, 1] ++ List.replicate (k - 2 - T) 255 ++ (0 :: (prefixL a0 (H.hlen a0) ++ d)), 0) := by
  subst hb
  unfold sconceref23_Sign.j0
  (try dsimp only)
  have hp : (prefixL a0 (H.hlen a0)).length = 19 := by simp [prefixL]
  generalize hP : prefixL a0 (H.hlen a0) = P at hp
  rw [if_neg (by decide), rprefixS hh, hP, Option.bind_some]
  have hy : (P ++ d).length = 19 + n := by rw [List.length_append, hp, hd]
  rw [if_pos (by omega), Option.bind_some, hy]
  have hw2 : wrap64 (((19 + n : Nat) : Int) + 11) = (T : Int) + 10 := by unfold wrap64; omega
  rw [hw2]
  by_cases h2 : (k : Int) < (T : Int) + 10
  · rw [if_pos h2, if_pos h2]
  · rw [if_neg h2, if_neg h2]
    have := sign_loop k T (P ++ d) (by omega) hk (by omega) (k - 2 - T) 0 K (by omega) (by omega)
    rw [List.replicate_zero, List.append_nil] at this
    exact this
theorem rsign_spec (K : Nat) (hK : 3000 < K) (a0 : Int) (l1 : List Int) (a2 : Int) (hB : inB 8 l1) (hl : l1.length ≤ 1000) : sconceref23_Sign.f (K + 1) a0 l1 a2 = sign_Encode.f a0 l1 a2 := by
  unfold sign_Encode.f sconceref23_Sign.f
  rw [if_pos (c := inB 8 l1 ∧ l1.length ≤ 140737488351232) ⟨hB, by omega⟩]
  by_cases hh : a0 = 1 ∨ a0 = 2 ∨ a0 = 3
  · rw [if_pos hh, rsumS a0 hh l1 hB (by omega)]
    simp only [Option.bind_some, if_true]
    by_cases h0 : a2 < 0
    · rw [if_pos h0, rsign_yes _ _ _ _ _ rfl, if_pos (.inl h0)]
    rw [if_neg h0]
    by_cases h1 : a2 > 1024
    · rw [rsign_yes _ _ _ _ _ (decide_eq_true h1), if_pos (.inr h1)]
    rw [if_neg (by omega)]
    obtain ⟨k, rfl⟩ : ∃ k : Nat, a2 = (k : Int) := ⟨a2.toNat, by omega⟩
    have ht := tailL_length a0 l1
    rw [rsign_no K hK a0 hh k (by omega) (hsum a0 l1) (H.hlen a0) (20 + H.hlen a0) (hsum_length a0 l1) (hlen_le' a0) rfl _ (decide_eq_false h1), ht, Int.toNat_natCast]
    unfold tailL
    rfl
  · rw [if_neg hh]
    have hs : sconceref13_Sum.f a0 l1 = some ([], 130) := by
      unfold sconceref13_Sum.f
      rw [if_neg (by omega), if_neg (by omega), if_neg (by omega)]
    rw [hs]
    simp
theorem encode_some (a0 : Int) (l1 : List Int) (a2 : Int) (hB : inB 8 l1) (hl : l1.length ≤ 1000) : ∃ r e, sign_Encode.f a0 l1 a2 = some (r, e) := by
  unfold sign_Encode.f
  rw [if_pos (c := inB 8 l1 ∧ l1.length ≤ 140737488351232) ⟨hB, by omega⟩]
  (repeat' split) <;> exact ⟨_, _, rfl⟩
theorem SignEncodes : sconcelaw25_SignEncodes.Pure := by
  intro a0 l1 a2 _ _ hl hw _
  obtain ⟨K, hK⟩ : ∃ K : Nat, 3000 < K := ⟨3001, by omega⟩
  refine ⟨K + 1, ?_⟩
  unfold sconcelaw25_SignEncodes.f
  rw [awakeSignEncodes]
  simp only [Option.bind_some, if_true]
  by_cases h : (l1.length : Int) > 1000
  · rw [if_pos h]
  rw [if_neg h]
  have hB := inB_of_wfS hw
  rw [rsign_spec K hK a0 l1 a2 hB (by omega)]
  obtain ⟨r, e, hr⟩ := encode_some a0 l1 a2 hB (by omega)
  rw [hr]
  simp [sameS]
end Go.Proofs.Ytmmbbkdbebfhiaa.Pure
