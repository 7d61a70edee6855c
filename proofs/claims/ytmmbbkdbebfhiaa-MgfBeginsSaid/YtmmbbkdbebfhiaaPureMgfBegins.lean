/- The law MgfBegins over the printed functions: a shorter mask is the beginning of a longer one. -/
import Derived.Test.YtmmbbkdbebfhiaaPMgfBeginsx1
import Derived.Test.YtmmbbkdbebfhiaaHMgf
namespace Go.Proofs.Ytmmbbkdbebfhiaa.Pure
open Go.RowKit Go.Proofs.Ytmmbbkdbebfhiaa.PMgfBegins Go.Proofs.Ytmmbbkdbebfhiaa.PT Go.Proofs.YtmmbbkdbebfhiaaW.PrintWords Go.Proofs.YtmmbbkdbebfhiaaW.PrintLast Go.Proofs.Ytmmbbkdbebfhiaa.H Go.Proofs.Ytmmbbkdbebfhiaa.Sha

theorem awakeMgfBegins : sconcelaw14_awake.f = some true := by decide +kernel
theorem MgfBegins : sconcelaw14_MgfBegins.Pure := by
  intro a0 l1 a2 a3 _ _ _ hw _ _
  obtain ⟨K, hK⟩ : ∃ K : Nat, 0 < K := ⟨1, by omega⟩
  refine ⟨K + 1, ?_⟩
  unfold sconcelaw14_MgfBegins.f
  rw [awakeMgfBegins]
  simp only [Option.bind_some, if_true]
  have hj : sconcelaw14_MgfBegins.j0 (K + 1) a0 l1 a2 a3 true = some true := by simp [sconcelaw14_MgfBegins.j0]
  by_cases h1 : (l1.length : Int) > 500
  · rw [if_pos h1, hj]
  rw [if_neg h1]
  by_cases h2 : a2 < 0
  · rw [if_pos h2, hj]
  rw [if_neg h2]
  by_cases h3 : a3 < 0
  · rw [if_pos h3, hj]
  rw [if_neg h3]
  by_cases h4 : a2 > 700
  · rw [if_pos h4, hj]
  rw [if_neg h4]
  by_cases h5 : a3 > 700
  · rw [decide_eq_true h5, hj]
  rw [decide_eq_false h5]
  unfold sconcelaw14_MgfBegins.j0
  dsimp only
  rw [if_neg (by decide)]
  have hB := inB_of_wf hw
  obtain ⟨n, rfl⟩ : ∃ n : Nat, a2 = (n : Int) := ⟨a2.toNat, by omega⟩
  obtain ⟨m, rfl⟩ : ∃ m : Nat, a3 = (m : Int) := ⟨a3.toNat, by omega⟩
  have hw64 : wrap64 ((n : Int) + (m : Int)) = ((n + m : Nat) : Int) := by unfold wrap64; omega
  rw [hw64]
  unfold mgf_Mask.f
  have hc : inB 8 l1 ∧ l1.length ≤ 100000 := ⟨hB, by omega⟩
  rw [if_pos hc, if_pos hc]
  by_cases hh : a0 = 1 ∨ a0 = 2 ∨ a0 = 3
  · rw [if_pos hh, if_pos hh, if_neg (by omega), if_neg (by omega), if_neg (by omega), if_neg (by omega), Int.toNat_natCast, Int.toNat_natCast]
    simp only [Option.bind_some, if_true, maskL_length, Int.toNat_natCast, maskL_take, same13]
    rw [if_pos (by omega), if_pos (by omega)]
  · rw [if_neg hh, if_neg hh]
    simp
end Go.Proofs.Ytmmbbkdbebfhiaa.Pure
