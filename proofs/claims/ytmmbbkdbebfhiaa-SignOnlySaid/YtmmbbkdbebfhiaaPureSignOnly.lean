/- The law SignOnly over the printed functions: what is made verifies; with one bit changed it doesn't. -/
import Derived.Test.YtmmbbkdbebfhiaaPSignOnlyx1
import Derived.OpenShut
set_option linter.unusedVariables false
set_option linter.unusedSimpArgs false
namespace Go.Proofs.Ytmmbbkdbebfhiaa.Pure
open Go.RowKit Go.Proofs.Ytmmbbkdbebfhiaa.PSignOnly Go.Proofs.Ytmmbbkdbebfhiaa.PT Go.Proofs.Ytmmbbkdbebfhiaa.PS Go.Proofs.YtmmbbkdbebfhiaaW.PrintWords Go.Proofs.YtmmbbkdbebfhiaaW.PrintLast Go.Proofs.Ytmmbbkdbebfhiaa.H Go.Proofs.Ytmmbbkdbebfhiaa.Sha

theorem awakeSignOnly : sconcelaw25_awake.f = some true := by decide +kernel
theorem inB_of_wfO {l : List Int} (h : ∀ x ∈ l, (Lit.int .u8 x).wf = true) : inB 8 l := fun x hx => by
  have := bounds_u8 (h x hx)
  omega
theorem flip_ne (x b : Nat) (hx : x < 256) (hb : b < 8) : Go.bits .xor .u8 (x : Int) (shl .u8 1 (IntKind.u64.wrap (b : Int))) ≠ (x : Int) ∧ 0 ≤ Go.bits .xor .u8 (x : Int) (shl .u8 1 (IntKind.u64.wrap (b : Int))) ∧ Go.bits .xor .u8 (x : Int) (shl .u8 1 (IntKind.u64.wrap (b : Int))) < 256 := by
  have h : ∀ (n : Fin 256) (m : Fin 8), Go.bits .xor .u8 (n.1 : Int) (shl .u8 1 (IntKind.u64.wrap (m.1 : Int))) ≠ (n.1 : Int) ∧ 0 ≤ Go.bits .xor .u8 (n.1 : Int) (shl .u8 1 (IntKind.u64.wrap (m.1 : Int))) ∧ Go.bits .xor .u8 (n.1 : Int) (shl .u8 1 (IntKind.u64.wrap (m.1 : Int))) < 256 := by decide +kernel
  exact h ⟨x, hx⟩ ⟨b, hb⟩
theorem SignOnly : sconcelaw25_SignOnly.Pure := by
  intro a0 l1 a2 a3 a4 _ _ hl hw _ _ _
  refine ⟨1, ?_⟩
  unfold sconcelaw25_SignOnly.f
  rw [awakeSignOnly]
  simp only [Option.bind_some, if_true]
  by_cases h : (l1.length : Int) > 1000
  · rw [if_pos h]
  rw [if_neg h]
  have hB := inB_of_wfO hw
  have hc : inB 8 l1 ∧ l1.length ≤ 140737488351232 := ⟨hB, by omega⟩
  by_cases hh : a0 = 1 ∨ a0 = 2 ∨ a0 = 3
  · by_cases h1 : a2 < 0 ∨ 1024 < a2
    · have e1 : sign_Encode.f a0 l1 a2 = some ([], 1) := by unfold sign_Encode.f; rw [if_pos hc, if_pos hh, if_pos h1]
      rw [e1]; simp
    · obtain ⟨k, rfl⟩ : ∃ k : Nat, a2 = (k : Int) := ⟨a2.toNat, by omega⟩
      by_cases h2 : (k : Int) < ((tailL a0 l1).length : Int) + 10
      · have e1 : sign_Encode.f a0 l1 (k : Int) = some ([], 232) := by unfold sign_Encode.f; rw [if_pos hc, if_pos hh, if_neg h1, if_pos h2]
        rw [e1]; simp
      · obtain ⟨x, hx⟩ : ∃ x, x = [0, 1] ++ List.replicate (k - 2 - (tailL a0 l1).length) 255 ++ tailL a0 l1 := ⟨_, rfl⟩
        have e1 : sign_Encode.f a0 l1 (k : Int) = some (x, 0) := by unfold sign_Encode.f; rw [if_pos hc, if_pos hh, if_neg h1, if_neg h2, Int.toNat_natCast, hx]
        have hxl : x.length = k := by
          rw [hx]
          simp only [List.length_append, List.length_replicate, List.length_cons, List.length_nil]
          omega
        have hxB : inB 8 x := by
          rw [hx]
          intro y hy
          rcases List.mem_append.1 hy with h3 | h3
          · rcases List.mem_append.1 h3 with h4 | h4
            · simp at h4; omega
            · rw [(List.mem_replicate.1 h4).2]; decide
          · exact tailL_in hh l1 y h3
        have hv : ∀ y, y.length = k → sign_Verify.f a0 l1 y = some ((strOfNums x).toList == (strOfNums y).toList) := by
          intro y hy
          unfold sign_Verify.f
          rw [hy, e1]
          simp [bytes_Equal.f]
        rw [e1]
        simp only [Option.bind_some, if_true]
        rw [hv x hxl]
        simp only [beq_self_eq_true, Option.bind_some, if_true]
        have hj : ∀ b, b = true → sconcelaw25_SignOnly.j0 1 a0 l1 a3 a4 x b = some true := by
          intro b hb
          subst hb
          unfold sconcelaw25_SignOnly.j0
          (try dsimp only)
          rw [if_pos rfl, hv x hxl]
          simp
        by_cases h3 : a3 < 0
        · rw [if_pos h3, hj _ rfl]
        rw [if_neg h3]
        by_cases h4 : a3 ≥ (x.length : Int)
        · rw [if_pos h4, hj _ rfl]
        rw [if_neg h4]
        by_cases h5 : a4 < 0
        · rw [if_pos h5, hj _ rfl]
        rw [if_neg h5]
        by_cases h6 : a4 > 7
        · rw [hj _ (decide_eq_true h6)]
        rw [decide_eq_false h6]
        obtain ⟨i, rfl⟩ : ∃ i : Nat, a3 = (i : Int) := ⟨a3.toNat, by omega⟩
        obtain ⟨b, rfl⟩ : ∃ b : Nat, a4 = (b : Int) := ⟨a4.toNat, by omega⟩
        have hi : i < x.length := by omega
        unfold sconcelaw25_SignOnly.j0
        (try dsimp only)
        rw [if_neg (by decide), if_pos (by simp; omega)]
        simp only [Option.bind_some, List.nil_append]
        have hw : IntKind.u64.wrap (b : Int) = (b : Int) := by have := IntKind.wrap_u64 (b : Int); omega
        rw [if_pos (by omega), if_pos (by omega), if_pos (by rw [hw]; omega), Int.toNat_natCast]
        have hrd : rd x (i : Int) = x[i] := by simp [rd, hi]
        have hbi := hxB x[i] (List.getElem_mem hi)
        obtain ⟨u, hu⟩ : ∃ u : Nat, x[i] = (u : Int) := ⟨(x[i]).toNat, by omega⟩
        obtain ⟨hne, hlo, hhi⟩ := flip_ne u b (by omega) (by omega)
        rw [hrd, hu]
        obtain ⟨v, hvv⟩ : ∃ v, v = Go.bits .xor .u8 (u : Int) (shl .u8 1 (IntKind.u64.wrap (b : Int))) := ⟨_, rfl⟩
        rw [← hvv] at hne hlo hhi ⊢
        rw [hv (x.set i v) (by simpa using hxl)]
        have hf : ((strOfNums x).toList == (strOfNums (x.set i v)).toList) = false := by
          rw [beq_eq_false_iff_ne, Lib.strOfNums_toList, Lib.strOfNums_toList]
          intro e
          have hsB : inB 8 (x.set i v) := by
            intro y hy
            rcases List.mem_or_eq_of_mem_set hy with h7 | h7
            · exact hxB y h7
            · omega
          have e2 := bytesOf_inj hxB hsB e
          have e3 : x[i] = v := by
            have : (x.set i v)[i]'(by simpa using hi) = v := List.getElem_set_self _
            rw [← this]
            congr 1
          omega
        rw [hf]
        rfl
  · have e1 : sign_Encode.f a0 l1 a2 = some ([], 130) := by unfold sign_Encode.f; rw [if_pos hc, if_neg hh]
    rw [e1]; simp
end Go.Proofs.Ytmmbbkdbebfhiaa.Pure
