/- The name of any number, the number of any name: the plain statement of the law HashNames. -/
import Derived.Test.YtmmbbkdbebfhiaaPHashNamesx
namespace Go.Proofs.Ytmmbbkdbebfhiaa.Pure
open Go.RowKit Go.Proofs.Ytmmbbkdbebfhiaa.PHashNames Go.Proofs.YtmmbbkdbebfhiaaW.PrintWords Go.Proofs.YtmmbbkdbebfhiaaW.PrintLast Go.Proofs.Ytmmbbkdbebfhiaa.H

theorem HashNames : sconcelaw13_HashNames.Pure := by
  intro a0 a1 _ hs
  refine ⟨10, ?_⟩
  have ha : sconcelaw13_awake.f = some true := by decide +kernel
  unfold sconcelaw13_HashNames.f
  rw [ha]
  simp only [Option.bind_some, if_true]
  by_cases hlong : (a1.size : Int) > 100
  · rw [if_pos hlong]
    simp [sconcelaw13_HashNames.j0, hlong]
  rw [if_neg hlong]
  have hname : ∃ s, hash_Name.f a0 = some s ∧ sconceref13_Name.f a0 = some s := by
    unfold hash_Name.f hash_of.f sconceref13_Name.f
    by_cases h1 : a0 = 1
    · subst h1; exact ⟨_, rfl, rfl⟩
    by_cases h2 : a0 = 2
    · subst h2; exact ⟨_, rfl, rfl⟩
    by_cases h3 : a0 = 3
    · subst h3; exact ⟨_, rfl, rfl⟩
    · simp [h1, h2, h3]
  obtain ⟨s, e1, e2⟩ := hname
  rw [e1, e2]
  simp only [Option.bind_some, bne_self_eq_false, sconcelaw13_HashNames.j0, Bool.false_eq_true, if_false]
  have t1 : (⟨#[115, 104, 97, 50, 53, 54]⟩ : ByteArray).toList = n1 := by decide +kernel
  have t2 : (⟨#[115, 104, 97, 51, 56, 52]⟩ : ByteArray).toList = n2 := by decide +kernel
  have t3 : (⟨#[115, 104, 97, 53, 49, 50]⟩ : ByteArray).toList = n3 := by decide +kernel
  have r1 : sconceref13_Name.f 1 = some ⟨#[115, 104, 97, 50, 53, 54]⟩ := rfl
  have r2 : sconceref13_Name.f (wrap64 (1 + 1)) = some ⟨#[115, 104, 97, 51, 56, 52]⟩ := by decide +kernel
  have r3 : sconceref13_Name.f (wrap64 (wrap64 (1 + 1) + 1)) = some ⟨#[115, 104, 97, 53, 49, 50]⟩ := by decide +kernel
  have w1 : wrap64 (1 + 1) = 2 := by decide +kernel
  have w2 : wrap64 (2 + 1) = 3 := by decide +kernel
  have w3 : wrap64 (3 + 1) = 4 := by decide +kernel
  have c1 : (1 : Int) ≤ 3 := by decide
  have c2 : (2 : Int) ≤ 3 := by decide
  have c4 : ¬ (4 : Int) ≤ 3 := by decide
  rw [w1] at r2 r3
  rw [w2] at r3
  have n12 : n1 ≠ n2 := by decide
  have n13 : n1 ≠ n3 := by decide
  have n23 : n2 ≠ n3 := by decide
  generalize hL : a1.toList = L
  by_cases q1 : n1 = L
  · subst q1
    simp only [sconcelaw13_HashNames.l0, r1, r2, r3, w1, w2, w3, c1, c2, c4, t1, t2, t3, hL, Option.bind_some, if_true, if_false, Int.le_refl, n12.symm, n13.symm, hash_Of.f, BEq.rfl]
    try simp
  by_cases q2 : n2 = L
  · subst q2
    simp only [sconcelaw13_HashNames.l0, r1, r2, r3, w1, w2, w3, c1, c2, c4, t1, t2, t3, hL, Option.bind_some, if_true, if_false, Int.le_refl, n12, n23.symm, hash_Of.f, beq_eq_false_iff_ne.2 n12]
    try simp
  by_cases q3 : n3 = L
  · subst q3
    simp only [sconcelaw13_HashNames.l0, r1, r2, r3, w1, w2, w3, c1, c2, c4, t1, t2, t3, hL, Option.bind_some, if_true, if_false, Int.le_refl, n13, n23, hash_Of.f, beq_eq_false_iff_ne.2 n13, beq_eq_false_iff_ne.2 n23]
    try simp
  · simp only [sconcelaw13_HashNames.l0, r1, r2, r3, w1, w2, w3, c1, c2, c4, t1, t2, t3, hL, Option.bind_some, if_true, if_false, Int.le_refl, q1, q2, q3, hash_Of.f, beq_eq_false_iff_ne.2 q1, beq_eq_false_iff_ne.2 q2, beq_eq_false_iff_ne.2 q3]
    try simp

end Go.Proofs.Ytmmbbkdbebfhiaa.Pure
