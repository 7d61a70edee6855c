/- The law HashSums over the printed functions: Sum is the reference's, Size tells its length. -/
import Derived.Test.YtmmbbkdbebfhiaaPHashSumsx1
import Derived.OpenShut
namespace Go.Proofs.Ytmmbbkdbebfhiaa.Pure
open Go.RowKit Go.Proofs.Ytmmbbkdbebfhiaa.PHashSums Go.Proofs.Ytmmbbkdbebfhiaa.PS Go.Proofs.YtmmbbkdbebfhiaaW.PrintWords Go.Proofs.YtmmbbkdbebfhiaaW.PrintLast Go.Proofs.Ytmmbbkdbebfhiaa.H Go.Proofs.Ytmmbbkdbebfhiaa.Sha

theorem awake13Ok : sconcelaw13_awake.f = some true := by decide +kernel

theorem same13 (l : List Int) : sconceref13_Same.f l l = some true := by simp [sconceref13_Same.f]

theorem inB_of_wf {l : List Int} (h : ∀ x ∈ l, (Lit.int .u8 x).wf = true) : inB 8 l := fun x hx => by
  have := bounds_u8 (h x hx)
  omega

theorem HashSums : sconcelaw13_HashSums.Pure := by
  intro a0 l1 _ _ hl hw
  have hb : inB 8 l1 ∧ l1.length ≤ 140737488351232 := ⟨inB_of_wf hw, by omega⟩
  unfold sconcelaw13_HashSums.f
  rw [awake13Ok]
  simp only [Option.bind_some, if_true]
  by_cases h : (l1.length : Int) > 3000
  · rw [if_pos h]
  rw [if_neg h]
  have n5 : (sum5 l1).length = 32 := sum5_length l1
  have n6 : (sum6 (S6 false) l1).length = 64 := sum6_length _ _ rfl
  have n3 : ((sum6 (S6 true) l1).take 48).length = 48 := by rw [List.length_take, sum6_length _ _ rfl]; rfl
  by_cases h1 : a0 = 1
  · subst h1
    simp [hash_Sum.f, sconceref13_Sum.f, sha256_Sum.f, sconceref11_Sum.f, hb, same13, hash_Size.f, sconceref13_Size.f, n5]
  by_cases h2 : a0 = 2
  · subst h2
    simp only [hash_Sum.f, sconceref13_Sum.f, sha512_Sum384.f, sconceref12_Sum.f, if_pos hb, Option.bind_some, if_true, reduceIte, show ¬ ((2 : Int) = 1) by decide]
    simp [hash_Size.f, sconceref13_Size.f, n3, same13]
  by_cases h3 : a0 = 3
  · subst h3
    simp [hash_Sum.f, sconceref13_Sum.f, sha512_Sum.f, sconceref12_Sum.f, hb, same13, hash_Size.f, sconceref13_Size.f, n6]
  simp [hash_Sum.f, sconceref13_Sum.f, same13, hash_Size.f, sconceref13_Size.f, h1, h2, h3]
end Go.Proofs.Ytmmbbkdbebfhiaa.Pure
