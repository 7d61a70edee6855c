/- What hash.Prefix answers is what the document's Prefix answers, for every number: the plain statement of the law HashPrefixes. -/
import Derived.Test.YtmmbbkdbebfhiaaPHashPrefixesx
namespace Go.Proofs.Ytmmbbkdbebfhiaa.Pure
open Go.RowKit Go.Proofs.Ytmmbbkdbebfhiaa.PHashPrefixes Go.Proofs.YtmmbbkdbebfhiaaW.PrintWords Go.Proofs.YtmmbbkdbebfhiaaW.PrintLast Go.Proofs.Ytmmbbkdbebfhiaa.H

theorem HashPrefixes : sconcelaw13_HashPrefixes.Pure := by
  intro a0 _
  have ha : sconcelaw13_awake.f = some true := by decide +kernel
  unfold sconcelaw13_HashPrefixes.f
  rw [ha]
  simp only [Option.bind_some, if_true]
  by_cases h1 : a0 = 1
  · subst h1; decide +kernel
  by_cases h2 : a0 = 2
  · subst h2; decide +kernel
  by_cases h3 : a0 = 3
  · subst h3; decide +kernel
  · simp only [hash_Prefix.f, sconceref13_Prefix.f, sconceref13_Size.f, if_neg h1, if_neg h2, if_neg h3, Option.bind_some]
    rw [show (0 : Int) % 256 = 0 from rfl, if_pos rfl]
    decide +kernel

end Go.Proofs.Ytmmbbkdbebfhiaa.Pure
