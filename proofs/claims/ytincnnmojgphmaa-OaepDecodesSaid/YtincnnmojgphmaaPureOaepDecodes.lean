/- The plain law of OaepDecodes. -/
import Derived.Test.YtincnnmojgphmaaPOaepDecodesx1
set_option linter.unusedVariables false
namespace Go.Proofs.Ytincnnmojgphmaa.Pure
open Go.RowKit Go.Proofs.Ytincnnmojgphmaa.POaepDecodes Go.Proofs.YtincnnmojgphmaaW.PrintWords Go.Proofs.YtincnnmojgphmaaW.PrintLast Go.Proofs.Ytincnnmojgphmaa.H

theorem OaepDecodes : sconcelaw24_OaepDecodes.Pure := by
  intro a0 l1 l2 _ _ _ hw1 _ hm2 hw2
  unfold sconcelaw24_OaepDecodes.f
  rw [if_pos ⟨inB_of_wf hw1, inB_of_wf hw2, by omega⟩]
end Go.Proofs.Ytincnnmojgphmaa.Pure
