/- The plain law of OaepSeen. -/
import Derived.Test.YtincnnmojgphmaaPOaepSeenx1
set_option linter.unusedVariables false
namespace Go.Proofs.Ytincnnmojgphmaa.Pure
open Go.RowKit Go.Proofs.Ytincnnmojgphmaa.POaepSeen Go.Proofs.YtincnnmojgphmaaW.PrintWords Go.Proofs.YtincnnmojgphmaaW.PrintLast Go.Proofs.Ytincnnmojgphmaa.H

theorem OaepSeen : sconcelaw24_OaepSeen.Pure := by
  intro a0 l1 l2 l3 l4 _ _ _ hw1 _ _ hw2 _ _ hw3 _ _ hw4
  unfold sconcelaw24_OaepSeen.f
  rw [if_pos ⟨inB_of_wf hw1, inB_of_wf hw2, inB_of_wf hw3, inB_of_wf hw4⟩]
end Go.Proofs.Ytincnnmojgphmaa.Pure
