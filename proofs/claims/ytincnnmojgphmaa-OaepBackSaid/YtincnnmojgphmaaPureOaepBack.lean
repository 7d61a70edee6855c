/- The plain law of OaepBack. -/
import Derived.Test.YtincnnmojgphmaaPOaepBackx1
set_option linter.unusedVariables false
namespace Go.Proofs.Ytincnnmojgphmaa.Pure
open Go.RowKit Go.Proofs.Ytincnnmojgphmaa.POaepBack Go.Proofs.YtincnnmojgphmaaW.PrintWords Go.Proofs.YtincnnmojgphmaaW.PrintLast Go.Proofs.Ytincnnmojgphmaa.H

theorem OaepBack : sconcelaw24_OaepBack.Pure := by
  intro a0 l1 l2 a3 l4 l5 _ _ _ hw1 _ _ hw2 _ _ _ hw4 _ _ hw5
  unfold sconcelaw24_OaepBack.f
  rw [if_pos ⟨inB_of_wf hw1, inB_of_wf hw2, inB_of_wf hw4, inB_of_wf hw5⟩]
end Go.Proofs.Ytincnnmojgphmaa.Pure
