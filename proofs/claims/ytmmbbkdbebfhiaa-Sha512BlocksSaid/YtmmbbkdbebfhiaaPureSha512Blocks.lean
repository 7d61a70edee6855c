/- The law Sha512Blocks is proved whole by its walk. -/
import Derived.Test.YtmmbbkdbebfhiaaPSha512Blocksx1
import Derived.OpenShut
namespace Go.Proofs.Ytmmbbkdbebfhiaa.Pure
open Go.RowKit Go.Proofs.Ytmmbbkdbebfhiaa.H Go.Proofs.Ytmmbbkdbebfhiaa.PSha512Blocks Go.Proofs.Ytmmbbkdbebfhiaa.Sha
theorem Sha512Blocks : sconcelaw12_Sha512Blocks.Pure := fun a0 l1 w0 _ _ hw => by
  have h0 : inB 64 a0 := fun x hx => by
    have := bounds_u64 (w0.2 x hx)
    omega
  have h1 : inB 8 l1 := fun x hx => by
    have := bounds_u8 (hw x hx)
    omega
  unfold sconcelaw12_Sha512Blocks.f
  rw [if_pos ⟨w0.1, h0, h1⟩]
end Go.Proofs.Ytmmbbkdbebfhiaa.Pure
