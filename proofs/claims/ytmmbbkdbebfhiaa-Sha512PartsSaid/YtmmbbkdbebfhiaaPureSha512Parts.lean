/- The law Sha512Parts is proved whole by its walk. -/
import Derived.Test.YtmmbbkdbebfhiaaPSha512Partsx1
import Derived.OpenShut
namespace Go.Proofs.Ytmmbbkdbebfhiaa.Pure
open Go.RowKit Go.Proofs.Ytmmbbkdbebfhiaa.H Go.Proofs.Ytmmbbkdbebfhiaa.PSha512Parts Go.Proofs.Ytmmbbkdbebfhiaa.Sha
theorem Sha512Parts : sconcelaw12_Sha512Parts.Pure := fun l0 a1 _ _ hw => by
  have h0 : inB 8 l0 := fun x hx => by
    have := bounds_u8 (hw x hx)
    omega
  unfold sconcelaw12_Sha512Parts.f
  rw [if_pos h0]
end Go.Proofs.Ytmmbbkdbebfhiaa.Pure
