/- The law Sha512Pads is proved whole by its walk. -/
import Derived.Test.YtmmbbkdbebfhiaaPSha512Padsx1
import Derived.OpenShut
namespace Go.Proofs.Ytmmbbkdbebfhiaa.Pure
open Go.RowKit Go.Proofs.Ytmmbbkdbebfhiaa.H Go.Proofs.Ytmmbbkdbebfhiaa.PSha512Pads
theorem Sha512Pads : sconcelaw12_Sha512Pads.Pure := fun a0 a1 w0 => by
  have := bounds_i64 w0
  unfold sconcelaw12_Sha512Pads.f
  rw [if_pos (by omega)]
end Go.Proofs.Ytmmbbkdbebfhiaa.Pure
