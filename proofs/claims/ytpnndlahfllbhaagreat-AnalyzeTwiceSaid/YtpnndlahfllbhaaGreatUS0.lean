/-
  Slices of strings that are read.
-/
import Derived.Test.YtpnndlahfllbhaaGreatUKX
import Derived.Maps.AppendAt
import Derived.Deep.AppendLies
import Derived.OwnWalk
namespace Go.Proofs.YtpnndlahfllbhaaGreat
open Go Go.RowKit

section
variable {w W : World}
end
section
variable {P : Program} (w : World)
end
end Go.Proofs.YtpnndlahfllbhaaGreat
