/-
  The power fails at a call: the walks of 'Delete', of 'strikes' where it strikes, and of 'Plan'.
-/
import Derived.Test.YtpnndlahfllbhaaGreatUV1
import Derived.Deep.RegionLaw
import Derived.Laws.IdiomCopy
namespace Go.Proofs.YtpnndlahfllbhaaGreat
open Go.RowKit
attribute [local go_sem ↓] Go.wp_at_zero Go.wp_at_succ

end Go.Proofs.YtpnndlahfllbhaaGreat
