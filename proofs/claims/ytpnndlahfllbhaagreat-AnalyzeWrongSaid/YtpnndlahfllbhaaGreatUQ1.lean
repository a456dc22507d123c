/-
  The walk of page.Room.
-/
import Derived.Test.YtpnndlahfllbhaaGreatUP0
import Derived.Test.YtpnndlahfllbhaaGreatUR0
import Derived.Test.YtpnndlahfllbhaaGreatUS0
namespace Go.Proofs.YtpnndlahfllbhaaGreat
open Go.RowKit
attribute [local go_sem ↓] Go.wp_at_zero Go.wp_at_succ

/-- what every page in memory keeps to -/
structure Sh.mild (x : Sh) : Prop where
  num : x.num < 4294967296
  lsn : x.lsn < 18446744073709551616
  kind1 : -9223372036854775808 ≤ x.kind
  kind2 : x.kind ≤ 9223372036854775807
  head : x.head.size ≤ 1000000
  count : x.slots.length ≤ 1000000
  slots : slotsLen x.slots ≤ 100000000
section
variable {w : World} {x : Sh} {sv : Value}
end
end Go.Proofs.YtpnndlahfllbhaaGreat
