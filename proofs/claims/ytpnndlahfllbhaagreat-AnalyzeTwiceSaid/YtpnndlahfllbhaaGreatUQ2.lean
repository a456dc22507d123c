/-
  The walk of page.Encode.
-/
import Derived.Test.YtpnndlahfllbhaaGreatUQ1
namespace Go.Proofs.YtpnndlahfllbhaaGreat
open Go.RowKit
attribute [local go_sem ↓] Go.wp_at_zero Go.wp_at_succ

section
variable {w w1 W : World} {wb : Nat} {acc : ByteArray}
end
section
variable {w : World} {x : Sh} {sv : Value}
end
end Go.Proofs.YtpnndlahfllbhaaGreat
