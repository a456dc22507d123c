/-
  KF: C0 C2 D0 D1.
-/
import Derived.Test.YtpnndlahfllbhaaGreatUKD
import Derived.Test.YtpnndlahfllbhaaGreatRows
import Derived.ChangeOld
import Derived.OpenShut
import Derived.ProofKit
import Derived.ShutString
import Derived.SizedLaws
import Derived.SliceStrings
/-! What a walk is told of slices of strings that came in. -/
namespace Go.Proofs.YtpnndlahfllbhaaGreat
open Go.RowKit

end Go.Proofs.YtpnndlahfllbhaaGreat

/-! What a walk is told of slices of integers that came in. -/
namespace Go.Proofs.YtpnndlahfllbhaaGreat
open Go.RowKit

end Go.Proofs.YtpnndlahfllbhaaGreat

/-! What every statement's proof shares: the program's own facts, and how arguments are opened. -/
namespace Go.Proofs.YtpnndlahfllbhaaGreat
open Go.ChangeShapes Go.WideShapes Go.ChangeAt Go.RowKit
open Go.ChangeMaps (open_string shut_string)

theorem own : ownKnob Tryz.prog.godebug = none := by kernel_rfl
theorem laidOut : laidOutB Tryz.prog = true := by kernel_rfl

end Go.Proofs.YtpnndlahfllbhaaGreat

/-! How integers, arrays and structs among the arguments are opened. -/
namespace Go.Proofs.YtpnndlahfllbhaaGreat
open Go.ChangeShapes Go.WideShapes Go.ChangeAt Go.RowKit

section
variable {H : Type} {enc : TypeId × Value → H} {W : World}
end
end Go.Proofs.YtpnndlahfllbhaaGreat
