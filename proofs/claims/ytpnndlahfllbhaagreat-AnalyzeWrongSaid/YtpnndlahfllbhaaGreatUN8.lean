/-
  The walk of rec.Decode: all ways. Printed by n7.py.
-/
import Derived.Test.YtpnndlahfllbhaaGreatUN7A
import Derived.Test.YtpnndlahfllbhaaGreatUN7B
import Derived.Test.YtpnndlahfllbhaaGreatUN7C
namespace Go.Proofs.YtpnndlahfllbhaaGreat
open Go.RowKit
attribute [local go_sem ↓] Go.wp_at_zero Go.wp_at_succ

section
variable {w : World} {s : ByteArray}
theorem recDecode_c (hs : s.size ≤ 1000000000000) : Calls Tryz.prog 22 #[.string s] w (RecPost w s) := by
  by_cases he : (recOfRd ⟨s, 0, 0⟩).2.endOf = 0
  · by_cases hok : (recOfRd ⟨s, 0, 0⟩).1.ok
    · exact recDecode_A ⟨he, hok⟩ hs
    · exact recDecode_B ⟨he, hok⟩ hs
  · exact recDecode_C he hs
end
end Go.Proofs.YtpnndlahfllbhaaGreat
