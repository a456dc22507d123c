/-
  The state while a page is read.
-/
import Derived.Test.YtpnndlahfllbhaaGreatUQ2
import Derived.Test.YtpnndlahfllbhaaGreatUR1
import Derived.Handy
namespace Go.Proofs.YtpnndlahfllbhaaGreat
open Go.RowKit
attribute [local go_sem ↓] Go.wp_at_zero Go.wp_at_succ

theorem Blk.set5 {w : World} {r : Nat} {t : TypeId} {x0 x1 x2 x3 x4 v0 v1 v2 v3 v4 : Value} (h : Blk w r t #[x0, x1, x2, x3, x4]) :
    Blk (((((w.setCell ⟨r, 0, none⟩ v0).setCell ⟨r, 1, none⟩ v1).setCell ⟨r, 2, none⟩ v2).setCell ⟨r, 3, none⟩ v3).setCell ⟨r, 4, none⟩ v4) r t #[v0, v1, v2, v3, v4] := by
  have := ((((h.set_ 0 v0).set_ 1 v1).set_ 2 v2).set_ 3 v3).set_ 4 v4
  simpa using this
theorem RdAt.same {w w' : World} {rb : Nat} {r : Rd} (h : RdAt w rb r) (e : w'.heap[rb]? = w.heap[rb]?) : RdAt w' rb r := ⟨h.blk.same e, h.le, h.small⟩
theorem Rd.number_lt (r : Rd) (k : Nat) : (r.number k).1 < 256 ^ k := by
  have h : 0 < 256 ^ k := Nat.pow_pos (by decide)
  unfold Rd.number
  split
  · exact h
  · split
    · exact h
    · exact numAt_lt _ _ _
theorem Rd.bytes_le (r : Rd) (n : Nat) : (r.bytes n).1.size ≤ n := by
  unfold Rd.bytes
  split
  · exact Nat.zero_le _
  · split
    · exact Nat.zero_le _
    · show (r.s.extract r.at_ (r.at_ + n)).size ≤ n
      rw [ByteArray.size_extract]; omega
section
variable {w W W' : World} {rb pb num lsn kn : Nat} {r r' : Rd} {head : ByteArray} {lv sv : Value} {ls : List Nat} {ss : List ByteArray}
end
end Go.Proofs.YtpnndlahfllbhaaGreat
