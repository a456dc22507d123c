/-
  The walk of 'WalNil'.
-/
import Derived.Test.YtnobiekgifjaeaaX8
namespace Go.Proofs.Ytnobiekgifjaeaa
open Go.RowKit
attribute [local go_sem ↓] Go.wp_at_zero Go.wp_at_succ

set_option maxRecDepth 100000 in
set_option maxHeartbeats 1000000 in
theorem open_nil (w : World) : Calls Try.prog 38 #[.pointer none] w fun e w' => e = .returned (.tuple #[.pointer none, .int .i64 0, .int .i64 1]) ∧ w' = w := by
  go_enter Try.func38, Try.ntmps38
  go_wp2
  go_ret3
  exact ⟨rfl, rfl⟩

set_option maxRecDepth 100000 in
set_option maxHeartbeats 1000000 in
theorem walNil_w (c0 c1 c3 c4 c5 c6 c7 c8 : Value) (s : ByteArray) (w : World) :
    Calls Try.prog 12 #[.agg #[c0, c1, .string s, c3, c4, c5, c6, c7, c8]] w fun e w' => e = .returned (.bool true) ∧ Below w.heap.size w w' := by
  have HW : ∀ W, Hid (Calls Try.prog 36 #[] W fun e w' => e = .returned (.bool true) ∧ Below W.heap.size W w') := fun W => awake5_c W
  go_enter Try.func12, Try.ntmps12
  go_wp2_with (fail)
  have k2 := (Blk.new w 85 #[c0, c1, .string s, c3, c4, c5, c6, c7, c8]).cell 2
  have hb1 : Below w.heap.size w (w.alloc (.cells #[c0, c1, .string s, c3, c4, c5, c6, c7, c8] 85)) := (Below.refl _ _).alloc (Nat.le_refl _) _
  generalize w.alloc (.cells #[c0, c1, .string s, c3, c4, c5, c6, c7, c8] 85) = w1 at *
  refine (lappend_nil _ _).mono ?_; rintro e w2 ⟨rfl, rfl⟩
  go_wp2_with (fail)
  refine (lspend_nil _ _).mono ?_; rintro e w2 ⟨rfl, rfl⟩
  go_wp2_with (fail)
  refine (lget_nil _ _).mono ?_; rintro e w2 ⟨rfl, q1, rfl⟩
  go_wp2_with (fail)
  refine (lback_nil _ _).mono ?_; rintro e w2 ⟨rfl, q2, rfl⟩
  go_wp2_with (fail)
  refine (llast_nil _).mono ?_; rintro e w2 ⟨rfl, q3, rfl⟩
  go_wp2_with (fail)
  refine (open_nil _).mono ?_; rintro e w2 ⟨rfl, rfl⟩
  go_wp2_with (fail)
  refine (HW _).out.mono ?_; rintro e w3 ⟨rfl, hb3⟩
  go_wp2_with (fail)
  refine (lkeep_nil _ _).mono ?_; rintro e w2 ⟨rfl, rfl⟩
  go_wp2_with (fail)
  refine (lgive_nil _ _).mono ?_; rintro e w2 ⟨rfl, rfl⟩
  go_wp2_with (fail)
  refine (lflush_nil _ _).mono ?_; rintro e w2 ⟨rfl, rfl⟩
  go_wp2_with (fail)
  refine (lflushed_nil _).mono ?_; rintro e w2 ⟨rfl, rfl⟩
  go_wp2_with (fail)
  refine (lend_nil _).mono ?_; rintro e w2 ⟨rfl, rfl⟩
  go_wp2_with (fail)
  refine (lroom_nil _).mono ?_; rintro e w2 ⟨rfl, rfl⟩
  go_wp2_with (fail)
  refine (lkept_nil _).mono ?_; rintro e w2 ⟨rfl, rfl⟩
  go_wp2_with (fail)
  refine (llen_nil _).mono ?_; rintro e w2 ⟨rfl, rfl⟩
  go_wp2_with (fail)
  refine (lmaster_nil _).mono ?_; rintro e w2 ⟨rfl, rfl⟩
  go_wp2_with (fail)
  refine (lsetMaster_nil _ _).mono ?_; rintro e w2 ⟨rfl, rfl⟩
  go_wp2
  go_ret
  exact ⟨rfl, (hb1.trans ((below_drewN _ _).mono hb1.size)).trans (hb3.mono hb1.size)⟩
end Go.Proofs.Ytnobiekgifjaeaa
