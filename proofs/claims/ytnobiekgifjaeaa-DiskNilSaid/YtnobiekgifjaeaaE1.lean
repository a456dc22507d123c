/-
  DiskNil: the walk.
-/
import Derived.Test.YtnobiekgifjaeaaB2
namespace Go.Proofs.Ytnobiekgifjaeaa
open Go.RowKit

set_option maxRecDepth 100000 in
set_option maxHeartbeats 1000000 in
theorem diskNil_w (c0 c1 c2 c3 c4 c5 c6 c7 c8 c9 c10 : Value) (w : World) :
    Calls Try.prog 6 #[.agg #[c0, c1, c2, c3, c4, c5, c6, c7, c8, c9, c10]] w fun e w' => e = .returned (.bool true) ∧ Below w.heap.size w w' := by
  have HA : ∀ W, Hid (Calls Try.prog 15 #[] W fun e w' => e = .returned (.bool true) ∧ Below W.heap.size W w') := fun W => awake_c W
  go_enter Try.func6, Try.ntmps6
  go_wp2_with (first | (go_at_call 15; refine (HA _).out.mono ?_; rintro e w2 ⟨rfl, hb2⟩; have k4 : w2.cell? ⟨w.heap.size, 4, none⟩ = some c4 := (hb2.cell (by simp; omega)).trans (by go_simp); have k2 : w2.cell? ⟨w.heap.size, 2, none⟩ = some c2 := (hb2.cell (by simp; omega)).trans (by go_simp); have HB := Lib.hid hb2; clear hb2) | go_in)
  go_end0
  go_wp2_with (first | (go_at_call 15; refine (HA _).out.mono ?_; rintro e w2 ⟨rfl, hb2⟩; have k4 : w2.cell? ⟨w.heap.size, 4, none⟩ = some c4 := (hb2.cell (by simp; omega)).trans (by go_simp); have k2 : w2.cell? ⟨w.heap.size, 2, none⟩ = some c2 := (hb2.cell (by simp; omega)).trans (by go_simp); have HB := Lib.hid hb2; clear hb2) | go_in)
  first | go_end0 | (simp only [Exit.inBlock, Exit.then]; refine bodyPost_ret (results_none rfl _ _ _) rfl ?_) | refine bodyPost_ret (results_none rfl _ _ _) rfl ?_
  go_wp2_with (first | (go_at_call 15; refine (HA _).out.mono ?_; rintro e w2 ⟨rfl, hb2⟩; have k4 : w2.cell? ⟨w.heap.size, 4, none⟩ = some c4 := (hb2.cell (by simp; omega)).trans (by go_simp); have k2 : w2.cell? ⟨w.heap.size, 2, none⟩ = some c2 := (hb2.cell (by simp; omega)).trans (by go_simp); have HB := Lib.hid hb2; clear hb2) | go_in)
  go_ret
  exact ⟨rfl, (((Below.refl _ _).alloc (Nat.le_refl _) _).alloc (by simp) _).trans (HB.out.mono (by simp; omega))⟩
end Go.Proofs.Ytnobiekgifjaeaa
