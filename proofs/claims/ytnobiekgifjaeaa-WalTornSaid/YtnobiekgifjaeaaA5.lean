/-
  The disk: a call is counted, or the power fails at it.
-/
import Derived.Test.YtnobiekgifjaeaaA4
namespace Go.Proofs.Ytnobiekgifjaeaa
open Go.RowKit

/-- what strikes does on a disk that stands as m -/
def StrikesOk (b : Nat) (m : Dk) : Prop := ∀ (W : World) (F : Nat → Prop), DiskAt W F b m → Calls Try.prog 60 #[.pointer (some ⟨b, 0, none⟩)] W fun e w' => e = .returned (.bool m.strikes.1) ∧ DPost W F b m.strikes.2 w'

set_option maxRecDepth 100000 in
set_option maxHeartbeats 400000 in
theorem strikes_no (b : Nat) (m : Dk) (hn : findAt m.calls m.plan = none) (hp : m.plan.length ≤ 1000000000000) : StrikesOk b m := by
  intro w F h
  obtain ⟨mb, lv, pv, h⟩ := h
  have hs : m.strikes = (false, { m with calls := wrapI (m.calls + 1) }) := by unfold Dk.strikes; rw [hn]
  rw [hs]
  have c6 := h.cells.2.2.2.2.2.2.1
  have c7 := h.cells.2.2.2.2.2.2.2.1
  have f6 := h.cells.2.2.2.2.2.2.2.2.2 6
  have hb := h.lt b h.fb
  have hfl : FlsAt (w.alloc (.cells #[.pointer (some ⟨b, 0, none⟩)] 25)) pv m.plan := (FlsAt.of_own h.plan).keep ((Below.refl _ _).alloc (Nat.le_refl _) _)
  have hi := indexFall_c m.plan pv b w.heap.size m.calls (w.alloc (.cells #[.pointer (some ⟨b, 0, none⟩)] 25)) hfl hp (by go_simp) (by go_simp)
  rw [← idxOf_none hn] at hi
  have HI := Lib.hid hi
  have H := Lib.hid h
  have hc1 : m.calls ≤ 9223372036854775807 := h.ok.calls2
  have hc2 : -9223372036854775808 ≤ m.calls := h.ok.calls1
  have hok : Hid (Dk.ok { m with calls := wrapI (m.calls + 1) }) := ⟨h.ok.room1, h.ok.room2, by simp only [wrapI]; omega, by simp only [wrapI]; omega, h.ok.logs, h.ok.loose, h.ok.pages⟩
  have hw : wrap64 (m.calls + 1) = wrapI (m.calls + 1) := by unfold wrap64 wrapI; rfl
  have HW := Lib.hid hw
  clear h hi hfl hs hn hw
  go_enter Try.func60, Try.ntmps60
  go_wp2_with (go_at_call 78; refine HI.out.mono ?_; rintro e w1 ⟨rfl, hb1⟩; have d6 : w1.cell? ⟨b, 6, none⟩ = some (.int .i64 m.calls) := (hb1.cell (by simp; omega)).trans (by go_simp); have d0 : w1.cell? ⟨w.heap.size, 0, none⟩ = some (.pointer (some ⟨b, 0, none⟩)) := (hb1.cell (by simp)).trans (by go_simp); have g6 : w1.frozen? ⟨b, 6, none⟩ = false := (hb1.frozen (by simp; omega)).trans (by go_simp))
  go_ret
  refine ⟨rfl, ?_⟩
  have h1 := (H.out.below ((Below.refl _ _).alloc (Nat.le_refl _) (.cells #[.pointer (some ⟨b, 0, none⟩)] 25))).below (by simpa using hb1)
  have h2 := h1.set 6 (.int .i64 (wrapI (m.calls + 1))) { m with calls := wrapI (m.calls + 1) } rfl rfl rfl rfl hok.out
  rw [HW.out]
  exact DPost.mk' h2 (((Step.below ((Below.refl _ _).alloc (Nat.le_refl _) (.cells #[.pointer (some ⟨b, 0, none⟩)] 25))).trans (More.refl _ _) (Step.below (by simpa using hb1))).setCell (.inl h1.fb) _)
end Go.Proofs.Ytnobiekgifjaeaa
