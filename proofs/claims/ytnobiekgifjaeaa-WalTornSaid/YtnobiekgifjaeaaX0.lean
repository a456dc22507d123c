/-
  The walks of the log's small functions.
-/
import Derived.Test.YtnobiekgifjaeaaW9
import Derived.OwnWalk
namespace Go.Proofs.Ytnobiekgifjaeaa
open Go.RowKit
attribute [local go_sem ↓] Go.wp_at_zero Go.wp_at_succ

theorem drewN_two (w : World) (a b : Nat) : (w.drewN a).drewN b = w.drewN (a + b) := by simp [World.drewN, Nat.add_assoc]

section
variable {w : World} {G : Nat → Prop} {lb db : Nat} {g : Lg}

theorem lend_c (h : WalAt w G lb db g) : Calls Try.prog 40 #[.pointer (some ⟨lb, 0, none⟩)] w fun e w' => e = .returned (.int .u64 (g.end_ : Int)) ∧ w' = w := by
  obtain ⟨lv, av, h⟩ := h
  have c3 := h.cells.2.2.2.1
  clear h
  go_enter Try.func40, Try.ntmps40
  go_wp2
  go_ret
  exact ⟨rfl, rfl⟩
theorem lend_nil (w : World) : Calls Try.prog 40 #[.pointer none] w fun e w' => e = .returned (.int .u64 0) ∧ w' = w := by
  go_enter Try.func40, Try.ntmps40
  go_wp2
  go_ret
  exact ⟨rfl, rfl⟩
theorem lkept_c (h : WalAt w G lb db g) : Calls Try.prog 46 #[.pointer (some ⟨lb, 0, none⟩)] w fun e w' => e = .returned (.int .i64 g.kept) ∧ w' = w := by
  obtain ⟨lv, av, h⟩ := h
  have c5 := h.cells.2.2.2.2.2.1
  clear h
  go_enter Try.func46, Try.ntmps46
  go_wp2
  go_ret
  exact ⟨rfl, rfl⟩
theorem lkept_nil (w : World) : Calls Try.prog 46 #[.pointer none] w fun e w' => e = .returned (.int .i64 0) ∧ w' = w := by
  go_enter Try.func46, Try.ntmps46
  go_wp2
  go_ret
  exact ⟨rfl, rfl⟩
theorem lmaster_c (h : WalAt w G lb db g) : Calls Try.prog 56 #[.pointer (some ⟨lb, 0, none⟩)] w fun e w' => e = .returned (.int .u64 (g.marks : Int)) ∧ w' = w := by
  obtain ⟨lv, av, h⟩ := h
  have c7 := h.cells.2.2.2.2.2.2.2.1
  clear h
  go_enter Try.func56, Try.ntmps56
  go_wp2
  go_ret
  exact ⟨rfl, rfl⟩
theorem lmaster_nil (w : World) : Calls Try.prog 56 #[.pointer none] w fun e w' => e = .returned (.int .u64 0) ∧ w' = w := by
  go_enter Try.func56, Try.ntmps56
  go_wp2
  go_ret
  exact ⟨rfl, rfl⟩
theorem llen_c (h : WalAt w G lb db g) : Calls Try.prog 48 #[.pointer (some ⟨lb, 0, none⟩)] w fun e w' => e = .returned (.int .i64 (g.recs.length : Int)) ∧ w' = w := by
  obtain ⟨lv, av, h⟩ := h
  have c1 := h.cells.2.1
  obtain ⟨a, c, rfl⟩ := own_form h.recs
  clear h
  go_enter Try.func48, Try.ntmps48
  go_wp2
  go_ret
  exact ⟨rfl, rfl⟩
theorem llen_nil (w : World) : Calls Try.prog 48 #[.pointer none] w fun e w' => e = .returned (.int .i64 0) ∧ w' = w := by
  go_enter Try.func48, Try.ntmps48
  go_wp2
  go_ret
  exact ⟨rfl, rfl⟩
theorem lroom_c (h : WalAt w G lb db g) : Calls Try.prog 44 #[.pointer (some ⟨lb, 0, none⟩)] w fun e w' => e = .returned (.int .i64 (4194305 - (g.end_ : Int))) ∧ w' = w := by
  have he := h.ok.end_le
  have hp := g.end_pos
  obtain ⟨lv, av, h⟩ := h
  have c3 := h.cells.2.2.2.1
  clear h
  go_enter Try.func44, Try.ntmps44
  go_wp2
  go_ret
  refine ⟨?_, rfl⟩
  rw [show (4194305 : Int) - (g.end_ : Int) = 4194304 - ((g.end_ : Int) - 1) by omega]
  rfl
theorem lroom_nil (w : World) : Calls Try.prog 44 #[.pointer none] w fun e w' => e = .returned (.int .i64 0) ∧ w' = w := by
  go_enter Try.func44, Try.ntmps44
  go_wp2
  go_ret
  exact ⟨rfl, rfl⟩

/-- the first record that is not flushed -/
def Lg.flushed (g : Lg) : Nat := (places 1 g.recs)[g.sure]?.getD g.end_

theorem lflushed_c (h : WalAt w G lb db g) : Calls Try.prog 49 #[.pointer (some ⟨lb, 0, none⟩)] w fun e w' => e = .returned (.int .u64 (g.flushed : Int)) ∧ ∃ q, w' = w.drewN q := by
  have hl := h.ok.length
  obtain ⟨lv, av, h⟩ := h
  have c2 := h.cells.2.2.1
  have c3 := h.cells.2.2.2.1
  have c4 := h.cells.2.2.2.2.1
  unfold Lg.flushed
  rcases Nat.lt_or_ge g.sure g.recs.length with hs | hs
  · have hp : (places 1 g.recs)[g.sure]? = some ((places 1 g.recs)[g.sure]'(by rw [places_length]; exact hs)) := List.getElem?_eq_getElem _
    generalize (places 1 g.recs)[g.sure]'(by rw [places_length]; exact hs) = p at hp
    obtain ⟨b, cap, rfl, q1, q2, q3, q4⟩ := h.atCell hp
    rw [hp]
    clear h hp
    go_enter Try.func49, Try.ntmps49
    go_wp2
    go_quiet (fail)
    go_wp2
    go_quiet (fail)
    go_wp2
    go_ret
    exact ⟨rfl, _, drewN_two _ _ _⟩
  · rw [List.getElem?_eq_none (by rw [places_length]; exact hs)]
    obtain ⟨a, c, rfl⟩ := own_form h.ats
    clear h
    go_enter Try.func49, Try.ntmps49
    go_wp2
    go_quiet (fail)
    go_wp2
    go_ret
    exact ⟨rfl, _, rfl⟩
theorem lflushed_nil (w : World) : Calls Try.prog 49 #[.pointer none] w fun e w' => e = .returned (.int .u64 0) ∧ w' = w := by
  go_enter Try.func49, Try.ntmps49
  go_wp2
  go_ret
  exact ⟨rfl, rfl⟩

theorem lget_hit (h : WalAt w G lb db g) {x : Nat} {s : ByteArray} (hh : g.has x = true) (hi : g.recs[g.idx x]? = some s) (hx : x ≤ 4194305) :
    Calls Try.prog 42 #[.pointer (some ⟨lb, 0, none⟩), .int .u64 (x : Int)] w fun e w' => e = .returned (.tuple #[.string s, .int .u64 (((x + s.size + 12 : Nat)) : Int), .bool true]) ∧ ∃ q, w' = w.drewN q := by
  have hl := h.ok.length
  have hss := h.ok.recs s (List.mem_of_getElem? hi)
  have HF := Lib.hid (lfind_c h x)
  obtain ⟨lv, av, h⟩ := h
  have c1 := h.cells.2.1
  obtain ⟨b, cap, rfl, q1, q2, q3, q4⟩ := h.recCell hi
  rw [hh] at HF
  generalize g.idx x = i at *
  generalize g.recs.length = n at *
  clear h hi hh
  go_enter Try.func42, Try.ntmps42
  go_wp2_with (fail)
  refine HF.out.mono ?_
  rintro e w' ⟨rfl, q, rfl⟩
  go_wp2
  go_quiet (fail)
  go_wp2
  go_ret3
  exact ⟨by rw [show ((x + s.size + 12 : Nat) : Int) = (x : Int) + ((s.size : Int) + 12) by omega]; rfl, _, drewN_two _ _ _⟩
theorem lget_miss (h : WalAt w G lb db g) {x : Int} (hh : g.has x = false) :
    Calls Try.prog 42 #[.pointer (some ⟨lb, 0, none⟩), .int .u64 x] w fun e w' => e = .returned (.tuple #[.string ⟨#[]⟩, .int .u64 0, .bool false]) ∧ ∃ q, w' = w.drewN q := by
  have HF := Lib.hid (lfind_c h x)
  rw [hh] at HF
  clear h hh
  go_enter Try.func42, Try.ntmps42
  go_wp2_with (fail)
  refine HF.out.mono ?_
  rintro e w' ⟨rfl, q, rfl⟩
  go_wp2
  go_ret3
  exact ⟨rfl, _, rfl⟩
theorem lget_nil (w : World) (x : Int) : Calls Try.prog 42 #[.pointer none, .int .u64 x] w fun e w' => e = .returned (.tuple #[.string ⟨#[]⟩, .int .u64 0, .bool false]) ∧ ∃ q, w' = w.drewN q := by
  have HF := Lib.hid (lfind_nil w x)
  go_enter Try.func42, Try.ntmps42
  go_wp2_with (fail)
  refine HF.out.mono ?_
  rintro e w' ⟨rfl, rfl⟩
  go_wp2
  go_ret3
  exact ⟨rfl, 0, rfl⟩
end
end Go.Proofs.Ytnobiekgifjaeaa
