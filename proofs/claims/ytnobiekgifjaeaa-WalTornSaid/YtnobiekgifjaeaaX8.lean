/-
  The walk of girderlaw05's awake.
-/
import Derived.Test.YtnobiekgifjaeaaX7
namespace Go.Proofs.Ytnobiekgifjaeaa
open Go.RowKit
attribute [local go_sem ↓] Go.wp_at_zero Go.wp_at_succ

def ab : ByteArray := ⟨#[97, 98]⟩
theorem ab_size : ab.size = 2 := rfl
def g5a : Lg := openG [] 0
def g5b : Lg := g5a.add ab
theorem g5a_end : g5a.end_ = 1 := rfl
theorem g5_add : g5a.tryAdd ab g5a.kept = g5b := by
  unfold Lg.tryAdd
  rw [if_neg (by unfold badRec; rw [ab_size]; omega), if_neg (by unfold addFull; rw [ab_size, g5a_end]; show ¬ _ < _ + _ + (0 : Int); omega)]
  rfl
theorem g5_addV : addV g5a ab g5a.kept = .tuple #[.int .u64 1, .int .i64 0] := by
  unfold addV
  rw [if_neg (by unfold badRec; rw [ab_size]; omega), if_neg (by unfold addFull; rw [ab_size, g5a_end]; show ¬ _ < _ + _ + (0 : Int); omega)]
  rfl
theorem g5_tail : g5b.tail = frames 1 [ab] := by
  show (⟨#[]⟩ : ByteArray) ++ frameB 1 ab = frameB 1 ab ++ (⟨#[]⟩ : ByteArray)
  rw [bytes_nil, bytes_nil']
theorem g5_tail_size : g5b.tail.size = 14 := by
  rw [g5_tail]
  have := frames_size [ab] 1
  have e : endFrom 1 [ab] = 15 := rfl
  omega
theorem g5_ne : ¬ (g5b.tail = ⟨#[]⟩ ∨ (1 : Int) < (g5b.flushed : Int)) := by
  rintro (h | h)
  · have h1 := g5_tail_size
    rw [h] at h1
    cases h1
  · have e : g5b.flushed = 1 := rfl
    rw [e] at h
    omega
theorem g5_log : g5b.flushLog ⟨#[]⟩ 1 = frames 1 [ab] ++ (⟨#[]⟩ : ByteArray) := by
  unfold Lg.flushLog
  rw [if_neg g5_ne, bytes_nil', g5_tail, bytes_nil]

set_option maxRecDepth 100000 in
set_option maxHeartbeats 1000000 in
theorem awake5_c (w : World) : Calls Try.prog 36 #[] w fun e w' => e = .returned (.bool true) ∧ Below w.heap.size w w' := by
  have HN := new_c w 8 (by omega) (by omega)
  generalize hb : w.heap.size + 1 = b at *
  have HO1 : ∀ W, DW w (fun _ => False) (fun _ => True) b ⟨#[]⟩ 0 W → Hid (Calls Try.prog 38 #[.pointer (some ⟨b, 0, none⟩)] W fun e w' => ∃ lb, e = .returned (.tuple #[.pointer (some ⟨lb, 0, none⟩), .int .i64 0, .int .i64 0]) ∧ LW w (fun _ => False) (fun _ => True) b lb ⟨#[]⟩ 0 g5a w') := fun W h =>
    h.open_ stable_none (by omega) [] ⟨#[]⟩ (bytes_nil _).symm (by simp) (takenOk_short (by decide) _)
  have HA : ∀ W lb, LW w (fun _ => False) (fun _ => True) b lb ⟨#[]⟩ 0 g5a W → Hid (Calls Try.prog 39 #[.pointer (some ⟨lb, 0, none⟩), .string ⟨#[97, 98]⟩] W fun e w' => e = .returned (.tuple #[.int .u64 1, .int .i64 0]) ∧ LW w (fun _ => False) (fun _ => True) b lb ⟨#[]⟩ 0 g5b w') := fun W lb h => by
    have := h.logs stable_none (fun G h1 => lappend_c h1 (by show 0 + 1 ≤ 1; omega) ab (by rw [ab_size]; omega))
    rw [g5_addV, g5_add] at this
    exact this
  have HF : ∀ W lb, LW w (fun _ => False) (fun _ => True) b lb ⟨#[]⟩ 0 g5b W → Hid (Calls Try.prog 47 #[.pointer (some ⟨lb, 0, none⟩), .int .u64 1] W fun e w' => e = .returned (.int .i64 0) ∧ DW w (fun _ => False) (fun _ => True) b (frames 1 [ab] ++ (⟨#[]⟩ : ByteArray)) 0 w') := fun W lb h => by
    have := h.flush stable_none 1 (by rw [g5_tail_size]; decide)
    rw [g5_log] at this
    exact this.mono fun e w' ⟨he, hp⟩ => ⟨he, hp.disk⟩
  have HO2 : ∀ W, DW w (fun _ => False) (fun _ => True) b (frames 1 [ab] ++ (⟨#[]⟩ : ByteArray)) 0 W → Hid (Calls Try.prog 38 #[.pointer (some ⟨b, 0, none⟩)] W fun e w' => ∃ lb, e = .returned (.tuple #[.pointer (some ⟨lb, 0, none⟩), .int .i64 0, .int .i64 0]) ∧ LW w (fun _ => False) (fun _ => True) b lb (frames 1 [ab]) 0 (openG [ab] 0) w') := fun W h =>
    h.open_ stable_none (by omega) [ab] ⟨#[]⟩ rfl (by simp [ab_size]) (takenOk_short (by decide) _)
  have HG : ∀ W lb, LW w (fun _ => False) (fun _ => True) b lb (frames 1 [ab]) 0 (openG [ab] 0) W → Hid (Calls Try.prog 42 #[.pointer (some ⟨lb, 0, none⟩), .int .u64 1] W fun e w' => e = .returned (.tuple #[.string ⟨#[97, 98]⟩, .int .u64 15, .bool true]) ∧ LW w (fun _ => False) (fun _ => True) b lb (frames 1 [ab]) 0 (openG [ab] 0) w') := fun W lb h =>
    h.gets stable_none (fun G h1 => lget_hit h1 (x := 1) (s := ab) (by decide) (by decide) (by omega))
  clear hb
  go_enter Try.func36, Try.ntmps36
  go_wp2_with (fail)
  refine HN.mono ?_; rintro e w1 ⟨rfl, l1⟩
  have L1 := HO1 _ (DW.of_live l1)
  clear l1
  go_wp2_with (fail)
  refine L1.out.mono ?_; rintro e w2 ⟨lb, rfl, l2⟩
  have L2 := HA _ _ l2
  clear l2
  go_wp2_with (fail)
  refine L2.out.mono ?_; rintro e w3 ⟨rfl, l3⟩
  have L3 := HF _ _ l3
  clear l3
  go_wp2_with (fail)
  refine L3.out.mono ?_; rintro e w4 ⟨rfl, l4⟩
  have L4 := HO2 _ l4
  clear l4
  go_wp2_with (fail)
  refine L4.out.mono ?_; rintro e w5 ⟨lb2, rfl, l5⟩
  have L5 := HG _ _ l5
  clear l5
  go_wp2_with (fail)
  refine L5.out.mono ?_; rintro e w6 ⟨rfl, l6⟩
  have L6 := Lib.hid l6.base
  clear l6
  go_wp2
  go_ret
  exact ⟨rfl, L6.out⟩
end Go.Proofs.Ytnobiekgifjaeaa
