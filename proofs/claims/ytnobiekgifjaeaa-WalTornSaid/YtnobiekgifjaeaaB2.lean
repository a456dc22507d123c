/-
  Layer 2 is awake: what is synced stays.
-/
import Derived.Test.YtnobiekgifjaeaaB1
namespace Go.Proofs.Ytnobiekgifjaeaa
open Go.RowKit

def awkA : Dk := { Dk.fresh 8 with calls := 1, loose := [⟨1, pageOf 1, 0⟩] }
def awkB : Dk := { Dk.fresh 8 with calls := 2, pages := putAt (fun _ => none) 1 (pageOf 1) }
def awkC : Dk := { awkB with calls := 3, loose := [⟨1, pageOf 2, 0⟩] }
def awkD : Dk := { awkB with calls := 3, dead := true }
def awkE : Dk := { awkB with calls := 3 }
def noFall : Fl := ⟨0, 0, 0, 0, 0⟩

theorem awk_crash : awkC.crash noFall = awkD := by
  have h1 : awkC.strikesFrom noFall 0 awkC.loose = awkC := by
    show awkC.strikesFrom noFall 0 [⟨1, pageOf 2, 0⟩] = awkC
    unfold Dk.strikesFrom Dk.strikesFrom Dk.strike
    rw [if_neg (by decide), if_neg (by decide)]
  unfold Dk.crash
  rw [if_neg (by decide), h1]
  unfold Dk.fell awkC awkD awkB Dk.fresh
  congr 1

theorem awk_read : awkE.read 1 = pageOf 1 := by
  show awkE.sure 1 = _
  unfold Dk.sure awkE awkB putAt
  rfl

theorem awk_live (w0 w : World) (b : Nat) (h : Live w0 b (Dk.fresh 8) w) : Live w0 b (Dk.fresh 8) w := h

theorem noFall_ok : noFall.ok := ⟨by decide, by decide, by decide, by decide, by decide, by decide, by decide, by decide, by decide, by decide⟩

set_option maxRecDepth 100000 in
set_option maxHeartbeats 1000000 in
theorem awake_c (w : World) : Calls Try.prog 15 #[] w fun e w' => e = .returned (.bool true) ∧ Below w.heap.size w w' := by
  have HN : ∀ W, Hid (Calls Try.prog 14 #[.int .i64 8] W fun e w' => e = .returned (.tuple #[.pointer (some ⟨W.heap.size + 1, 0, none⟩), .int .i64 0]) ∧ Live W (W.heap.size + 1) (Dk.fresh 8) w') := fun W => new_c W 8 (by omega) (by omega)
  generalize hb : w.heap.size + 1 = b at *
  have HP1 : ∀ W m, Live w b m W → Hid (Calls Try.prog 18 #[.int .u8 1] W fun e w' => e = .returned (.string (pageOf 1)) ∧ Live w b m w') := fun W m h => page_L h 1
  have HP2 : ∀ W m, Live w b m W → Hid (Calls Try.prog 18 #[.int .u8 2] W fun e w' => e = .returned (.string (pageOf 2)) ∧ Live w b m w') := fun W m h => page_L h 2
  have HW1 : ∀ W, Live w b (Dk.fresh 8) W → Hid (Calls Try.prog 17 #[.pointer (some ⟨b, 0, none⟩), .int .u32 1, .string (pageOf 1)] W fun e w' => e = .returned (.int .i64 0) ∧ Live w b awkA w') := fun W h =>
    write_L h 1 (pageOf 1) rfl (pageOf_size 1) (by decide) rfl (by decide)
  have HS : ∀ W, Live w b awkA W → Hid (Calls Try.prog 25 #[.pointer (some ⟨b, 0, none⟩)] W fun e w' => e = .returned (.int .i64 0) ∧ Live w b awkB w') := fun W h =>
    sync_L h rfl rfl (by decide)
  have HW2 : ∀ W, Live w b awkB W → Hid (Calls Try.prog 17 #[.pointer (some ⟨b, 0, none⟩), .int .u32 1, .string (pageOf 2)] W fun e w' => e = .returned (.int .i64 0) ∧ Live w b awkC w') := fun W h =>
    write_L h 1 (pageOf 2) rfl (pageOf_size 2) (by decide) rfl (by decide)
  have HC : ∀ W, Live w b awkC W → Hid (Calls Try.prog 19 #[.pointer (some ⟨b, 0, none⟩), .agg #[.int .i64 0, .int .u64 0, .int .i64 0, .int .i64 0, .int .i64 0]] W fun e w' => e = .returned (.tuple #[]) ∧ Live w b awkD w') := fun W h => by
    have := crash_L h noFall noFall_ok (by decide)
    rw [awk_crash] at this
    exact this
  have HU : ∀ W, Live w b awkD W → Hid (Calls Try.prog 21 #[.pointer (some ⟨b, 0, none⟩)] W fun e w' => e = .returned (.bool true) ∧ Live w b awkE w') := fun W h => up_L h
  have HR : ∀ W, Live w b awkE W → Hid (Calls Try.prog 22 #[.pointer (some ⟨b, 0, none⟩), .int .u32 1] W fun e w' => e = .returned (.tuple #[.string (pageOf 1), .int .i64 0]) ∧ Live w b awkE w') := fun W h => by
    have := read_L h 1 rfl (by decide) (by decide)
    rw [awk_read] at this
    exact this
  have HN0 := HN w
  rw [hb] at HN0
  have heq : ((pageOf 1).toList == (pageOf 1).toList) = true := by simp
  generalize pageOf 1 = p1 at *
  generalize pageOf 2 = p2 at *
  clear HN hb
  go_enter Try.func15, Try.ntmps15
  go_wp2_with (go_at_call 14; refine HN0.out.mono ?_; rintro e w1 ⟨rfl, l1⟩)
  refine (HP1 _ _ l1).out.mono ?_; rintro e w2 ⟨rfl, l2⟩
  go_wp2_with (fail)
  refine (HW1 _ l2).out.mono ?_; rintro e w3 ⟨rfl, l3⟩
  go_wp2_with (fail)
  refine (HS _ l3).out.mono ?_; rintro e w4 ⟨rfl, l4⟩
  go_wp2_with (fail)
  refine (HP2 _ _ l4).out.mono ?_; rintro e w5 ⟨rfl, l5⟩
  go_wp2_with (fail)
  refine (HW2 _ l5).out.mono ?_; rintro e w6 ⟨rfl, l6⟩
  go_wp2_with (fail)
  refine (HC _ l6).out.mono ?_; rintro e w7 ⟨rfl, l7⟩
  go_wp2_with (fail)
  refine (HU _ l7).out.mono ?_; rintro e w8 ⟨rfl, l8⟩
  go_wp2_with (fail)
  refine (HR _ l8).out.mono ?_; rintro e w9 ⟨rfl, l9⟩
  go_wp2_with (fail)
  refine (HP1 _ _ l9).out.mono ?_; rintro e w10 ⟨rfl, l10⟩
  go_wp2_with (fail)
  go_ret
  exact ⟨rfl, l10.base⟩
end Go.Proofs.Ytnobiekgifjaeaa
