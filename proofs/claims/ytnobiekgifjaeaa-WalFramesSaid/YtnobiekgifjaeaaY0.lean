/-
  The walk of 'WalFrames'.
-/
import Derived.Test.YtnobiekgifjaeaaX8
namespace Go.Proofs.Ytnobiekgifjaeaa
open Go.RowKit
attribute [local go_sem ↓] Go.wp_at_zero Go.wp_at_succ

set_option maxRecDepth 100000 in
set_option maxHeartbeats 1000000 in
theorem walFrames_w (at_ : Nat) (s : ByteArray) (w : World) (ha : at_ < 18446744073709551616) (hs : s.size ≤ 9223372036854775807) :
    Calls Try.prog 7 #[.int .u64 (at_ : Int), .string s] w fun e w' => e = .returned (.bool true) ∧ Below w.heap.size w w' := by
  have HF := Lib.hid (frame_c at_ s ha hs w)
  have HW : ∀ W, Hid (Calls Try.prog 36 #[] W fun e w' => e = .returned (.bool true) ∧ Below W.heap.size W w') := fun W => awake5_c W
  unfold frameE at HF
  by_cases hb : s.size < 1 ∨ 8192 < s.size
  · rw [if_pos hb] at HF
    obtain hx | hx : s.size < 1 ∨ (¬ s.size < 1 ∧ 8192 < s.size) := by omega
    · clear hb
      go_enter Try.func7, Try.ntmps7
      go_wp2_with (fail)
      refine HF.out.mono ?_; rintro e w1 ⟨rfl, h1⟩
      go_wp2_with (fail)
      refine (HW _).out.mono ?_; rintro e w2 ⟨rfl, h2⟩
      go_wp2
      go_ret
      exact ⟨rfl, h1.trans (h2.mono h1.size)⟩
    · clear hb
      go_enter Try.func7, Try.ntmps7
      go_wp2_with (fail)
      refine HF.out.mono ?_; rintro e w1 ⟨rfl, h1⟩
      go_wp2_with (fail)
      refine (HW _).out.mono ?_; rintro e w2 ⟨rfl, h2⟩
      go_wp2
      go_ret
      exact ⟨rfl, h1.trans (h2.mono h1.size)⟩
  · rw [if_neg hb] at HF
    have hn1 : ¬ s.size < 1 := by omega
    have hn2 : ¬ 8192 < s.size := by omega
    clear hb
    by_cases h0 : at_ = 0
    · subst h0
      rw [if_pos rfl] at HF
      go_enter Try.func7, Try.ntmps7
      go_wp2_with (fail)
      refine HF.out.mono ?_; rintro e w1 ⟨rfl, h1⟩
      go_wp2_with (fail)
      refine (HW _).out.mono ?_; rintro e w2 ⟨rfl, h2⟩
      go_wp2
      go_ret
      exact ⟨rfl, h1.trans (h2.mono h1.size)⟩
    · rw [if_neg h0] at HF
      have HR : ∀ W, Hid (Calls Try.prog 37 #[.int .u64 (at_ : Int), .string s] W fun e w' => e = .returned (.string (frameB at_ s)) ∧ Below W.heap.size W w') := fun W => frame5_c at_ s ha (by omega) W
      generalize frameB at_ s = f at *
      have hff : (f.toList == f.toList) = true := by simp
      have h0' : ¬ ((at_ : Int) = 0) := by omega
      go_enter Try.func7, Try.ntmps7
      go_wp2_with (fail)
      refine HF.out.mono ?_; rintro e w1 ⟨rfl, h1⟩
      go_wp2_with (fail)
      refine (HW _).out.mono ?_; rintro e w2 ⟨rfl, h2⟩
      go_wp2_with (fail)
      refine (HR _).out.mono ?_; rintro e w3 ⟨rfl, h3⟩
      go_wp2
      go_ret
      exact ⟨rfl, (h1.trans (h2.mono h1.size)).trans (h3.mono (Nat.le_trans h1.size h2.size))⟩
end Go.Proofs.Ytnobiekgifjaeaa
