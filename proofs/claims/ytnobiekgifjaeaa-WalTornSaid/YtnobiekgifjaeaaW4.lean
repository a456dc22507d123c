/-
  The walks of a record's frame.
-/
import Derived.Test.YtnobiekgifjaeaaW3
namespace Go.Proofs.Ytnobiekgifjaeaa
open Go.RowKit

set_option maxRecDepth 100000 in
set_option maxHeartbeats 400000 in
theorem rawSum_c (s : ByteArray) (hn : s.size ≤ 9223372036854775807) (w : World) :
    Calls Try.prog 68 #[.string s] w fun e w' => e = .returned (.int .u32 (crcMore 0 s : Nat)) ∧ w' = w := by
  have H : Hid (Calls Try.prog 67 #[.int .u32 0, .string s] w fun e w' => e = .returned (.int .u32 (crcMore 0 s : Nat)) ∧ w' = w) := rawMore_c 0 s (by omega) hn w
  go_enter Try.func68, Try.ntmps68
  go_wp2_with (fail)
  refine H.out.mono ?_; rintro e w' ⟨rfl, rfl⟩
  go_wp2_with (fail)
  go_ret
  exact ⟨rfl, rfl⟩

/-- what Frame answers -/
def frameE (at_ : Nat) (s : ByteArray) : Value := if s.size < 1 ∨ 8192 < s.size then .tuple #[.string ⟨#[]⟩, .int .i64 51] else if at_ = 0 then .tuple #[.string ⟨#[]⟩, .int .i64 1] else .tuple #[.string (frameB at_ s), .int .i64 0]

theorem sizes_add (a b : ByteArray) (h : a.size + b.size ≤ 9223372036854775807) : ∀ W : World, (Op.stringOp .add a b).run Try.prog W = .ok (.string (a ++ b)) W := fun W => run_string_add_sum W _ _ h

set_option maxRecDepth 100000 in
set_option maxHeartbeats 1000000 in
theorem frame_c (at_ : Nat) (s : ByteArray) (ha : at_ < 18446744073709551616) (hn : s.size ≤ 9223372036854775807) (w : World) :
    Calls Try.prog 35 #[.int .u64 (at_ : Int), .string s] w fun e w' => e = .returned (frameE at_ s) ∧ Below w.heap.size w w' := by
  unfold frameE
  go_enter Try.func35, Try.ntmps35
  by_cases hbad : s.size < 1 ∨ 8192 < s.size
  · rw [if_pos hbad]
    obtain hx | hx : s.size < 1 ∨ (¬ s.size < 1 ∧ 8192 < s.size) := by omega
    · clear hbad
      go_wp2_with (fail)
      go_ret2
      exact ⟨rfl, Below.refl _ _⟩
    · obtain ⟨hx1, hx2⟩ := hx
      clear hbad
      go_wp2_with (fail)
      go_ret2
      exact ⟨rfl, Below.refl _ _⟩
  · rw [if_neg hbad]
    have hx1 : ¬ s.size < 1 := by omega
    have hx2 : ¬ (8192 : Int) < (s.size : Int) := by omega
    clear hbad
    by_cases h0 : at_ = 0
    · subst h0
      rw [if_pos rfl]
      go_wp2_with (fail)
      go_ret2
      exact ⟨rfl, Below.refl _ _⟩
    · rw [if_neg h0]
      have hat : ((at_ : Int) == 0) = false := by simpa using h0
      have P1 : ∀ W, Hid (Calls Try.prog 66 #[.int .u64 (s.size : Int), .int .i64 4] W fun e w' => e = .returned (.string (leB s.size 4)) ∧ Below W.heap.size W w') := fun W => rawPut_c s.size 4 (.inl rfl) W
      have P2 : ∀ W, Hid (Calls Try.prog 66 #[.int .u64 (at_ : Int), .int .i64 8] W fun e w' => e = .returned (.string (leB at_ 8)) ∧ Below W.heap.size W w') := fun W => rawPut_c at_ 8 (.inr rfl) W
      have P3 : ∀ W, Hid (Calls Try.prog 68 #[.string (leB at_ 8)] W fun e w' => e = .returned (.int .u32 (crcMore 0 (leB at_ 8) : Nat)) ∧ w' = W) := fun W => rawSum_c _ (by rw [leB_size]; omega) W
      have P4 : ∀ W, Hid (Calls Try.prog 67 #[.int .u32 (crcMore 0 (leB at_ 8) : Nat), .string s] W fun e w' => e = .returned (.int .u32 (crcMore 0 (leB at_ 8 ++ s) : Nat)) ∧ w' = W) := fun W => by
        have := rawMore_c (crcMore 0 (leB at_ 8)) s (crcMore_lt (by omega) _) hn W
        rw [crcMore_append] at this
        exact this
      have hc32 := crcMore_lt (r := 0) (by omega) (leB at_ 8 ++ s)
      have P5 : ∀ W, Hid (Calls Try.prog 66 #[.int .u64 (crcMore 0 (leB at_ 8 ++ s) : Nat), .int .i64 4] W fun e w' => e = .returned (.string (leB (crcMore 0 (leB at_ 8 ++ s)) 4)) ∧ Below W.heap.size W w') := fun W => rawPut_c _ 4 (.inl rfl) W
      have E1 := sizes_add (leB s.size 4) (leB (crcMore 0 (leB at_ 8 ++ s)) 4) (by rw [leB_size, leB_size]; omega)
      have E2 := sizes_add (leB s.size 4 ++ leB (crcMore 0 (leB at_ 8 ++ s)) 4) s (by rw [ByteArray.size_append, leB_size, leB_size]; omega)
      have E3 := sizes_add (leB s.size 4 ++ leB (crcMore 0 (leB at_ 8 ++ s)) 4 ++ s) (leB s.size 4) (by rw [ByteArray.size_append, ByteArray.size_append, leB_size, leB_size]; omega)
      unfold frameB
      generalize crcMore 0 (leB at_ 8) = c1 at *
      generalize crcMore 0 (leB at_ 8 ++ s) = c2 at *
      generalize leB s.size 4 = l1 at *
      generalize leB c2 4 = l2 at *
      generalize leB at_ 8 = l3 at *
      have hwr : IntKind.u64.wrap (c2 : Int) = (c2 : Int) := by rw [IntKind.wrap_u64]; omega
      have hws : IntKind.u64.wrap (s.size : Int) = (s.size : Int) := by rw [IntKind.wrap_u64]; omega
      clear hc32
      go_wp2_with (fail)
      refine (P1 _).out.mono ?_; rintro e w1 ⟨rfl, b1⟩
      go_wp2_with (fail)
      refine (P2 _).out.mono ?_; rintro e w2 ⟨rfl, b2⟩
      have B2 := Lib.hid (b1.trans (b2.mono b1.size))
      clear b1 b2
      go_wp2_with (first | (go_at_call 68; refine (P3 _).out.mono ?_; rintro e w' ⟨rfl, rfl⟩) | (go_at_call 67; refine (P4 _).out.mono ?_; rintro e w' ⟨rfl, rfl⟩))
      refine (P5 _).out.mono ?_; rintro e w5 ⟨rfl, b5⟩
      have B5 := Lib.hid (B2.out.trans (b5.mono B2.out.size))
      clear b5
      go_wp2_with (fail)
      go_ret2
      exact ⟨rfl, B5.out⟩


set_option maxRecDepth 100000 in
set_option maxHeartbeats 1000000 in
theorem frame5_c (at_ : Nat) (s : ByteArray) (ha : at_ < 18446744073709551616) (hn : s.size ≤ 1000000000) (w : World) :
    Calls Try.prog 37 #[.int .u64 (at_ : Int), .string s] w fun e w' => e = .returned (.string (frameB at_ s)) ∧ Below w.heap.size w w' := by
  have P1 : ∀ W, Hid (Calls Try.prog 69 #[.int .u64 (s.size : Int), .int .i64 4] W fun e w' => e = .returned (.string (leB s.size 4)) ∧ Below W.heap.size W w') := fun W => refPut_c s.size 4 (.inl rfl) (by omega) W
  have P2 : ∀ W, Hid (Calls Try.prog 69 #[.int .u64 (at_ : Int), .int .i64 8] W fun e w' => e = .returned (.string (leB at_ 8)) ∧ Below W.heap.size W w') := fun W => refPut_c at_ 8 (.inr rfl) ha W
  have P4 : ∀ W, Hid (Calls Try.prog 70 #[.int .u32 0, .string (leB at_ 8 ++ s)] W fun e w' => e = .returned (.int .u32 (crcMore 0 (leB at_ 8 ++ s) : Nat)) ∧ w' = W) := fun W => refMore_c 0 _ (by omega) (by rw [ByteArray.size_append, leB_size]; omega) W
  have hc32 := crcMore_lt (r := 0) (by omega) (leB at_ 8 ++ s)
  have P5 : ∀ W, Hid (Calls Try.prog 69 #[.int .u64 (crcMore 0 (leB at_ 8 ++ s) : Nat), .int .i64 4] W fun e w' => e = .returned (.string (leB (crcMore 0 (leB at_ 8 ++ s)) 4)) ∧ Below W.heap.size W w') := fun W => refPut_c _ 4 (.inl rfl) (by omega) W
  have E0 := sizes_add (leB at_ 8) s (by rw [leB_size]; omega)
  have E1 := sizes_add (leB s.size 4) (leB (crcMore 0 (leB at_ 8 ++ s)) 4) (by rw [leB_size, leB_size]; omega)
  have E2 := sizes_add (leB s.size 4 ++ leB (crcMore 0 (leB at_ 8 ++ s)) 4) s (by rw [ByteArray.size_append, leB_size, leB_size]; omega)
  have E3 := sizes_add (leB s.size 4 ++ leB (crcMore 0 (leB at_ 8 ++ s)) 4 ++ s) (leB s.size 4) (by rw [ByteArray.size_append, ByteArray.size_append, leB_size, leB_size]; omega)
  unfold frameB
  generalize leB at_ 8 ++ s = l4 at *
  generalize crcMore 0 l4 = c2 at *
  generalize leB s.size 4 = l1 at *
  generalize leB c2 4 = l2 at *
  generalize leB at_ 8 = l3 at *
  have hwr : IntKind.u64.wrap (c2 : Int) = (c2 : Int) := by rw [IntKind.wrap_u64]; omega
  have hws : IntKind.u64.wrap (s.size : Int) = (s.size : Int) := by rw [IntKind.wrap_u64]; omega
  clear hc32
  go_enter Try.func37, Try.ntmps37
  go_wp2_with (fail)
  refine (P1 _).out.mono ?_; rintro e w1 ⟨rfl, b1⟩
  go_wp2_with (fail)
  refine (P2 _).out.mono ?_; rintro e w2 ⟨rfl, b2⟩
  have B2 := Lib.hid (b1.trans (b2.mono b1.size))
  clear b1 b2
  go_wp2_with (go_at_call 70; refine (P4 _).out.mono ?_; rintro e w' ⟨rfl, rfl⟩)
  refine (P5 _).out.mono ?_; rintro e w5 ⟨rfl, b5⟩
  have B5 := Lib.hid (B2.out.trans (b5.mono B2.out.size))
  clear b5
  go_wp2_with (fail)
  go_ret
  exact ⟨rfl, B5.out⟩
end Go.Proofs.Ytnobiekgifjaeaa
