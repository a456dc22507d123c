/-
  The walks of the reference's sum and numbers, and of raw.Get.
-/
import Derived.Test.YtnobiekgifjaeaaW2
namespace Go.Proofs.Ytnobiekgifjaeaa
open Go.RowKit

theorem one_string (W : World) (y : Nat) : (convert 22 9 (.slice (some ⟨W.heap.size, 0, none⟩) 1 1)).run Try.prog (W.alloc (.cells #[.int .u8 ((y : Int) % 256)] 5)) = .ok (.string ⟨#[UInt8.ofNat (y % 256)]⟩) (W.alloc (.cells #[.int .u8 ((y : Int) % 256)] 5)) := by
  refine run_convert_bytes_back (P := Try.prog) _ 22 9 5 ⟨W.heap.size, 0, none⟩ 1 [UInt8.ofNat (y % 256)] Try.underlying22 Try.underlying5 Try.underlying9 (fun j hj => ?_)
  obtain rfl : j = 0 := by simp at hj; omega
  rw [byte_of]
  exact Blk.cell (show Blk (W.alloc (.cells #[.int .u8 ((UInt8.ofNat (y % 256)).toNat : Int)] 5)) W.heap.size 5 #[.int .u8 ((UInt8.ofNat (y % 256)).toNat : Int)] from Blk.new _ _ _) 0

set_option maxRecDepth 100000 in
set_option maxHeartbeats 400000 in
theorem refPut_c (n long : Nat) (hl : long = 4 ∨ long = 8) (hn : n < 18446744073709551616) (w : World) :
    Calls Try.prog 69 #[.int .u64 (n : Int), .int .i64 (long : Int)] w fun e w' => e = .returned (.string (leB n long)) ∧ Below w.heap.size w w' := by
  have HL := Lib.hid hl
  have hcv := one_string
  go_enter Try.func69, Try.ntmps69
  go_wp2_with (fail)
  go_loopw [0, 5, 6] (fun x v i wr => ∃ k : Nat, k ≤ long ∧ x = .int .u64 (n / 256 ^ k : Nat) ∧ i = .int .i64 k ∧ v = .string (leB n k) ∧ Hid (Below w.heap.size w wr)) (fun _ _ i _ => long - (intOf i).toNat)
  case atStart => exact ⟨0, Nat.zero_le _, by simp, rfl, rfl, Below.refl _ _⟩
  case round =>
    obtain ⟨k, hk, rfl, rfl, rfl, hB⟩ := hrel
    by_cases hlt : k < long
    · have hk8 : (k : Int) < 8 := by have := HL.out; omega
      have hdiv : (((n / 256 ^ k : Nat) : Int) / 256) = ((n / 256 ^ (k + 1) : Nat) : Int) := by rw [← pow_next]; omega
      have HD := Lib.hid hdiv
      have HM := Lib.hid (leB_snoc n k)
      have hmm : (((n / 256 ^ k : Nat) : Int) % 256) % 256 = ((n / 256 ^ k : Nat) : Int) % 256 := by omega
      have HBa : Hid (Below w.heap.size w (wr.alloc (.cells #[.int .u8 (((n / 256 ^ k : Nat) : Int) % 256)] 5))) := hB.out.alloc hB.out.size _
      have hcv := one_string wr (n / 256 ^ k)
      have hsz : (leB n k).size = k := leB_size n k
      have HY : Hid (n / 256 ^ k ≤ n) := Nat.div_le_self _ _
      generalize n / 256 ^ k = y at *
      clear hdiv hB
      have q6 : ∀ W : World, (Op.stringOp .add (leB n k) ⟨#[UInt8.ofNat (y % 256)]⟩).run Try.prog W = .ok (.string (leB n k ++ ⟨#[UInt8.ofNat (y % 256)]⟩)) W := fun W => run_string_add_sum W _ _ (by show (leB n k).size + 1 ≤ _; have := HL.out; omega)
      clear hsz
      go_wp2_with (fail)
      go_roundw
      case rel => exact ⟨k + 1, by omega, by rw [← HD.out, IntKind.wrap_u64, Int.emod_eq_of_lt (by omega) (by have := HY.out; omega)], by go_num, by rw [HM.out], HBa.out⟩
      case measure => simp [intOf]; omega
    · obtain rfl : k = long := by omega
      have HB := Lib.hid hB.out
      clear hB
      go_wp2_with (fail)
      go_ret
      exact ⟨rfl, HB.out⟩

theorem ones_sub (a : Nat) (ha : a < 4294967296) : ((4294967295 : Int) - (a : Int)) = ((a ^^^ 4294967295 : Nat) : Int) := by rw [xor_ones a ha]; omega

set_option maxRecDepth 100000 in
set_option maxHeartbeats 400000 in
theorem refMore_c (sum : Nat) (s : ByteArray) (hs : sum < 4294967296) (hn : s.size ≤ 9223372036854775807) (w : World) :
    Calls Try.prog 70 #[.int .u32 (sum : Int), .string s] w fun e w' => e = .returned (.int .u32 (crcMore sum s : Nat)) ∧ w' = w := by
  have hx0 := ones_sub sum hs
  have hc0 : Hid (sum ^^^ 4294967295 < 4294967296) := xor_lt32 hs (by omega)
  go_enter Try.func70, Try.ntmps70
  go_wp2_with (fail)
  clear hx0
  have HE : Hid (crcMore sum s = crcList (sum ^^^ 4294967295) (s.data.toList.take s.size) ^^^ 4294967295) := by
    show crcMore sum s = _
    rw [show s.size = s.data.toList.length by rw [Array.length_toList]; rfl, List.take_length]
    rfl
  generalize sum ^^^ 4294967295 = c0 at *
  go_loop [5, 6] (fun r i => ∃ k : Nat, k ≤ s.size ∧ i = .int .i64 k ∧ r = .int .u32 (crcList c0 (s.data.toList.take k) : Nat)) (fun _ i => s.size - (intOf i).toNat)
  case atStart => exact ⟨0, Nat.zero_le _, rfl, rfl⟩
  case round =>
    obtain ⟨k, hk, rfl, rfl⟩ := hrel
    by_cases hlt : k < s.size
    · have hnext := crcList_next c0 s hlt
      have hlt32 := crcList_lt hc0.out (s.data.toList.take k)
      have hb : s[k].toNat < 256 := s[k].toNat_lt
      have hx1 : bits .xor .u32 ((crcList c0 (s.data.toList.take k) : Nat) : Int) ((s[k].toNat : Int) % 4294967296) = ((crcList c0 (s.data.toList.take k) ^^^ s[k].toNat : Nat) : Int) := by
        rw [show ((s[k].toNat : Int) % 4294967296) = (s[k].toNat : Int) by omega]
        exact bits_xor_u32_nat _ _ hlt32 (by omega)
      have hc1 : Hid (crcList c0 (s.data.toList.take k) ^^^ s[k].toNat < 4294967296) := xor_lt32 hlt32 (by omega)
      have HN : Hid (crcList c0 (s.data.toList.take (k + 1)) = crcBits (crcList c0 (s.data.toList.take k) ^^^ s[k].toNat) 8) := hnext
      clear hnext hlt32 hb
      generalize crcList c0 (s.data.toList.take k) = c at *
      go_wp2_with (fail)
      clear hx1
      generalize c ^^^ s[k].toNat = c1 at *
      go_loop [5, 7] (fun r i => ∃ j : Nat, j ≤ 8 ∧ i = .int .i64 j ∧ r = .int .u32 (crcBits c1 j : Nat)) (fun _ i => 8 - (intOf i).toNat)
      case atStart => exact ⟨0, Nat.zero_le _, rfl, rfl⟩
      case round =>
        obtain ⟨j, hj, rfl, rfl⟩ := hrel
        by_cases hlt : j < 8
        · have hb := crcBits_lt hc1.out j
          by_cases hodd : crcBits c1 j % 2 = 1
          · have hn := crcBits_odd hodd
            have ha' : ((crcBits c1 j : Nat) : Int) % 2 = 1 := by omega
            have hx2 : bits .xor .u32 ((crcBits c1 j : Nat) / 2 : Int) 2197175160 = ((crcBits c1 j / 2 ^^^ 2197175160 : Nat) : Int) := by
              rw [u32_half]
              exact bits_xor_u32_nat _ 2197175160 (by omega) (by omega)
            rw [← hn] at hx2
            clear hn hodd
            go_wp2_with (fail)
            go_round
            case rel => exact ⟨j + 1, by omega, by go_num, rfl⟩
            case measure => simp [intOf]; omega
          · have hn := crcBits_even hodd
            have ha' : ((crcBits c1 j : Nat) : Int) % 2 = 0 := by omega
            clear hodd
            go_wp2_with (fail)
            go_round
            case rel => exact ⟨j + 1, by omega, by go_num, by rw [hn, ← u32_half]⟩
            case measure => simp [intOf]; omega
        · obtain rfl : j = 8 := by omega
          go_wp2_with (fail)
          go_round
          case rel => exact ⟨k + 1, by omega, by go_num, by rw [HN.out]⟩
          case measure => simp [intOf]; omega
    · obtain rfl : k = s.size := by omega
      have hx := ones_sub (crcList c0 (s.data.toList.take s.size)) (crcList_lt hc0.out _)
      rw [← HE.out] at hx
      generalize crcList c0 (s.data.toList.take s.size) = c at *
      go_wp2_with (fail)
      go_ret
      exact ⟨rfl, rfl⟩


theorem or_byte (n b : Nat) (hn : n < 72057594037927936) (hb : b < 256) : bits .or .u64 (IntKind.u64.wrap ((n : Int) * 256)) (IntKind.u64.wrap (b : Int)) = ((n * 256 + b : Nat) : Int) := by
  rw [IntKind.wrap_u64, IntKind.wrap_u64, show ((b : Int) % 18446744073709551616) = (b : Int) by omega, show ((n : Int) * 256 % 18446744073709551616) = ((n * 256 : Nat) : Int) by omega, bits_or_u64_nat _ _ (by omega) (by omega)]
  have h := Nat.shiftLeft_add_eq_or_of_lt (i := 8) (b := b) hb n
  rw [Nat.shiftLeft_eq] at h
  rw [← h]

/-- k bytes of a text from a place on, as a number -/
def numAt (s : ByteArray) (at_ k : Nat) : Nat := numOf ((s.data.toList.drop at_).take k)
theorem numAt_next (s : ByteArray) (at_ k : Nat) (h : at_ < s.size) : numAt s at_ (k + 1) = numAt s (at_ + 1) k * 256 + s[at_].toNat := by
  unfold numAt
  have h' : at_ < s.data.toList.length := by rw [Array.length_toList]; exact h
  rw [List.drop_eq_getElem_cons h', List.take_succ_cons, numOf]
  rfl
theorem numAt_lt (s : ByteArray) (at_ k : Nat) : numAt s at_ k < 256 ^ k := by
  have h := numOf_lt ((s.data.toList.drop at_).take k)
  refine Nat.lt_of_lt_of_le h (Nat.pow_le_pow_right (by decide) ?_)
  simp
  omega
theorem numAt_lt7 (s : ByteArray) (at_ k : Nat) (h : k ≤ 7) : numAt s at_ k < 72057594037927936 :=
  Nat.lt_of_lt_of_le (numAt_lt s at_ k) (Nat.pow_le_pow_right (n := 256) (by decide) h)

def getE (s : ByteArray) (at_ long : Nat) : Value := if s.size - at_ < long then .tuple #[.int .u64 0, .int .i64 4] else .tuple #[.int .u64 (numAt s at_ long : Nat), .int .i64 0]

set_option maxRecDepth 100000 in
set_option maxHeartbeats 400000 in
theorem rawGet_c (s : ByteArray) (at_ long : Nat) (h1 : at_ ≤ s.size) (h2 : long ≤ 8) (hn : s.size ≤ 9223372036854775807) (w : World) :
    Calls Try.prog 83 #[.string s, .int .i64 (at_ : Int), .int .i64 (long : Int)] w fun e w' => e = .returned (getE s at_ long) ∧ w' = w := by
  unfold getE
  go_enter Try.func83, Try.ntmps83
  have qa : ¬ ((long : Int) < 0) := by omega
  have qb : ¬ ((8 : Int) < (long : Int)) := by omega
  have qc : ¬ ((at_ : Int) < 0) := by omega
  have qd : ¬ (s.size < at_) := by omega
  by_cases hlt : s.size - at_ < long
  · rw [if_pos hlt]
    have qe : (s.size : Int) - (at_ : Int) < (long : Int) := by omega
    go_wp2_with (fail)
    go_ret2
    exact ⟨rfl, rfl⟩
  · rw [if_neg hlt]
    have qe : ¬ ((s.size : Int) - (at_ : Int) < (long : Int)) := by omega
    go_wp2_with (fail)
    clear qa qb qc qd qe
    go_loop [8, 9] (fun r i => ∃ k : Nat, k ≤ long ∧ i = .int .i64 ((k : Int) - 1) ∧ r = .int .u64 (numAt s (at_ + k) (long - k) : Nat)) (fun _ i => (intOf i + 1).toNat)
    case atStart => exact ⟨long, Nat.le_refl _, rfl, by rw [Nat.sub_self]; simp [numAt, numOf]⟩
    case round =>
      obtain ⟨k, hk, rfl, rfl⟩ := hrel
      by_cases h0 : k = 0
      · subst h0
        go_wp2_with (fail)
        go_ret2
        exact ⟨rfl, rfl⟩
      · obtain ⟨j, rfl⟩ : ∃ j, k = j + 1 := ⟨k - 1, by omega⟩
        have hj : at_ + j < s.size := by omega
        have hnx := numAt_next s (at_ + j) (long - (j + 1)) hj
        rw [show at_ + j + 1 = at_ + (j + 1) by omega, show long - (j + 1) + 1 = long - j by omega] at hnx
        have hor := or_byte (numAt s (at_ + (j + 1)) (long - (j + 1))) s[at_ + j].toNat (numAt_lt7 _ _ _ (by omega)) s[at_ + j].toNat_lt
        rw [← hnx] at hor
        clear hnx
        generalize numAt s (at_ + (j + 1)) (long - (j + 1)) = y at *
        go_wp2_with (fail)
        go_round
        case rel => exact ⟨j, by omega, by go_num, rfl⟩
        case measure => simp [intOf] <;> omega


set_option maxRecDepth 100000 in
set_option maxHeartbeats 400000 in
theorem refNumber_c (s : ByteArray) (hn : s.size ≤ 8) (w : World) :
    Calls Try.prog 51 #[.string s] w fun e w' => e = .returned (.int .u64 (numAt s 0 s.size : Nat)) ∧ w' = w := by
  go_enter Try.func51, Try.ntmps51
  go_wp2_with (fail)
  go_loop [3, 4] (fun r i => ∃ k : Nat, k ≤ s.size ∧ i = .int .i64 ((k : Int) - 1) ∧ r = .int .u64 (numAt s k (s.size - k) : Nat)) (fun _ i => (intOf i + 1).toNat)
  case atStart => exact ⟨s.size, Nat.le_refl _, rfl, by rw [Nat.sub_self]; simp [numAt, numOf]⟩
  case round =>
    obtain ⟨k, hk, rfl, rfl⟩ := hrel
    by_cases h0 : k = 0
    · subst h0
      go_wp2_with (fail)
      go_ret
      exact ⟨rfl, rfl⟩
    · obtain ⟨j, rfl⟩ : ∃ j, k = j + 1 := ⟨k - 1, by omega⟩
      have hj : j < s.size := by omega
      have hnx := numAt_next s j (s.size - (j + 1)) hj
      rw [show s.size - (j + 1) + 1 = s.size - j by omega] at hnx
      have hy := numAt_lt7 s (j + 1) (s.size - (j + 1)) (by omega)
      have hb : s[j].toNat < 256 := s[j].toNat_lt
      have HN := Lib.hid hnx
      have HY := Lib.hid hy
      clear hnx hy
      generalize numAt s (j + 1) (s.size - (j + 1)) = y at *
      go_wp2_with (fail)
      go_round
      case rel => exact ⟨j, by omega, by go_num, by rw [HN.out]; have := HY.out; simp only [IntKind.wrap_u64]; congr 1; omega⟩
      case measure => simp [intOf] <;> omega
end Go.Proofs.Ytnobiekgifjaeaa
