/-
  The walks of the sum and of numbers in bytes.
-/
import Derived.Test.YtnobiekgifjaeaaW0
import Derived.Test.YtnobiekgifjaeaaB0
namespace Go.Proofs.Ytnobiekgifjaeaa
open Go.RowKit

theorem u32_half (r : Nat) : ((r : Int) / 2) = ((r / 2 : Nat) : Int) := by omega
theorem crcBits_even {x j : Nat} (h : ¬ crcBits x j % 2 = 1) : crcBits x (j + 1) = crcBits x j / 2 := by
  rw [crcBits, crcBit, if_neg h]
theorem crcBits_odd {x j : Nat} (h : crcBits x j % 2 = 1) : crcBits x (j + 1) = (crcBits x j / 2) ^^^ 2197175160 := by
  rw [crcBits, crcBit, if_pos h]

set_option maxRecDepth 100000 in
set_option maxHeartbeats 400000 in
theorem rawMore_c (sum : Nat) (s : ByteArray) (hs : sum < 4294967296) (hn : s.size ≤ 9223372036854775807) (w : World) :
    Calls Try.prog 67 #[.int .u32 (sum : Int), .string s] w fun e w' => e = .returned (.int .u32 (crcMore sum s : Nat)) ∧ w' = w := by
  have hx0 : bits .xor .u32 (sum : Int) 4294967295 = ((sum ^^^ 4294967295 : Nat) : Int) := bits_xor_u32_nat sum 4294967295 hs (by omega)
  have hc0 : Hid (sum ^^^ 4294967295 < 4294967296) := xor_lt32 hs (by omega)
  go_enter Try.func67, Try.ntmps67
  go_wp2_with (fail)
  clear hx0
  have HE : Hid (crcMore sum s = crcList (sum ^^^ 4294967295) (s.data.toList.take s.size) ^^^ 4294967295) := by
    show crcMore sum s = _
    rw [show s.size = s.data.toList.length by rw [Array.length_toList]; rfl, List.take_length]
    rfl
  generalize sum ^^^ 4294967295 = c0 at *
  go_loop [5, 11] (fun r i => ∃ k : Nat, k ≤ s.size ∧ i = .int .i64 k ∧ r = .int .u32 (crcList c0 (s.data.toList.take k) : Nat)) (fun _ i => s.size - (intOf i).toNat)
  case atStart => exact ⟨0, Nat.zero_le _, rfl, rfl⟩
  case round =>
    obtain ⟨k, hk, rfl, rfl⟩ := hrel
    by_cases hlt : k < s.size
    · have hnext := crcList_next c0 s hlt
      have hlt32 := crcList_lt hc0.out (s.data.toList.take k)
      have hb : s[k].toNat < 256 := s[k].toNat_lt
      have hx1 : bits .xor .u32 ((crcList c0 (s.data.toList.take k) : Nat) : Int) ((s[k].toNat : Int) % 4294967296) = ((crcList c0 (s.data.toList.take k) ^^^ s[k].toNat : Nat) : Int) := by
        rw [show ((s[k].toNat : Int) % 4294967296) = (s[k].toNat : Int) by omega]
        exact bits_xor_u32_nat _ _ hlt32 (by omega)
      have hc1 : Hid (crcList c0 (s.data.toList.take k) ^^^ s[k].toNat < 4294967296) := xor_lt32 hlt32 (by omega)
      have HN : Hid (crcList c0 (s.data.toList.take (k + 1)) = crcBits (crcList c0 (s.data.toList.take k) ^^^ s[k].toNat) 8) := hnext
      clear hnext hlt32 hb
      generalize crcList c0 (s.data.toList.take k) = c at *
      go_wp2_with (fail)
      clear hx1
      generalize c ^^^ s[k].toNat = c1 at *
      go_loop [5, 20] (fun r i => ∃ j : Nat, j ≤ 8 ∧ i = .int .i64 j ∧ r = .int .u32 (crcBits c1 j : Nat)) (fun _ i => 8 - (intOf i).toNat)
      case atStart => exact ⟨0, Nat.zero_le _, rfl, rfl⟩
      case round =>
        obtain ⟨j, hj, rfl, rfl⟩ := hrel
        by_cases hlt : j < 8
        · have hb := crcBits_lt hc1.out j
          have ha := bits_and1_u32_nat _ hb
          by_cases hodd : crcBits c1 j % 2 = 1
          · have hn := crcBits_odd hodd
            rw [hodd] at ha
            have ha' : bits .and .u32 ((crcBits c1 j : Nat) : Int) 1 = 1 := ha
            have hx2 : bits .xor .u32 ((crcBits c1 j : Nat) / 2 : Int) 2197175160 = ((crcBits c1 j / 2 ^^^ 2197175160 : Nat) : Int) := by
              rw [u32_half]
              exact bits_xor_u32_nat _ 2197175160 (by omega) (by omega)
            rw [← hn] at hx2
            clear ha hn hodd
            go_wp2_with (fail)
            go_round
            case rel => exact ⟨j + 1, by omega, by go_num, rfl⟩
            case measure => simp [intOf]; omega
          · have hn := crcBits_even hodd
            rw [show crcBits c1 j % 2 = 0 by omega] at ha
            have ha' : bits .and .u32 ((crcBits c1 j : Nat) : Int) 1 = 0 := ha
            clear ha hodd
            go_wp2_with (fail)
            go_round
            case rel => exact ⟨j + 1, by omega, by go_num, by rw [hn, ← u32_half]⟩
            case measure => simp [intOf]; omega
        · obtain rfl : j = 8 := by omega
          go_wp2_with (fail)
          go_round
          case rel => exact ⟨k + 1, by omega, by go_num, by rw [HN.out]⟩
          case measure => simp [intOf]; omega
    · obtain rfl : k = s.size := by omega
      have hx := bits_xor_u32_nat (crcList c0 (s.data.toList.take s.size)) 4294967295 (crcList_lt hc0.out _) (by omega)
      rw [← HE.out] at hx
      generalize crcList c0 (s.data.toList.take s.size) = c at *
      have hx' : bits .xor .u32 (c : Int) 4294967295 = (crcMore sum s : Nat) := hx
      clear hx
      go_wp2_with (fail)
      go_ret
      exact ⟨rfl, rfl⟩
end Go.Proofs.Ytnobiekgifjaeaa
