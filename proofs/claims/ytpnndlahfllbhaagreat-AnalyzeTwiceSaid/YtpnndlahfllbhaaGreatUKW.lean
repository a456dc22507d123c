/-
  KW: W0 W1 W2 W3 W4 W5 W6 V0 W7 W8 W9.
-/
import Derived.Test.YtpnndlahfllbhaaGreatUKD
import Derived.Deep.AppendLies
import Derived.Deep.DrawnRows
import Derived.Deep.Draws
import Derived.Deep.LoopGhost
import Derived.Deep.RegionHeld3
import Derived.Laws.Bits64b
import Derived.Lib.SlicesSearch
/-! The plain half of the log: numbers in bytes, the sum, frames. -/
namespace Go.Proofs.YtpnndlahfllbhaaGreat

theorem bits_xor_u32_nat (a b : Nat) (ha : a < 4294967296) (hb : b < 4294967296) : bits .xor .u32 (a : Int) (b : Int) = ((a ^^^ b : Nat) : Int) := by
  have hx : a ^^^ b < 2 ^ 32 := Nat.xor_lt_two_pow (by omega) (by omega)
  have h1 : (BitVec.ofInt 32 (a : Int)).toNat = a := by
    rw [BitVec.ofInt_natCast, BitVec.toNat_ofNat]; exact Nat.mod_eq_of_lt (by omega)
  have h2 : (BitVec.ofInt 32 (b : Int)).toNat = b := by
    rw [BitVec.ofInt_natCast, BitVec.toNat_ofNat]; exact Nat.mod_eq_of_lt (by omega)
  show IntKind.u32.wrap ((BitVec.ofInt 32 (a : Int) ^^^ BitVec.ofInt 32 (b : Int)).toNat : Int) = _
  rw [BitVec.toNat_xor, h1, h2]
  have e2 : ∀ z : Int, IntKind.u32.wrap z = z % 4294967296 := fun _ => rfl
  rw [e2]
  omega

theorem bits_and1_u32_nat (a : Nat) (ha : a < 4294967296) : bits .and .u32 (a : Int) 1 = ((a % 2 : Nat) : Int) := by
  have h1 : (BitVec.ofInt 32 (a : Int)).toNat = a := by
    rw [BitVec.ofInt_natCast, BitVec.toNat_ofNat]; exact Nat.mod_eq_of_lt (by omega)
  have h2 : (BitVec.ofInt 32 (1 : Int)).toNat = 1 := rfl
  show IntKind.u32.wrap ((BitVec.ofInt 32 (a : Int) &&& BitVec.ofInt 32 (1 : Int)).toNat : Int) = _
  rw [BitVec.toNat_and, h1, h2, Nat.and_one_is_mod]
  have e2 : ∀ z : Int, IntKind.u32.wrap z = z % 4294967296 := fun _ => rfl
  rw [e2]
  omega

def crcBit (r : Nat) : Nat := if r % 2 = 1 then (r / 2) ^^^ 2197175160 else r / 2
def crcBits (r : Nat) : Nat → Nat
  | 0 => r
  | k + 1 => crcBit (crcBits r k)
def crcByte (r : Nat) (b : UInt8) : Nat := crcBits (r ^^^ b.toNat) 8
def crcList (r : Nat) (l : List UInt8) : Nat := l.foldl crcByte r
/-- the sum of bytes behind others -/
def crcMore (sum : Nat) (s : ByteArray) : Nat := crcList (sum ^^^ 4294967295) s.data.toList ^^^ 4294967295

theorem xor_lt32 {a b : Nat} (ha : a < 4294967296) (hb : b < 4294967296) : a ^^^ b < 4294967296 := by
  have hx : a ^^^ b < 2 ^ 32 := Nat.xor_lt_two_pow (by omega) (by omega)
  omega
theorem crcBit_lt {r : Nat} (h : r < 4294967296) : crcBit r < 4294967296 := by
  unfold crcBit
  split
  · exact xor_lt32 (by omega) (by omega)
  · omega
theorem crcBits_lt {r : Nat} (h : r < 4294967296) : ∀ k, crcBits r k < 4294967296
  | 0 => h
  | k + 1 => crcBit_lt (crcBits_lt h k)
theorem crcByte_lt {r : Nat} (h : r < 4294967296) (b : UInt8) : crcByte r b < 4294967296 :=
  crcBits_lt (xor_lt32 h (by have := b.toNat_lt; omega)) 8
theorem crcList_lt {r : Nat} (h : r < 4294967296) : ∀ l : List UInt8, crcList r l < 4294967296
  | [] => h
  | b :: l => crcList_lt (crcByte_lt h b) l
theorem crcMore_lt {r : Nat} (h : r < 4294967296) (s : ByteArray) : crcMore r s < 4294967296 := xor_lt32 (crcList_lt (xor_lt32 h (by omega)) _) (by omega)

theorem xor_twice (a b : Nat) : a ^^^ b ^^^ b = a := by rw [Nat.xor_assoc, Nat.xor_self, Nat.xor_zero]

theorem crcMore_append (a : Nat) (x y : ByteArray) : crcMore (crcMore a x) y = crcMore a (x ++ y) := by
  unfold crcMore crcList
  rw [xor_twice, ByteArray.data_append, Array.toList_append, List.foldl_append]

theorem crcList_next (r : Nat) (s : ByteArray) {k : Nat} (h : k < s.size) : crcList r (s.data.toList.take (k + 1)) = crcByte (crcList r (s.data.toList.take k)) s[k] := by
  show _ = crcByte _ s.data[k]
  have e : s.data.toList.take (k + 1) = s.data.toList.take k ++ [s.data[k]] := by
    have hk : s.data.toList[k]? = some s.data[k] := by
      rw [Array.getElem?_toList]
      exact Array.getElem?_eq_getElem h
    rw [List.take_add_one, hk]
    rfl
  rw [e]
  unfold crcList
  rw [List.foldl_append]
  rfl

/-- the bytes of a number, the least first -/
def leList (n : Nat) : Nat → List UInt8
  | 0 => []
  | k + 1 => UInt8.ofNat (n % 256) :: leList (n / 256) k
def leB (n k : Nat) : ByteArray := ⟨(leList n k).toArray⟩

theorem leList_length : ∀ (k n : Nat), (leList n k).length = k
  | 0, _ => rfl
  | k + 1, n => by simp [leList, leList_length k]
theorem leB_size (n k : Nat) : (leB n k).size = k := by
  show (leList n k).toArray.size = k
  rw [List.size_toArray, leList_length]
theorem leList_snoc : ∀ (k n : Nat), leList n (k + 1) = leList n k ++ [UInt8.ofNat (n / 256 ^ k % 256)]
  | 0, n => by simp [leList]
  | k + 1, n => by
    rw [leList, leList_snoc k (n / 256), leList]
    simp only [List.cons_append]
    rw [Nat.div_div_eq_div_mul, ← Nat.pow_succ']
/-- the number of bytes -/
def numOf : List UInt8 → Nat
  | [] => 0
  | b :: l => numOf l * 256 + b.toNat
theorem numOf_lt : ∀ l : List UInt8, numOf l < 256 ^ l.length
  | [] => by decide
  | b :: l => by
    have h1 := numOf_lt l
    have h2 := b.toNat_lt
    rw [numOf, List.length_cons, Nat.pow_succ]
    omega
theorem numOf_le : ∀ (k n : Nat), n < 256 ^ k → numOf (leList n k) = n
  | 0, n, h => by simp at h; simp [leList, numOf, h]
  | k + 1, n, h => by
    rw [Nat.pow_succ] at h
    rw [leList, numOf, numOf_le k (n / 256) (by omega), UInt8.toNat_ofNat']
    omega

/-- a record's frame -/
def frameB (at_ : Nat) (s : ByteArray) : ByteArray := leB s.size 4 ++ leB (crcMore 0 (leB at_ 8 ++ s)) 4 ++ s ++ leB s.size 4
theorem frameB_size (at_ : Nat) (s : ByteArray) : (frameB at_ s).size = s.size + 12 := by
  unfold frameB
  simp only [ByteArray.size_append, leB_size]
  omega
end Go.Proofs.YtpnndlahfllbhaaGreat

/-! The walks of the sum and of numbers in bytes. -/
namespace Go.Proofs.YtpnndlahfllbhaaGreat
open Go.RowKit

theorem u32_half (r : Nat) : ((r : Int) / 2) = ((r / 2 : Nat) : Int) := by omega
theorem crcBits_even {x j : Nat} (h : ¬ crcBits x j % 2 = 1) : crcBits x (j + 1) = crcBits x j / 2 := by
  rw [crcBits, crcBit, if_neg h]
theorem crcBits_odd {x j : Nat} (h : crcBits x j % 2 = 1) : crcBits x (j + 1) = (crcBits x j / 2) ^^^ 2197175160 := by
  rw [crcBits, crcBit, if_pos h]

set_option maxRecDepth 100000 in
set_option maxHeartbeats 400000 in
theorem rawMore_c (sum : Nat) (s : ByteArray) (hs : sum < 4294967296) (hn : s.size ≤ 9223372036854775807) (w : World) :
    Calls Tryz.prog 217 #[.int .u32 (sum : Int), .string s] w fun e w' => e = .returned (.int .u32 (crcMore sum s : Nat)) ∧ w' = w := by
  have hx0 : bits .xor .u32 (sum : Int) 4294967295 = ((sum ^^^ 4294967295 : Nat) : Int) := bits_xor_u32_nat sum 4294967295 hs (by omega)
  have hc0 : Hid (sum ^^^ 4294967295 < 4294967296) := xor_lt32 hs (by omega)
  go_enter Tryz.func217, Tryz.ntmps217
  go_wp2_with (fail)
  clear hx0
  have HE : Hid (crcMore sum s = crcList (sum ^^^ 4294967295) (s.data.toList.take s.size) ^^^ 4294967295) := by
    show crcMore sum s = _
    rw [show s.size = s.data.toList.length by rw [Array.length_toList]; rfl, List.take_length]
    rfl
  generalize sum ^^^ 4294967295 = c0 at *
  go_loop [5, 11] (fun r i => ∃ k : Nat, k ≤ s.size ∧ i = .int .i64 k ∧ r = .int .u32 (crcList c0 (s.data.toList.take k) : Nat)) (fun _ i => s.size - (intOf i).toNat)
  case atStart => exact ⟨0, Nat.zero_le _, rfl, rfl⟩
  case round =>
    obtain ⟨k, hk, rfl, rfl⟩ := hrel
    by_cases hlt : k < s.size
    · have hnext := crcList_next c0 s hlt
      have hlt32 := crcList_lt hc0.out (s.data.toList.take k)
      have hb : s[k].toNat < 256 := s[k].toNat_lt
      have hx1 : bits .xor .u32 ((crcList c0 (s.data.toList.take k) : Nat) : Int) ((s[k].toNat : Int) % 4294967296) = ((crcList c0 (s.data.toList.take k) ^^^ s[k].toNat : Nat) : Int) := by
        rw [show ((s[k].toNat : Int) % 4294967296) = (s[k].toNat : Int) by omega]
        exact bits_xor_u32_nat _ _ hlt32 (by omega)
      have hc1 : Hid (crcList c0 (s.data.toList.take k) ^^^ s[k].toNat < 4294967296) := xor_lt32 hlt32 (by omega)
      have HN : Hid (crcList c0 (s.data.toList.take (k + 1)) = crcBits (crcList c0 (s.data.toList.take k) ^^^ s[k].toNat) 8) := hnext
      clear hnext hlt32 hb
      generalize crcList c0 (s.data.toList.take k) = c at *
      go_wp2_with (fail)
      clear hx1
      generalize c ^^^ s[k].toNat = c1 at *
      go_loop [5, 20] (fun r i => ∃ j : Nat, j ≤ 8 ∧ i = .int .i64 j ∧ r = .int .u32 (crcBits c1 j : Nat)) (fun _ i => 8 - (intOf i).toNat)
      case atStart => exact ⟨0, Nat.zero_le _, rfl, rfl⟩
      case round =>
        obtain ⟨j, hj, rfl, rfl⟩ := hrel
        by_cases hlt : j < 8
        · have hb := crcBits_lt hc1.out j
          have ha := bits_and1_u32_nat _ hb
          by_cases hodd : crcBits c1 j % 2 = 1
          · have hn := crcBits_odd hodd
            rw [hodd] at ha
            have ha' : bits .and .u32 ((crcBits c1 j : Nat) : Int) 1 = 1 := ha
            have hx2 : bits .xor .u32 ((crcBits c1 j : Nat) / 2 : Int) 2197175160 = ((crcBits c1 j / 2 ^^^ 2197175160 : Nat) : Int) := by
              rw [u32_half]
              exact bits_xor_u32_nat _ 2197175160 (by omega) (by omega)
            rw [← hn] at hx2
            clear ha hn hodd
            go_wp2_with (fail)
            go_round
            case rel => exact ⟨j + 1, by omega, by go_num, rfl⟩
            case measure => simp [intOf]; omega
          · have hn := crcBits_even hodd
            rw [show crcBits c1 j % 2 = 0 by omega] at ha
            have ha' : bits .and .u32 ((crcBits c1 j : Nat) : Int) 1 = 0 := ha
            clear ha hodd
            go_wp2_with (fail)
            go_round
            case rel => exact ⟨j + 1, by omega, by go_num, by rw [hn, ← u32_half]⟩
            case measure => simp [intOf]; omega
        · obtain rfl : j = 8 := by omega
          go_wp2_with (fail)
          go_round
          case rel => exact ⟨k + 1, by omega, by go_num, by rw [HN.out]⟩
          case measure => simp [intOf]; omega
    · obtain rfl : k = s.size := by omega
      have hx := bits_xor_u32_nat (crcList c0 (s.data.toList.take s.size)) 4294967295 (crcList_lt hc0.out _) (by omega)
      rw [← HE.out] at hx
      generalize crcList c0 (s.data.toList.take s.size) = c at *
      have hx' : bits .xor .u32 (c : Int) 4294967295 = (crcMore sum s : Nat) := hx
      clear hx
      go_wp2_with (fail)
      go_ret
      exact ⟨rfl, rfl⟩
end Go.Proofs.YtpnndlahfllbhaaGreat

/-! The walks of numbers in bytes. -/
namespace Go.Proofs.YtpnndlahfllbhaaGreat
open Go.RowKit

def byteV (b : UInt8) : Value := .int .u8 (b.toNat : Int)

theorem own_string {w : World} {B n : Nat} {v : Value} {l : List UInt8} (h : w.ownsRow B 5 1 v n (l.map byteV)) : (convert 122 9 v).run Tryz.prog w = .ok (.string ⟨l.toArray⟩) w := by
  have hl : l.length = n := by have := h.1; simpa using this
  rcases id h.2 with ⟨rfl, rfl⟩ | ⟨g, cap, cur, rfl, _⟩
  · have : l = [] := List.length_eq_zero_iff.1 hl
    subst this
    exact run_convert_bytes_nil (P := Tryz.prog) w 122 5 Tryz.underlying122 Tryz.underlying5 0 0 9 Tryz.underlying9
  · subst hl
    refine run_convert_bytes_back (P := Tryz.prog) w 122 9 5 ⟨g, 0, none⟩ cap l Tryz.underlying122 Tryz.underlying5 Tryz.underlying9 (fun j hj => ?_)
    rw [add_lit, Nat.zero_add, h.cellAt j (by omega), List.getElem?_map, List.getElem?_eq_getElem hj]
    rfl

theorem byte_of (m : Nat) : ((m : Int) % 256) = (((UInt8.ofNat (m % 256)).toNat : Nat) : Int) := by
  rw [UInt8.toNat_ofNat']
  omega

theorem leList_map (n k : Nat) : (leList n k).map byteV ++ [.int .u8 (((n / 256 ^ k : Nat) : Int) % 256)] = (leList n (k + 1)).map byteV := by
  rw [leList_snoc, List.map_append, byte_of]
  rfl

theorem pow_next (n k : Nat) : n / 256 ^ k / 256 = n / 256 ^ (k + 1) := by rw [Nat.div_div_eq_div_mul, ← Nat.pow_succ]

set_option maxRecDepth 100000 in
set_option maxHeartbeats 400000 in
theorem rawPutN_c (n long : Nat) (hl : long ≤ 8) (w : World) :
    Calls Tryz.prog 175 #[.int .u64 (n : Int), .int .i64 (long : Int)] w fun e w' => e = .returned (.string (leB n long)) ∧ Below w.heap.size w w' := by
  obtain ⟨i0, hi, hz0, hz1, hz2⟩ := info_parts infoByte
  have hl4 : 0 ≤ (long : Int) := by omega
  have hl5 : min (long : Int) 8 = long := by omega
  have HL := Lib.hid hl
  go_enter Tryz.func175, Tryz.ntmps175
  go_wp2_with (fail)
  clear hl4 hl5
  go_loopw [0, 5, 9] (fun x v i wr => ∃ k : Nat, k ≤ long ∧ x = .int .u64 (n / 256 ^ k : Nat) ∧ i = .int .i64 k ∧ Hid (wr.ownsRow w.heap.size 5 1 v k ((leList n k).map byteV)) ∧ Hid (Below w.heap.size w wr)) (fun _ _ i _ => long - (intOf i).toNat)
  case atStart => exact ⟨0, Nat.zero_le _, by simp, rfl, World.ownsRow_nil _ _ _ _, Below.refl _ _⟩
  case round =>
    obtain ⟨k, hk, rfl, rfl, hO, hB⟩ := hrel
    by_cases hlt : k < long
    · obtain ⟨va, vc, rfl⟩ := own_form hO.out
      have HO : Hid ((wr.alloc (.cells #[.int .u8 (((n / 256 ^ k : Nat) : Int) % 256)] 5)).ownsRow w.heap.size 5 1 (.slice va k vc) k ((leList n k).map byteV)) := hO.out.alloc _
      have H1 : Hid (k + 1 ≤ maxLen) := by show k + 1 ≤ maxLen; have := HL.out; simp only [maxLen]; omega
      have H2 : Hid ((k + 1) * 1 ≤ 140737488355328) := by show (k + 1) * 1 ≤ 140737488355328; have := HL.out; omega
      have H3 : Hid (w.heap.size ≤ (wr.alloc (.cells #[.int .u8 (((n / 256 ^ k : Nat) : Int) % 256)] 5)).heap.size) := by show w.heap.size ≤ _; have := hB.out.size; simp; omega
      have H4 : Hid (∀ u ∈ [Value.int .u8 (((n / 256 ^ k : Nat) : Int) % 256)], u.oneCell' = true) := fun u hu => by simp at hu; subst hu; rfl
      have hdiv : (((n / 256 ^ k : Nat) : Int) / 256) = ((n / 256 ^ (k + 1) : Nat) : Int) := by rw [← pow_next]; omega
      have HD := Lib.hid hdiv
      have HM := Lib.hid (leList_map n k)
      have HBa : Hid (Below w.heap.size w (wr.alloc (.cells #[.int .u8 (((n / 256 ^ k : Nat) : Int) % 256)] 5))) := hB.out.alloc hB.out.size _
      generalize n / 256 ^ k = y at *
      clear hdiv hO hB
      go_wp2_with (at_builtin; refine wpList_append_own_at _ rfl _ _ 122 rfl w.heap.size 5 i0 _ 1 1 Tryz.underlying122 hi hz0 hz1 hz2 rfl (by omega) _ k ((leList n k).map byteV) rfl HO.out ⟨wr.heap.size, 0, none⟩ 1 1 [.int .u8 ((y : Int) % 256)] rfl rfl (World.news_of_block (cs := #[.int .u8 ((y : Int) % 256)]) (t := 5) (fr := (0, 0)) (heap_alloc_new wr _)) H4.out H1.out H2.out H3.out ?_; intro v' w2 h1 h2 _ _; have J1 := Lib.hid h1; have J2 := Lib.hid h2; clear h1 h2)
      go_outline
      go_roundw
      case rel => exact ⟨k + 1, by omega, by rw [← HD.out], by go_num, by rw [← HM.out]; exact J1.out, HBa.out.grown J2.out H3.out (fun q hq => (HO.out.lt q hq).1)⟩
      case measure => simp [intOf]; omega
    · obtain rfl : k = long := by omega
      have hcv := own_string hO.out
      have HB := Lib.hid hB.out
      clear hO hB
      go_wp2_with (fail)
      go_ret
      exact ⟨rfl, HB.out⟩
theorem rawPut_c (n long : Nat) (hl : long = 4 ∨ long = 8) (w : World) :
    Calls Tryz.prog 175 #[.int .u64 (n : Int), .int .i64 (long : Int)] w fun e w' => e = .returned (.string (leB n long)) ∧ Below w.heap.size w w' := rawPutN_c n long (by omega) w
end Go.Proofs.YtpnndlahfllbhaaGreat

/-! The walks of the reference's sum and numbers, and of raw.Get. -/
namespace Go.Proofs.YtpnndlahfllbhaaGreat
open Go.RowKit

theorem or_byte (n b : Nat) (hn : n < 72057594037927936) (hb : b < 256) : bits .or .u64 (IntKind.u64.wrap ((n : Int) * 256)) (IntKind.u64.wrap (b : Int)) = ((n * 256 + b : Nat) : Int) := by
  rw [IntKind.wrap_u64, IntKind.wrap_u64, show ((b : Int) % 18446744073709551616) = (b : Int) by omega, show ((n : Int) * 256 % 18446744073709551616) = ((n * 256 : Nat) : Int) by omega, bits_or_u64_nat _ _ (by omega) (by omega)]
  have h := Nat.shiftLeft_add_eq_or_of_lt (i := 8) (b := b) hb n
  rw [Nat.shiftLeft_eq] at h
  rw [← h]

/-- k bytes of a text from a place on, as a number -/
def numAt (s : ByteArray) (at_ k : Nat) : Nat := numOf ((s.data.toList.drop at_).take k)
theorem numAt_next (s : ByteArray) (at_ k : Nat) (h : at_ < s.size) : numAt s at_ (k + 1) = numAt s (at_ + 1) k * 256 + s[at_].toNat := by
  unfold numAt
  have h' : at_ < s.data.toList.length := by rw [Array.length_toList]; exact h
  rw [List.drop_eq_getElem_cons h', List.take_succ_cons, numOf]
  rfl
theorem numAt_lt (s : ByteArray) (at_ k : Nat) : numAt s at_ k < 256 ^ k := by
  have h := numOf_lt ((s.data.toList.drop at_).take k)
  refine Nat.lt_of_lt_of_le h (Nat.pow_le_pow_right (by decide) ?_)
  simp
  omega
theorem numAt_lt7 (s : ByteArray) (at_ k : Nat) (h : k ≤ 7) : numAt s at_ k < 72057594037927936 :=
  Nat.lt_of_lt_of_le (numAt_lt s at_ k) (Nat.pow_le_pow_right (n := 256) (by decide) h)

def getE (s : ByteArray) (at_ long : Nat) : Value := if s.size - at_ < long then .tuple #[.int .u64 0, .int .i64 4] else .tuple #[.int .u64 (numAt s at_ long : Nat), .int .i64 0]

set_option maxRecDepth 100000 in
set_option maxHeartbeats 400000 in
theorem rawGet_c (s : ByteArray) (at_ long : Nat) (h1 : at_ ≤ s.size) (h2 : long ≤ 8) (hn : s.size ≤ 9223372036854775807) (w : World) :
    Calls Tryz.prog 169 #[.string s, .int .i64 (at_ : Int), .int .i64 (long : Int)] w fun e w' => e = .returned (getE s at_ long) ∧ w' = w := by
  unfold getE
  go_enter Tryz.func169, Tryz.ntmps169
  have qa : ¬ ((long : Int) < 0) := by omega
  have qb : ¬ ((8 : Int) < (long : Int)) := by omega
  have qc : ¬ ((at_ : Int) < 0) := by omega
  have qd : ¬ (s.size < at_) := by omega
  by_cases hlt : s.size - at_ < long
  · rw [if_pos hlt]
    have qe : (s.size : Int) - (at_ : Int) < (long : Int) := by omega
    go_wp2_with (fail)
    go_ret2
    exact ⟨rfl, rfl⟩
  · rw [if_neg hlt]
    have qe : ¬ ((s.size : Int) - (at_ : Int) < (long : Int)) := by omega
    go_wp2_with (fail)
    clear qa qb qc qd qe
    go_loop [8, 9] (fun r i => ∃ k : Nat, k ≤ long ∧ i = .int .i64 ((k : Int) - 1) ∧ r = .int .u64 (numAt s (at_ + k) (long - k) : Nat)) (fun _ i => (intOf i + 1).toNat)
    case atStart => exact ⟨long, Nat.le_refl _, rfl, by rw [Nat.sub_self]; simp [numAt, numOf]⟩
    case round =>
      obtain ⟨k, hk, rfl, rfl⟩ := hrel
      by_cases h0 : k = 0
      · subst h0
        go_wp2_with (fail)
        go_ret2
        exact ⟨rfl, rfl⟩
      · obtain ⟨j, rfl⟩ : ∃ j, k = j + 1 := ⟨k - 1, by omega⟩
        have hj : at_ + j < s.size := by omega
        have hnx := numAt_next s (at_ + j) (long - (j + 1)) hj
        rw [show at_ + j + 1 = at_ + (j + 1) by omega, show long - (j + 1) + 1 = long - j by omega] at hnx
        have hor := or_byte (numAt s (at_ + (j + 1)) (long - (j + 1))) s[at_ + j].toNat (numAt_lt7 _ _ _ (by omega)) s[at_ + j].toNat_lt
        rw [← hnx] at hor
        clear hnx
        generalize numAt s (at_ + (j + 1)) (long - (j + 1)) = y at *
        go_wp2_with (fail)
        go_round
        case rel => exact ⟨j, by omega, by go_num, rfl⟩
        case measure => simp [intOf] <;> omega


end Go.Proofs.YtpnndlahfllbhaaGreat

/-! The walks of a record's frame. -/
namespace Go.Proofs.YtpnndlahfllbhaaGreat
open Go.RowKit

set_option maxRecDepth 100000 in
set_option maxHeartbeats 400000 in
theorem rawSum_c (s : ByteArray) (hn : s.size ≤ 9223372036854775807) (w : World) :
    Calls Tryz.prog 185 #[.string s] w fun e w' => e = .returned (.int .u32 (crcMore 0 s : Nat)) ∧ w' = w := by
  have H : Hid (Calls Tryz.prog 217 #[.int .u32 0, .string s] w fun e w' => e = .returned (.int .u32 (crcMore 0 s : Nat)) ∧ w' = w) := rawMore_c 0 s (by omega) hn w
  go_enter Tryz.func185, Tryz.ntmps185
  go_wp2_with (fail)
  refine H.out.mono ?_; rintro e w' ⟨rfl, rfl⟩
  go_wp2_with (fail)
  go_ret
  exact ⟨rfl, rfl⟩

/-- what Frame answers -/
def frameE (at_ : Nat) (s : ByteArray) : Value := if s.size < 1 ∨ 8192 < s.size then .tuple #[.string ⟨#[]⟩, .int .i64 51] else if at_ = 0 then .tuple #[.string ⟨#[]⟩, .int .i64 1] else .tuple #[.string (frameB at_ s), .int .i64 0]

theorem sizes_add (a b : ByteArray) (h : a.size + b.size ≤ 9223372036854775807) : ∀ W : World, (Op.stringOp .add a b).run Tryz.prog W = .ok (.string (a ++ b)) W := fun W => run_string_add_sum W _ _ h

set_option maxRecDepth 100000 in
set_option maxHeartbeats 1000000 in
theorem frame_c (at_ : Nat) (s : ByteArray) (ha : at_ < 18446744073709551616) (hn : s.size ≤ 9223372036854775807) (w : World) :
    Calls Tryz.prog 168 #[.int .u64 (at_ : Int), .string s] w fun e w' => e = .returned (frameE at_ s) ∧ Below w.heap.size w w' := by
  unfold frameE
  go_enter Tryz.func168, Tryz.ntmps168
  by_cases hbad : s.size < 1 ∨ 8192 < s.size
  · rw [if_pos hbad]
    obtain hx | hx : s.size < 1 ∨ (¬ s.size < 1 ∧ 8192 < s.size) := by omega
    · clear hbad
      go_wp2_with (fail)
      go_ret2
      exact ⟨rfl, Below.refl _ _⟩
    · obtain ⟨hx1, hx2⟩ := hx
      clear hbad
      go_wp2_with (fail)
      go_ret2
      exact ⟨rfl, Below.refl _ _⟩
  · rw [if_neg hbad]
    have hx1 : ¬ s.size < 1 := by omega
    have hx2 : ¬ (8192 : Int) < (s.size : Int) := by omega
    clear hbad
    by_cases h0 : at_ = 0
    · subst h0
      rw [if_pos rfl]
      go_wp2_with (fail)
      go_ret2
      exact ⟨rfl, Below.refl _ _⟩
    · rw [if_neg h0]
      have hat : ((at_ : Int) == 0) = false := by simpa using h0
      have P1 : ∀ W, Hid (Calls Tryz.prog 175 #[.int .u64 (s.size : Int), .int .i64 4] W fun e w' => e = .returned (.string (leB s.size 4)) ∧ Below W.heap.size W w') := fun W => rawPut_c s.size 4 (.inl rfl) W
      have P2 : ∀ W, Hid (Calls Tryz.prog 175 #[.int .u64 (at_ : Int), .int .i64 8] W fun e w' => e = .returned (.string (leB at_ 8)) ∧ Below W.heap.size W w') := fun W => rawPut_c at_ 8 (.inr rfl) W
      have P3 : ∀ W, Hid (Calls Tryz.prog 185 #[.string (leB at_ 8)] W fun e w' => e = .returned (.int .u32 (crcMore 0 (leB at_ 8) : Nat)) ∧ w' = W) := fun W => rawSum_c _ (by rw [leB_size]; omega) W
      have P4 : ∀ W, Hid (Calls Tryz.prog 217 #[.int .u32 (crcMore 0 (leB at_ 8) : Nat), .string s] W fun e w' => e = .returned (.int .u32 (crcMore 0 (leB at_ 8 ++ s) : Nat)) ∧ w' = W) := fun W => by
        have := rawMore_c (crcMore 0 (leB at_ 8)) s (crcMore_lt (by omega) _) hn W
        rw [crcMore_append] at this
        exact this
      have hc32 := crcMore_lt (r := 0) (by omega) (leB at_ 8 ++ s)
      have P5 : ∀ W, Hid (Calls Tryz.prog 175 #[.int .u64 (crcMore 0 (leB at_ 8 ++ s) : Nat), .int .i64 4] W fun e w' => e = .returned (.string (leB (crcMore 0 (leB at_ 8 ++ s)) 4)) ∧ Below W.heap.size W w') := fun W => rawPut_c _ 4 (.inl rfl) W
      have E1 := sizes_add (leB s.size 4) (leB (crcMore 0 (leB at_ 8 ++ s)) 4) (by rw [leB_size, leB_size]; omega)
      have E2 := sizes_add (leB s.size 4 ++ leB (crcMore 0 (leB at_ 8 ++ s)) 4) s (by rw [ByteArray.size_append, leB_size, leB_size]; omega)
      have E3 := sizes_add (leB s.size 4 ++ leB (crcMore 0 (leB at_ 8 ++ s)) 4 ++ s) (leB s.size 4) (by rw [ByteArray.size_append, ByteArray.size_append, leB_size, leB_size]; omega)
      unfold frameB
      generalize crcMore 0 (leB at_ 8) = c1 at *
      generalize crcMore 0 (leB at_ 8 ++ s) = c2 at *
      generalize leB s.size 4 = l1 at *
      generalize leB c2 4 = l2 at *
      generalize leB at_ 8 = l3 at *
      have hwr : IntKind.u64.wrap (c2 : Int) = (c2 : Int) := by rw [IntKind.wrap_u64]; omega
      have hws : IntKind.u64.wrap (s.size : Int) = (s.size : Int) := by rw [IntKind.wrap_u64]; omega
      clear hc32
      go_wp2_with (fail)
      refine (P1 _).out.mono ?_; rintro e w1 ⟨rfl, b1⟩
      go_wp2_with (fail)
      refine (P2 _).out.mono ?_; rintro e w2 ⟨rfl, b2⟩
      have B2 := Lib.hid (b1.trans (b2.mono b1.size))
      clear b1 b2
      go_wp2_with (first | (go_at_call 185; refine (P3 _).out.mono ?_; rintro e w' ⟨rfl, rfl⟩) | (go_at_call 217; refine (P4 _).out.mono ?_; rintro e w' ⟨rfl, rfl⟩))
      refine (P5 _).out.mono ?_; rintro e w5 ⟨rfl, b5⟩
      have B5 := Lib.hid (B2.out.trans (b5.mono B2.out.size))
      clear b5
      go_wp2_with (fail)
      go_ret2
      exact ⟨rfl, B5.out⟩


end Go.Proofs.YtpnndlahfllbhaaGreat

/-! The walk of 'taken': the record whose frame stands at a place. -/
namespace Go.Proofs.YtpnndlahfllbhaaGreat
open Go.RowKit

theorem toList_decide (a b : ByteArray) : (a.toList == b.toList) = decide (a = b) := by
  rw [ByteArray.toList_eq, ByteArray.toList_eq]
  by_cases h : a = b
  · subst h; simp
  · rw [decide_eq_false h]
    exact beq_eq_false_iff_ne.2 fun e => h (by apply ByteArray.ext; exact Array.toList_inj.1 e)

/-- a frame may stand here: its length is one, and there is so much -/
def fits (t : ByteArray) : Prop := 4 ≤ t.size ∧ 1 ≤ numAt t 0 4 ∧ numAt t 0 4 ≤ 8192 ∧ numAt t 0 4 + 12 ≤ t.size
instance (t : ByteArray) : Decidable (fits t) := by unfold fits; exact inferInstance
def takenBody (t : ByteArray) : ByteArray := if fits t then t.extract 8 (8 + numAt t 0 4) else ⟨#[]⟩
def takenOk (t : ByteArray) (at_ : Nat) : Bool := decide (fits t) && decide (t.extract 0 (numAt t 0 4 + 12) = frameB at_ (takenBody t))

theorem takenBody_size {t : ByteArray} (h : fits t) : (takenBody t).size = numAt t 0 4 := by
  obtain ⟨h1, h2, h3, h4⟩ := id h
  unfold takenBody
  rw [if_pos h, ByteArray.size_extract]
  omega

set_option maxRecDepth 100000 in
set_option maxHeartbeats 1000000 in
theorem taken_c (s : ByteArray) (at_ : Nat) (h1 : 1 ≤ at_) (h2 : at_ - 1 ≤ s.size) (hn : s.size ≤ 1000000000) (ha' : at_ < 18446744073709551616) (w : World) :
    Calls Tryz.prog 154 #[.string s, .int .u64 (at_ : Int)] w fun e w' => e = .returned (.tuple #[.string (takenBody (s.extract (at_ - 1) s.size)), .bool (takenOk (s.extract (at_ - 1) s.size) at_)]) ∧ Below w.heap.size w w' := by
  obtain ⟨a, rfl⟩ : ∃ a, at_ = a + 1 := ⟨at_ - 1, by omega⟩
  simp only [Nat.add_sub_cancel] at h2 ⊢
  have ha := ha'
  clear ha'
  have hw1 : IntKind.u64.wrap (((a + 1 : Nat) : Int) - 1) = (a : Int) := by rw [IntKind.wrap_u64]; omega
  have q0 : (0 : Int) ≤ (a : Int) := by omega
  have q1 : (a : Int) ≤ (s.size : Int) := by omega
  have hts : (s.extract a s.size).size = s.size - a := by rw [ByteArray.size_extract]; omega
  have HS : Hid ((s.extract a s.size).size ≤ 1000000000) := by show (s.extract a s.size).size ≤ 1000000000; omega
  clear hts
  go_enter Tryz.func154, Tryz.ntmps154
  go_wp2_with (fail)
  clear hw1 q0 q1 h1 h2 hn
  generalize hT : s.extract a s.size = t at *
  have HT := Lib.hid hT
  clear hT
  have HG : Hid (Calls Tryz.prog 169 #[.string t, .int .i64 0, .int .i64 4] w fun e w' => e = .returned (getE t 0 4) ∧ w' = w) := rawGet_c t 0 4 (Nat.zero_le _) (by omega) (by have := HS.out; omega) w
  unfold getE at HG
  by_cases h4 : t.size - 0 < 4
  · rw [if_pos h4] at HG
    have hnf : ¬ fits t := fun h => by have := h.1; omega
    have e1 : takenBody t = ⟨#[]⟩ := by unfold takenBody; rw [if_neg hnf]
    have e2 : takenOk t (a + 1) = false := by unfold takenOk; rw [decide_eq_false hnf]; rfl
    have E1 := Lib.hid e1
    have E2 := Lib.hid e2
    clear e1 e2 hnf h4
    refine HG.out.mono ?_; rintro e w' ⟨rfl, rfl⟩
    go_wp2_with (fail)
    go_ret2
    exact ⟨by rw [HT.out, E1.out, E2.out]; rfl, Below.refl _ _⟩
  · rw [if_neg h4] at HG
    have h4' : 4 ≤ t.size := by omega
    have hn32 : numAt t 0 4 < 4294967296 := numAt_lt t 0 4
    refine HG.out.mono ?_; rintro e w' ⟨rfl, rfl⟩
    by_cases hf : fits t
    · obtain ⟨f1, f2, f3, f4⟩ := id hf
      have e1 : takenBody t = t.extract 8 (8 + numAt t 0 4) := by unfold takenBody; rw [if_pos hf]
      have hbs := takenBody_size hf
      have HF : Hid (Calls Tryz.prog 168 #[.int .u64 ((a + 1 : Nat) : Int), .string (takenBody t)] w' fun e w2 => e = .returned (frameE (a + 1) (takenBody t)) ∧ Below w'.heap.size w' w2) := frame_c (a + 1) _ ha (by rw [hbs]; omega) w'
      have e3 : frameE (a + 1) (takenBody t) = .tuple #[.string (frameB (a + 1) (takenBody t)), .int .i64 0] := by
        unfold frameE
        rw [if_neg (by rw [hbs]; omega), if_neg (by omega)]
      rw [e3] at HF
      have hfs : (frameB (a + 1) (takenBody t)).size = numAt t 0 4 + 12 := by rw [frameB_size, hbs]
      have e2 : takenOk t (a + 1) = ((t.extract 0 (numAt t 0 4 + 12)).toList == (frameB (a + 1) (takenBody t)).toList) := by
        rw [toList_decide]
        unfold takenOk
        rw [decide_eq_true hf, Bool.true_and]
      have hE2 := Lib.hid e2
      have E1 := Lib.hid e1
      clear e1 e2 e3 hf HG h4 h4' hbs
      have hbody : t.extract 8 (8 + numAt t 0 4) = takenBody t := E1.out.symm
      generalize frameB (a + 1) (takenBody t) = want at *
      generalize numAt t 0 4 = n at *
      have hws : IntKind.i64.wrap (n : Int) = (n : Int) := by rw [IntKind.wrap_i64]; omega
      go_wp2_with (fail)
      refine HF.out.mono ?_; rintro e w2 ⟨rfl, b2⟩
      have B2 := Lib.hid b2
      clear b2
      have hfs' : (want.size : Int) ≤ (t.size : Int) := by omega
      go_wp2_with (fail)
      go_quiet (fail)
      go_wp2_with (fail)
      go_ret2
      refine ⟨?_, B2.out.trans ⟨rfl, rfl, rfl, Nat.le_refl _, fun _ _ => rfl⟩⟩
      rw [HT.out, hE2.out]
      rfl
    · have e1 : takenBody t = ⟨#[]⟩ := by unfold takenBody; rw [if_neg hf]
      have e2 : takenOk t (a + 1) = false := by unfold takenOk; rw [decide_eq_false hf]; rfl
      have E1 := Lib.hid e1
      have E2 := Lib.hid e2
      clear e1 e2 HG h4
      have hx : numAt t 0 4 < 1 ∨ (¬ numAt t 0 4 < 1 ∧ 8192 < numAt t 0 4) ∨ (¬ numAt t 0 4 < 1 ∧ ¬ 8192 < numAt t 0 4 ∧ t.size < numAt t 0 4 + 12) := by
        unfold fits at hf
        omega
      clear hf
      generalize numAt t 0 4 = n at *
      obtain hx | ⟨hx1, hx2⟩ | ⟨hx1, hx2, hx3⟩ := hx
      all_goals
        go_wp2_with (fail)
        go_ret2
        exact ⟨by rw [HT.out, E1.out, E2.out]; rfl, Below.refl _ _⟩
end Go.Proofs.YtpnndlahfllbhaaGreat

/-! The log in memory. -/
namespace Go.Proofs.YtpnndlahfllbhaaGreat
open Go.RowKit

/-- the log: its records, how many are flushed, the room that is kept, the frames that are not flushed, the master -/
structure Lg where
  recs : List ByteArray
  sure : Nat
  kept : Int
  tail : ByteArray
  marks : Nat

/-- where records begin -/
def places (p : Nat) : List ByteArray → List Nat
  | [] => []
  | s :: l => p :: places (p + s.size + 12) l
/-- where the next record will be -/
def endFrom (p : Nat) : List ByteArray → Nat
  | [] => p
  | s :: l => endFrom (p + s.size + 12) l
def Lg.end_ (g : Lg) : Nat := endFrom 1 g.recs
/-- the frames of records -/
def frames (p : Nat) : List ByteArray → ByteArray
  | [] => ⟨#[]⟩
  | s :: l => frameB p s ++ frames (p + s.size + 12) l

theorem places_length : ∀ (l : List ByteArray) (p : Nat), (places p l).length = l.length
  | [], _ => rfl
  | s :: l, p => by simp [places, places_length l]
theorem places_snoc (s : ByteArray) : ∀ (l : List ByteArray) (p : Nat), places p (l ++ [s]) = places p l ++ [endFrom p l]
  | [], _ => rfl
  | x :: l, p => by simp [places, endFrom, places_snoc s l]
theorem endFrom_snoc (s : ByteArray) : ∀ (l : List ByteArray) (p : Nat), endFrom p (l ++ [s]) = endFrom p l + s.size + 12
  | [], _ => rfl
  | x :: l, p => by simp [endFrom, endFrom_snoc s l]
theorem frames_snoc (s : ByteArray) : ∀ (l : List ByteArray) (p : Nat), frames p (l ++ [s]) = frames p l ++ frameB (endFrom p l) s
  | [], p => by
    apply ByteArray.ext
    simp [frames, endFrom, ByteArray.data_append]
  | x :: l, p => by simp only [List.cons_append, frames, endFrom, frames_snoc s l, ByteArray.append_assoc]
theorem frames_size : ∀ (l : List ByteArray) (p : Nat), (frames p l).size + p = endFrom p l
  | [], p => by simp [frames, endFrom, ByteArray.size]
  | x :: l, p => by
    have := frames_size l (p + x.size + 12)
    rw [frames, endFrom, ByteArray.size_append, frameB_size]
    omega
theorem endFrom_le : ∀ (l : List ByteArray) (p : Nat), p ≤ endFrom p l
  | [], _ => Nat.le_refl _
  | x :: l, p => by
    have := endFrom_le l (p + x.size + 12)
    rw [endFrom]
    omega
theorem endFrom_length : ∀ (l : List ByteArray) (p : Nat), p + 12 * l.length ≤ endFrom p l
  | [], _ => Nat.le_refl _
  | x :: l, p => by
    have := endFrom_length l (p + x.size + 12)
    rw [endFrom, List.length_cons]
    omega

structure Lg.ok (g : Lg) : Prop where
  end_le : g.end_ ≤ 4194305
  recs : ∀ s ∈ g.recs, 1 ≤ s.size ∧ s.size ≤ 8192
  sure : g.sure ≤ g.recs.length
  kept1 : 0 ≤ g.kept
  kept2 : g.kept ≤ 4194304
  tail : g.tail.size ≤ 5000000
  marks : g.marks < 18446744073709551616

theorem Lg.ok.length {g : Lg} (h : g.ok) : g.recs.length ≤ 349526 := by
  have h1 := h.end_le
  have h2 := endFrom_length g.recs 1
  unfold Lg.end_ at h1
  omega
theorem Lg.end_pos (g : Lg) : 1 ≤ g.end_ := endFrom_le g.recs 1

def lgCells (db : Nat) (lv av : Value) (g : Lg) : Array Value := #[.pointer (some ⟨db, 0, none⟩), lv, av, .int .u64 (g.end_ : Int), .int .i64 (g.sure : Int), .int .i64 g.kept, .string g.tail, .int .u64 (g.marks : Int)]
def lsn (p : Nat) : Value := .int .u64 (p : Int)

/-- the log g of the disk at db lies at block lb, in the blocks of G -/
structure WalIn (w : World) (G : Nat → Prop) (lb db : Nat) (lv av : Value) (g : Lg) : Prop where
  blk : Blk w lb 186 (lgCells db lv av g)
  recs : w.ownsRow 0 9 1 lv g.recs.length (g.recs.map Value.string)
  ats : w.ownsRow 0 31 1 av g.recs.length ((places 1 g.recs).map lsn)
  gb : G lb
  gl : ∀ k, lv.ownBlock = some k → G k
  ga : ∀ k, av.ownBlock = some k → G k
  ok : g.ok
  lt : ∀ r, G r → r < w.heap.size

def WalAt (w : World) (G : Nat → Prop) (lb db : Nat) (g : Lg) : Prop := ∃ lv av, WalIn w G lb db lv av g

section
variable {w w' : World} {G : Nat → Prop} {lb db : Nat} {lv av : Value} {g : Lg}
theorem WalIn.keep (h : WalIn w G lb db lv av g) (hk : ∀ r, G r → w'.heap[r]? = w.heap[r]?) (hs : w.heap.size ≤ w'.heap.size) : WalIn w' G lb db lv av g :=
  ⟨h.blk.same (hk _ h.gb), own_same h.recs (fun k hg => hk _ (h.gl k hg)), own_same h.ats (fun k hg => hk _ (h.ga k hg)), h.gb, h.gl, h.ga, h.ok, fun r hr => Nat.lt_of_lt_of_le (h.lt r hr) hs⟩
theorem WalAt.keep (h : WalAt w G lb db g) (hk : ∀ r, G r → w'.heap[r]? = w.heap[r]?) (hs : w.heap.size ≤ w'.heap.size) : WalAt w' G lb db g := by
  obtain ⟨lv, av, h⟩ := h
  exact ⟨lv, av, h.keep hk hs⟩
theorem WalAt.below (h : WalAt w G lb db g) (hb : Below w.heap.size w w') : WalAt w' G lb db g := h.keep (fun r hr => hb.block r (by obtain ⟨_, _, h⟩ := h; exact h.lt r hr)) hb.size
theorem WalIn.below (h : WalIn w G lb db lv av g) (hb : Below w.heap.size w w') : WalIn w' G lb db lv av g := h.keep (fun r hr => hb.block r (h.lt r hr)) hb.size
theorem WalAt.ok (h : WalAt w G lb db g) : g.ok := by obtain ⟨_, _, h⟩ := h; exact h.ok
theorem WalAt.lt (h : WalAt w G lb db g) : ∀ r, G r → r < w.heap.size := by obtain ⟨_, _, h⟩ := h; exact h.lt

theorem WalIn.cells (h : WalIn w G lb db lv av g) :
    w.cell? ⟨lb, 0, none⟩ = some (.pointer (some ⟨db, 0, none⟩)) ∧ w.cell? ⟨lb, 1, none⟩ = some lv ∧ w.cell? ⟨lb, 2, none⟩ = some av ∧ w.cell? ⟨lb, 3, none⟩ = some (.int .u64 (g.end_ : Int)) ∧
    w.cell? ⟨lb, 4, none⟩ = some (.int .i64 (g.sure : Int)) ∧ w.cell? ⟨lb, 5, none⟩ = some (.int .i64 g.kept) ∧ w.cell? ⟨lb, 6, none⟩ = some (.string g.tail) ∧ w.cell? ⟨lb, 7, none⟩ = some (.int .u64 (g.marks : Int)) ∧
    ∀ i, w.frozen? ⟨lb, i, none⟩ = false :=
  ⟨h.blk.cell 0, h.blk.cell 1, h.blk.cell 2, h.blk.cell 3, h.blk.cell 4, h.blk.cell 5, h.blk.cell 6, h.blk.cell 7, h.blk.frozen⟩

/-- a store into one of the log's own cells -/
theorem WalIn.set (h : WalIn w G lb db lv av g) (i : Nat) (u : Value) (g' : Lg) (hcs : (lgCells db lv av g).setIfInBounds i u = lgCells db lv av g') (hr : g'.recs = g.recs) (hok : g'.ok) :
    WalIn (w.setCell ⟨lb, i, none⟩ u) G lb db lv av g' := by
  have ho : ∀ r, r ≠ lb → (w.setCell ⟨lb, i, none⟩ u).heap[r]? = w.heap[r]? := fun r hr => Below.heap_setCell w _ u r hr
  refine ⟨?_, ?_, ?_, h.gb, h.gl, h.ga, hok, fun r hr => by have := h.lt r hr; simpa [World.setCell] using this⟩
  · have := h.blk.set_ i u
    rw [hcs] at this
    exact this
  · rw [hr]; exact own_same h.recs (fun k hg => ho k (fun e => own_blk_ne h.recs h.blk (by decide) (by rw [hg, e])))
  · rw [hr]; exact own_same h.ats (fun k hg => ho k (fun e => own_blk_ne h.ats h.blk (by decide) (by rw [hg, e])))
end

/-- what a call that works on the log alone leaves -/
def WPost (w : World) (G : Nat → Prop) (lb db : Nat) (g : Lg) (w' : World) : Prop := ∃ G', WalAt w' G' lb db g ∧ Step G w w' ∧ More G G' w

theorem WPost.mk' {w w' : World} {G : Nat → Prop} {lb db : Nat} {lv av : Value} {g : Lg} (h : WalIn w' G lb db lv av g) (hs : Step G w w') : WPost w G lb db g w' := ⟨G, ⟨lv, av, h⟩, hs, More.refl G w⟩

theorem infoString : (Tryz.prog.info? 9).map (fun i => (i.zero, i.size, i.bytes)) = some (some (.string ⟨#[]⟩), 1, 16) := by kernel_rfl
theorem infoLSN : (Tryz.prog.info? 31).map (fun i => (i.zero, i.size, i.bytes)) = some (some (.int .u64 0), 1, 8) := by kernel_rfl
end Go.Proofs.YtpnndlahfllbhaaGreat

/-! A region that draws its order, in which loads come ahead of late stores: the loads are taken first. -/
namespace Go.Proofs.YtpnndlahfllbhaaGreat
open Go

theorem op_at {ops : Array Oper} {i : Nat} {o : Oper} {tl : List Oper} (h : ops.toList.drop i = o :: tl) : ops[i]? = some o := by
  have : (ops.toList.drop i)[0]? = some o := by rw [h]; rfl
  rw [List.getElem?_drop] at this
  simpa using this

section
variable {P : Program} {ops : Array Oper} {Q : Exit → Act → World → Prop} {md : Region.Mode} {S : World → Prop} {late : List Nat}

/-- Whatever order is picked, S holding behind each operation ahead of the late ones. -/
def wpAnyL (P : Program) (md : Region.Mode) (ops : Array Oper) (Q : Exit → Act → World → Prop) (S : World → Prop) (late : List Nat) : Nat → Array Bool → Act → World → Prop
  | 0, listed, a, w => Region.ready md ops listed = [] ∧ Q .normal a w
  | fuel + 1, listed, a, w =>
    (Region.ready md ops listed = [] → Q .normal a w) ∧
    ∀ i ∈ Region.ready md ops listed, wpOp P ops Q i (fun a' w' => if late.contains i = true then wpAny P md ops Q fuel (listed.setIfInBounds i true) a' w' else S w' ∧ wpAnyL P md ops Q S late fuel (listed.setIfInBounds i true) a' w') a w

theorem wpAny_of_late : ∀ (fuel : Nat) (listed : Array Bool) (a : Act) (w : World), wpAnyL P md ops Q S late fuel listed a w → wpAny P md ops Q fuel listed a w
  | 0, _, _, _, h => h
  | fuel + 1, _, _, _, h => ⟨h.1, fun i hi => wpOp_mono (fun a' w' h' => by
      by_cases hl : late.contains i = true
      · rw [if_pos hl] at h'; exact h'
      · rw [if_neg hl] at h'; exact wpAny_of_late fuel _ a' w' h'.2) (h.2 i hi)⟩

/-- those that are late wait for i -/
def waitsAll (md : Region.Mode) (ops : Array Oper) (late : List Nat) (i : Nat) : Bool :=
  late.all fun j => match ops[j]? with
    | some oj => oj.after.any (fun e => Region.binds md e && e.on == i)
    | none => true

theorem waitsAll_spec {i j : Nat} {oj : Oper} (h : waitsAll md ops late i = true) (hj : late.contains j = true) (ho : ops[j]? = some oj) : ∃ e ∈ oj.after, Region.binds md e = true ∧ e.on = i := by
  unfold waitsAll at h
  have h1 := List.all_eq_true.1 h j (by simpa using hj)
  rw [ho] at h1
  obtain ⟨e, he, h2⟩ := Array.any_eq_true'.1 h1
  rw [Bool.and_eq_true] at h2
  exact ⟨e, he, h2.1, by simpa using h2.2⟩

theorem wpAnyL_first {i : Nat} {oi : Oper} {v : Value} (hi : ops[i]? = some oi) (hsel : ∀ (j : Nat) (o : Oper) cs b, ops[j]? = some o → o.op ≠ .select cs b)
    (hQ : ∀ c a w, Q (.panic c) (a.put oi.dst v) w → Q (.panic c) a w) (hor : ∀ a', YieldsIf P ops S oi v a' → Yields P ops oi v a' ∨ waitsAll md ops late i = true) :
    ∀ (fuel : Nat) (listed : Array Bool) (a : Act) (w : World),
      (∀ j oj, ops[j]? = some oj → j ≠ i → listed.getD j true = false → (∀ e ∈ oj.after, Region.binds md e = true → e.on ≠ i) → oi.apart ops oj = true) →
      i ∈ Region.ready md ops listed → YieldsIf P ops S oi v a → S w → late.contains i = false →
      wpAnyL P md ops Q S late fuel (listed.setIfInBounds i true) (a.put oi.dst v) w → wpAnyL P md ops Q S late (fuel + 1) listed a w := by
  intro fuel
  induction fuel with
  | zero =>
    intro listed a w _ hr hy hS hli H
    refine ⟨fun h => (by rw [h] at hr; cases hr), fun j hj => ?_⟩
    by_cases hji : j = i
    · subst hji; exact hy.wpOp hi hS (by rw [if_neg (by rw [hli]; exact Bool.false_ne_true)]; exact ⟨hS, H⟩)
    · have := ready_mono hj hji
      rw [H.1] at this
      cases this
  | succ fuel ih =>
    intro listed a w hfree hr hy hS hli H
    refine ⟨fun h => (by rw [h] at hr; cases hr), fun j hj => ?_⟩
    by_cases hji : j = i
    · subst hji; exact hy.wpOp hi hS (by rw [if_neg (by rw [hli]; exact Bool.false_ne_true)]; exact ⟨hS, H⟩)
    · have h1 := H.2 j (ready_mono hj hji)
      obtain ⟨hjun, oj, hoj, hall⟩ := mem_ready.1 hj
      have hnot : ∀ e ∈ oj.after, Region.binds md e = true → e.on ≠ i := fun e he hb heq => by
        have h1 := hall e he hb
        have h0 := (mem_ready.1 hr).1
        rw [heq] at h1
        rcases Nat.lt_or_ge i listed.size with h' | h'
        · simp [h'] at h0 h1; rw [h0] at h1; cases h1
        · simp [Array.getElem?_eq_none h'] at h1
      have h2 := wpOp_putIf hoj (hfree j oj hoj hji hjun hnot) (fun cs b => hsel i oi cs b hi) (fun cs b => hsel j oj cs b hoj) hQ hy h1
      have hfree' : ∀ k ok, ops[k]? = some ok → k ≠ i → (listed.setIfInBounds j true).getD k true = false →
          (∀ e ∈ ok.after, Region.binds md e = true → e.on ≠ i) → oi.apart ops ok = true := fun k ok hk hki hun hno => by
        refine hfree k ok hk hki ?_ hno
        by_cases hjk : j = k
        · subst hjk; exact hjun
        · rw [getD_set_ne true hjk] at hun; exact hun
      refine wpOp_mono (fun a' w' h3 => ?_) h2
      by_cases hl : late.contains j = true
      · have h4 := h3.2
        rw [if_pos hl] at h4 ⊢
        rcases hor a' h3.1 with hyy | hw
        · refine wpAny_first hi hsel hQ fuel (listed.setIfInBounds j true) a' w' hfree' (ready_mono hr (Ne.symm hji)) hyy ?_
          rw [Array.setIfInBounds_comm _ _ hji]
          exact h4
        · obtain ⟨e, he, hb, heq⟩ := waitsAll_spec hw hl hoj
          exact absurd heq (hnot e he hb)
      · have h4 := h3.2
        rw [if_neg hl] at h4 ⊢
        refine ⟨h4.1, ih (listed.setIfInBounds j true) a' w' hfree' (ready_mono hr (Ne.symm hji)) h3.1 h4.1 hli ?_⟩
        rw [Array.setIfInBounds_comm _ _ hji]
        exact h4.2

/-- a load is taken first: those that are late wait for it -/
theorem wpAnyL_load {i : Nat} {oi : Oper} {v : Value} {fuel : Nat} {listed : Array Bool} {a : Act} {w : World} {tl : List Oper} (hi : ops.toList.drop i = oi :: tl)
    (hs : Region.noSelect ops = true) (hf : Region.free md ops listed i = true) (hr : (Region.ready md ops listed).contains i = true) (hl : late.contains i = false) (hw : waitsAll md ops late i = true)
    (hQ : ∀ c a w, Q (.panic c) (a.put oi.dst v) w → Q (.panic c) a w) (hy : YieldsIf P ops S oi v a) (hS : S w)
    (h : wpAnyL P md ops Q S late fuel (listed.setIfInBounds i true) (a.put oi.dst v) w) : wpAnyL P md ops Q S late (fuel + 1) listed a w :=
  wpAnyL_first (op_at hi) (Region.noSelect_spec hs) hQ (fun _ _ => .inr hw) fuel listed a w (Region.free_spec (op_at hi) hf) (by simpa using hr) hy hS hl h

theorem wpAnyL_ready {rs : List Nat} {fuel : Nat} {listed : Array Bool} {a : Act} {w : World} (hr : Region.ready md ops listed = rs) (hne : rs ≠ [])
    (h : ∀ i ∈ rs, wpOp P ops Q i (fun a' w' => if late.contains i = true then wpAny P md ops Q fuel (listed.setIfInBounds i true) a' w' else S w' ∧ wpAnyL P md ops Q S late fuel (listed.setIfInBounds i true) a' w') a w) :
    wpAnyL P md ops Q S late (fuel + 1) listed a w := ⟨fun h0 => absurd (hr ▸ h0) hne, hr ▸ h⟩

/-- an operation that yields in whatever world: whoever is late -/
theorem wpAnyL_take {i : Nat} {oi : Oper} {v : Value} (hi : ops[i]? = some oi)
    (hs : Region.noSelect ops = true) (hQ : ∀ c a w, Q (.panic c) (a.put oi.dst v) w → Q (.panic c) a w) (hl : late.contains i = false) :
    ∀ (fuel : Nat) (listed : Array Bool) (a : Act) (w : World), (∀ j oj, ops[j]? = some oj → j ≠ i → listed.getD j true = false → (∀ e ∈ oj.after, Region.binds md e = true → e.on ≠ i) → oi.apart ops oj = true) →
    i ∈ Region.ready md ops listed → Yields P ops oi v a → S w →
    wpAnyL P md ops Q S late fuel (listed.setIfInBounds i true) (a.put oi.dst v) w → wpAnyL P md ops Q S late (fuel + 1) listed a w := by
  intro fuel
  induction fuel with
  | zero =>
    intro listed a w _ hr hy hS H
    refine ⟨fun h => (by rw [h] at hr; cases hr), fun j hj => ?_⟩
    by_cases hji : j = i
    · subst hji; exact hy.wpOp hi (by rw [if_neg (by rw [hl]; exact Bool.false_ne_true)]; exact ⟨hS, H⟩)
    · have := ready_mono hj hji
      rw [H.1] at this
      cases this
  | succ fuel ih =>
    intro listed a w hfree hr hy hS H
    refine ⟨fun h => (by rw [h] at hr; cases hr), fun j hj => ?_⟩
    by_cases hji : j = i
    · subst hji; exact hy.wpOp hi (by rw [if_neg (by rw [hl]; exact Bool.false_ne_true)]; exact ⟨hS, H⟩)
    · have h1 := H.2 j (ready_mono hj hji)
      obtain ⟨hjun, oj, hoj, hall⟩ := mem_ready.1 hj
      have hnot : ∀ e ∈ oj.after, Region.binds md e = true → e.on ≠ i := fun e he hb heq => by
        have h1 := hall e he hb
        have h0 := (mem_ready.1 hr).1
        rw [heq] at h1
        rcases Nat.lt_or_ge i listed.size with h' | h'
        · simp [h'] at h0 h1; rw [h0] at h1; cases h1
        · simp [Array.getElem?_eq_none h'] at h1
      have h2 := wpOp_put hoj (hfree j oj hoj hji hjun hnot) (fun cs b => Region.noSelect_spec hs i oi cs b hi) (fun cs b => Region.noSelect_spec hs j oj cs b hoj) hQ hy h1
      have hfree' : ∀ k ok, ops[k]? = some ok → k ≠ i → (listed.setIfInBounds j true).getD k true = false →
          (∀ e ∈ ok.after, Region.binds md e = true → e.on ≠ i) → oi.apart ops ok = true := fun k ok hk hki hun hno => by
        refine hfree k ok hk hki ?_ hno
        by_cases hjk : j = k
        · subst hjk; exact hjun
        · rw [getD_set_ne true hjk] at hun; exact hun
      refine wpOp_mono (fun a' w' h3 => ?_) h2
      by_cases hlj : late.contains j = true
      · have h4 := h3.2
        rw [if_pos hlj] at h4 ⊢
        refine wpAny_first hi (Region.noSelect_spec hs) hQ fuel (listed.setIfInBounds j true) a' w' hfree' (ready_mono hr (Ne.symm hji)) h3.1 ?_
        rw [Array.setIfInBounds_comm _ _ hji]
        exact h4
      · have h4 := h3.2
        rw [if_neg hlj] at h4 ⊢
        refine ⟨h4.1, ih (listed.setIfInBounds j true) a' w' hfree' (ready_mono hr (Ne.symm hji)) h3.1 h4.1 ?_⟩
        rw [Array.setIfInBounds_comm _ _ hji]
        exact h4.2

theorem wpAnyL_move {i : Nat} {oi : Oper} {v : Value} {fuel : Nat} {listed : Array Bool} {a : Act} {w : World} {tl : List Oper} (hi : ops.toList.drop i = oi :: tl)
    (hs : Region.noSelect ops = true) (hf : Region.free md ops listed i = true) (hr : (Region.ready md ops listed).contains i = true) (hl : late.contains i = false)
    (hQ : ∀ c a w, Q (.panic c) (a.put oi.dst v) w → Q (.panic c) a w) (hy : Yields P ops oi v a) (hS : S w)
    (h : wpAnyL P md ops Q S late fuel (listed.setIfInBounds i true) (a.put oi.dst v) w) : wpAnyL P md ops Q S late (fuel + 1) listed a w :=
  wpAnyL_take (op_at hi) hs hQ hl fuel listed a w (Region.free_spec (op_at hi) hf) (by simpa using hr) hy hS h

/-- behind all but the late ones -/
theorem wpAnyL_late {i : Nat} {o : Oper} {fuel : Nat} {listed : Array Bool} {a : Act} {w : World} (hr : Region.ready md ops listed = [i]) {tl : List Oper} (hl : late.contains i = true) (ho : ops.toList.drop i = o :: tl)
    (h : ∀ K' : Act → World → Prop, Shut (∀ a w, wpAny P md ops Q fuel (listed.setIfInBounds i true) a w → K' a w) → if Region.wanted o (yielded ops a.tmps) = true then Oper.wp P o a w K' Q else K' (a.put o.dst undef) w) :
    wpAnyL P md ops Q S late (fuel + 1) listed a w := wpAnyL_ready hr (by simp) (fun j hj => by
  obtain rfl := List.mem_singleton.1 hj
  exact wpOp_step (op_at ho) (fun K' hK => h K' (fun a w hW => hK a w (by rw [if_pos hl]; exact hW))))

/-- the same step in a plain region -/
theorem wpAny_step {i : Nat} {o : Oper} {fuel : Nat} {listed : Array Bool} {a : Act} {w : World} {tl : List Oper} (hr : Region.ready md ops listed = [i]) (ho : ops.toList.drop i = o :: tl)
    (h : ∀ K' : Act → World → Prop, Shut (∀ a w, wpAny P md ops Q fuel (listed.setIfInBounds i true) a w → K' a w) → if Region.wanted o (yielded ops a.tmps) = true then Oper.wp P o a w K' Q else K' (a.put o.dst undef) w) :
    wpAny P md ops Q (fuel + 1) listed a w := wpAny_all hr (by simp) (fun j hj => by
  obtain rfl := List.mem_singleton.1 hj
  exact wpOp_step (op_at ho) (fun K' hK => h K' (fun a w hW => hK a w hW)))

/-- a step that is not late, one of several -/
def EachL (P : Program) (md : Region.Mode) (ops : Array Oper) (Q : Exit → Act → World → Prop) (S : World → Prop) (late : List Nat) (fuel : Nat) (listed : Array Bool) (a : Act) (w : World) (rs : List Nat) : Prop :=
  ∀ i ∈ rs, wpOp P ops Q i (fun a' w' => if late.contains i = true then wpAny P md ops Q fuel (listed.setIfInBounds i true) a' w' else S w' ∧ wpAnyL P md ops Q S late fuel (listed.setIfInBounds i true) a' w') a w
theorem EachL.nil {fuel : Nat} {listed : Array Bool} {a : Act} {w : World} : EachL P md ops Q S late fuel listed a w [] := fun _ h => by cases h
theorem EachL.cons {fuel : Nat} {listed : Array Bool} {a : Act} {w : World} {i : Nat} {o : Oper} {rs : List Nat} {tl : List Oper} (ho : ops.toList.drop i = o :: tl) (hl : late.contains i = false)
    (h : ∀ K' : Act → World → Prop, Shut (∀ a w, S w → (S w → wpAnyL P md ops Q S late fuel (listed.setIfInBounds i true) a w) → K' a w) → if Region.wanted o (yielded ops a.tmps) = true then Oper.wp P o a w K' Q else K' (a.put o.dst undef) w)
    (hs : EachL P md ops Q S late fuel listed a w rs) : EachL P md ops Q S late fuel listed a w (i :: rs) := fun j hj => by
  rcases List.mem_cons.1 hj with rfl | hj
  · exact wpOp_step (op_at ho) (fun K' hK => h K' (fun a w hS hW => hK a w (by rw [if_neg (by rw [hl]; exact Bool.false_ne_true)]; exact ⟨hS, hW hS⟩)))
  · exact hs j hj
theorem wpAnyL_each {rs : List Nat} {fuel : Nat} {listed : Array Bool} {a : Act} {w : World} (hr : Region.ready md ops listed = rs) (hne : rs ≠ [])
    (h : EachL P md ops Q S late fuel listed a w rs) : wpAnyL P md ops Q S late (fuel + 1) listed a w := wpAnyL_ready hr hne h

/-- a plain region's take, the operation written out -/
theorem wpAny_move {i : Nat} {oi : Oper} {v : Value} {fuel : Nat} {listed : Array Bool} {a : Act} {w : World} {tl : List Oper} (hi : ops.toList.drop i = oi :: tl)
    (hs : Region.noSelect ops = true) (hf : Region.free md ops listed i = true) (hr : (Region.ready md ops listed).contains i = true)
    (hQ : ∀ c a w, Q (.panic c) (a.put oi.dst v) w → Q (.panic c) a w) (hy : Yields P ops oi v a)
    (h : wpAny P md ops Q fuel (listed.setIfInBounds i true) (a.put oi.dst v) w) : wpAny P md ops Q (fuel + 1) listed a w := wpAny_take (op_at hi) hs hf hr hQ hy h

theorem wp_region_late {id : Nat} {a : Act} {w : World} (hm : P.follows .mixedOrders = true) (hS : S w.drew)
    (h : S w.drew → wpAnyL P .any ops Q S late ops.size (Array.replicate ops.size false) a w.drew) : (Code.region id ops true).wp P Q a w :=
  wp_region_any hm (wpAny_of_late _ _ _ _ (h hS))
end
end Go.Proofs.YtpnndlahfllbhaaGreat

/-! The walk of 'put': a record more, in memory. -/
namespace Go.Proofs.YtpnndlahfllbhaaGreat
open Go.RowKit
attribute [local go_sem ↓] Go.wp_at_zero Go.wp_at_succ

/-- W is w but for new blocks and block X -/
def Far (X : Option Nat) (w W : World) : Prop := w.heap.size ≤ W.heap.size ∧ ∀ k, k < w.heap.size → some k ≠ X → W.heap[k]? = w.heap[k]?
theorem Far.refl (X : Option Nat) (w : World) : Far X w w := ⟨Nat.le_refl _, fun _ _ _ => rfl⟩
theorem Far.drew {X : Option Nat} {w W : World} (h : Far X w W) : Far X w W.drew := h
theorem Far.alloc {X : Option Nat} {w W : World} (h : Far X w W) (o : Obj) : Far X w (W.alloc o) :=
  ⟨Nat.le_trans h.1 (by simp), fun k hk hx => (Below.heap_alloc W o k (Nat.lt_of_lt_of_le hk h.1)).trans (h.2 k hk hx)⟩
theorem Far.grown {X : Option Nat} {w W W' : World} (h : Far X w W) (hg : W.grownBy W' X) : Far X w W' :=
  ⟨Nat.le_trans h.1 hg.size, fun k hk hx => (hg.block k (Nat.lt_of_lt_of_le hk h.1) hx).trans (h.2 k hk hx)⟩
theorem own_far {X : Option Nat} {w W : World} {base : Nat} {e : TypeId} {size n : Nat} {v : Value} {xs : List Value} (h : w.ownsRow base e size v n xs) (hf : Far X w W) (hx : ∀ k, v.ownBlock = some k → X ≠ some k) : W.ownsRow base e size v n xs :=
  own_same h fun k hk => hf.2 k (h.lt k hk).2 (fun e => hx k hk e.symm)
/-- block nb holds o -/
def Got (W : World) (nb : Nat) (o : Obj) : Prop := W.heap[nb]? = some o
theorem Got.new (W : World) (o : Obj) {nb : Nat} (h : nb = W.heap.size) : Got (W.alloc o) nb o := by subst h; exact heap_alloc_new W o
theorem Got.lt {W : World} {nb : Nat} {o : Obj} (h : Got W nb o) : nb < W.heap.size := (Array.getElem?_eq_some_iff.1 h).1
theorem Got.drew {W : World} {nb : Nat} {o : Obj} (h : Got W nb o) : Got W.drew nb o := h
theorem Got.alloc {W : World} {nb : Nat} {o : Obj} (h : Got W nb o) (o' : Obj) : Got (W.alloc o') nb o := (Below.heap_alloc W o' nb h.lt).trans h
theorem Got.grown {W W' : World} {X : Option Nat} {nb : Nat} {o : Obj} (h : Got W nb o) (hg : W.grownBy W' X) (hx : some nb ≠ X) : Got W' nb o := (hg.block nb h.lt hx).trans h

def Lg.put (g : Lg) (s : ByteArray) : Lg := { g with recs := g.recs ++ [s] }

/-- what the loads of the statement need -/
def KS (lb : Nat) (lv av : Value) (w : World) : Prop := w.cell? ⟨lb, 1, none⟩ = some lv ∧ w.cell? ⟨lb, 2, none⟩ = some av ∧ w.frozen? ⟨lb, 1, none⟩ = false ∧ w.frozen? ⟨lb, 2, none⟩ = false ∧ lb < w.heap.size
theorem KS.drew {lb : Nat} {lv av : Value} {w : World} (h : KS lb lv av w) : KS lb lv av w.drew := h
theorem KS.same {lb : Nat} {lv av : Value} {w w' : World} (h : KS lb lv av w) (e : w'.heap[lb]? = w.heap[lb]?) (hs : w.heap.size ≤ w'.heap.size) : KS lb lv av w' :=
  ⟨(World.cell?_of_block e).trans h.1, (World.cell?_of_block e).trans h.2.1, (World.frozen?_of_block e).trans h.2.2.1, (World.frozen?_of_block e).trans h.2.2.2.1, Nat.lt_of_lt_of_le h.2.2.2.2 hs⟩
theorem KS.alloc {lb : Nat} {lv av : Value} {w : World} (h : KS lb lv av w) (o : Obj) : KS lb lv av (w.alloc o) := h.same (Below.heap_alloc w o lb h.2.2.2.2) (by simp)
theorem KS.grown {lb : Nat} {lv av : Value} {w w' : World} {X : Option Nat} (h : KS lb lv av w) (hg : w.grownBy w' X) (hx : some lb ≠ X) : KS lb lv av w' := h.same (hg.block lb h.2.2.2.2 hx) hg.size

theorem put_mid {w U1 pxw U2 qxw : World} {G : Nat → Prop} {lb db n : Nat} {lv av : Value} {g : Lg} {s : ByteArray} (h : WalIn w G lb db lv av g) (hn : n = g.recs.length)
    (hs : 1 ≤ s.size ∧ s.size ≤ 8192) (he : g.end_ + s.size + 12 ≤ 4194305)
    {pxg pxc qxg qxc : Nat} (f0 : Far none w U1)
    (px_own : pxw.ownsRow 0 9 1 (.slice (some ⟨pxg, 0, none⟩) (n + 1) pxc) (n + 1) (g.recs.map Value.string ++ [Value.string s])) (px_grow : U1.grownBy pxw lv.ownBlock)
    (px_at : lv.ownBlock = some pxg ∨ pxg = U1.heap.size) (px_lt : pxg < pxw.heap.size) (f1 : Far none pxw U2)
    (qx_own : qxw.ownsRow 0 31 1 (.slice (some ⟨qxg, 0, none⟩) (n + 1) qxc) (n + 1) ((places 1 g.recs).map lsn ++ [Value.int .u64 (g.end_ : Int)])) (qx_grow : U2.grownBy qxw av.ownBlock)
    (qx_at : av.ownBlock = some qxg ∨ qxg = U2.heap.size) (qx_lt : qxg < qxw.heap.size) (hst : Step G w qxw) :
    ∃ P : World, P = (qxw.setCell ⟨lb, 1, none⟩ (.slice (some ⟨pxg, 0, none⟩) (n + 1) pxc)).setCell ⟨lb, 2, none⟩ (.slice (some ⟨qxg, 0, none⟩) (n + 1) qxc) ∧
      P.cell? ⟨lb, 3, none⟩ = some (.int .u64 (g.end_ : Int)) ∧ P.frozen? ⟨lb, 3, none⟩ = false ∧
      WPost w G lb db (g.put s) (P.setCell ⟨lb, 3, none⟩ (.int .u64 ((g.end_ + (s.size + 12) : Nat) : Int))) := by
  subst hn
  have hlb := h.blk.lt
  have sne : lv.ownBlock ≠ some lb := own_blk_ne h.recs h.blk (by decide)
  have ane : av.ownBlock ≠ some lb := own_blk_ne h.ats h.blk (by decide)
  have b0 : U1.heap[lb]? = w.heap[lb]? := f0.2 lb hlb (by simp)
  have l0 : lb < U1.heap.size := Nat.lt_of_lt_of_le hlb f0.1
  have b1 : pxw.heap[lb]? = U1.heap[lb]? := px_grow.block lb l0 (fun e => sne e.symm)
  have l1 : lb < pxw.heap.size := Nat.lt_of_lt_of_le l0 px_grow.size
  have b2 : U2.heap[lb]? = pxw.heap[lb]? := f1.2 lb l1 (by simp)
  have l2 : lb < U2.heap.size := Nat.lt_of_lt_of_le l1 f1.1
  have b3 : qxw.heap[lb]? = U2.heap[lb]? := qx_grow.block lb l2 (fun e => ane e.symm)
  have B : Blk qxw lb 186 (lgCells db lv av g) := h.blk.same (b3.trans (b2.trans (b1.trans b0)))
  have pq : av.ownBlock ≠ some pxg := by
    rcases px_at with e | e
    · exact own_own_ne h.recs h.ats (by decide) e
    · intro e'
      have := (h.ats.lt _ e').2
      have := f0.1
      omega
  have rp : qxw.ownsRow 0 9 1 (.slice (some ⟨pxg, 0, none⟩) (g.recs.length + 1) pxc) (g.recs.length + 1) (g.recs.map Value.string ++ [Value.string s]) := own_same px_own fun k hk => by
    have hk' : pxg = k := by simpa [Value.ownBlock] using hk
    subst hk'
    exact (qx_grow.block pxg (Nat.lt_of_lt_of_le px_lt f1.1) (fun e => pq e.symm)).trans (f1.2 pxg px_lt (by simp))
  have np := own_blk_ne rp B (by decide)
  have nq := own_blk_ne qx_own B (by decide)
  refine ⟨_, rfl, ?_⟩
  generalize hpv : Value.slice (some ⟨pxg, 0, none⟩) (g.recs.length + 1) pxc = pv at *
  generalize hqv : Value.slice (some ⟨qxg, 0, none⟩) (g.recs.length + 1) qxc = qv at *
  have B1 := B.set_ 1 pv
  have B2 := B1.set_ 2 qv
  have B3 := B2.set_ 3 (.int .u64 ((g.end_ + (s.size + 12) : Nat) : Int))
  have hend : (g.put s).end_ = g.end_ + (s.size + 12) := by
    show endFrom 1 (g.recs ++ [s]) = endFrom 1 g.recs + (s.size + 12)
    rw [endFrom_snoc, Nat.add_assoc]
  refine ⟨B2.cell 3, B2.frozen 3, fun r => G r ∨ r = pxg ∨ r = qxg, ⟨pv, qv, ?_⟩, ?_, ?_⟩
  · have hh : ∀ r, r ≠ lb → (((qxw.setCell ⟨lb, 1, none⟩ pv).setCell ⟨lb, 2, none⟩ qv).setCell ⟨lb, 3, none⟩ (.int .u64 ((g.end_ + (s.size + 12) : Nat) : Int))).heap[r]? = qxw.heap[r]? := fun r hr =>
      (Below.heap_setCell _ _ _ r hr).trans ((Below.heap_setCell _ _ _ r hr).trans (Below.heap_setCell _ _ _ r hr))
    refine ⟨?_, ?_, ?_, .inl h.gb, ?_, ?_, ?_, ?_⟩
    · have e : lgCells db pv qv (g.put s) = (((lgCells db lv av g).setIfInBounds 1 pv).setIfInBounds 2 qv).setIfInBounds 3 (.int .u64 ((g.end_ + (s.size + 12) : Nat) : Int)) := by
        unfold lgCells
        rw [hend]
        rfl
      rw [e]
      exact B3
    · have := own_same rp (fun k hk => hh k (fun e => np (by rw [hk, e])))
      simpa [Lg.put] using this
    · have := own_same qx_own (fun k hk => hh k (fun e => nq (by rw [hk, e])))
      show World.ownsRow _ 0 31 1 qv (g.recs ++ [s]).length ((places 1 (g.recs ++ [s])).map lsn)
      rw [places_snoc]
      simpa [Lg.end_, lsn] using this
    · intro k hk
      subst hpv
      have : pxg = k := by simpa [Value.ownBlock] using hk
      exact .inr (.inl this.symm)
    · intro k hk
      subst hqv
      have : qxg = k := by simpa [Value.ownBlock] using hk
      exact .inr (.inr this.symm)
    · have ok := h.ok
      refine ⟨?_, ?_, ?_, ok.kept1, ok.kept2, ok.tail, ok.marks⟩
      · rw [hend]; omega
      · intro x hx
        rcases List.mem_append.1 hx with hx | hx
        · exact ok.recs x hx
        · rw [List.mem_singleton.1 hx]; exact hs
      · have := ok.sure
        show g.sure ≤ (g.recs ++ [s]).length
        rw [List.length_append]
        omega
    · intro r hr
      have hsz : qxw.heap.size = (((qxw.setCell ⟨lb, 1, none⟩ pv).setCell ⟨lb, 2, none⟩ qv).setCell ⟨lb, 3, none⟩ (.int .u64 ((g.end_ + (s.size + 12) : Nat) : Int))).heap.size := by simp [World.setCell]
      rw [← hsz]
      rcases hr with hr | rfl | rfl
      · exact Nat.lt_of_lt_of_le (h.lt r hr) hst.size
      · exact Nat.lt_of_lt_of_le px_lt (Nat.le_trans f1.1 qx_grow.size)
      · exact qx_lt
  · exact ((hst.setCell (.inl h.gb) _).setCell (.inl h.gb) _).setCell (.inl h.gb) _
  · intro r hr
    rcases hr with hr | rfl | rfl
    · exact .inl hr
    · rcases px_at with e | e
      · exact .inl (h.gl _ e)
      · right; have := f0.1; omega
    · rcases qx_at with e | e
      · exact .inl (h.ga _ e)
      · right; have := f0.1; have := px_grow.size; have := f1.1; omega

set_option maxRecDepth 100000 in
set_option maxHeartbeats 4000000 in
theorem lput_c {w : World} {G : Nat → Prop} {lb db : Nat} {g : Lg} (h : WalAt w G lb db g) (s : ByteArray) (hs : 1 ≤ s.size ∧ s.size ≤ 8192) (he : g.end_ + s.size + 12 ≤ 4194305) :
    Calls Tryz.prog 155 #[.pointer (some ⟨lb, 0, none⟩), .string s] w fun e w' => e = .returned (.int .u64 (g.end_ : Int)) ∧ WPost w G lb db (g.put s) w' := by
  obtain ⟨lv, av, h⟩ := h
  have c1 := h.cells.2.1
  have c2 := h.cells.2.2.1
  have c3 := h.cells.2.2.2.1
  have fr := h.cells.2.2.2.2.2.2.2.2
  have f1 := fr 1
  have f2 := fr 2
  have f3 := fr 3
  obtain ⟨is, his, hsz0, hsz1, hsz2⟩ := info_parts infoString
  obtain ⟨ia, hia, haz0, haz1, haz2⟩ := info_parts infoLSN
  obtain ⟨la, lc, rfl⟩ := own_form h.recs
  obtain ⟨aa, ac, rfl⟩ := own_form h.ats
  have hlb := h.blk.lt
  have sne : ∀ k, (Value.slice la g.recs.length lc).ownBlock = some k → k < w.heap.size ∧ k ≠ lb := fun k hk => ⟨(h.recs.lt k hk).2, fun e => own_blk_ne h.recs h.blk (by decide) (by rw [hk, e])⟩
  have ane : ∀ k, (Value.slice aa g.recs.length ac).ownBlock = some k → k < w.heap.size ∧ k ≠ lb := fun k hk => ⟨(h.ats.lt k hk).2, fun e => own_blk_ne h.ats h.blk (by decide) (by rw [hk, e])⟩
  have san : ∀ k, (Value.slice la g.recs.length lc).ownBlock = some k → (Value.slice aa g.recs.length ac).ownBlock ≠ some k := fun k hk => own_own_ne h.recs h.ats (by decide) hk
  have asn : ∀ k, (Value.slice aa g.recs.length ac).ownBlock = some k → (Value.slice la g.recs.length lc).ownBlock ≠ some k := fun k hk => own_own_ne h.ats h.recs (by decide) hk
  have hlen := h.ok.length
  have N1 : Hid (g.recs.length + 1 ≤ maxLen) := by show _ ≤ maxLen; simp only [maxLen]; omega
  have N2 : Hid ((g.recs.length + 1) * 16 ≤ 140737488355328) := by show _ ≤ 140737488355328; omega
  have N3 : Hid ((g.recs.length + 1) * 8 ≤ 140737488355328) := by show _ ≤ 140737488355328; omega
  have O1 : Hid (∀ u ∈ [Value.string s], u.oneCell' = true) := fun u hu => by simp at hu; subst hu; rfl
  have O2 : Hid (∀ u ∈ [Value.int .u64 (g.end_ : Int)], u.oneCell' = true) := fun u hu => by simp at hu; subst hu; rfl
  have HK0 : Hid (KS lb (.slice la g.recs.length lc) (.slice aa g.recs.length ac) w) := ⟨c1, c2, f1, f2, hlb⟩
  have SNE := Lib.hid sne
  have ANE := Lib.hid ane
  have SAN := Lib.hid san
  have ASN := Lib.hid asn
  have H := Lib.hid h
  clear h fr sne ane san asn hlen
  go_enter Tryz.func155, Tryz.ntmps155
  go_wp2_with (fail)
  refine wp_region_late (S := KS lb (.slice la g.recs.length lc) (.slice aa g.recs.length ac)) (late := [18, 21]) (by kernel_rfl) HK0.out.drew (fun hHeld => ?_)
  refine wpAnyL_move (i := 0) (v := ?_) (by rfl) (by kernel_rfl) (by kernel_rfl) (by kernel_rfl) (by rfl) (by exact fun _ _ _ h => h) (Or.inl ⟨by rfl, ?_⟩) (by assumption) ?_; rotate_left; · (intro w0; go_simp; try with_reducible rfl)
  try simp only [Act.put, List.setIfInBounds_toArray, List.set_cons_zero, List.set_cons_succ]
  refine wpAnyL_move (i := 1) (v := ?_) (by rfl) (by kernel_rfl) (by kernel_rfl) (by kernel_rfl) (by rfl) (by exact fun _ _ _ h => h) (Or.inl ⟨by rfl, ?_⟩) (by assumption) ?_; rotate_left; · (intro w0; go_simp; try with_reducible rfl)
  try simp only [Act.put, List.setIfInBounds_toArray, List.set_cons_zero, List.set_cons_succ]
  refine wpAnyL_move (i := 2) (v := ?_) (by rfl) (by kernel_rfl) (by kernel_rfl) (by kernel_rfl) (by rfl) (by exact fun _ _ _ h => h) (Or.inl ⟨by rfl, ?_⟩) (by assumption) ?_; rotate_left; · (intro w0; go_simp; try with_reducible rfl)
  try simp only [Act.put, List.setIfInBounds_toArray, List.set_cons_zero, List.set_cons_succ]
  refine wpAnyL_move (i := 3) (v := ?_) (by rfl) (by kernel_rfl) (by kernel_rfl) (by kernel_rfl) (by rfl) (by exact fun _ _ _ h => h) (Or.inl ⟨by rfl, ?_⟩) (by assumption) ?_; rotate_left; · (intro w0; go_simp; try with_reducible rfl)
  try simp only [Act.put, List.setIfInBounds_toArray, List.set_cons_zero, List.set_cons_succ]
  refine wpAnyL_move (i := 4) (v := ?_) (by rfl) (by kernel_rfl) (by kernel_rfl) (by kernel_rfl) (by rfl) (by exact fun _ _ _ h => h) (Or.inl ⟨by rfl, ?_⟩) (by assumption) ?_; rotate_left; · (intro w0; go_simp; try with_reducible rfl)
  try simp only [Act.put, List.setIfInBounds_toArray, List.set_cons_zero, List.set_cons_succ]
  refine wpAnyL_load (i := 5) (v := ?_) (by rfl) (by kernel_rfl) (by kernel_rfl) (by kernel_rfl) (by rfl) (by kernel_rfl) (by exact fun _ _ _ h => h) (Or.inl ⟨by rfl, ?_⟩) (by assumption) ?_; rotate_left; · (intro w0 hS0; obtain ⟨hS1, hS2, hS3, hS4, hS5⟩ := hS0; go_simp; try with_reducible rfl)
  try simp only [Act.put, List.setIfInBounds_toArray, List.set_cons_zero, List.set_cons_succ]
  refine wpAnyL_move (i := 6) (v := ?_) (by rfl) (by kernel_rfl) (by kernel_rfl) (by kernel_rfl) (by rfl) (by exact fun _ _ _ h => h) (Or.inl ⟨by rfl, ?_⟩) (by assumption) ?_; rotate_left; · (intro w0; go_simp; try with_reducible rfl)
  try simp only [Act.put, List.setIfInBounds_toArray, List.set_cons_zero, List.set_cons_succ]
  refine wpAnyL_move (i := 9) (v := ?_) (by rfl) (by kernel_rfl) (by kernel_rfl) (by kernel_rfl) (by rfl) (by exact fun _ _ _ h => h) (Or.inl ⟨by rfl, ?_⟩) (by assumption) ?_; rotate_left; · (intro w0; go_simp; try with_reducible rfl)
  try simp only [Act.put, List.setIfInBounds_toArray, List.set_cons_zero, List.set_cons_succ]
  refine wpAnyL_move (i := 10) (v := ?_) (by rfl) (by kernel_rfl) (by kernel_rfl) (by kernel_rfl) (by rfl) (by exact fun _ _ _ h => h) (Or.inl ⟨by rfl, ?_⟩) (by assumption) ?_; rotate_left; · (intro w0; go_simp; try with_reducible rfl)
  try simp only [Act.put, List.setIfInBounds_toArray, List.set_cons_zero, List.set_cons_succ]
  refine wpAnyL_move (i := 11) (v := ?_) (by rfl) (by kernel_rfl) (by kernel_rfl) (by kernel_rfl) (by rfl) (by exact fun _ _ _ h => h) (Or.inl ⟨by rfl, ?_⟩) (by assumption) ?_; rotate_left; · (intro w0; go_simp; try with_reducible rfl)
  try simp only [Act.put, List.setIfInBounds_toArray, List.set_cons_zero, List.set_cons_succ]
  refine wpAnyL_load (i := 12) (v := ?_) (by rfl) (by kernel_rfl) (by kernel_rfl) (by kernel_rfl) (by rfl) (by kernel_rfl) (by exact fun _ _ _ h => h) (Or.inl ⟨by rfl, ?_⟩) (by assumption) ?_; rotate_left; · (intro w0 hS0; obtain ⟨hS1, hS2, hS3, hS4, hS5⟩ := hS0; go_simp; try with_reducible rfl)
  try simp only [Act.put, List.setIfInBounds_toArray, List.set_cons_zero, List.set_cons_succ]
  refine wpAnyL_move (i := 13) (v := ?_) (by rfl) (by kernel_rfl) (by kernel_rfl) (by kernel_rfl) (by rfl) (by exact fun _ _ _ h => h) (Or.inl ⟨by rfl, ?_⟩) (by assumption) ?_; rotate_left; · (intro w0; go_simp; try with_reducible rfl)
  try simp only [Act.put, List.setIfInBounds_toArray, List.set_cons_zero, List.set_cons_succ]
  refine wpAnyL_each (rs := [7, 14]) (by kernel_rfl) (by simp) ?_
  refine EachL.cons (by rfl) (by rfl) (fun K hK => ?_) ?_
  · go_simp
    refine hK.out _ _ (hHeld.alloc _) (fun hHeld => ?_)
    clear hK K
    try simp only [Act.put, List.setIfInBounds_toArray, List.set_cons_zero, List.set_cons_succ]
    refine wpAnyL_each (rs := [8, 14]) (by kernel_rfl) (by simp) ?_
    refine EachL.cons (by rfl) (by rfl) (fun K hK => ?_) ?_
    · refine step_append_lies _ (by rfl) _ _ _ (by rfl) 0 9 is _ 1 16 Tryz.underlying82 his hsz0 hsz1 hsz2 rfl (by omega) (.slice la g.recs.length lc) g.recs.length (g.recs.map Value.string) (by rfl) (own_far (X := (Value.slice aa g.recs.length ac).ownBlock) H.out.recs ((Far.refl _ _).drew.alloc _) SAN.out) _ 1 1 [Value.string s] (by rfl) (by rfl) (World.news_of_block (cs := #[Value.string s]) (t := 9) (fr := (0, 0)) (show Got _ _ _ from (Got.new _ _ (by simp)))) O1.out (by omega) N1.out N2.out (Nat.zero_le _) _ rfl ?_; intro pxg pxc pxw px_own px_grow px_at px_lt
      refine hK.out _ _ (hHeld.grown px_grow (fun e => (SNE.out _ e.symm).2 rfl)) (fun hHeld => ?_)
      clear hK K
      try simp only [Act.put, List.setIfInBounds_toArray, List.set_cons_zero, List.set_cons_succ]
      refine wpAnyL_each (rs := [14]) (by kernel_rfl) (by simp) ?_
      refine EachL.cons (by rfl) (by rfl) (fun K hK => ?_) ?_
      · go_simp
        refine hK.out _ _ (hHeld.alloc _) (fun hHeld => ?_)
        clear hK K
        try simp only [Act.put, List.setIfInBounds_toArray, List.set_cons_zero, List.set_cons_succ]
        refine wpAnyL_each (rs := [15]) (by kernel_rfl) (by simp) ?_
        refine EachL.cons (by rfl) (by rfl) (fun K hK => ?_) ?_
        · refine step_append_lies _ (by rfl) _ _ _ (by rfl) 0 31 ia _ 1 8 Tryz.underlying140 hia haz0 haz1 haz2 rfl (by omega) (.slice aa g.recs.length ac) g.recs.length ((places 1 g.recs).map lsn) (by rfl) (own_far (X := (Value.slice la g.recs.length lc).ownBlock) H.out.ats ((((Far.refl _ _).drew.alloc _).grown px_grow).alloc _) ASN.out) _ 1 1 [Value.int .u64 (g.end_ : Int)] (by rfl) (by rfl) (World.news_of_block (cs := #[Value.int .u64 (g.end_ : Int)]) (t := 31) (fr := (0, 0)) (show Got _ _ _ from (Got.new _ _ (by simp)))) O2.out (by omega) N1.out N3.out (Nat.zero_le _) _ rfl ?_; intro qxg qxc qxw qx_own qx_grow qx_at qx_lt
          refine hK.out _ _ (hHeld.grown qx_grow (fun e => (ANE.out _ e.symm).2 rfl)) (fun hHeld => ?_)
          clear hK K
          try simp only [Act.put, List.setIfInBounds_toArray, List.set_cons_zero, List.set_cons_succ]
          refine wpAnyL_move (i := 16) (v := ?_) (by rfl) (by kernel_rfl) (by kernel_rfl) (by kernel_rfl) (by rfl) (by exact fun _ _ _ h => h) (Or.inl ⟨by rfl, ?_⟩) (by assumption) ?_; rotate_left; · (intro w0; go_simp; try with_reducible rfl)
          try simp only [Act.put, List.setIfInBounds_toArray, List.set_cons_zero, List.set_cons_succ]
          refine wpAnyL_move (i := 17) (v := ?_) (by rfl) (by kernel_rfl) (by kernel_rfl) (by kernel_rfl) (by rfl) (by exact fun _ _ _ h => h) (Or.inl ⟨by rfl, ?_⟩) (by assumption) ?_; rotate_left; · (intro w0; go_simp; try with_reducible rfl)
          try simp only [Act.put, List.setIfInBounds_toArray, List.set_cons_zero, List.set_cons_succ]
          obtain ⟨k1, k2, k3, k4, k5⟩ := hHeld
          refine wpAnyL_late (i := 18) (by kernel_rfl) (by rfl) (by rfl) (fun K hK => ?_)
          go_simp
          refine hK.out _ _ ?_
          clear hK K
          try simp only [Act.put, List.setIfInBounds_toArray, List.set_cons_zero, List.set_cons_succ]
          refine wpAny_move (i := 19) (v := ?_) (by rfl) (by kernel_rfl) (by kernel_rfl) (by kernel_rfl) (by exact fun _ _ _ h => h) (Or.inl ⟨by rfl, ?_⟩) ?_; rotate_left; · (intro w0; go_simp; try with_reducible rfl)
          try simp only [Act.put, List.setIfInBounds_toArray, List.set_cons_zero, List.set_cons_succ]
          refine wpAny_move (i := 20) (v := ?_) (by rfl) (by kernel_rfl) (by kernel_rfl) (by kernel_rfl) (by exact fun _ _ _ h => h) (Or.inl ⟨by rfl, ?_⟩) ?_; rotate_left; · (intro w0; go_simp; try with_reducible rfl)
          try simp only [Act.put, List.setIfInBounds_toArray, List.set_cons_zero, List.set_cons_succ]
          refine wpAny_step (i := 21) (by kernel_rfl) (by rfl) (fun K hK => ?_)
          go_simp
          refine hK.out _ _ ?_
          clear hK K
          try simp only [Act.put, List.setIfInBounds_toArray, List.set_cons_zero, List.set_cons_succ]
          refine wpAny_done (by kernel_rfl) ?_ _
          obtain ⟨P, hP, m1, m2, m3⟩ := put_mid H.out rfl hs he (show Far none w _ from ((Far.refl none w).drew.alloc _)) px_own px_grow px_at px_lt (show Far none pxw _ from ((Far.refl none pxw).alloc _)) qx_own qx_grow qx_at qx_lt ((((((Step.refl G w).drewN 1).alloc _).grown px_grow (fun k hk => .inl (H.out.gl k hk))).alloc _).grown qx_grow (fun k hk => .inl (H.out.ga k hk)))
          rw [← hP]
          clear hP k1 k2 k3 k4 k5 px_own qx_own px_grow qx_grow px_at qx_at px_lt qx_lt
          rw [show ((g.end_ + (s.size + 12) : Nat) : Int) = (g.end_ : Int) + ((s.size : Int) + 12) by omega] at m3
          have M3 := Lib.hid m3
          clear m3
          go_wp2
          go_ret
          exact ⟨rfl, M3.out⟩
        exact EachL.nil
      exact EachL.nil
    refine EachL.cons (by rfl) (by rfl) (fun K hK => ?_) ?_
    · go_simp
      refine hK.out _ _ (hHeld.alloc _) (fun hHeld => ?_)
      clear hK K
      try simp only [Act.put, List.setIfInBounds_toArray, List.set_cons_zero, List.set_cons_succ]
      refine wpAnyL_each (rs := [8]) (by kernel_rfl) (by simp) ?_
      refine EachL.cons (by rfl) (by rfl) (fun K hK => ?_) ?_
      · refine step_append_lies _ (by rfl) _ _ _ (by rfl) 0 9 is _ 1 16 Tryz.underlying82 his hsz0 hsz1 hsz2 rfl (by omega) (.slice la g.recs.length lc) g.recs.length (g.recs.map Value.string) (by rfl) (own_far (X := (Value.slice aa g.recs.length ac).ownBlock) H.out.recs (((Far.refl _ _).drew.alloc _).alloc _) SAN.out) _ 1 1 [Value.string s] (by rfl) (by rfl) (World.news_of_block (cs := #[Value.string s]) (t := 9) (fr := (0, 0)) (show Got _ _ _ from ((Got.new _ _ (by simp)).alloc _))) O1.out (by omega) N1.out N2.out (Nat.zero_le _) _ rfl ?_; intro pxg pxc pxw px_own px_grow px_at px_lt
        refine hK.out _ _ (hHeld.grown px_grow (fun e => (SNE.out _ e.symm).2 rfl)) (fun hHeld => ?_)
        clear hK K
        try simp only [Act.put, List.setIfInBounds_toArray, List.set_cons_zero, List.set_cons_succ]
        refine wpAnyL_each (rs := [15]) (by kernel_rfl) (by simp) ?_
        refine EachL.cons (by rfl) (by rfl) (fun K hK => ?_) ?_
        · refine step_append_lies _ (by rfl) _ _ _ (by rfl) 0 31 ia _ 1 8 Tryz.underlying140 hia haz0 haz1 haz2 rfl (by omega) (.slice aa g.recs.length ac) g.recs.length ((places 1 g.recs).map lsn) (by rfl) (own_far (X := (Value.slice la g.recs.length lc).ownBlock) H.out.ats ((((Far.refl _ _).drew.alloc _).alloc _).grown px_grow) ASN.out) _ 1 1 [Value.int .u64 (g.end_ : Int)] (by rfl) (by rfl) (World.news_of_block (cs := #[Value.int .u64 (g.end_ : Int)]) (t := 31) (fr := (0, 0)) (show Got _ _ _ from ((Got.new _ _ (by simp)).drew.grown px_grow (fun e => by have := (SNE.out _ e.symm).1; first | omega | (simp at this; done) | (simp at this; omega))))) O2.out (by omega) N1.out N3.out (Nat.zero_le _) _ rfl ?_; intro qxg qxc qxw qx_own qx_grow qx_at qx_lt
          refine hK.out _ _ (hHeld.grown qx_grow (fun e => (ANE.out _ e.symm).2 rfl)) (fun hHeld => ?_)
          clear hK K
          try simp only [Act.put, List.setIfInBounds_toArray, List.set_cons_zero, List.set_cons_succ]
          refine wpAnyL_move (i := 16) (v := ?_) (by rfl) (by kernel_rfl) (by kernel_rfl) (by kernel_rfl) (by rfl) (by exact fun _ _ _ h => h) (Or.inl ⟨by rfl, ?_⟩) (by assumption) ?_; rotate_left; · (intro w0; go_simp; try with_reducible rfl)
          try simp only [Act.put, List.setIfInBounds_toArray, List.set_cons_zero, List.set_cons_succ]
          refine wpAnyL_move (i := 17) (v := ?_) (by rfl) (by kernel_rfl) (by kernel_rfl) (by kernel_rfl) (by rfl) (by exact fun _ _ _ h => h) (Or.inl ⟨by rfl, ?_⟩) (by assumption) ?_; rotate_left; · (intro w0; go_simp; try with_reducible rfl)
          try simp only [Act.put, List.setIfInBounds_toArray, List.set_cons_zero, List.set_cons_succ]
          obtain ⟨k1, k2, k3, k4, k5⟩ := hHeld
          refine wpAnyL_late (i := 18) (by kernel_rfl) (by rfl) (by rfl) (fun K hK => ?_)
          go_simp
          refine hK.out _ _ ?_
          clear hK K
          try simp only [Act.put, List.setIfInBounds_toArray, List.set_cons_zero, List.set_cons_succ]
          refine wpAny_move (i := 19) (v := ?_) (by rfl) (by kernel_rfl) (by kernel_rfl) (by kernel_rfl) (by exact fun _ _ _ h => h) (Or.inl ⟨by rfl, ?_⟩) ?_; rotate_left; · (intro w0; go_simp; try with_reducible rfl)
          try simp only [Act.put, List.setIfInBounds_toArray, List.set_cons_zero, List.set_cons_succ]
          refine wpAny_move (i := 20) (v := ?_) (by rfl) (by kernel_rfl) (by kernel_rfl) (by kernel_rfl) (by exact fun _ _ _ h => h) (Or.inl ⟨by rfl, ?_⟩) ?_; rotate_left; · (intro w0; go_simp; try with_reducible rfl)
          try simp only [Act.put, List.setIfInBounds_toArray, List.set_cons_zero, List.set_cons_succ]
          refine wpAny_step (i := 21) (by kernel_rfl) (by rfl) (fun K hK => ?_)
          go_simp
          refine hK.out _ _ ?_
          clear hK K
          try simp only [Act.put, List.setIfInBounds_toArray, List.set_cons_zero, List.set_cons_succ]
          refine wpAny_done (by kernel_rfl) ?_ _
          obtain ⟨P, hP, m1, m2, m3⟩ := put_mid H.out rfl hs he (show Far none w _ from (((Far.refl none w).drew.alloc _).alloc _)) px_own px_grow px_at px_lt (show Far none pxw _ from (Far.refl none pxw)) qx_own qx_grow qx_at qx_lt ((((((Step.refl G w).drewN 1).alloc _).alloc _).grown px_grow (fun k hk => .inl (H.out.gl k hk))).grown qx_grow (fun k hk => .inl (H.out.ga k hk)))
          rw [← hP]
          clear hP k1 k2 k3 k4 k5 px_own qx_own px_grow qx_grow px_at qx_at px_lt qx_lt
          rw [show ((g.end_ + (s.size + 12) : Nat) : Int) = (g.end_ : Int) + ((s.size : Int) + 12) by omega] at m3
          have M3 := Lib.hid m3
          clear m3
          go_wp2
          go_ret
          exact ⟨rfl, M3.out⟩
        exact EachL.nil
      exact EachL.nil
    exact EachL.nil
  refine EachL.cons (by rfl) (by rfl) (fun K hK => ?_) ?_
  · go_simp
    refine hK.out _ _ (hHeld.alloc _) (fun hHeld => ?_)
    clear hK K
    try simp only [Act.put, List.setIfInBounds_toArray, List.set_cons_zero, List.set_cons_succ]
    refine wpAnyL_each (rs := [7]) (by kernel_rfl) (by simp) ?_
    refine EachL.cons (by rfl) (by rfl) (fun K hK => ?_) ?_
    · go_simp
      refine hK.out _ _ (hHeld.alloc _) (fun hHeld => ?_)
      clear hK K
      try simp only [Act.put, List.setIfInBounds_toArray, List.set_cons_zero, List.set_cons_succ]
      refine wpAnyL_each (rs := [8]) (by kernel_rfl) (by simp) ?_
      refine EachL.cons (by rfl) (by rfl) (fun K hK => ?_) ?_
      · refine step_append_lies _ (by rfl) _ _ _ (by rfl) 0 9 is _ 1 16 Tryz.underlying82 his hsz0 hsz1 hsz2 rfl (by omega) (.slice la g.recs.length lc) g.recs.length (g.recs.map Value.string) (by rfl) (own_far (X := (Value.slice aa g.recs.length ac).ownBlock) H.out.recs (((Far.refl _ _).drew.alloc _).alloc _) SAN.out) _ 1 1 [Value.string s] (by rfl) (by rfl) (World.news_of_block (cs := #[Value.string s]) (t := 9) (fr := (0, 0)) (show Got _ _ _ from (Got.new _ _ (by simp)))) O1.out (by omega) N1.out N2.out (Nat.zero_le _) _ rfl ?_; intro pxg pxc pxw px_own px_grow px_at px_lt
        refine hK.out _ _ (hHeld.grown px_grow (fun e => (SNE.out _ e.symm).2 rfl)) (fun hHeld => ?_)
        clear hK K
        try simp only [Act.put, List.setIfInBounds_toArray, List.set_cons_zero, List.set_cons_succ]
        refine wpAnyL_each (rs := [15]) (by kernel_rfl) (by simp) ?_
        refine EachL.cons (by rfl) (by rfl) (fun K hK => ?_) ?_
        · refine step_append_lies _ (by rfl) _ _ _ (by rfl) 0 31 ia _ 1 8 Tryz.underlying140 hia haz0 haz1 haz2 rfl (by omega) (.slice aa g.recs.length ac) g.recs.length ((places 1 g.recs).map lsn) (by rfl) (own_far (X := (Value.slice la g.recs.length lc).ownBlock) H.out.ats ((((Far.refl _ _).drew.alloc _).alloc _).grown px_grow) ASN.out) _ 1 1 [Value.int .u64 (g.end_ : Int)] (by rfl) (by rfl) (World.news_of_block (cs := #[Value.int .u64 (g.end_ : Int)]) (t := 31) (fr := (0, 0)) (show Got _ _ _ from (((Got.new _ _ (by simp)).alloc _).drew.grown px_grow (fun e => by have := (SNE.out _ e.symm).1; first | omega | (simp at this; done) | (simp at this; omega))))) O2.out (by omega) N1.out N3.out (Nat.zero_le _) _ rfl ?_; intro qxg qxc qxw qx_own qx_grow qx_at qx_lt
          refine hK.out _ _ (hHeld.grown qx_grow (fun e => (ANE.out _ e.symm).2 rfl)) (fun hHeld => ?_)
          clear hK K
          try simp only [Act.put, List.setIfInBounds_toArray, List.set_cons_zero, List.set_cons_succ]
          refine wpAnyL_move (i := 16) (v := ?_) (by rfl) (by kernel_rfl) (by kernel_rfl) (by kernel_rfl) (by rfl) (by exact fun _ _ _ h => h) (Or.inl ⟨by rfl, ?_⟩) (by assumption) ?_; rotate_left; · (intro w0; go_simp; try with_reducible rfl)
          try simp only [Act.put, List.setIfInBounds_toArray, List.set_cons_zero, List.set_cons_succ]
          refine wpAnyL_move (i := 17) (v := ?_) (by rfl) (by kernel_rfl) (by kernel_rfl) (by kernel_rfl) (by rfl) (by exact fun _ _ _ h => h) (Or.inl ⟨by rfl, ?_⟩) (by assumption) ?_; rotate_left; · (intro w0; go_simp; try with_reducible rfl)
          try simp only [Act.put, List.setIfInBounds_toArray, List.set_cons_zero, List.set_cons_succ]
          obtain ⟨k1, k2, k3, k4, k5⟩ := hHeld
          refine wpAnyL_late (i := 18) (by kernel_rfl) (by rfl) (by rfl) (fun K hK => ?_)
          go_simp
          refine hK.out _ _ ?_
          clear hK K
          try simp only [Act.put, List.setIfInBounds_toArray, List.set_cons_zero, List.set_cons_succ]
          refine wpAny_move (i := 19) (v := ?_) (by rfl) (by kernel_rfl) (by kernel_rfl) (by kernel_rfl) (by exact fun _ _ _ h => h) (Or.inl ⟨by rfl, ?_⟩) ?_; rotate_left; · (intro w0; go_simp; try with_reducible rfl)
          try simp only [Act.put, List.setIfInBounds_toArray, List.set_cons_zero, List.set_cons_succ]
          refine wpAny_move (i := 20) (v := ?_) (by rfl) (by kernel_rfl) (by kernel_rfl) (by kernel_rfl) (by exact fun _ _ _ h => h) (Or.inl ⟨by rfl, ?_⟩) ?_; rotate_left; · (intro w0; go_simp; try with_reducible rfl)
          try simp only [Act.put, List.setIfInBounds_toArray, List.set_cons_zero, List.set_cons_succ]
          refine wpAny_step (i := 21) (by kernel_rfl) (by rfl) (fun K hK => ?_)
          go_simp
          refine hK.out _ _ ?_
          clear hK K
          try simp only [Act.put, List.setIfInBounds_toArray, List.set_cons_zero, List.set_cons_succ]
          refine wpAny_done (by kernel_rfl) ?_ _
          obtain ⟨P, hP, m1, m2, m3⟩ := put_mid H.out rfl hs he (show Far none w _ from (((Far.refl none w).drew.alloc _).alloc _)) px_own px_grow px_at px_lt (show Far none pxw _ from (Far.refl none pxw)) qx_own qx_grow qx_at qx_lt ((((((Step.refl G w).drewN 1).alloc _).alloc _).grown px_grow (fun k hk => .inl (H.out.gl k hk))).grown qx_grow (fun k hk => .inl (H.out.ga k hk)))
          rw [← hP]
          clear hP k1 k2 k3 k4 k5 px_own qx_own px_grow qx_grow px_at qx_at px_lt qx_lt
          rw [show ((g.end_ + (s.size + 12) : Nat) : Int) = (g.end_ : Int) + ((s.size : Int) + 12) by omega] at m3
          have M3 := Lib.hid m3
          clear m3
          go_wp2
          go_ret
          exact ⟨rfl, M3.out⟩
        exact EachL.nil
      exact EachL.nil
    exact EachL.nil
  exact EachL.nil
end Go.Proofs.YtpnndlahfllbhaaGreat

/-! The walk of 'find': the place of a record among all. -/
namespace Go.Proofs.YtpnndlahfllbhaaGreat
open Go.RowKit
attribute [local go_sem ↓] Go.wp_at_zero Go.wp_at_succ

set_option maxHeartbeats 1000000 in
theorem nanc_c (x : Int) (w : World) : Calls Tryz.prog 257 #[.int .u64 x] w fun e w' => e = .returned (.bool false) ∧ w' = w := by
  go_enter Tryz.func257, Tryz.ntmps257
  go_wp2
  go_ret
  exact ⟨by simp, rfl⟩
set_option maxHeartbeats 1000000 in
theorem nans_c (x : Int) (w : World) : Calls Tryz.prog 225 #[.int .u64 x] w fun e w' => e = .returned (.bool false) ∧ w' = w := by
  go_enter Tryz.func225, Tryz.ntmps225
  go_wp2
  go_ret
  exact ⟨by simp, rfl⟩
set_option maxHeartbeats 1000000 in
theorem less_c (x y : Int) (w : World) : Calls Tryz.prog 224 #[.int .u64 x, .int .u64 y] w fun e w' => e = .returned (.bool (decide (x < y))) ∧ w' = w := by
  go_enter Tryz.func224, Tryz.ntmps224
  go_wp2_with (go_at_call 257; refine (nanc_c _ _).mono ?_; rintro e w' ⟨rfl, rfl⟩)
  go_ret
  exact ⟨rfl, rfl⟩

set_option maxHeartbeats 4000000 in
set_option maxRecDepth 1000000 in
theorem bin_c (a : Option Addr) (b n c : Nat) (ha : 0 < n → a = some ⟨b, 0, none⟩) (zs : List Int) (x : Int) (w : World) (hz : n = zs.length) (hbig : n < 1000000000) (hc : ∀ j, j < zs.length → w.cell? ⟨b, j, none⟩ = some (.int .u64 (zs.getD j 0))) (hs : zs.Pairwise (· ≤ ·)) (_hcn : n ≤ c) (_hc1 : c ≤ maxLen) :
    Calls Tryz.prog 179 #[.slice a n c, .int .u64 x] w fun e w' => e = .returned (.tuple #[.int .i64 ((zs.countP (· < x) : Nat) : Int), .bool (zs.contains x)]) ∧ ∃ q, w' = w.drewN q := by
  have S : Hid (∀ a b, a ≤ b → b < n → zs.getD a 0 ≤ zs.getD b 0) := Lib.sorted_at zs n (Nat.le_of_eq hz) (by rw [hz, List.take_length]; exact hs)
  have hz1 := Nat.le_of_eq hz
  have hz2 := Nat.le_of_eq hz.symm
  have HZ := Lib.hid hz
  clear hs hz
  have HA := Lib.hid ha
  generalize hb1 : zs.countP (· < x) = kk
  generalize hb2 : zs.contains x = bb
  have HK := Lib.hid hb1
  have HB := Lib.hid hb2
  clear ha hb1 hb2
  go_enter Tryz.func179, Tryz.ntmps179
  go_wp2
  go_loopg [7, 8] n (fun g s7 s8 wr => ∃ lo hi q : Nat, s7 = .int .i64 lo ∧ s8 = .int .i64 hi ∧ lo ≤ hi ∧ hi ≤ n ∧ hi - lo ≤ g ∧ wr = w.drewN q ∧ (∀ t, t < lo → zs.getD t 0 < x) ∧ (∀ t, hi ≤ t → t < n → x ≤ zs.getD t 0))
  case atStart => exact ⟨0, n, 0, rfl, rfl, Nat.zero_le _, Nat.le_refl _, by omega, rfl, fun t ht => absurd ht (Nat.not_lt_zero _), fun t h1 h2 => by omega⟩
  case round =>
    obtain ⟨lo, hi, q, rfl, rfl, hlh, hin, hg, rfl, h1, h2⟩ := hrel
    have I : Hid ((∀ t, t < lo → zs.getD t 0 < x) ∧ (∀ t, hi ≤ t → t < n → x ≤ zs.getD t 0)) := ⟨h1, h2⟩
    clear h1 h2
    by_cases hlt : lo < hi
    · obtain rfl := HA.out (by omega)
      have cm : w.cell? ⟨b, (lo + hi) / 2, none⟩ = some (.int .u64 (zs.getD ((lo + hi) / 2) 0)) := hc _ (by omega)
      clear hc
      generalize hy : zs.getD ((lo + hi) / 2) 0 = y at cm
      have Y : Hid (zs.getD ((lo + hi) / 2) 0 = y) := hy
      clear hy
      by_cases hyx : y < x
      · go_wp2_with (first | (go_at_call 224; refine (less_c _ _ _).mono ?_; rintro e w' ⟨rfl, rfl⟩) | (go_at_call 225; refine (nans_c _ _).mono ?_; rintro e w' ⟨rfl, rfl⟩))
        go_roundg (hi - ((lo + hi) / 2 + 1))
        case measure => omega
        case rel =>
          refine ⟨(lo + hi) / 2 + 1, hi, _, by rw [show ((lo : Int) + (hi : Int)) / 2 + 1 = (((lo + hi) / 2 + 1 : Nat) : Int) by omega], rfl, by omega, hin, Nat.le_refl _, rfl, fun t ht => ?_, I.out.2⟩
          have := S.out t ((lo + hi) / 2) (by omega) (by omega)
          rw [Y.out] at this
          omega
      · go_wp2_with (first | (go_at_call 224; refine (less_c _ _ _).mono ?_; rintro e w' ⟨rfl, rfl⟩) | (go_at_call 225; refine (nans_c _ _).mono ?_; rintro e w' ⟨rfl, rfl⟩))
        go_roundg ((lo + hi) / 2 - lo)
        case measure => omega
        case rel =>
          refine ⟨lo, (lo + hi) / 2, _, rfl, by rw [show ((lo : Int) + (hi : Int)) / 2 = (((lo + hi) / 2 : Nat) : Int) by omega], by omega, by omega, Nat.le_refl _, rfl, I.out.1, fun t ht htn => ?_⟩
          have := S.out ((lo + hi) / 2) t ht htn
          rw [Y.out] at this
          omega
    · have : hi = lo := by omega
      subst this
      have ht : zs.take n = zs := by rw [HZ.out, List.take_length]
      obtain ⟨e1, e2⟩ := Lib.search_end zs n hi x hz1 hin I.out.1 I.out.2 S.out
      rw [ht] at e1 e2
      have E : Hid (zs.countP (· < x) = hi ∧ zs.contains x = decide (hi < n ∧ zs.getD hi 0 = x)) := ⟨e1, e2⟩
      clear e1 e2 ht
      by_cases hn : hi < n
      · obtain rfl := HA.out (by omega)
        have cl : w.cell? ⟨b, hi, none⟩ = some (.int .u64 (zs.getD hi 0)) := hc _ (by omega)
        clear hc
        generalize hy : zs.getD hi 0 = y at cl
        have Y : Hid (zs.getD hi 0 = y) := hy
        clear hy
        by_cases hyx : y = x
        · go_wp2_with (first | (go_at_call 224; refine (less_c _ _ _).mono ?_; rintro e w' ⟨rfl, rfl⟩) | (go_at_call 225; refine (nans_c _ _).mono ?_; rintro e w' ⟨rfl, rfl⟩))
          go_ret2
          refine ⟨?_, _, rfl⟩
          rw [← HK.out, ← HB.out, E.out.1, E.out.2, Y.out, decide_eq_true (show hi < n ∧ y = x from ⟨hn, hyx⟩)]
          first | rfl | simp [*]
        · go_wp2_with (first | (go_at_call 224; refine (less_c _ _ _).mono ?_; rintro e w' ⟨rfl, rfl⟩) | (go_at_call 225; refine (nans_c _ _).mono ?_; rintro e w' ⟨rfl, rfl⟩))
          go_ret2
          refine ⟨?_, _, rfl⟩
          rw [← HK.out, ← HB.out, E.out.1, E.out.2, Y.out, decide_eq_false (show ¬ (hi < n ∧ y = x) from fun h => hyx h.2)]
          first | rfl | simp [*]
      · clear hc
        go_wp2_with (first | (go_at_call 224; refine (less_c _ _ _).mono ?_; rintro e w' ⟨rfl, rfl⟩) | (go_at_call 225; refine (nans_c _ _).mono ?_; rintro e w' ⟨rfl, rfl⟩))
        go_ret2
        refine ⟨?_, _, rfl⟩
        rw [← HK.out, ← HB.out, E.out.1, E.out.2, decide_eq_false (show ¬ (hi < n ∧ zs.getD hi 0 = x) from fun h => hn h.1)]
        first | rfl | simp [*]
end Go.Proofs.YtpnndlahfllbhaaGreat

/-! The walks of the log's small functions. -/
namespace Go.Proofs.YtpnndlahfllbhaaGreat
open Go.RowKit
attribute [local go_sem ↓] Go.wp_at_zero Go.wp_at_succ

def Lg.ats (g : Lg) : List Int := (places 1 g.recs).map fun (p : Nat) => (p : Int)
def Lg.idx (g : Lg) (x : Int) : Nat := g.ats.countP (· < x)
def Lg.has (g : Lg) (x : Int) : Bool := g.ats.contains x

theorem places_le : ∀ (l : List ByteArray) (p : Nat), ∀ q ∈ places p l, p ≤ q
  | [], _ => by simp [places]
  | s :: l, p => fun q hq => by
    rcases List.mem_cons.1 hq with rfl | hq
    · exact Nat.le_refl _
    · have := places_le l _ q hq
      omega
theorem places_sorted : ∀ (l : List ByteArray) (p : Nat), (places p l).Pairwise (· < ·)
  | [], _ => List.Pairwise.nil
  | s :: l, p => List.Pairwise.cons (fun q hq => by have := places_le l _ q hq; omega) (places_sorted l _)
theorem Lg.ats_length (g : Lg) : g.ats.length = g.recs.length := by simp [Lg.ats, places_length]
theorem Lg.ats_sorted (g : Lg) : g.ats.Pairwise (· ≤ ·) := by
  unfold Lg.ats
  rw [List.pairwise_map]
  exact (places_sorted g.recs 1).imp (by intro a b h; omega)

section
variable {w w' : World} {G : Nat → Prop} {lb db : Nat} {lv av : Value} {g : Lg}
/-- a record's cell -/
theorem WalIn.recCell (h : WalIn w G lb db lv av g) {i : Nat} {s : ByteArray} (hi : g.recs[i]? = some s) :
    ∃ b cap, lv = .slice (some ⟨b, 0, none⟩) g.recs.length cap ∧ g.recs.length ≤ cap ∧ cap ≤ maxLen ∧ i < g.recs.length ∧ w.cell? ⟨b, i, none⟩ = some (.string s) := by
  have hk : i < g.recs.length := (List.getElem?_eq_some_iff.1 hi).1
  rcases h.recs.2 with ⟨_, h0⟩ | ⟨b, cap, cur, e, _, hh, h1, h2, _⟩
  · omega
  · have := h.recs.cells (g := b) (by rw [e]; rfl) i (.string s) (by rw [List.getElem?_map, hi]; rfl)
    rw [addr_add] at this
    exact ⟨b, cap, e, h1, h2, hk, this⟩
/-- a record's place's cell -/
theorem WalIn.atCell (h : WalIn w G lb db lv av g) {i : Nat} {p : Nat} (hi : (places 1 g.recs)[i]? = some p) :
    ∃ b cap, av = .slice (some ⟨b, 0, none⟩) g.recs.length cap ∧ g.recs.length ≤ cap ∧ cap ≤ maxLen ∧ i < g.recs.length ∧ w.cell? ⟨b, i, none⟩ = some (.int .u64 (p : Int)) := by
  have hk : i < (places 1 g.recs).length := (List.getElem?_eq_some_iff.1 hi).1
  rw [places_length] at hk
  rcases h.ats.2 with ⟨_, h0⟩ | ⟨b, cap, cur, e, _, hh, h1, h2, _⟩
  · omega
  · have := h.ats.cells (g := b) (by rw [e]; rfl) i (lsn p) (by rw [List.getElem?_map, hi]; rfl)
    rw [addr_add] at this
    exact ⟨b, cap, e, h1, h2, hk, this⟩

set_option maxHeartbeats 1000000 in
theorem WalIn.bin (h : WalIn w G lb db lv av g) (x : Int) : Calls Tryz.prog 179 #[av, .int .u64 x] w fun e w' => e = .returned (.tuple #[.int .i64 (g.idx x : Int), .bool (g.has x)]) ∧ ∃ q, w' = w.drewN q := by
  have hl := h.ok.length
  obtain ⟨a, c, e0⟩ := own_form h.ats
  rcases h.ats.2 with ⟨e, h0⟩ | ⟨b, cap, cur, e, _, hh, h1, h2, _⟩
  · rw [e]
    exact bin_c none 0 0 0 (by simp) g.ats x w (by rw [g.ats_length]; exact h0.symm) (by omega) (fun j hj => by rw [g.ats_length] at hj; omega) g.ats_sorted (Nat.le_refl _) (by simp only [maxLen]; omega)
  · rw [e]
    refine bin_c (some ⟨b, 0, none⟩) b g.recs.length cap (fun _ => rfl) g.ats x w g.ats_length.symm (by omega) (fun j hj => ?_) g.ats_sorted h1 h2
    have hj' : j < g.recs.length := by rw [g.ats_length] at hj; exact hj
    have hp : (places 1 g.recs)[j]? = some ((places 1 g.recs)[j]'(by rw [places_length]; exact hj')) := List.getElem?_eq_getElem _
    obtain ⟨b', cap', e', _, _, _, hc⟩ := h.atCell hp
    rw [e] at e'
    cases e'
    rw [hc]
    simp only [Lg.ats, List.getD_eq_getElem?_getD, List.getElem?_map, hp]
    rfl
end

set_option maxHeartbeats 1000000 in
theorem lfind_c {w : World} {G : Nat → Prop} {lb db : Nat} {g : Lg} (h : WalAt w G lb db g) (x : Int) :
    Calls Tryz.prog 100 #[.pointer (some ⟨lb, 0, none⟩), .int .u64 x] w fun e w' => e = .returned (.tuple #[.int .i64 (g.idx x : Int), .bool (g.has x)]) ∧ ∃ q, w' = w.drewN q := by
  obtain ⟨lv, av, h⟩ := h
  have c2 := h.cells.2.2.1
  have HB := Lib.hid (h.bin x)
  clear h
  go_enter Tryz.func100, Tryz.ntmps100
  go_wp2_with (fail)
  refine HB.out.mono ?_
  rintro e w' ⟨rfl, q, rfl⟩
  go_wp2
  go_ret2
  exact ⟨rfl, _, rfl⟩
end Go.Proofs.YtpnndlahfllbhaaGreat
