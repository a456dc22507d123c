/-
  The plain half of the log: numbers in bytes, the sum, frames.
-/
import Derived.Test.YtnobiekgifjaeaaM0
import Derived.Laws.Bits64b
namespace Go.Proofs.Ytnobiekgifjaeaa

theorem bits_xor_u32_nat (a b : Nat) (ha : a < 4294967296) (hb : b < 4294967296) : bits .xor .u32 (a : Int) (b : Int) = ((a ^^^ b : Nat) : Int) := by
  have hx : a ^^^ b < 2 ^ 32 := Nat.xor_lt_two_pow (by omega) (by omega)
  have h1 : (BitVec.ofInt 32 (a : Int)).toNat = a := by
    rw [BitVec.ofInt_natCast, BitVec.toNat_ofNat]; exact Nat.mod_eq_of_lt (by omega)
  have h2 : (BitVec.ofInt 32 (b : Int)).toNat = b := by
    rw [BitVec.ofInt_natCast, BitVec.toNat_ofNat]; exact Nat.mod_eq_of_lt (by omega)
  show IntKind.u32.wrap ((BitVec.ofInt 32 (a : Int) ^^^ BitVec.ofInt 32 (b : Int)).toNat : Int) = _
  rw [BitVec.toNat_xor, h1, h2]
  have e2 : ∀ z : Int, IntKind.u32.wrap z = z % 4294967296 := fun _ => rfl
  rw [e2]
  omega

theorem bits_and1_u32_nat (a : Nat) (ha : a < 4294967296) : bits .and .u32 (a : Int) 1 = ((a % 2 : Nat) : Int) := by
  have h1 : (BitVec.ofInt 32 (a : Int)).toNat = a := by
    rw [BitVec.ofInt_natCast, BitVec.toNat_ofNat]; exact Nat.mod_eq_of_lt (by omega)
  have h2 : (BitVec.ofInt 32 (1 : Int)).toNat = 1 := rfl
  show IntKind.u32.wrap ((BitVec.ofInt 32 (a : Int) &&& BitVec.ofInt 32 (1 : Int)).toNat : Int) = _
  rw [BitVec.toNat_and, h1, h2, Nat.and_one_is_mod]
  have e2 : ∀ z : Int, IntKind.u32.wrap z = z % 4294967296 := fun _ => rfl
  rw [e2]
  omega

theorem xor_ones (a : Nat) (ha : a < 4294967296) : a ^^^ 4294967295 = 4294967295 - a := by
  have h : (BitVec.ofNat 32 a ^^^ BitVec.allOnes 32) = ~~~ BitVec.ofNat 32 a := BitVec.xor_allOnes
  have h2 := congrArg BitVec.toNat h
  rw [BitVec.toNat_xor, BitVec.toNat_not, BitVec.toNat_ofNat, Nat.mod_eq_of_lt (by omega)] at h2
  exact h2

def crcBit (r : Nat) : Nat := if r % 2 = 1 then (r / 2) ^^^ 2197175160 else r / 2
def crcBits (r : Nat) : Nat → Nat
  | 0 => r
  | k + 1 => crcBit (crcBits r k)
def crcByte (r : Nat) (b : UInt8) : Nat := crcBits (r ^^^ b.toNat) 8
def crcList (r : Nat) (l : List UInt8) : Nat := l.foldl crcByte r
/-- the sum of bytes behind others -/
def crcMore (sum : Nat) (s : ByteArray) : Nat := crcList (sum ^^^ 4294967295) s.data.toList ^^^ 4294967295

theorem xor_lt32 {a b : Nat} (ha : a < 4294967296) (hb : b < 4294967296) : a ^^^ b < 4294967296 := by
  have hx : a ^^^ b < 2 ^ 32 := Nat.xor_lt_two_pow (by omega) (by omega)
  omega
theorem crcBit_lt {r : Nat} (h : r < 4294967296) : crcBit r < 4294967296 := by
  unfold crcBit
  split
  · exact xor_lt32 (by omega) (by omega)
  · omega
theorem crcBits_lt {r : Nat} (h : r < 4294967296) : ∀ k, crcBits r k < 4294967296
  | 0 => h
  | k + 1 => crcBit_lt (crcBits_lt h k)
theorem crcByte_lt {r : Nat} (h : r < 4294967296) (b : UInt8) : crcByte r b < 4294967296 :=
  crcBits_lt (xor_lt32 h (by have := b.toNat_lt; omega)) 8
theorem crcList_lt {r : Nat} (h : r < 4294967296) : ∀ l : List UInt8, crcList r l < 4294967296
  | [] => h
  | b :: l => crcList_lt (crcByte_lt h b) l
theorem crcMore_lt {r : Nat} (h : r < 4294967296) (s : ByteArray) : crcMore r s < 4294967296 := xor_lt32 (crcList_lt (xor_lt32 h (by omega)) _) (by omega)

theorem xor_twice (a b : Nat) : a ^^^ b ^^^ b = a := by rw [Nat.xor_assoc, Nat.xor_self, Nat.xor_zero]

theorem crcMore_append (a : Nat) (x y : ByteArray) : crcMore (crcMore a x) y = crcMore a (x ++ y) := by
  unfold crcMore crcList
  rw [xor_twice, ByteArray.data_append, Array.toList_append, List.foldl_append]

theorem crcList_next (r : Nat) (s : ByteArray) {k : Nat} (h : k < s.size) : crcList r (s.data.toList.take (k + 1)) = crcByte (crcList r (s.data.toList.take k)) s[k] := by
  show _ = crcByte _ s.data[k]
  have e : s.data.toList.take (k + 1) = s.data.toList.take k ++ [s.data[k]] := by
    have hk : s.data.toList[k]? = some s.data[k] := by
      rw [Array.getElem?_toList]
      exact Array.getElem?_eq_getElem h
    rw [List.take_add_one, hk]
    rfl
  rw [e]
  unfold crcList
  rw [List.foldl_append]
  rfl

/-- the bytes of a number, the least first -/
def leList (n : Nat) : Nat → List UInt8
  | 0 => []
  | k + 1 => UInt8.ofNat (n % 256) :: leList (n / 256) k
def leB (n k : Nat) : ByteArray := ⟨(leList n k).toArray⟩

theorem leList_length : ∀ (k n : Nat), (leList n k).length = k
  | 0, _ => rfl
  | k + 1, n => by simp [leList, leList_length k]
theorem leB_size (n k : Nat) : (leB n k).size = k := by
  show (leList n k).toArray.size = k
  rw [List.size_toArray, leList_length]
theorem leList_snoc : ∀ (k n : Nat), leList n (k + 1) = leList n k ++ [UInt8.ofNat (n / 256 ^ k % 256)]
  | 0, n => by simp [leList]
  | k + 1, n => by
    rw [leList, leList_snoc k (n / 256), leList]
    simp only [List.cons_append]
    rw [Nat.div_div_eq_div_mul, ← Nat.pow_succ']
theorem leB_snoc (n k : Nat) : leB n (k + 1) = leB n k ++ ⟨#[UInt8.ofNat (n / 256 ^ k % 256)]⟩ := by
  apply ByteArray.ext
  rw [ByteArray.data_append]
  show (leList n (k + 1)).toArray = (leList n k).toArray ++ #[UInt8.ofNat (n / 256 ^ k % 256)]
  rw [leList_snoc]
  simp

/-- the number of bytes -/
def numOf : List UInt8 → Nat
  | [] => 0
  | b :: l => numOf l * 256 + b.toNat
theorem numOf_lt : ∀ l : List UInt8, numOf l < 256 ^ l.length
  | [] => by decide
  | b :: l => by
    have h1 := numOf_lt l
    have h2 := b.toNat_lt
    rw [numOf, List.length_cons, Nat.pow_succ]
    omega
theorem numOf_le : ∀ (k n : Nat), n < 256 ^ k → numOf (leList n k) = n
  | 0, n, h => by simp at h; simp [leList, numOf, h]
  | k + 1, n, h => by
    rw [Nat.pow_succ] at h
    rw [leList, numOf, numOf_le k (n / 256) (by omega), UInt8.toNat_ofNat']
    omega

/-- a record's frame -/
def frameB (at_ : Nat) (s : ByteArray) : ByteArray := leB s.size 4 ++ leB (crcMore 0 (leB at_ 8 ++ s)) 4 ++ s ++ leB s.size 4
theorem frameB_size (at_ : Nat) (s : ByteArray) : (frameB at_ s).size = s.size + 12 := by
  unfold frameB
  simp only [ByteArray.size_append, leB_size]
  omega
end Go.Proofs.Ytnobiekgifjaeaa
