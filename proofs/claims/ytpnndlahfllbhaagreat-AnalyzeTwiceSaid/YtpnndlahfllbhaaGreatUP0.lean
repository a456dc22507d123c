/-
  Pages as bytes: the plain law.
-/
import Derived.Test.YtpnndlahfllbhaaGreatUKX
namespace Go.Proofs.YtpnndlahfllbhaaGreat
open Go.RowKit

/-- a reader: the bytes, how many were taken, the error -/
structure Rd where
  s : ByteArray
  at_ : Nat
  err : Int
def Rd.number (r : Rd) (k : Nat) : Nat × Rd := if r.err ≠ 0 then (0, r) else if r.s.size - r.at_ < k then (0, { r with err := 4 }) else (numAt r.s r.at_ k, { r with at_ := r.at_ + k })
def Rd.bytes (r : Rd) (n : Nat) : ByteArray × Rd := if r.err ≠ 0 then (⟨#[]⟩, r) else if r.s.size - r.at_ < n then (⟨#[]⟩, { r with err := 4 }) else (r.s.extract r.at_ (r.at_ + n), { r with at_ := r.at_ + n })
/-- a page -/
structure Sh where
  num : Nat
  lsn : Nat
  kind : Int
  head : ByteArray
  slots : List ByteArray
def Sh.none : Sh := ⟨0, 0, 0, ⟨#[]⟩, []⟩
def slotsLen : List ByteArray → Nat
  | [] => 0
  | s :: l => s.size + 2 + slotsLen l
def Sh.room (x : Sh) : Int := 485 - (x.head.size : Int) - (slotsLen x.slots : Int)
def lensB : List ByteArray → ByteArray
  | [] => ⟨#[]⟩
  | s :: l => leB s.size 2 ++ lensB l
def catB : List ByteArray → ByteArray
  | [] => ⟨#[]⟩
  | s :: l => s ++ catB l
def zerosB (n : Nat) : ByteArray := ⟨(List.replicate n 0).toArray⟩
def Sh.front (x : Sh) : ByteArray := leB x.lsn 8 ++ (leB x.num 4 ++ (leB x.kind.toNat 1 ++ (leB x.head.size 1 ++ (x.head ++ (leB x.slots.length 1 ++ (lensB x.slots ++ catB x.slots))))))
def Sh.mid (x : Sh) : ByteArray := x.front ++ zerosB (500 - x.front.size) ++ leB x.lsn 8
def Sh.enc (x : Sh) : ByteArray := leB (crcMore 0 x.mid) 4 ++ x.mid
structure Sh.argOk (x : Sh) : Prop where
  kind1 : 0 ≤ x.kind
  kind2 : x.kind ≤ 255
  head : x.head.size ≤ 32
  slots : x.slots.length ≤ 64
instance (x : Sh) : Decidable x.argOk := decidable_of_iff (0 ≤ x.kind ∧ x.kind ≤ 255 ∧ x.head.size ≤ 32 ∧ x.slots.length ≤ 64) ⟨fun ⟨a, b, c, d⟩ => ⟨a, b, c, d⟩, fun ⟨a, b, c, d⟩ => ⟨a, b, c, d⟩⟩
/-- a page's bytes, or why not -/
def Sh.encE (x : Sh) : ByteArray × Int := if x.argOk then if x.room < 0 then (⟨#[]⟩, 30) else (x.enc, 0) else (⟨#[]⟩, 1)
/-! what was put is read again -/
theorem ba_ext {a b : ByteArray} (h : a.data.toList = b.data.toList) : a = b := by
  apply ByteArray.ext
  exact Array.toList_inj.1 h
theorem ba_size (a : ByteArray) : a.size = a.data.toList.length := by rw [Array.length_toList]; rfl
theorem ba_app (a b : ByteArray) : (a ++ b).data.toList = a.data.toList ++ b.data.toList := by rw [ByteArray.data_append, Array.toList_append]
theorem ba_ext_at (a b c : ByteArray) : (a ++ (b ++ c)).extract a.size (a.size + b.size) = b := by
  apply ba_ext
  rw [ByteArray.data_extract, Array.toList_extract, ba_app, ba_app]
  simp only [List.extract_eq_take_drop, ba_size]
  rw [List.drop_left, Nat.add_sub_cancel_left, List.take_left]
theorem numAt_at (a c : ByteArray) (n k : Nat) (h : n < 256 ^ k) : numAt (a ++ (leB n k ++ c)) a.size k = n := by
  unfold numAt
  rw [ba_app, ba_app, ba_size, List.drop_left]
  have e : (leB n k).data.toList = leList n k := by simp [leB]
  rw [e]
  have : (leList n k ++ c.data.toList).take k = leList n k := by
    rw [List.take_append_of_le_length (by rw [leList_length]; exact Nat.le_refl _)]
    exact List.take_of_length_le (by rw [leList_length]; exact Nat.le_refl _)
  rw [this, numOf_le k n h]
theorem Rd.number_at (a c : ByteArray) (n k : Nat) (h : n < 256 ^ k) : (⟨a ++ (leB n k ++ c), a.size, 0⟩ : Rd).number k = (n, ⟨(a ++ leB n k) ++ c, (a ++ leB n k).size, 0⟩) := by
  unfold Rd.number
  rw [if_neg (by simp)]
  have hz : (a ++ (leB n k ++ c)).size = a.size + (k + c.size) := by rw [ByteArray.size_append, ByteArray.size_append, leB_size]
  rw [if_neg (by show ¬ (a ++ (leB n k ++ c)).size - a.size < k; omega)]
  show (numAt (a ++ (leB n k ++ c)) a.size k, (⟨a ++ (leB n k ++ c), a.size + k, 0⟩ : Rd)) = _
  rw [numAt_at a c n k h, ByteArray.size_append, leB_size, ByteArray.append_assoc]
theorem Rd.bytes_at (a t c : ByteArray) : (⟨a ++ (t ++ c), a.size, 0⟩ : Rd).bytes t.size = (t, ⟨(a ++ t) ++ c, (a ++ t).size, 0⟩) := by
  unfold Rd.bytes
  rw [if_neg (by simp)]
  have hz : (a ++ (t ++ c)).size = a.size + (t.size + c.size) := by rw [ByteArray.size_append, ByteArray.size_append]
  rw [if_neg (by show ¬ (a ++ (t ++ c)).size - a.size < t.size; omega)]
  show ((a ++ (t ++ c)).extract a.size (a.size + t.size), (⟨a ++ (t ++ c), a.size + t.size, 0⟩ : Rd)) = _
  rw [ba_ext_at, ByteArray.size_append, ByteArray.append_assoc]
end Go.Proofs.YtpnndlahfllbhaaGreat
