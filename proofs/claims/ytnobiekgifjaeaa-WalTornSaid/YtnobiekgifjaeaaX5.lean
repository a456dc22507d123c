/-
  The plain law of frames: what is read back.
-/
import Derived.Test.YtnobiekgifjaeaaX4
namespace Go.Proofs.Ytnobiekgifjaeaa
open Go.RowKit

theorem ext_left {a b : ByteArray} {n : Nat} (h : a.size = n) : (a ++ b).extract 0 n = a := ByteArray.extract_append_eq_left h.symm
theorem ext_right {a b : ByteArray} {n k : Nat} (h : a.size = n) : (a ++ b).extract n (n + k) = b.extract 0 k := by
  apply ByteArray.ext
  simp only [ByteArray.data_extract, ByteArray.data_append]
  rw [Array.extract_append]
  have : a.data.size = n := h
  rw [this]
  simp only [Nat.sub_self, Nat.add_sub_cancel_left]
  rw [show a.data.extract n (n + k) = #[] from by apply Array.extract_empty_of_size_le_start; omega]
  simp
theorem ext_skip {a b : ByteArray} {n m : Nat} (h : a.size = n) (hm : (a ++ b).size = m) : (a ++ b).extract n m = b := ByteArray.extract_append_eq_right h.symm (by rw [← hm, ByteArray.size_append])
theorem numAt_front {a b : ByteArray} {k : Nat} (h : k ≤ a.size) : numAt (a ++ b) 0 k = numOf (a.data.toList.take k) := by
  unfold numAt
  rw [List.drop_zero, ByteArray.data_append, Array.toList_append, List.take_append_of_le_length]
  simpa using h

theorem frame_num (p : Nat) {x : ByteArray} (hx : x.size ≤ 8192) (t : ByteArray) : numAt (frameB p x ++ t) 0 4 = x.size := by
  unfold frameB
  rw [ByteArray.append_assoc, ByteArray.append_assoc, ByteArray.append_assoc, numAt_front (by rw [leB_size]; exact Nat.le_refl _)]
  rw [List.take_of_length_le (by show (leList x.size 4).toArray.toList.length ≤ 4; rw [List.toList_toArray, leList_length]; exact Nat.le_refl _)]
  show numOf (leList x.size 4).toArray.toList = _
  rw [List.toList_toArray]
  exact numOf_le 4 x.size (by omega)
theorem frame_fits (p : Nat) {x : ByteArray} (h1 : 1 ≤ x.size) (hx : x.size ≤ 8192) (t : ByteArray) : fits (frameB p x ++ t) := by
  have := frame_num p hx t
  unfold fits
  rw [this, ByteArray.size_append, frameB_size]
  omega
theorem frame_body (p : Nat) {x : ByteArray} (h1 : 1 ≤ x.size) (hx : x.size ≤ 8192) (t : ByteArray) : takenBody (frameB p x ++ t) = x := by
  unfold takenBody
  rw [if_pos (frame_fits p h1 hx t), frame_num p hx t]
  unfold frameB
  rw [ByteArray.append_assoc, ByteArray.append_assoc]
  rw [ext_right (by rw [ByteArray.size_append, leB_size, leB_size])]
  exact ext_left rfl
theorem frame_ok (p : Nat) {x : ByteArray} (h1 : 1 ≤ x.size) (hx : x.size ≤ 8192) (t : ByteArray) : takenOk (frameB p x ++ t) p = true := by
  unfold takenOk
  rw [decide_eq_true (frame_fits p h1 hx t), Bool.true_and, frame_num p hx t, frame_body p h1 hx t, ext_left (frameB_size p x), decide_eq_true rfl]

theorem frames_append : ∀ (a b : List ByteArray) (p : Nat), frames p (a ++ b) = frames p a ++ frames (endFrom p a) b
  | [], b, p => by
    apply ByteArray.ext
    simp [frames, endFrom, ByteArray.data_append]
  | x :: a, b, p => by
    simp only [List.cons_append, frames, endFrom]
    rw [frames_append a b, ByteArray.append_assoc]
theorem endFrom_append : ∀ (a b : List ByteArray) (p : Nat), endFrom p (a ++ b) = endFrom (endFrom p a) b
  | [], _, _ => rfl
  | x :: a, b, p => by simp only [List.cons_append, endFrom]; exact endFrom_append a b _
theorem endFrom_take (l : List ByteArray) {k : Nat} {x : ByteArray} (h : l[k]? = some x) (p : Nat) : endFrom p (l.take (k + 1)) = endFrom p (l.take k) + x.size + 12 := by
  rw [List.take_add_one, h]
  exact endFrom_snoc x _ p
theorem endFrom_take_le (l : List ByteArray) (k p : Nat) : endFrom p (l.take k) ≤ endFrom p l := by
  conv => rhs; rw [← List.take_append_drop k l, endFrom_append]
  exact endFrom_le _ _

/-- what is behind the first k records -/
theorem frames_at (l : List ByteArray) (rest : ByteArray) (k : Nat) :
    (frames 1 l ++ rest).extract (endFrom 1 (l.take k) - 1) (frames 1 l ++ rest).size = frames (endFrom 1 (l.take k)) (l.drop k) ++ rest := by
  have e : frames 1 l = frames 1 (l.take k) ++ frames (endFrom 1 (l.take k)) (l.drop k) := by rw [← frames_append, List.take_append_drop]
  rw [e, ByteArray.append_assoc]
  have := frames_size (l.take k) 1
  exact ext_skip (by omega) rfl
theorem frames_next (l : List ByteArray) (rest : ByteArray) {k : Nat} {x : ByteArray} (h : l[k]? = some x) (p : Nat) :
    frames p (l.drop k) ++ rest = frameB p x ++ (frames (p + x.size + 12) (l.drop (k + 1)) ++ rest) := by
  obtain ⟨hk, e⟩ := List.getElem?_eq_some_iff.1 h
  rw [List.drop_eq_getElem_cons hk, e, frames, ByteArray.append_assoc]
end Go.Proofs.Ytnobiekgifjaeaa
