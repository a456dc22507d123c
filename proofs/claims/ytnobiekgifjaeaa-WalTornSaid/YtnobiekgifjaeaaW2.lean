/-
  The walks of numbers in bytes.
-/
import Derived.Test.YtnobiekgifjaeaaW1
namespace Go.Proofs.Ytnobiekgifjaeaa
open Go.RowKit

def byteV (b : UInt8) : Value := .int .u8 (b.toNat : Int)

theorem own_string {w : World} {B n : Nat} {v : Value} {l : List UInt8} (h : w.ownsRow B 5 1 v n (l.map byteV)) : (convert 22 9 v).run Try.prog w = .ok (.string ⟨l.toArray⟩) w := by
  have hl : l.length = n := by have := h.1; simpa using this
  rcases id h.2 with ⟨rfl, rfl⟩ | ⟨g, cap, cur, rfl, _⟩
  · have : l = [] := List.length_eq_zero_iff.1 hl
    subst this
    exact run_convert_bytes_nil (P := Try.prog) w 22 5 Try.underlying22 Try.underlying5 0 0 9 Try.underlying9
  · subst hl
    refine run_convert_bytes_back (P := Try.prog) w 22 9 5 ⟨g, 0, none⟩ cap l Try.underlying22 Try.underlying5 Try.underlying9 (fun j hj => ?_)
    rw [add_lit, Nat.zero_add, h.cellAt j (by omega), List.getElem?_map, List.getElem?_eq_getElem hj]
    rfl

theorem byte_of (m : Nat) : ((m : Int) % 256) = (((UInt8.ofNat (m % 256)).toNat : Nat) : Int) := by
  rw [UInt8.toNat_ofNat']
  omega

theorem leList_map (n k : Nat) : (leList n k).map byteV ++ [.int .u8 (((n / 256 ^ k : Nat) : Int) % 256)] = (leList n (k + 1)).map byteV := by
  rw [leList_snoc, List.map_append, byte_of]
  rfl

theorem pow_next (n k : Nat) : n / 256 ^ k / 256 = n / 256 ^ (k + 1) := by rw [Nat.div_div_eq_div_mul, ← Nat.pow_succ]

set_option maxRecDepth 100000 in
set_option maxHeartbeats 400000 in
theorem rawPut_c (n long : Nat) (hl : long = 4 ∨ long = 8) (w : World) :
    Calls Try.prog 66 #[.int .u64 (n : Int), .int .i64 (long : Int)] w fun e w' => e = .returned (.string (leB n long)) ∧ Below w.heap.size w w' := by
  obtain ⟨i0, hi, hz0, hz1, hz2⟩ := info_parts infoByte
  have hl4 : 0 ≤ (long : Int) := by omega
  have hl5 : min (long : Int) 8 = long := by omega
  have HL := Lib.hid hl
  go_enter Try.func66, Try.ntmps66
  go_wp2_with (fail)
  clear hl4 hl5
  go_loopw [0, 5, 9] (fun x v i wr => ∃ k : Nat, k ≤ long ∧ x = .int .u64 (n / 256 ^ k : Nat) ∧ i = .int .i64 k ∧ Hid (wr.ownsRow w.heap.size 5 1 v k ((leList n k).map byteV)) ∧ Hid (Below w.heap.size w wr)) (fun _ _ i _ => long - (intOf i).toNat)
  case atStart => exact ⟨0, Nat.zero_le _, by simp, rfl, World.ownsRow_nil _ _ _ _, Below.refl _ _⟩
  case round =>
    obtain ⟨k, hk, rfl, rfl, hO, hB⟩ := hrel
    by_cases hlt : k < long
    · obtain ⟨va, vc, rfl⟩ := own_form hO.out
      have HO : Hid ((wr.alloc (.cells #[.int .u8 (((n / 256 ^ k : Nat) : Int) % 256)] 5)).ownsRow w.heap.size 5 1 (.slice va k vc) k ((leList n k).map byteV)) := hO.out.alloc _
      have H1 : Hid (k + 1 ≤ maxLen) := by show k + 1 ≤ maxLen; have := HL.out; simp only [maxLen]; omega
      have H2 : Hid ((k + 1) * 1 ≤ 140737488355328) := by show (k + 1) * 1 ≤ 140737488355328; have := HL.out; omega
      have H3 : Hid (w.heap.size ≤ (wr.alloc (.cells #[.int .u8 (((n / 256 ^ k : Nat) : Int) % 256)] 5)).heap.size) := by show w.heap.size ≤ _; have := hB.out.size; simp; omega
      have H4 : Hid (∀ u ∈ [Value.int .u8 (((n / 256 ^ k : Nat) : Int) % 256)], u.oneCell' = true) := fun u hu => by simp at hu; subst hu; rfl
      have hdiv : (((n / 256 ^ k : Nat) : Int) / 256) = ((n / 256 ^ (k + 1) : Nat) : Int) := by rw [← pow_next]; omega
      have HD := Lib.hid hdiv
      have HM := Lib.hid (leList_map n k)
      have HBa : Hid (Below w.heap.size w (wr.alloc (.cells #[.int .u8 (((n / 256 ^ k : Nat) : Int) % 256)] 5))) := hB.out.alloc hB.out.size _
      generalize n / 256 ^ k = y at *
      clear hdiv hO hB
      go_wp2_with (at_builtin; refine wpList_append_own_at _ rfl _ _ 22 rfl w.heap.size 5 i0 _ 1 1 Try.underlying22 hi hz0 hz1 hz2 rfl (by omega) _ k ((leList n k).map byteV) rfl HO.out ⟨wr.heap.size, 0, none⟩ 1 1 [.int .u8 ((y : Int) % 256)] rfl rfl (World.news_of_block (cs := #[.int .u8 ((y : Int) % 256)]) (t := 5) (fr := (0, 0)) (heap_alloc_new wr _)) H4.out H1.out H2.out H3.out ?_; intro v' w2 h1 h2 _ _; have J1 := Lib.hid h1; have J2 := Lib.hid h2; clear h1 h2)
      go_outline
      go_roundw
      case rel => exact ⟨k + 1, by omega, by rw [← HD.out], by go_num, by rw [← HM.out]; exact J1.out, HBa.out.grown J2.out H3.out (fun q hq => (HO.out.lt q hq).1)⟩
      case measure => simp [intOf]; omega
    · obtain rfl : k = long := by omega
      have hcv := own_string hO.out
      have HB := Lib.hid hB.out
      clear hO hB
      go_wp2_with (fail)
      go_ret
      exact ⟨rfl, HB.out⟩
end Go.Proofs.Ytnobiekgifjaeaa
