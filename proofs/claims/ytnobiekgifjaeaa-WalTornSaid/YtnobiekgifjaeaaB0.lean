/-
  The statements of layer 2: pages of one byte, and that the disk is awake.
-/
import Derived.Test.YtnobiekgifjaeaaA9
namespace Go.Proofs.Ytnobiekgifjaeaa
open Go.RowKit

def pageOf (c : UInt8) : ByteArray := ⟨(List.replicate 512 c).toArray⟩
theorem pageOf_size (c : UInt8) : (pageOf c).size = 512 := by
  show (List.replicate 512 c).toArray.size = 512
  rw [List.size_toArray, List.length_replicate]

def rowOf (xs : List Int) : Array Value := (xs.map (Value.int .u8)).toArray
def prow (c : Int) (k : Nat) : Array Value := rowOf (List.replicate k c ++ List.replicate (512 - k) 0)

theorem prow_set (c : Int) (k : Nat) (h : k < 512) : (prow c k).setIfInBounds k (.int .u8 c) = prow c (k + 1) := by
  unfold prow rowOf
  rw [List.setIfInBounds_toArray]
  congr 1
  apply List.ext_getElem?
  intro j
  simp only [List.getElem?_set, List.length_map, List.length_append, List.length_replicate, List.getElem?_map, List.getElem?_append, List.getElem?_replicate]
  by_cases h1 : k = j
  · subst h1
    have a : k < k + (512 - k) := by omega
    have b : k < k + 1 := by omega
    simp [a, b]
  · by_cases h2 : j < k
    · have a : j < k + 1 := by omega
      simp [h1, h2, a]
    · have a : ¬ j < k + 1 := by omega
      simp only [h1, h2, a, if_false]
      by_cases h3 : j < 512
      · have e1 : j - k < 512 - k := by omega
        have e2 : j - (k + 1) < 512 - (k + 1) := by omega
        rw [if_pos e1, if_pos e2]
      · have e1 : ¬ j - k < 512 - k := by omega
        have e2 : ¬ j - (k + 1) < 512 - (k + 1) := by omega
        rw [if_neg e1, if_neg e2]

theorem prow_get (c : Int) (k j : Nat) (hk : k ≤ 512) (hj : j < 512) : (prow c k)[j]? = some (.int .u8 (if j < k then c else 0)) := by
  unfold prow rowOf
  simp only [List.getElem?_toArray, List.getElem?_map, List.getElem?_append, List.length_replicate, List.getElem?_replicate]
  by_cases h2 : j < k
  · simp [h2]
  · have e1 : j - k < 512 - k := by omega
    simp [h2, e1]

theorem infoByte : (Try.prog.info? 5).map (fun i => (i.zero, i.size, i.bytes)) = some (some (.int .u8 0), 1, 1) := by kernel_rfl

theorem made_row (n : Nat) : madeCells (Value.int .u8 0).cells n = rowOf (List.replicate n 0) := by
  unfold madeCells rowOf
  simp [Value.cells, Nat.mod_one]
  apply Array.ext_getElem?
  intro j
  simp [Array.getElem?_replicate, Array.getElem?_range]

theorem strOf_rep (c : UInt8) (n : Nat) : strOfNums (List.replicate n (c.toNat : Int)) = ⟨(List.replicate n c).toArray⟩ := by
  unfold strOfNums
  rw [List.map_replicate]
  simp

theorem make_page (W : World) : (Instr.makeSlice 22 (.int .i64 512) (.int .i64 512)).run Try.prog W = .ok (.slice (some ⟨W.heap.size, 0, none⟩) 512 512) (W.alloc (.cells (prow 0 0) 5)) := by
  obtain ⟨i0, hi, hz0, hz1, hz2⟩ := info_parts infoByte
  have h := run_make (P := Try.prog) W 22 5 i0 (.int .u8 0) Try.underlying22 hi hz0 .i64 .i64 512 512 (by omega) (by omega) (by rw [hz2]; decide) (by omega)
  have e : madeCells (Value.int .u8 0).cells ((512 : Int).toNat * i0.size) = prow 0 0 := by
    rw [hz1, made_row]
    rfl
  rw [e] at h
  exact h

theorem page_string (c : UInt8) (W : World) (B : Nat) (h : Blk W B 5 (prow c.toNat 512)) : (convert 22 9 (.slice (some ⟨B, 0, none⟩) 512 512)).run Try.prog W = .ok (.string (pageOf c)) W := by
  have h1 := run_convert_bytes_arg (P := Try.prog) W 22 5 Try.underlying22 Try.underlying5 B 0 512 512 (List.replicate 512 (c.toNat : Int)) (by rw [List.length_replicate]) (fun i hi => by
    rw [h.cell, Nat.zero_add, prow_get _ _ _ (by omega) hi, if_pos hi]
    simp only [List.getD, List.getElem?_replicate, if_pos hi, Option.getD_some]) 9 Try.underlying9
  have e : strOfNums (List.replicate 512 (c.toNat : Int)) = pageOf c := strOf_rep c 512
  rw [e] at h1
  exact h1

set_option maxRecDepth 100000 in
set_option maxHeartbeats 400000 in
theorem zeros_c (w : World) : Calls Try.prog 16 #[] w fun e w' => e = .returned (.string blank) ∧ Below w.heap.size w w' := by
  have hmk := make_page
  have hcv := page_string 0 (w.alloc (.cells (prow 0 0) 5)) w.heap.size (by
    have e : prow 0 0 = prow ((0 : UInt8).toNat : Int) 512 := by simp [prow]
    rw [← e]
    exact Blk.new _ _ _)
  have HB : Hid (Below w.heap.size w (w.alloc (.cells (prow 0 0) 5))) := (Below.refl _ _).alloc (Nat.le_refl _) _
  go_enter Try.func16, Try.ntmps16
  go_wp2
  go_ret
  exact ⟨rfl, HB.out⟩

set_option maxRecDepth 100000 in
set_option maxHeartbeats 400000 in
theorem page_c (c : UInt8) (w : World) : Calls Try.prog 18 #[.int .u8 c.toNat] w fun e w' => e = .returned (.string (pageOf c)) ∧ Below w.heap.size w w' := by
  have hmk := make_page
  generalize hcn : (c.toNat : Int) = n
  have HC := Lib.hid hcn
  clear hcn
  go_enter Try.func18, Try.ntmps18
  go_wp2
  go_loopw [4] (fun i wr => ∃ k : Nat, k ≤ 512 ∧ i = .int .i64 k ∧ Hid (Blk wr w.heap.size 5 (prow n k) ∧ Below w.heap.size w wr)) (fun i _ => 512 - (intOf i).toNat)
  case atStart => 
    refine ⟨0, Nat.zero_le _, rfl, ?_, (Below.refl _ _).alloc (Nat.le_refl _) _⟩
    have e : prow 0 0 = prow n 0 := by simp [prow]
    rw [e]
    exact Blk.new _ _ _
  case round =>
    obtain ⟨k, hk, rfl, hB⟩ := hrel
    by_cases hlt : k < 512
    · have c1 : wr.cell? ⟨w.heap.size, k, none⟩ = some (.int .u8 0) := by rw [hB.out.1.cell, prow_get _ _ _ hk hlt, if_neg (by omega)]
      have f1 := hB.out.1.frozen k
      have hw := hB.out.1.lt
      go_wp2
      go_roundw
      case rel =>
        refine ⟨k + 1, by omega, by go_num, ?_, hB.out.2.setCell (Nat.le_refl _) _⟩
        have := hB.out.1.set_ k (.int .u8 n)
        rw [prow_set n k hlt] at this
        exact this
      case measure => simp [intOf]; omega
    · obtain rfl : k = 512 := by omega
      have hcv := page_string c wr w.heap.size (by rw [HC.out]; exact hB.out.1)
      have HB := Lib.hid hB.out.2
      clear hB
      go_wp2
      go_ret
      exact ⟨rfl, HB.out⟩
end Go.Proofs.Ytnobiekgifjaeaa
