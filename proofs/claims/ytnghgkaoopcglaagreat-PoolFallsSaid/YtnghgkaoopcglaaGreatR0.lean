/-
  The walks of a writer.
-/
import Derived.Test.YtnghgkaoopcglaaGreatKX
import Derived.Lib.AppendStr
namespace Go.Proofs.YtnghgkaoopcglaaGreat
open Go.RowKit Go.Lib
attribute [local go_sem ↓] Go.wp_at_zero Go.wp_at_succ

theorem strCells_byteV (l : List UInt8) : strCells ⟨l.toArray⟩ = l.map byteV := by
  unfold strCells
  simp [byteV]
theorem strCells_list (s : ByteArray) : strCells s = s.data.toList.map byteV := by
  unfold strCells
  simp [byteV]
theorem strCells_app (a b : ByteArray) : strCells a ++ strCells b = strCells (a ++ b) := by
  rw [strCells_list, strCells_list, strCells_list, ← List.map_append, ByteArray.data_append, Array.toList_append]

/-- a writer of the call's own: what it has written -/
def WrAt (w : World) (B wb : Nat) (bs : ByteArray) : Prop := ∃ sv, B ≤ wb ∧ Blk w wb 218 #[sv] ∧ w.ownsRow B 5 1 sv bs.size (strCells bs)
section
variable {w w' w1 : World} {B wb : Nat} {bs s : ByteArray}
theorem WrAt.lt (h : WrAt w B wb bs) : B < w.heap.size := by obtain ⟨_, h0, h1, _⟩ := h; have := h1.lt; omega
theorem WrAt.below (h : WrAt w B wb bs) (hb : Below w.heap.size w w') : WrAt w' B wb bs := by
  obtain ⟨sv, h0, h1, h2⟩ := h
  exact ⟨sv, h0, h1.same (hb.block _ h1.lt), own_same h2 (fun k hk => hb.block k (h2.lt k hk).2)⟩
theorem wr_store {sv v1 : Value} {n : Nat} (h0 : B ≤ wb) (h1 : Blk w wb 218 #[sv]) (h2 : w.ownsRow B 5 1 sv bs.size (strCells bs)) (q1 : w1.ownsRow B 5 1 v1 n (strCells bs ++ strCells s)) (hn : n = bs.size + s.size) (q2 : w.grownBy w1 sv.ownBlock) :
    w1.cell? ⟨wb, 0, none⟩ = some sv ∧ w1.frozen? ⟨wb, 0, none⟩ = false ∧ WrAt (w1.setCell ⟨wb, 0, none⟩ v1) B wb (bs ++ s) ∧ Below B w (w1.setCell ⟨wb, 0, none⟩ v1) := by
  have hne : sv.ownBlock ≠ some wb := own_blk_ne h2 h1 (by decide)
  have hB1 : Blk w1 wb 218 #[sv] := h1.same (q2.block wb h1.lt (fun e => hne e.symm))
  have hne1 : v1.ownBlock ≠ some wb := own_blk_ne q1 hB1 (by decide)
  refine ⟨hB1.cell 0, hB1.frozen 0, ⟨v1, h0, hB1.set_ 0 v1, own_same ?_ (fun k hk => Below.heap_setCell _ _ _ k (fun e => hne1 (by rw [hk]; exact congrArg some e)))⟩, ?_⟩
  · rw [strCells_app] at q1
    rw [ByteArray.size_append, ← hn]
    exact q1
  · exact ((Below.refl B w).grown q2 (by have := h1.lt; omega) (fun k hk => (h2.lt k hk).1)).setCell h0 _

set_option maxRecDepth 100000 in
theorem newWriter_c (w : World) (B : Nat) (hB : B ≤ w.heap.size) : Calls Tryz.prog 58 #[] w fun e w' => ∃ wb, e = .returned (.pointer (some ⟨wb, 0, none⟩)) ∧ WrAt w' B wb ⟨#[]⟩ ∧ Below w.heap.size w w' := by
  go_enter Tryz.func58, Tryz.ntmps58
  go_wp2
  go_ret
  exact ⟨w.heap.size, rfl, ⟨_, hB, Blk.new w _ _, World.ownsRow_nil _ _ _ _⟩, (Below.refl _ _).alloc (Nat.le_refl _) _⟩

set_option maxRecDepth 100000 in
set_option maxHeartbeats 1000000 in
theorem wbytes_c (h : WrAt w B wb bs) (s : ByteArray) (hz : bs.size + s.size ≤ 1000000) :
    Calls Tryz.prog 118 #[.pointer (some ⟨wb, 0, none⟩), .string s] w fun e w' => e = .returned (.tuple #[]) ∧ WrAt w' B wb (bs ++ s) ∧ Below B w w' := by
  obtain ⟨i0, hi, hz0, hz1, hz2⟩ := info_parts infoByte
  obtain ⟨sv, h0, h1, h2⟩ := h
  obtain ⟨sa, sc, rfl⟩ := own_form h2
  have c0 : w.cell? ⟨wb, 0, none⟩ = some (.slice sa bs.size sc) := h1.cell 0
  have hlt := h1.lt
  have H0 := Lib.hid h0
  have H1 := Lib.hid h1
  have H2 := Lib.hid h2
  have N1 : Hid (bs.size + s.size ≤ maxLen) := by show _ ≤ maxLen; simp only [maxLen]; omega
  have N2 : Hid (bs.size + s.size ≤ 140737488355328) := by show _ ≤ 140737488355328; omega
  have N3 : Hid (B ≤ w.heap.size) := by show _ ≤ _; omega
  clear h0 h1 h2 hz
  go_enter Tryz.func118, Tryz.ntmps118
  go_wp2_with (at_builtin; refine Lib.wpList_append_own_string _ (by rfl) _ _ 94 9 (by rfl) B 5 i0 Tryz.underlying94 Tryz.underlying9 hi hz0 hz1 hz2 (.slice sa bs.size sc) bs.size (strCells bs) (by rfl) H2.out s (by rfl) N1.out N2.out N3.out ?_; intro v1 w1 q1 q2 _; obtain ⟨va, vc, rfl⟩ := own_form q1; have P := Lib.hid (wr_store H0.out H1.out H2.out q1 rfl q2); have d0 := P.out.1; have z0 := P.out.2.1; clear q1 q2)
  go_end0
  exact ⟨rfl, P.out.2.2⟩

theorem wnumber_c (h : WrAt w B wb bs) (n k : Nat) (hk : k ≤ 8) (hz : bs.size ≤ 900000) :
    Calls Tryz.prog 59 #[.pointer (some ⟨wb, 0, none⟩), .int .u64 (n : Int), .int .i64 (k : Int)] w fun e w' => e = .returned (.tuple #[]) ∧ WrAt w' B wb (bs ++ leB n k) ∧ Below B w w' := by
  have hlt := h.lt
  have HP := Lib.hid (rawPutN_c n k hk w)
  have HB : ∀ W, Below w.heap.size w W → Hid (Calls Tryz.prog 118 #[.pointer (some ⟨wb, 0, none⟩), .string (leB n k)] W fun e w' => e = .returned (.tuple #[]) ∧ WrAt w' B wb (bs ++ leB n k) ∧ Below B W w') := fun W hW => wbytes_c (h.below hW) _ (by rw [leB_size]; omega)
  clear h
  go_enter Tryz.func59, Tryz.ntmps59
  go_wp2_with (fail)
  refine HP.out.mono ?_
  rintro e w1 ⟨rfl, hb1⟩
  have HB1 := HB _ hb1
  have hb1' : Below B w w1 := hb1.mono (by omega)
  have HBB := Lib.hid hb1'
  clear hb1 hb1' HB
  go_wp2_with (fail)
  refine HB1.out.mono ?_
  rintro e w2 ⟨rfl, hw2, hb2⟩
  have HW := Lib.hid hw2
  have HB2 : Hid (Below B w w2) := HBB.out.trans hb2
  clear hw2 hb2
  go_wp2
  go_end0
  exact ⟨rfl, HW.out, HB2.out⟩

theorem wlen_c (h : WrAt w B wb bs) : Calls Tryz.prog 127 #[.pointer (some ⟨wb, 0, none⟩)] w fun e w' => e = .returned (.int .i64 (bs.size : Int)) ∧ w = w' := by
  obtain ⟨sv, h0, h1, h2⟩ := h
  obtain ⟨sa, sc, rfl⟩ := own_form h2
  have c0 : w.cell? ⟨wb, 0, none⟩ = some (.slice sa bs.size sc) := h1.cell 0
  clear h0 h1 h2
  go_enter Tryz.func127, Tryz.ntmps127
  go_wp2
  go_ret
  exact ⟨rfl, rfl⟩
theorem wall_c (h : WrAt w B wb bs) : Calls Tryz.prog 61 #[.pointer (some ⟨wb, 0, none⟩)] w fun e w' => e = .returned (.string bs) ∧ w = w' := by
  obtain ⟨sv, h0, h1, h2⟩ := h
  obtain ⟨sa, sc, rfl⟩ := own_form h2
  have c0 : w.cell? ⟨wb, 0, none⟩ = some (.slice sa bs.size sc) := h1.cell 0
  rw [strCells_list] at h2
  have hcv := own_string h2
  clear h0 h1 h2
  go_enter Tryz.func61, Tryz.ntmps61
  go_wp2_with (fail)
  go_ret
  exact ⟨rfl, rfl⟩
end
end Go.Proofs.YtnghgkaoopcglaaGreat
