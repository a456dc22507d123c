/-
  The walks of a writer.
-/
import Derived.Test.YtpnndlahfllbhaaGreatUKX
import Derived.Lib.AppendStr
namespace Go.Proofs.YtpnndlahfllbhaaGreat
open Go.RowKit Go.Lib
attribute [local go_sem ↓] Go.wp_at_zero Go.wp_at_succ

theorem strCells_list (s : ByteArray) : strCells s = s.data.toList.map byteV := by
  unfold strCells
  simp [byteV]
theorem strCells_app (a b : ByteArray) : strCells a ++ strCells b = strCells (a ++ b) := by
  rw [strCells_list, strCells_list, strCells_list, ← List.map_append, ByteArray.data_append, Array.toList_append]

/-- a writer of the call's own: what it has written -/
def WrAt (w : World) (B wb : Nat) (bs : ByteArray) : Prop := ∃ sv, B ≤ wb ∧ Blk w wb 304 #[sv] ∧ w.ownsRow B 5 1 sv bs.size (strCells bs)
section
variable {w w' w1 : World} {B wb : Nat} {bs s : ByteArray}
theorem WrAt.lt (h : WrAt w B wb bs) : B < w.heap.size := by obtain ⟨_, h0, h1, _⟩ := h; have := h1.lt; omega
theorem WrAt.below (h : WrAt w B wb bs) (hb : Below w.heap.size w w') : WrAt w' B wb bs := by
  obtain ⟨sv, h0, h1, h2⟩ := h
  exact ⟨sv, h0, h1.same (hb.block _ h1.lt), own_same h2 (fun k hk => hb.block k (h2.lt k hk).2)⟩
theorem wr_store {sv v1 : Value} {n : Nat} (h0 : B ≤ wb) (h1 : Blk w wb 304 #[sv]) (h2 : w.ownsRow B 5 1 sv bs.size (strCells bs)) (q1 : w1.ownsRow B 5 1 v1 n (strCells bs ++ strCells s)) (hn : n = bs.size + s.size) (q2 : w.grownBy w1 sv.ownBlock) :
    w1.cell? ⟨wb, 0, none⟩ = some sv ∧ w1.frozen? ⟨wb, 0, none⟩ = false ∧ WrAt (w1.setCell ⟨wb, 0, none⟩ v1) B wb (bs ++ s) ∧ Below B w (w1.setCell ⟨wb, 0, none⟩ v1) := by
  have hne : sv.ownBlock ≠ some wb := own_blk_ne h2 h1 (by decide)
  have hB1 : Blk w1 wb 304 #[sv] := h1.same (q2.block wb h1.lt (fun e => hne e.symm))
  have hne1 : v1.ownBlock ≠ some wb := own_blk_ne q1 hB1 (by decide)
  refine ⟨hB1.cell 0, hB1.frozen 0, ⟨v1, h0, hB1.set_ 0 v1, own_same ?_ (fun k hk => Below.heap_setCell _ _ _ k (fun e => hne1 (by rw [hk]; exact congrArg some e)))⟩, ?_⟩
  · rw [strCells_app] at q1
    rw [ByteArray.size_append, ← hn]
    exact q1
  · exact ((Below.refl B w).grown q2 (by have := h1.lt; omega) (fun k hk => (h2.lt k hk).1)).setCell h0 _

set_option maxRecDepth 100000 in
theorem newWriter_c (w : World) (B : Nat) (hB : B ≤ w.heap.size) : Calls Tryz.prog 92 #[] w fun e w' => ∃ wb, e = .returned (.pointer (some ⟨wb, 0, none⟩)) ∧ WrAt w' B wb ⟨#[]⟩ ∧ Below w.heap.size w w' := by
  go_enter Tryz.func92, Tryz.ntmps92
  go_wp2
  go_ret
  exact ⟨w.heap.size, rfl, ⟨_, hB, Blk.new w _ _, World.ownsRow_nil _ _ _ _⟩, (Below.refl _ _).alloc (Nat.le_refl _) _⟩

theorem wall_c (h : WrAt w B wb bs) : Calls Tryz.prog 95 #[.pointer (some ⟨wb, 0, none⟩)] w fun e w' => e = .returned (.string bs) ∧ w = w' := by
  obtain ⟨sv, h0, h1, h2⟩ := h
  obtain ⟨sa, sc, rfl⟩ := own_form h2
  have c0 : w.cell? ⟨wb, 0, none⟩ = some (.slice sa bs.size sc) := h1.cell 0
  rw [strCells_list] at h2
  have hcv := own_string h2
  clear h0 h1 h2
  go_enter Tryz.func95, Tryz.ntmps95
  go_wp2_with (fail)
  go_ret
  exact ⟨rfl, rfl⟩
end
end Go.Proofs.YtpnndlahfllbhaaGreat
