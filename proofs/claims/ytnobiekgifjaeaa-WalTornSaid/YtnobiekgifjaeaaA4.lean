/-
  The disk: plans are copied, and struck out of.
-/
import Derived.Test.YtnobiekgifjaeaaA3
import Derived.Maps.AppendAt
import Derived.Deep.RegionLaw
namespace Go.Proofs.Ytnobiekgifjaeaa
open Go.RowKit

theorem infoFall : (Try.prog.info? 39).map (fun i => (i.zero, i.size, i.bytes)) = some (some (.agg #[.int .i64 0, .int .u64 0, .int .i64 0, .int .i64 0, .int .i64 0]), 5, 40) := by kernel_rfl
theorem infoWrite : (Try.prog.info? 109).map (fun i => (i.zero, i.size, i.bytes)) = some (some (.agg #[.int .u32 0, .string ⟨#[]⟩, .int .u64 0]), 3, 32) := by kernel_rfl

theorem flsCells_one (l : List Fl) : ∀ u ∈ flsCells l, u.oneCell' = true := by
  intro u hu
  simp only [flsCells, List.mem_flatMap] at hu
  obtain ⟨f, _, hf⟩ := hu
  simp only [flCells, List.mem_cons, List.not_mem_nil, or_false] at hf
  rcases hf with rfl | rfl | rfl | rfl | rfl <;> rfl
theorem wrsCells_one (l : List Wr) : ∀ u ∈ wrsCells l, u.oneCell' = true := by
  intro u hu
  simp only [wrsCells, List.mem_flatMap] at hu
  obtain ⟨f, _, hf⟩ := hu
  simp only [wrCells, List.mem_cons, List.not_mem_nil, or_false] at hf
  rcases hf with rfl | rfl | rfl <;> rfl

theorem add_lit (g off n : Nat) : (⟨g, off, none⟩ : Addr).add n = ⟨g, off + n, none⟩ := by unfold Addr.add; split <;> simp_all

theorem FlsAt.cells {w : World} {g off n cap : Nat} {l : List Fl} (h : FlsAt w (.slice (some ⟨g, off, none⟩) n cap) l) : ∀ j u, (flsCells l)[j]? = some u → w.cell? ((⟨g, off, none⟩ : Addr).add j) = some u := by
  intro j u hu
  have hj : j < l.length * 5 := by rw [← flsCells_length]; exact (List.getElem?_eq_some_iff.1 hu).1
  obtain ⟨f, hf⟩ : ∃ f, l[j / 5]? = some f := ⟨_, List.getElem?_eq_getElem (by omega)⟩
  obtain ⟨g', off', cap', e, _, hc⟩ := h.2 _ f hf
  simp only [Value.slice.injEq, Option.some.injEq, Addr.mk.injEq] at e
  obtain ⟨⟨rfl, rfl, -⟩, -, -⟩ := e
  have h1 := flsCells_at l _ f hf (j % 5) (by omega)
  have h2 := hc (j % 5) (by omega)
  have e1 : j / 5 * 5 + j % 5 = j := by omega
  rw [e1] at h1
  rw [add_lit, show off + j = off + j / 5 * 5 + j % 5 by omega, h2, ← h1, hu]

theorem cloneFall_nil (w : World) : Calls Try.prog 63 #[.slice none 0 0] w fun e w' => e = .returned (.slice none 0 0) ∧ Below w.heap.size w w' := by
  have hq := fun W : World => Lib.run_eql_slice_nil (P := Try.prog) W 53 39 none 0 0 0 0 Try.underlying53
  go_enter Try.func63, Try.ntmps63
  go_wp2
  go_ret
  exact ⟨rfl, Below.refl _ _⟩

/-- what a copy of falls is -/
def CopyPost (w : World) (l : List Fl) (e : Ending) (w' : World) : Prop := ∃ v, e = .returned v ∧ w'.ownsRow w.heap.size 39 5 v l.length (flsCells l) ∧ Below w.heap.size w w'

set_option maxRecDepth 100000 in
set_option maxHeartbeats 400000 in
theorem cloneFall_some (w : World) (g off n cap : Nat) (l : List Fl) (h : FlsAt w (.slice (some ⟨g, off, none⟩) n cap) l) (hg : g < w.heap.size) (hlen : l.length ≤ 1000000000000) :
    Calls Try.prog 63 #[.slice (some ⟨g, off, none⟩) n cap] w (CopyPost w l) := by
  have hq := fun W : World => Lib.run_eql_slice_nil (P := Try.prog) W 53 39 (some ⟨g, off, none⟩) n cap 0 0 Try.underlying53
  obtain ⟨i0, hi, hz0, hz1, hz2⟩ := info_parts infoFall
  obtain ⟨⟨a, c, e, hcap⟩, _⟩ := id h
  simp only [Value.slice.injEq] at e
  obtain ⟨-, rfl, -⟩ := e
  have hown : (w.alloc (.cells #[] 39)).ownsRow w.heap.size 39 5 (.slice (some ⟨w.heap.size, 0, none⟩) 0 0) 0 [] := World.ownsRow_made w #[] 0 (Nat.le_refl _) (by simp [maxLen]) rfl
  have hcells : ∀ j u, (flsCells l)[j]? = some u → (w.alloc (.cells #[] 39)).cell? ((⟨g, off, none⟩ : Addr).add j) = some u := fun j u hu => by
    rw [World.cell?_alloc_lt _ _ _ (by rw [add_lit]; exact hg)]; exact h.cells j u hu
  have HP : ∀ v' w', Hid (w'.ownsRow w.heap.size 39 5 v' (0 + l.length) ([] ++ flsCells l) → (w.alloc (.cells #[] 39)).grownBy w' (some w.heap.size) → CopyPost w l (.returned v') w') := fun v' w' h1 h2 =>
    ⟨v', rfl, by simpa using h1, ((Below.refl _ _).alloc (Nat.le_refl _) _).grown h2 (by simp) (fun k hk => by simp at hk; omega)⟩
  have HC := Lib.hid hcells
  have HL1 : Hid (0 + l.length ≤ maxLen) := by show 0 + l.length ≤ maxLen; simp only [maxLen]; omega
  have HL2 : Hid ((0 + l.length) * 40 ≤ 140737488355328) := by show (0 + l.length) * 40 ≤ 140737488355328; omega
  have HL3 : Hid (w.heap.size ≤ (w.alloc (.cells #[] 39)).heap.size) := by show w.heap.size ≤ (w.alloc (.cells #[] 39)).heap.size; simp
  clear h hcells hcap hlen
  go_enter Try.func63, Try.ntmps63
  go_wp2_with (at_builtin; refine wpList_append_own_at _ rfl _ _ 53 rfl w.heap.size 39 i0 _ 5 40 Try.underlying53 hi hz0 hz1 hz2 rfl (by omega) _ 0 [] rfl hown ⟨g, off, none⟩ l.length cap (flsCells l) rfl (flsCells_length l) HC.out (flsCells_one l) HL1.out HL2.out HL3.out ?_; intro v' w' h1 h2 _ _)
  go_ret
  exact (HP v' w').out h1 h2
end Go.Proofs.Ytnobiekgifjaeaa
