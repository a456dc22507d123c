/-
  What a walk is told of slices of integers that came in.
-/
import Derived.Test.YtnobiekgifjaeaaC0
namespace Go.Proofs.Ytnobiekgifjaeaa
open Go.RowKit

/-- a slice of integers of one kind that came in -/
def IsInts (q : IntKind) (w : World) (a : Option Addr) (len cap : Nat) (zs : List Int) : Prop :=
  (a = none ∧ len = 0 ∧ cap = 0 ∧ zs = []) ∨
  ∃ x, a = some x ∧ len ≤ cap ∧ cap ≤ maxLen ∧ zs.length = cap ∧ (∀ i, i < cap → w.cell? (x.add i) = some (.int q (zs.getD i 0))) ∧ ∀ n ∈ zs, (Lit.int q n).wf = true

theorem IsInts.len {q : IntKind} {w : World} {a : Option Addr} {len cap : Nat} {ss : List Int} (h : IsInts q w a len cap ss) : len ≤ maxLen ∧ len ≤ cap ∧ cap ≤ maxLen := by
  rcases h with ⟨_, rfl, rfl, _⟩ | ⟨_, _, h1, h2, _⟩
  · exact ⟨Nat.zero_le _, Nat.le_refl _, Nat.zero_le _⟩
  · omega

theorem IsInts.at_ {q : IntKind} {w wr : World} {a : Option Addr} {len cap : Nat} {zs : List Int} (h : IsInts q w a len cap zs) (hb : Below w.heap.size w wr) {k : Nat} (hk : k < len) :
    ∃ b off z, a = some ⟨b, off, none⟩ ∧ z = zs.getD k 0 ∧ (Lit.int q z).wf = true ∧ wr.cell? ⟨b, off + k, none⟩ = some (.int q z) := by
  rcases h with ⟨_, rfl, _⟩ | ⟨⟨b, off, sp⟩, rfl, h1, h2, h3, h5, h6⟩
  · omega
  · have h0 := h5 0 (by omega)
    have hs : sp = none := by simpa [Addr.add] using World.cell?_spot h0
    subst hs
    have hc := h5 k (by omega)
    rw [add_lit] at hc
    have hlt := World.block_lt_of_cell? w _ hc
    refine ⟨b, off, _, rfl, rfl, ?_, (hb.cell (p := ⟨b, off + k, none⟩) hlt).trans hc⟩
    have : k < zs.length := by omega
    simp only [List.getD, List.getElem?_eq_getElem this, Option.getD_some]
    exact h6 _ (List.getElem_mem _)

end Go.Proofs.Ytnobiekgifjaeaa
