/-
  A law's own rows beside the log and its disk.
-/
import Derived.Test.YtpnndlahfllbhaaGreatUKW
import Derived.Test.YtpnndlahfllbhaaGreatUKX
namespace Go.Proofs.YtpnndlahfllbhaaGreat
open Go Go.RowKit

section
variable {P : Program} {ops : Array Oper} {Q : Exit → Act → World → Prop} {md : Region.Mode} {S : World → Prop} {late : List Nat}
theorem wpAnyL_done {listed : Array Bool} {a : Act} {w : World} (hr : Region.ready md ops listed = []) (h : Q .normal a w) : ∀ fuel, wpAnyL P md ops Q S late fuel listed a w
  | 0 => ⟨hr, h⟩
  | _ + 1 => ⟨fun _ => h, by rw [hr]; simp⟩
end

/-- one cell -/
def OneC (a : Addr) (v : Value) (w : World) : Prop := w.cell? a = some v
theorem OneC.drew {a : Addr} {v : Value} {w : World} (h : OneC a v w) : OneC a v w.drew := h
theorem OneC.alloc {a : Addr} {v : Value} {w : World} (h : OneC a v w) (o : Obj) : OneC a v (w.alloc o) := (World.cell?_alloc_lt _ _ _ (World.block_lt_of_cell? w a h)).trans h
theorem OneC.grown {a : Addr} {v : Value} {w w' : World} {X : Option Nat} (h : OneC a v w) (hg : w.grownBy w' X) (hx : some a.block ≠ X) : OneC a v w' :=
  (World.cell?_of_block (hg.block a.block (World.block_lt_of_cell? w a h) hx)).trans h

section
variable {w0 w w' : World} {K K' : Nat → Prop} {P P' : World → Prop} {b lb : Nat} {m : Dk} {g : Lg} {lg : ByteArray} {mk : Int}
/-- the law works on what is its own -/
theorem LX.turn (h : LX w0 K P b lb m g w) (hs : Step K w w') (hk : ∀ r, K' r → (K r ∨ w.heap.size ≤ r) ∧ r < w'.heap.size) (hp : P' w') : LX w0 K' P' b lb m g w' := by
  obtain ⟨F, G, h1, h2, h3, h4, h5⟩ := h
  have hlt : ∀ r, F r ∨ G r → r < w.heap.size := fun r hr => by
    rcases hr with hr | hr
    · exact h1.dsk.lt r hr
    · exact h1.wal.lt r hr
  refine ⟨F, G, h1.keep (fun r hr => hs.block r (hlt r hr) (h2 r hr).2) hs.size, fun r hr => ⟨(h2 r hr).1, fun hk' => ?_⟩, fun r hr => ⟨?_, (hk r hr).2⟩, hp, h5.trans (hs.belowB (fun r hr => (h3 r hr).1) h5.size)⟩
  · rcases (hk r hk').1 with h6 | h6
    · exact (h2 r hr).2 h6
    · have := hlt r hr
      omega
  · have := h5.size
    rcases (hk r hr).1 with h6 | h6
    · exact (h3 r h6).1
    · omega
theorem LW.turn (h : LW w0 K P b lb lg mk g w) (hs : Step K w w') (hk : ∀ r, K' r → (K r ∨ w.heap.size ≤ r) ∧ r < w'.heap.size) (hp : P' w') : LW w0 K' P' b lb lg mk g w' := by
  obtain ⟨c, h⟩ := h
  exact ⟨c, h.turn hs hk hp⟩
theorem DX.turn (h : DX w0 K P b m w) (hs : Step K w w') (hk : ∀ r, K' r → (K r ∨ w.heap.size ≤ r) ∧ r < w'.heap.size) (hp : P' w') : DX w0 K' P' b m w' := by
  obtain ⟨F, h1, h2, h3, h4, h5⟩ := h
  refine ⟨F, h1.keep (fun r hr => hs.block r (h1.lt r hr) (h2 r hr).2) hs.size, fun r hr => ⟨(h2 r hr).1, fun hk' => ?_⟩, fun r hr => ⟨?_, (hk r hr).2⟩, hp, h5.trans (hs.belowB (fun r hr => (h3 r hr).1) h5.size)⟩
  · rcases (hk r hk').1 with h6 | h6
    · exact (h2 r hr).2 h6
    · have := h1.lt r hr
      omega
  · have := h5.size
    rcases (hk r hr).1 with h6 | h6
    · exact (h3 r h6).1
    · omega
theorem LX.ranges (h : LX w0 K P b lb m g w) : ∀ r, K r → w0.heap.size ≤ r ∧ r < w.heap.size := by obtain ⟨F, G, _, _, h, _⟩ := h; exact h
theorem LW.ranges (h : LW w0 K P b lb lg mk g w) : ∀ r, K r → w0.heap.size ≤ r ∧ r < w.heap.size := by obtain ⟨c, h⟩ := h; exact h.ranges
end

end Go.Proofs.YtpnndlahfllbhaaGreat
