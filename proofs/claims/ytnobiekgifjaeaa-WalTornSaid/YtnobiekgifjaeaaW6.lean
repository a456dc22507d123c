/-
  The log in memory.
-/
import Derived.Test.YtnobiekgifjaeaaW5
import Derived.Deep.AppendLies
import Derived.Deep.RegionHeld3
import Derived.Deep.DrawnRows
namespace Go.Proofs.Ytnobiekgifjaeaa
open Go.RowKit

/-- the log: its records, how many are flushed, the room that is kept, the frames that are not flushed, the master -/
structure Lg where
  recs : List ByteArray
  sure : Nat
  kept : Int
  tail : ByteArray
  marks : Nat

/-- where records begin -/
def places (p : Nat) : List ByteArray → List Nat
  | [] => []
  | s :: l => p :: places (p + s.size + 12) l
/-- where the next record will be -/
def endFrom (p : Nat) : List ByteArray → Nat
  | [] => p
  | s :: l => endFrom (p + s.size + 12) l
def Lg.end_ (g : Lg) : Nat := endFrom 1 g.recs
/-- the frames of records -/
def frames (p : Nat) : List ByteArray → ByteArray
  | [] => ⟨#[]⟩
  | s :: l => frameB p s ++ frames (p + s.size + 12) l

theorem places_length : ∀ (l : List ByteArray) (p : Nat), (places p l).length = l.length
  | [], _ => rfl
  | s :: l, p => by simp [places, places_length l]
theorem places_snoc (s : ByteArray) : ∀ (l : List ByteArray) (p : Nat), places p (l ++ [s]) = places p l ++ [endFrom p l]
  | [], _ => rfl
  | x :: l, p => by simp [places, endFrom, places_snoc s l]
theorem endFrom_snoc (s : ByteArray) : ∀ (l : List ByteArray) (p : Nat), endFrom p (l ++ [s]) = endFrom p l + s.size + 12
  | [], _ => rfl
  | x :: l, p => by simp [endFrom, endFrom_snoc s l]
theorem frames_snoc (s : ByteArray) : ∀ (l : List ByteArray) (p : Nat), frames p (l ++ [s]) = frames p l ++ frameB (endFrom p l) s
  | [], p => by
    apply ByteArray.ext
    simp [frames, endFrom, ByteArray.data_append]
  | x :: l, p => by simp only [List.cons_append, frames, endFrom, frames_snoc s l, ByteArray.append_assoc]
theorem frames_size : ∀ (l : List ByteArray) (p : Nat), (frames p l).size + p = endFrom p l
  | [], p => by simp [frames, endFrom, ByteArray.size]
  | x :: l, p => by
    have := frames_size l (p + x.size + 12)
    rw [frames, endFrom, ByteArray.size_append, frameB_size]
    omega
theorem endFrom_le : ∀ (l : List ByteArray) (p : Nat), p ≤ endFrom p l
  | [], _ => Nat.le_refl _
  | x :: l, p => by
    have := endFrom_le l (p + x.size + 12)
    rw [endFrom]
    omega
theorem endFrom_length : ∀ (l : List ByteArray) (p : Nat), p + 12 * l.length ≤ endFrom p l
  | [], _ => Nat.le_refl _
  | x :: l, p => by
    have := endFrom_length l (p + x.size + 12)
    rw [endFrom, List.length_cons]
    omega

structure Lg.ok (g : Lg) : Prop where
  end_le : g.end_ ≤ 4194305
  recs : ∀ s ∈ g.recs, 1 ≤ s.size ∧ s.size ≤ 8192
  sure : g.sure ≤ g.recs.length
  kept1 : 0 ≤ g.kept
  kept2 : g.kept ≤ 4194304
  tail : g.tail.size ≤ 5000000
  marks : g.marks < 18446744073709551616

theorem Lg.ok.length {g : Lg} (h : g.ok) : g.recs.length ≤ 349526 := by
  have h1 := h.end_le
  have h2 := endFrom_length g.recs 1
  unfold Lg.end_ at h1
  omega
theorem Lg.end_pos (g : Lg) : 1 ≤ g.end_ := endFrom_le g.recs 1

def lgCells (db : Nat) (lv av : Value) (g : Lg) : Array Value := #[.pointer (some ⟨db, 0, none⟩), lv, av, .int .u64 (g.end_ : Int), .int .i64 (g.sure : Int), .int .i64 g.kept, .string g.tail, .int .u64 (g.marks : Int)]
def lsn (p : Nat) : Value := .int .u64 (p : Int)

/-- the log g of the disk at db lies at block lb, in the blocks of G -/
structure WalIn (w : World) (G : Nat → Prop) (lb db : Nat) (lv av : Value) (g : Lg) : Prop where
  blk : Blk w lb 119 (lgCells db lv av g)
  recs : w.ownsRow 0 9 1 lv g.recs.length (g.recs.map Value.string)
  ats : w.ownsRow 0 67 1 av g.recs.length ((places 1 g.recs).map lsn)
  gb : G lb
  gl : ∀ k, lv.ownBlock = some k → G k
  ga : ∀ k, av.ownBlock = some k → G k
  ok : g.ok
  lt : ∀ r, G r → r < w.heap.size

def WalAt (w : World) (G : Nat → Prop) (lb db : Nat) (g : Lg) : Prop := ∃ lv av, WalIn w G lb db lv av g

section
variable {w w' : World} {G : Nat → Prop} {lb db : Nat} {lv av : Value} {g : Lg}
theorem WalIn.keep (h : WalIn w G lb db lv av g) (hk : ∀ r, G r → w'.heap[r]? = w.heap[r]?) (hs : w.heap.size ≤ w'.heap.size) : WalIn w' G lb db lv av g :=
  ⟨h.blk.same (hk _ h.gb), own_same h.recs (fun k hg => hk _ (h.gl k hg)), own_same h.ats (fun k hg => hk _ (h.ga k hg)), h.gb, h.gl, h.ga, h.ok, fun r hr => Nat.lt_of_lt_of_le (h.lt r hr) hs⟩
theorem WalAt.keep (h : WalAt w G lb db g) (hk : ∀ r, G r → w'.heap[r]? = w.heap[r]?) (hs : w.heap.size ≤ w'.heap.size) : WalAt w' G lb db g := by
  obtain ⟨lv, av, h⟩ := h
  exact ⟨lv, av, h.keep hk hs⟩
theorem WalAt.below (h : WalAt w G lb db g) (hb : Below w.heap.size w w') : WalAt w' G lb db g := h.keep (fun r hr => hb.block r (by obtain ⟨_, _, h⟩ := h; exact h.lt r hr)) hb.size
theorem WalIn.below (h : WalIn w G lb db lv av g) (hb : Below w.heap.size w w') : WalIn w' G lb db lv av g := h.keep (fun r hr => hb.block r (h.lt r hr)) hb.size
theorem WalAt.ok (h : WalAt w G lb db g) : g.ok := by obtain ⟨_, _, h⟩ := h; exact h.ok
theorem WalAt.lt (h : WalAt w G lb db g) : ∀ r, G r → r < w.heap.size := by obtain ⟨_, _, h⟩ := h; exact h.lt

theorem WalIn.cells (h : WalIn w G lb db lv av g) :
    w.cell? ⟨lb, 0, none⟩ = some (.pointer (some ⟨db, 0, none⟩)) ∧ w.cell? ⟨lb, 1, none⟩ = some lv ∧ w.cell? ⟨lb, 2, none⟩ = some av ∧ w.cell? ⟨lb, 3, none⟩ = some (.int .u64 (g.end_ : Int)) ∧
    w.cell? ⟨lb, 4, none⟩ = some (.int .i64 (g.sure : Int)) ∧ w.cell? ⟨lb, 5, none⟩ = some (.int .i64 g.kept) ∧ w.cell? ⟨lb, 6, none⟩ = some (.string g.tail) ∧ w.cell? ⟨lb, 7, none⟩ = some (.int .u64 (g.marks : Int)) ∧
    ∀ i, w.frozen? ⟨lb, i, none⟩ = false :=
  ⟨h.blk.cell 0, h.blk.cell 1, h.blk.cell 2, h.blk.cell 3, h.blk.cell 4, h.blk.cell 5, h.blk.cell 6, h.blk.cell 7, h.blk.frozen⟩

/-- a store into one of the log's own cells -/
theorem WalIn.set (h : WalIn w G lb db lv av g) (i : Nat) (u : Value) (g' : Lg) (hcs : (lgCells db lv av g).setIfInBounds i u = lgCells db lv av g') (hr : g'.recs = g.recs) (hok : g'.ok) :
    WalIn (w.setCell ⟨lb, i, none⟩ u) G lb db lv av g' := by
  have ho : ∀ r, r ≠ lb → (w.setCell ⟨lb, i, none⟩ u).heap[r]? = w.heap[r]? := fun r hr => Below.heap_setCell w _ u r hr
  refine ⟨?_, ?_, ?_, h.gb, h.gl, h.ga, hok, fun r hr => by have := h.lt r hr; simpa [World.setCell] using this⟩
  · have := h.blk.set_ i u
    rw [hcs] at this
    exact this
  · rw [hr]; exact own_same h.recs (fun k hg => ho k (fun e => own_blk_ne h.recs h.blk (by decide) (by rw [hg, e])))
  · rw [hr]; exact own_same h.ats (fun k hg => ho k (fun e => own_blk_ne h.ats h.blk (by decide) (by rw [hg, e])))
end

/-- what a call that works on the log alone leaves -/
def WPost (w : World) (G : Nat → Prop) (lb db : Nat) (g : Lg) (w' : World) : Prop := ∃ G', WalAt w' G' lb db g ∧ Step G w w' ∧ More G G' w

theorem WPost.mk' {w w' : World} {G : Nat → Prop} {lb db : Nat} {lv av : Value} {g : Lg} (h : WalIn w' G lb db lv av g) (hs : Step G w w') : WPost w G lb db g w' := ⟨G, ⟨lv, av, h⟩, hs, More.refl G w⟩

theorem infoString : (Try.prog.info? 9).map (fun i => (i.zero, i.size, i.bytes)) = some (some (.string ⟨#[]⟩), 1, 16) := by kernel_rfl
theorem infoLSN : (Try.prog.info? 67).map (fun i => (i.zero, i.size, i.bytes)) = some (some (.int .u64 0), 1, 8) := by kernel_rfl
end Go.Proofs.Ytnobiekgifjaeaa
