/-
  What a walk is told of slices of strings that came in.
-/
import Derived.Test.YtnobiekgifjaeaaB2
namespace Go.Proofs.Ytnobiekgifjaeaa
open Go.RowKit

/-- a slice of strings that came in: nil, or a row of cells -/
def IsStrs (w : World) (a : Option Addr) (len cap : Nat) (ss : List ByteArray) : Prop :=
  (a = none ∧ len = 0 ∧ cap = 0 ∧ ss = []) ∨
  ∃ x, a = some x ∧ len ≤ cap ∧ cap ≤ maxLen ∧ ss.length = cap ∧ (∀ i, i < cap → w.cell? (x.add i) = some (.string (ss.getD i ByteArray.empty))) ∧ ∀ s ∈ ss, s.size ≤ maxLen

theorem IsStrs.len {w : World} {a : Option Addr} {len cap : Nat} {ss : List ByteArray} (h : IsStrs w a len cap ss) : len ≤ maxLen := by
  rcases h with ⟨_, rfl, _⟩ | ⟨_, _, h1, h2, _⟩
  · exact Nat.zero_le _
  · omega

theorem IsStrs.at_ {w wr : World} {a : Option Addr} {len cap : Nat} {ss : List ByteArray} (h : IsStrs w a len cap ss) (hb : Below w.heap.size w wr) {k : Nat} (hk : k < len) :
    ∃ b off s, a = some ⟨b, off, none⟩ ∧ s = ss.getD k ByteArray.empty ∧ s.size ≤ maxLen ∧ wr.cell? ⟨b, off + k, none⟩ = some (.string s) := by
  rcases h with ⟨_, rfl, _⟩ | ⟨⟨b, off, sp⟩, rfl, h1, h2, h3, h5, h6⟩
  · omega
  · have h0 := h5 0 (by omega)
    have hs : sp = none := by simpa [Addr.add] using World.cell?_spot h0
    subst hs
    have hc := h5 k (by omega)
    rw [add_lit] at hc
    have hlt := World.block_lt_of_cell? w _ hc
    refine ⟨b, off, _, rfl, rfl, ?_, (hb.cell (p := ⟨b, off + k, none⟩) hlt).trans hc⟩
    have : k < ss.length := by omega
    simp only [List.getD, List.getElem?_eq_getElem this, Option.getD_some]
    exact h6 _ (List.getElem_mem _)

def cutTo (s : ByteArray) : ByteArray := if 1000 < s.size then s.extract 0 1000 else s
theorem cutTo_size (s : ByteArray) : (cutTo s).size ≤ 1000 := by
  unfold cutTo
  split
  · rw [ByteArray.size_extract]; omega
  · omega

theorem append_nil (a : ByteArray) : a ++ (⟨#[]⟩ : ByteArray) = a := by
  apply ByteArray.ext
  simp [ByteArray.data_append]

/-- a log of the disk: nothing else is loose -/
structure LogOnly (m : Dk) (l t : ByteArray) : Prop where
  dead : m.dead = false
  plan : m.plan = []
  loose : m.loose = []
  log : m.log = l
  tail : m.tail = t

theorem logFall_ok {keep : Int} (h1 : -9223372036854775808 ≤ keep) (h2 : keep ≤ 9223372036854775807) : Fl.ok ⟨0, 0, 0, 0, keep⟩ := by
  refine ⟨?_, ?_, ?_, ?_, ?_, ?_, ?_, ?_, h1, h2⟩
  all_goals
    dsimp only
    omega

theorem ret_bool {a b : Bool} (h : a = b) : Ending.returned (.bool a) = .returned (.bool b) := by rw [h]
theorem extract_all (a : ByteArray) : a.extract 0 a.size = a := by
  apply ByteArray.ext
  rw [ByteArray.data_extract]
  exact Array.extract_size

theorem beq_toList (a : ByteArray) : (a.toList == a.toList) = true := by simp
end Go.Proofs.Ytnobiekgifjaeaa
