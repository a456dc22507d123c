/-
  The walks of the log's small functions.
-/
import Derived.Test.YtnobiekgifjaeaaW7
import Derived.Test.YtnobiekgifjaeaaW8
namespace Go.Proofs.Ytnobiekgifjaeaa
open Go.RowKit
attribute [local go_sem ↓] Go.wp_at_zero Go.wp_at_succ

def Lg.ats (g : Lg) : List Int := (places 1 g.recs).map fun (p : Nat) => (p : Int)
def Lg.idx (g : Lg) (x : Int) : Nat := g.ats.countP (· < x)
def Lg.has (g : Lg) (x : Int) : Bool := g.ats.contains x

theorem places_le : ∀ (l : List ByteArray) (p : Nat), ∀ q ∈ places p l, p ≤ q
  | [], _ => by simp [places]
  | s :: l, p => fun q hq => by
    rcases List.mem_cons.1 hq with rfl | hq
    · exact Nat.le_refl _
    · have := places_le l _ q hq
      omega
theorem places_sorted : ∀ (l : List ByteArray) (p : Nat), (places p l).Pairwise (· < ·)
  | [], _ => List.Pairwise.nil
  | s :: l, p => List.Pairwise.cons (fun q hq => by have := places_le l _ q hq; omega) (places_sorted l _)
theorem Lg.ats_length (g : Lg) : g.ats.length = g.recs.length := by simp [Lg.ats, places_length]
theorem Lg.ats_sorted (g : Lg) : g.ats.Pairwise (· ≤ ·) := by
  unfold Lg.ats
  rw [List.pairwise_map]
  exact (places_sorted g.recs 1).imp (by intro a b h; omega)

section
variable {w w' : World} {G : Nat → Prop} {lb db : Nat} {lv av : Value} {g : Lg}
/-- a record's cell -/
theorem WalIn.recCell (h : WalIn w G lb db lv av g) {i : Nat} {s : ByteArray} (hi : g.recs[i]? = some s) :
    ∃ b cap, lv = .slice (some ⟨b, 0, none⟩) g.recs.length cap ∧ g.recs.length ≤ cap ∧ cap ≤ maxLen ∧ i < g.recs.length ∧ w.cell? ⟨b, i, none⟩ = some (.string s) := by
  have hk : i < g.recs.length := (List.getElem?_eq_some_iff.1 hi).1
  rcases h.recs.2 with ⟨_, h0⟩ | ⟨b, cap, cur, e, _, hh, h1, h2, _⟩
  · omega
  · have := h.recs.cells (g := b) (by rw [e]; rfl) i (.string s) (by rw [List.getElem?_map, hi]; rfl)
    rw [addr_add] at this
    exact ⟨b, cap, e, h1, h2, hk, this⟩
/-- a record's place's cell -/
theorem WalIn.atCell (h : WalIn w G lb db lv av g) {i : Nat} {p : Nat} (hi : (places 1 g.recs)[i]? = some p) :
    ∃ b cap, av = .slice (some ⟨b, 0, none⟩) g.recs.length cap ∧ g.recs.length ≤ cap ∧ cap ≤ maxLen ∧ i < g.recs.length ∧ w.cell? ⟨b, i, none⟩ = some (.int .u64 (p : Int)) := by
  have hk : i < (places 1 g.recs).length := (List.getElem?_eq_some_iff.1 hi).1
  rw [places_length] at hk
  rcases h.ats.2 with ⟨_, h0⟩ | ⟨b, cap, cur, e, _, hh, h1, h2, _⟩
  · omega
  · have := h.ats.cells (g := b) (by rw [e]; rfl) i (lsn p) (by rw [List.getElem?_map, hi]; rfl)
    rw [addr_add] at this
    exact ⟨b, cap, e, h1, h2, hk, this⟩

set_option maxHeartbeats 1000000 in
theorem WalIn.bin (h : WalIn w G lb db lv av g) (x : Int) : Calls Try.prog 84 #[av, .int .u64 x] w fun e w' => e = .returned (.tuple #[.int .i64 (g.idx x : Int), .bool (g.has x)]) ∧ ∃ q, w' = w.drewN q := by
  have hl := h.ok.length
  obtain ⟨a, c, e0⟩ := own_form h.ats
  rcases h.ats.2 with ⟨e, h0⟩ | ⟨b, cap, cur, e, _, hh, h1, h2, _⟩
  · rw [e]
    exact bin_c none 0 0 0 (by simp) g.ats x w (by rw [g.ats_length]; exact h0.symm) (by omega) (fun j hj => by rw [g.ats_length] at hj; omega) g.ats_sorted (Nat.le_refl _) (by simp only [maxLen]; omega)
  · rw [e]
    refine bin_c (some ⟨b, 0, none⟩) b g.recs.length cap (fun _ => rfl) g.ats x w g.ats_length.symm (by omega) (fun j hj => ?_) g.ats_sorted h1 h2
    have hj' : j < g.recs.length := by rw [g.ats_length] at hj; exact hj
    have hp : (places 1 g.recs)[j]? = some ((places 1 g.recs)[j]'(by rw [places_length]; exact hj')) := List.getElem?_eq_getElem _
    obtain ⟨b', cap', e', _, _, _, hc⟩ := h.atCell hp
    rw [e] at e'
    cases e'
    rw [hc]
    simp only [Lg.ats, List.getD_eq_getElem?_getD, List.getElem?_map, hp]
    rfl
end

set_option maxHeartbeats 1000000 in
theorem lfind_c {w : World} {G : Nat → Prop} {lb db : Nat} {g : Lg} (h : WalAt w G lb db g) (x : Int) :
    Calls Try.prog 73 #[.pointer (some ⟨lb, 0, none⟩), .int .u64 x] w fun e w' => e = .returned (.tuple #[.int .i64 (g.idx x : Int), .bool (g.has x)]) ∧ ∃ q, w' = w.drewN q := by
  obtain ⟨lv, av, h⟩ := h
  have c2 := h.cells.2.2.1
  have HB := Lib.hid (h.bin x)
  clear h
  go_enter Try.func73, Try.ntmps73
  go_wp2_with (fail)
  refine HB.out.mono ?_
  rintro e w' ⟨rfl, q, rfl⟩
  go_wp2
  go_ret2
  exact ⟨rfl, _, rfl⟩
theorem lfind_nil (w : World) (x : Int) : Calls Try.prog 73 #[.pointer none, .int .u64 x] w fun e w' => e = .returned (.tuple #[.int .i64 0, .bool false]) ∧ w' = w := by
  go_enter Try.func73, Try.ntmps73
  go_wp2
  go_ret2
  exact ⟨rfl, rfl⟩
end Go.Proofs.Ytnobiekgifjaeaa
