/-
  The plain law of places.
-/
import Derived.Test.YtpnndlahfllbhaaGreatUKX
import Derived.Test.YtpnndlahfllbhaaGreatUKF
namespace Go.Proofs.YtpnndlahfllbhaaGreat
open Go.RowKit

/-- where record j begins; behind the last: the end -/
def pl (l : List ByteArray) (j : Nat) : Nat := endFrom 1 (l.take j)
theorem pl_zero (l : List ByteArray) : pl l 0 = 1 := rfl
theorem pl_end (g : Lg) : pl g.recs g.recs.length = g.end_ := by unfold pl Lg.end_; rw [List.take_length]
theorem pl_next {l : List ByteArray} {j : Nat} {x : ByteArray} (h : l[j]? = some x) : pl l (j + 1) = pl l j + x.size + 12 := endFrom_take l h 1
theorem places_get : ∀ (l : List ByteArray) (p j : Nat), j < l.length → (places p l)[j]? = some (endFrom p (l.take j))
  | [], _, _, h => by simp at h
  | x :: l, p, 0, _ => rfl
  | x :: l, p, j + 1, h => by
    have := places_get l (p + x.size + 12) j (by simpa using h)
    simpa [places, endFrom] using this
theorem pl_get {l : List ByteArray} {j : Nat} (h : j < l.length) : (places 1 l)[j]? = some (pl l j) := places_get l 1 j h
theorem pl_mono (l : List ByteArray) : ∀ (d i : Nat), i + d ≤ l.length → pl l i + 12 * d ≤ pl l (i + d)
  | 0, i, _ => Nat.le_refl _
  | d + 1, i, h => by
    have h1 := pl_mono l d i (by omega)
    obtain ⟨x, hx⟩ : ∃ x, l[i + d]? = some x := ⟨_, List.getElem?_eq_getElem (by omega)⟩
    have h2 := pl_next hx
    rw [show i + (d + 1) = (i + d) + 1 by omega]
    omega
theorem pl_lt {l : List ByteArray} {i j : Nat} (h : i < j) (hj : j ≤ l.length) : pl l i + 12 ≤ pl l j := by
  have := pl_mono l (j - i) i (by omega)
  rw [show i + (j - i) = j by omega] at this
  omega
theorem pl_le {l : List ByteArray} {i j : Nat} (h : i ≤ j) (hj : j ≤ l.length) : pl l i ≤ pl l j := by
  rcases Nat.lt_or_ge i j with h1 | h1
  · have := pl_lt h1 hj
    omega
  · rw [show i = j by omega]
    exact Nat.le_refl _
theorem pl_le_end (g : Lg) {j : Nat} (hj : j ≤ g.recs.length) : pl g.recs j ≤ g.end_ := by rw [← pl_end]; exact pl_le hj (Nat.le_refl _)

theorem ats_getD (g : Lg) {j : Nat} (h : j < g.recs.length) : g.ats.getD j 0 = (pl g.recs j : Int) := by
  unfold Lg.ats
  rw [List.getD_eq_getElem?_getD, List.getElem?_map, pl_get h]
  rfl
theorem idx_pl (g : Lg) {j : Nat} (hj : j ≤ g.recs.length) : g.idx (pl g.recs j : Int) = j := by
  refine Lib.countP_split _ g.ats j (by rw [g.ats_length]; exact hj) (fun i hi => ?_) (fun i hi hl => ?_)
  · rw [ats_getD g (by omega)]
    have := pl_lt hi hj
    exact decide_eq_true (by omega)
  · rw [g.ats_length] at hl
    rw [ats_getD g hl]
    have := pl_le hi (Nat.le_of_lt hl)
    exact decide_eq_false (by omega)
theorem has_pl (g : Lg) {j : Nat} (hj : j < g.recs.length) : g.has (pl g.recs j : Int) = true := by
  unfold Lg.has
  rw [List.contains_eq_mem, decide_eq_true_iff]
  unfold Lg.ats
  exact List.mem_map.2 ⟨pl g.recs j, List.mem_of_getElem? (pl_get hj), rfl⟩
/-- a walk's own look at the log -/
theorem get_at {w : World} {G : Nat → Prop} {lb db : Nat} {g : Lg} (h : WalAt w G lb db g) {j : Nat} {s : ByteArray} (hj : g.recs[j]? = some s) :
    Calls Tryz.prog 68 #[.pointer (some ⟨lb, 0, none⟩), .int .u64 (pl g.recs j : Int)] w fun e w' => e = .returned (.tuple #[.string s, .int .u64 (pl g.recs (j + 1) : Int), .bool true]) ∧ ∃ q, w' = w.drewN q := by
  have hl := (List.getElem?_eq_some_iff.1 hj).1
  have hx := pl_le_end g (Nat.le_of_lt hl)
  have he := h.ok.end_le
  have := lget_hit h (x := pl g.recs j) (s := s) (has_pl g hl) (by rw [idx_pl g (Nat.le_of_lt hl)]; exact hj) (by omega)
  rw [pl_next hj]
  exact this
end Go.Proofs.YtpnndlahfllbhaaGreat
