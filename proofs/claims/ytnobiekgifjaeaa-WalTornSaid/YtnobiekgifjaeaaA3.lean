/-
  The disk: where the power fails is found in the plan.
-/
import Derived.Test.YtnobiekgifjaeaaA2
namespace Go.Proofs.Ytnobiekgifjaeaa
open Go.RowKit

/-- element k of a row of falls -/
theorem flsCells_at : ∀ (l : List Fl) (k : Nat) (f : Fl), l[k]? = some f → ∀ j, j < 5 → (flsCells l)[k * 5 + j]? = (flCells f)[j]?
  | [], _, _, h => by simp at h
  | y :: l, 0, x, h => by
    simp at h
    subst h
    intro j hj
    simp only [flsCells, List.flatMap_cons, Nat.zero_mul, Nat.zero_add]
    rw [List.getElem?_append_left (by simp [flCells]; omega)]
  | y :: l, k + 1, x, h => by
    intro j hj
    have ih := flsCells_at l k x (by simpa using h) j hj
    have e1 : (k + 1) * 5 + j = (flCells y).length + (k * 5 + j) := by simp [flCells]; omega
    simp only [flsCells, List.flatMap_cons]
    rw [e1, List.getElem?_append_right (by omega)]
    simpa [flsCells] using ih

theorem flsCells_length (l : List Fl) : (flsCells l).length = l.length * 5 := by
  induction l with
  | nil => rfl
  | cons x l ih => simp only [flsCells, List.flatMap_cons, List.length_append, List.length_cons] at ih ⊢; rw [ih]; simp [flCells]; omega

/-- a slice value that reads as falls -/
def FlsAt (w : World) (pv : Value) (l : List Fl) : Prop := (∃ a cap, pv = .slice a l.length cap ∧ l.length ≤ cap) ∧ ∀ k f, l[k]? = some f → ∃ g off cap, pv = .slice (some ⟨g, off, none⟩) l.length cap ∧ g < w.heap.size ∧ ∀ j, j < 5 → w.cell? ⟨g, off + k * 5 + j, none⟩ = (flCells f)[j]?

theorem FlsAt.keep {w w' : World} {pv : Value} {l : List Fl} (h : FlsAt w pv l) (hb : Below w.heap.size w w') : FlsAt w' pv l := by
  refine ⟨h.1, fun k f hk => ?_⟩
  obtain ⟨g, off, cap, e, hg, hc⟩ := h.2 k f hk
  exact ⟨g, off, cap, e, Nat.lt_of_lt_of_le hg hb.size, fun j hj => (hb.cell (p := ⟨g, off + k * 5 + j, none⟩) hg).trans (hc j hj)⟩

theorem FlsAt.of_own {w : World} {B : Nat} {pv : Value} {l : List Fl} (h : w.ownsRow B 39 5 pv l.length (flsCells l)) : FlsAt w pv l := by
  refine ⟨?_, fun k f hk => ?_⟩
  · rcases h.2 with ⟨rfl, e⟩ | ⟨g, cap, cur, e, _, hh, h1, h2, _⟩
    · exact ⟨none, 0, by rw [e], by omega⟩
    · exact ⟨_, cap, e, h1⟩
  rcases h.2 with ⟨_, h0⟩ | ⟨g, cap, cur, e, _, hh, h1, h2, _⟩
  · have := (List.getElem?_eq_some_iff.1 hk).1; omega
  · refine ⟨g, 0, cap, e, (Array.getElem?_eq_some_iff.1 hh).1, fun j hj => ?_⟩
    have hcells := h.cells (g := g) (by rw [e]; rfl)
    rw [← flsCells_at l k f hk j hj]
    cases hv : (flCells f)[j]? with
    | none => simp [flCells] at hv; omega
    | some v =>
      have h3 := flsCells_at l k f hk j hj
      rw [hv] at h3
      rw [h3]
      have := hcells _ _ h3
      rw [addr_add] at this
      simpa using this

theorem strikes1_c (f : Fl) (b bx : Nat) (n : Int) (w : World) (hx : w.cell? ⟨bx, 0, none⟩ = some (.pointer (some ⟨b, 0, none⟩))) (hn : w.cell? ⟨b, 6, none⟩ = some (.int .i64 n)) :
    Calls Try.prog 79 #[.agg (flCells f).toArray, .pointer (some ⟨bx, 0, none⟩)] w fun e w' => e = .returned (.bool (f.at_ == n)) ∧ Below w.heap.size w w' := by
  obtain ⟨fa, fk, ft, fb, fl⟩ := f
  simp only [flCells]
  have h1 := World.block_lt_of_cell? w _ hx
  have h2 := World.block_lt_of_cell? w _ hn
  simp only at h1 h2
  go_enter Try.func79, Try.ntmps79
  go_wp2
  go_quiet (fail)
  go_wp2
  go_ret
  exact ⟨rfl, ((Below.refl _ _).alloc (Nat.le_refl _) _).trans ⟨rfl, rfl, rfl, Nat.le_refl _, fun _ _ => rfl⟩⟩

def idxOf (n : Int) (l : List Fl) : Int := match findAt n l with | some i => i | none => -1

theorem findAt_none {n : Int} : ∀ {l : List Fl}, (∀ (k : Nat) (f : Fl), l[k]? = some f → f.at_ ≠ n) → findAt n l = none
  | [], _ => rfl
  | x :: l, h => by
    have h0 := h 0 x rfl
    have ih := findAt_none (l := l) (fun k f hk => h (k + 1) f (by simpa using hk))
    simp [findAt, h0, ih]

theorem findAt_some {n : Int} : ∀ {l : List Fl} {k : Nat} {f : Fl}, l[k]? = some f → f.at_ = n → (∀ (j : Nat) (g : Fl), j < k → l[j]? = some g → g.at_ ≠ n) → findAt n l = some k
  | [], _, _, h, _, _ => by simp at h
  | x :: l, 0, f, h, hf, _ => by
    simp at h
    subst h
    simp [findAt, hf]
  | x :: l, k + 1, f, h, hf, hn => by
    have h0 := hn 0 x (by omega) rfl
    have ih := findAt_some (l := l) (k := k) (by simpa using h) hf (fun j g hj hg => hn (j + 1) g (by omega) (by simpa using hg))
    simp [findAt, h0, ih]

theorem idxOf_some {n : Int} {l : List Fl} {k : Nat} (h : findAt n l = some k) : (k : Int) = idxOf n l := by unfold idxOf; rw [h]
theorem idxOf_none {n : Int} {l : List Fl} (h : findAt n l = none) : (-1 : Int) = idxOf n l := by unfold idxOf; rw [h]
theorem ret_int {k : IntKind} {a b : Int} (h : a = b) : Ending.returned (.int k a) = .returned (.int k b) := by rw [h]

set_option maxHeartbeats 1000000 in
theorem indexFall_c (l : List Fl) (pv : Value) (b bx : Nat) (n : Int) (w : World) (hl : FlsAt w pv l) (hlen : l.length ≤ 1000000000000) (hx : w.cell? ⟨bx, 0, none⟩ = some (.pointer (some ⟨b, 0, none⟩))) (hn : w.cell? ⟨b, 6, none⟩ = some (.int .i64 n)) :
    Calls Try.prog 78 #[pv, .func (.func 79) #[] #[.pointer (some ⟨bx, 0, none⟩)]] w fun e w' => e = .returned (.int .i64 (idxOf n l)) ∧ Below w.heap.size w w' := by
  have eg := enters_of (P := Try.prog) Try.func79 (by kernel_rfl) rfl
  obtain ⟨⟨pa, pc, rfl, hcap⟩, hl⟩ := hl
  have h1 := World.block_lt_of_cell? w _ hx
  have h2 := World.block_lt_of_cell? w _ hn
  simp only at h1 h2
  have HL := Lib.hid hl
  have HX := Lib.hid hx
  have HN := Lib.hid hn
  clear hl hx hn
  go_enter Try.func78, Try.ntmps78
  go_wp2
  go_loopw [8] (fun i wr => ∃ k : Nat, k ≤ l.length ∧ i = .int .i64 k ∧ Below w.heap.size w wr ∧ Hid (∀ (j : Nat) (g : Fl), j < k → l[j]? = some g → g.at_ ≠ n)) (fun i _ => l.length - (intOf i).toNat)
  case atStart => exact ⟨0, Nat.zero_le _, rfl, Below.refl _ _, fun j g hj => absurd hj (by omega)⟩
  case round =>
    obtain ⟨k, hk, rfl, hB, hA⟩ := hrel
    by_cases hlt : k < l.length
    · obtain ⟨f, hf⟩ : ∃ f, l[k]? = some f := ⟨_, List.getElem?_eq_getElem hlt⟩
      obtain ⟨g, off, cap, e, hg, hc⟩ := HL.out k f hf
      simp only [Value.slice.injEq] at e
      obtain ⟨rfl, -, rfl⟩ := e
      have cell : ∀ j, j < 5 → wr.cell? ⟨g, off + k * 5 + j, none⟩ = (flCells f)[j]? := fun j hj => (hB.cell (p := ⟨g, off + k * 5 + j, none⟩) hg).trans (hc j hj)
      have c0 : wr.cell? ⟨g, off + k * 5, none⟩ = some (.int .i64 f.at_) := cell 0 (by omega)
      have c1 : wr.cell? ⟨g, off + k * 5 + 1, none⟩ = some (.int .u64 f.keep) := cell 1 (by omega)
      have c2 : wr.cell? ⟨g, off + k * 5 + 2, none⟩ = some (.int .i64 f.torn) := cell 2 (by omega)
      have c3 : wr.cell? ⟨g, off + k * 5 + 3, none⟩ = some (.int .i64 f.bytes) := cell 3 (by omega)
      have c4 : wr.cell? ⟨g, off + k * 5 + 4, none⟩ = some (.int .i64 f.log) := cell 4 (by omega)
      have hcall := Lib.hid (strikes1_c f b bx n wr ((hB.cell (p := ⟨bx, 0, none⟩) h1).trans HX.out) ((hB.cell (p := ⟨b, 6, none⟩) h2).trans HN.out))
      have HF := Lib.hid hf
      have HB := Lib.hid hB
      simp only [flCells] at hcall
      by_cases hq : f.at_ = n
      · have hq' : (f.at_ == n) = true := by simpa using hq
        rw [hq'] at hcall
        have HE := Lib.hid (idxOf_some (findAt_some HF.out hq hA.out))
        clear hc cell hf hB hq hq'
        go_wp2_with (go_at_call 79; refine hcall.out.mono ?_; rintro e w' ⟨rfl, hb'⟩)
        go_ret
        exact ⟨ret_int HE.out, HB.out.trans (hb'.mono HB.out.size)⟩
      · have hq' : (f.at_ == n) = false := by simpa using hq
        rw [hq'] at hcall
        have HA : Hid (∀ (j : Nat) (g : Fl), j < k + 1 → l[j]? = some g → g.at_ ≠ n) := fun j g hj hg => by
          by_cases e : j = k
          · subst e
            rw [HF.out] at hg
            cases hg
            exact hq
          · exact hA.out j g (by omega) hg
        clear hc cell hf hB hq hq' hA
        go_wp2_with (go_at_call 79; refine hcall.out.mono ?_; rintro e w' ⟨rfl, hb'⟩)
        go_roundw
        case rel => exact ⟨k + 1, by omega, by go_num, HB.out.trans (hb'.mono HB.out.size), HA⟩
        case measure => simp [intOf]; omega
    · obtain rfl : k = l.length := by omega
      have HE := Lib.hid (idxOf_none (findAt_none (fun k f hk => hA.out k f (List.getElem?_eq_some_iff.1 hk).1 hk)))
      have HB := Lib.hid hB
      clear hA hB
      go_wp2
      go_ret
      exact ⟨ret_int HE.out, HB.out⟩
end Go.Proofs.Ytnobiekgifjaeaa
