/-
  The parts of 'WalPlays'.
-/
import Derived.Test.YtnobiekgifjaeaaV3
namespace Go.Proofs.Ytnobiekgifjaeaa
open Go.RowKit
attribute [local go_sem ↓] Go.wp_at_zero Go.wp_at_succ

/-- what is in memory alone; where the last checkpoint is -/
structure Lg.fits (g : Lg) : Prop where
  tail : g.tail = frames (pl g.recs g.sure) (g.recs.drop g.sure)
  marks : g.marks = 0 ∨ ∃ j, j < g.sure ∧ pl g.recs j = g.marks
theorem Lg.fits.size {g : Lg} (h : g.fits) : (frames 1 (g.recs.take g.sure)).size + g.tail.size + 1 = g.end_ := by
  have e : g.end_ = endFrom (pl g.recs g.sure) (g.recs.drop g.sure) := by
    unfold Lg.end_ pl
    rw [← endFrom_append, List.take_append_drop]
  have h1 := frames_size (g.recs.take g.sure) 1
  have h2 := frames_size (g.recs.drop g.sure) (pl g.recs g.sure)
  rw [e, h.tail]
  unfold pl at *
  omega
theorem Lg.fits.tight {g : Lg} (h : g.fits) : g.tight := by
  have := h.size
  unfold Lg.tight
  omega
theorem Lg.fits.whole {g : Lg} (h : g.fits) : frames 1 (g.recs.take g.sure) ++ g.tail = frames 1 g.recs := by
  rw [h.tail]
  unfold pl
  rw [← frames_append, List.take_append_drop]
theorem pl_push {l : List ByteArray} {j : Nat} (s : ByteArray) (h : j ≤ l.length) : pl (l ++ [s]) j = pl l j := by
  unfold pl
  rw [List.take_append_of_le_length h]
theorem pl_take {l : List ByteArray} {i j : Nat} (h : i ≤ j) : pl (l.take j) i = pl l i := by
  unfold pl
  rw [List.take_take, Nat.min_eq_left h]
theorem Lg.fits.add {g : Lg} (h : g.fits) (ho : g.sure ≤ g.recs.length) (s : ByteArray) : (g.add s).fits := by
  refine ⟨?_, ?_⟩
  · show g.tail ++ frameB g.end_ s = frames (pl (g.recs ++ [s]) g.sure) ((g.recs ++ [s]).drop g.sure)
    rw [pl_push s ho, List.drop_append_of_le_length ho, frames_snoc, h.tail]
    congr 2
    unfold Lg.end_ pl
    rw [← endFrom_append, List.take_append_drop]
  · show g.marks = 0 ∨ ∃ j, j < g.sure ∧ pl (g.recs ++ [s]) j = g.marks
    rcases h.marks with e | ⟨j, hj, e⟩
    · exact .inl e
    · exact .inr ⟨j, hj, by rw [pl_push s (by omega)]; exact e⟩
theorem Lg.fits.tail_nil {g : Lg} (h : g.fits) (ho : g.sure ≤ g.recs.length) : g.tail = ⟨#[]⟩ ↔ g.sure = g.recs.length := by
  have h2 := frames_size (g.recs.drop g.sure) (pl g.recs g.sure)
  have h3 := endFrom_length (g.recs.drop g.sure) (pl g.recs g.sure)
  rw [List.length_drop] at h3
  rw [← h.tail] at h2
  constructor
  · intro e
    rw [e] at h2
    have : (⟨#[]⟩ : ByteArray).size = 0 := rfl
    omega
  · intro e
    rw [h.tail, e, List.drop_length]
    rfl
/-- flushed up to a place: all that was not -/
theorem Lg.fits.flush {g : Lg} (h : g.fits) (ho : g.sure ≤ g.recs.length) (x : Int) : (g.flush x).fits ∧ (g.flush x).recs = g.recs ∧ (g.flush x).kept = g.kept ∧ (g.flush x).marks = g.marks ∧
    (g.flush x).sure = (if g.sure < g.recs.length ∧ (pl g.recs g.sure : Int) ≤ x then g.recs.length else g.sure) ∧ g.flushLog (frames 1 (g.recs.take g.sure)) x = frames 1 ((g.flush x).recs.take (g.flush x).sure) := by
  have hfl := Lg.flushed_pl ho
  have ht := h.tail_nil ho
  by_cases hc : g.tail = ⟨#[]⟩ ∨ x < (g.flushed : Int)
  · have e1 : g.flush x = g := by unfold Lg.flush; rw [if_pos hc]
    have e2 : g.flushLog (frames 1 (g.recs.take g.sure)) x = frames 1 (g.recs.take g.sure) := by unfold Lg.flushLog; rw [if_pos hc]
    rw [e1, e2]
    refine ⟨h, rfl, rfl, rfl, ?_, rfl⟩
    rw [if_neg]
    rw [ht, hfl] at hc
    omega
  · have e1 : g.flush x = { g with tail := ⟨#[]⟩, sure := g.recs.length } := by unfold Lg.flush; rw [if_neg hc]
    have e2 : g.flushLog (frames 1 (g.recs.take g.sure)) x = frames 1 (g.recs.take g.sure) ++ g.tail := by unfold Lg.flushLog; rw [if_neg hc]
    rw [e1, e2, h.whole]
    rw [ht, hfl] at hc
    refine ⟨⟨?_, ?_⟩, rfl, rfl, rfl, ?_, ?_⟩
    · show (⟨#[]⟩ : ByteArray) = frames _ (g.recs.drop g.recs.length)
      rw [List.drop_length]; rfl
    · show g.marks = 0 ∨ ∃ j, j < g.recs.length ∧ pl g.recs j = g.marks
      rcases h.marks with e | ⟨j, hj, e⟩
      · exact .inl e
      · exact .inr ⟨j, by omega, e⟩
    · rw [if_pos (by omega)]
    · show _ = frames 1 (g.recs.take g.recs.length)
      rw [List.take_length]
theorem fits_kept {g : Lg} (h : g.fits) (k : Int) : ({ g with kept := k } : Lg).fits := ⟨h.tail, h.marks⟩
theorem fits_marks {g : Lg} (h : g.fits) {x : Nat} (hx : ∃ j, j < g.sure ∧ pl g.recs j = x) : ({ g with marks := x } : Lg).fits := ⟨h.tail, .inr hx⟩
/-- what stands up behind a fall -/
theorem fits_open {g : Lg} (h : g.fits) (ho : g.sure ≤ g.recs.length) : (openG (g.recs.take g.sure) (g.marks : Int)).fits ∧ (openG (g.recs.take g.sure) (g.marks : Int)).marks = g.marks ∧ (openG (g.recs.take g.sure) (g.marks : Int)).sure = g.sure := by
  have hl : (g.recs.take g.sure).length = g.sure := by rw [List.length_take]; omega
  have hm : (openG (g.recs.take g.sure) (g.marks : Int)).marks = g.marks := by
    show (if ((openK (g.recs.take g.sure)).has (g.marks : Int)) then (g.marks : Int).toNat else 0) = g.marks
    rcases h.marks with e | ⟨j, hj, e⟩
    · rw [e]
      split <;> rfl
    · rw [if_pos ((has_iff _ _).2 ⟨j, by show j < (g.recs.take g.sure).length; omega, by show ((pl (g.recs.take g.sure) j : Nat) : Int) = _; rw [pl_take (Nat.le_of_lt hj), e]⟩)]
      rfl
  refine ⟨⟨?_, ?_⟩, hm, hl⟩
  · show (⟨#[]⟩ : ByteArray) = frames _ ((g.recs.take g.sure).drop (g.recs.take g.sure).length)
    rw [List.drop_length]; rfl
  · rw [hm]
    rcases h.marks with e | ⟨j, hj, e⟩
    · exact .inl e
    · exact .inr ⟨j, by show j < (g.recs.take g.sure).length; omega, by show pl (g.recs.take g.sure) j = _; rw [pl_take (Nat.le_of_lt hj), e]⟩
theorem fits_new : (openG [] 0).fits := ⟨rfl, .inl rfl⟩

/-! the law's own boxes; one that lies farther off -/
abbrev Ob := Option (Nat × TypeId × Array Value)
def obK (ob : Ob) (r : Nat) : Prop := ∃ t cs, ob = some (r, t, cs)
def obP (ob : Ob) (W : World) : Prop := ∀ r t cs, ob = some (r, t, cs) → Blk W r t cs
def bxK (ob : Ob) (lv : Value) (hs n : Nat) : Nat → Prop := fun r => lv.ownBlock = some r ∨ (hs ≤ r ∧ r < hs + n) ∨ obK ob r
def bxP (ob : Ob) (lv : Value) (l : List ByteArray) (hs : Nat) (bx : List (TypeId × Array Value)) : World → Prop := fun W => Reads W lv l ∧ (∀ i t cs, bx[i]? = some (t, cs) → Blk W (hs + i) t cs) ∧ obP ob W
theorem bx_stable (ob : Ob) (lv : Value) (l : List ByteArray) (hs : Nat) (bx : List (TypeId × Array Value)) : Stable (bxK ob lv hs bx.length) (bxP ob lv l hs bx) := fun _ _ h hk =>
  ⟨h.1.same (fun k hg => hk k (.inl hg)), fun i t cs hi => (h.2.1 i t cs hi).same (hk _ (.inr (.inl ⟨Nat.le_add_right _ _, by have := (List.getElem?_eq_some_iff.1 hi).1; omega⟩))), fun r t cs e => (h.2.2 r t cs e).same (hk r (.inr (.inr ⟨t, cs, e⟩)))⟩
theorem obP.below {ob : Ob} {w W : World} (h : obP ob w) (hb : Below w.heap.size w W) : obP ob W := fun r t cs e => (h r t cs e).same (hb.block r (h r t cs e).lt)

/-- the log, its disk, and the law's model of them -/
def PlayAt (ob : Ob) (w0 : World) (b lb : Nat) (lv : Value) (g : Lg) (w : World) : Prop :=
  LW w0 (bxK ob lv 0 0) (bxP ob lv g.recs 0 []) b lb (frames 1 (g.recs.take g.sure)) (g.marks : Int) g w ∧ g.fits

section
variable {ob : Ob} {w0 w W : World} {b lb hs : Nat} {lv lv2 : Value} {g : Lg} {l l2 : List ByteArray} {lg : ByteArray} {mk : Int} {bx : List (TypeId × Array Value)} {bx2 : List (TypeId × Array Value)}
theorem LW.reads (h : LW w0 (bxK ob lv hs bx.length) (bxP ob lv l hs bx) b lb lg mk g w) : Reads w lv l := h.own.1
theorem LW.box (h : LW w0 (bxK ob lv hs bx.length) (bxP ob lv l hs bx) b lb lg mk g w) {i : Nat} {t : TypeId} {cs : Array Value} (hi : bx[i]? = some (t, cs)) : Blk w (hs + i) t cs := h.own.2.1 i t cs hi
/-- boxes are made -/
theorem LW.boxed (h : LW w0 (bxK ob lv 0 0) (bxP ob lv l 0 []) b lb lg mk g w) (hb : Below w.heap.size w W) (hh : ∀ i t cs, bx[i]? = some (t, cs) → Blk W (w.heap.size + i) t cs) (hs : W.heap.size = w.heap.size + bx.length) :
    LW w0 (bxK ob lv w.heap.size bx.length) (bxP ob lv l w.heap.size bx) b lb lg mk g W := by
  refine h.turn (Step.below hb) (fun r hr => ?_) ⟨h.own.1.below hb, hh, h.own.2.2.below hb⟩
  rcases hr with hr | ⟨h1, h2⟩ | ⟨t, cs, e⟩
  · exact ⟨.inl (.inl hr), by have := h.own.1.lt r hr; have := hb.size; omega⟩
  · exact ⟨.inr h1, by omega⟩
  · exact ⟨.inl (.inr (.inr ⟨t, cs, e⟩)), by have := (h.own.2.2 r t cs e).lt; have := hb.size; omega⟩
/-- and left; the model may have other records -/
theorem LW.unbox (h : LW w0 (bxK ob lv hs bx.length) (bxP ob lv l hs bx) b lb lg mk g w) (hst : Step (bxK ob lv hs bx.length) w W) (hr : Reads W lv2 l2) (hk : ∀ k, lv2.ownBlock = some k → lv.ownBlock = some k ∨ w.heap.size ≤ k) (hob : obP ob W) :
    LW w0 (bxK ob lv2 0 0) (bxP ob lv2 l2 0 []) b lb lg mk g W := by
  refine h.turn hst (fun r hr' => ?_) ⟨hr, fun i t cs hi => by simp at hi, hob⟩
  rcases hr' with hr' | ⟨h1, h2⟩ | ⟨t, cs, e⟩
  · refine ⟨?_, hr.lt r hr'⟩
    rcases hk r hr' with e | e
    · exact .inl (.inl e)
    · exact .inr e
  · omega
  · exact ⟨.inl (.inr (.inr ⟨t, cs, e⟩)), (hob r t cs e).lt⟩
/-- the model's own row does not lie in a box -/
theorem Reads.box_ne (h : Reads w lv l) {r : Nat} {t : TypeId} {cs : Array Value} (hB : Blk w r t cs) (hc : ∀ s, cs[0]? ≠ some (.string s)) : lv.ownBlock = some r → l = [] := by
  intro hk
  rcases h with ⟨rfl, hl⟩ | ⟨g, cap, e, h1, h2, h3, h4⟩
  · exact hl
  · rw [e] at hk
    have hg : g = r := by simpa [Value.ownBlock] using hk
    subst hg
    cases l with
    | nil => rfl
    | cons x l =>
      have := h4 0 x rfl
      rw [hB.cell] at this
      exact absurd this (hc x)
end

section
variable {w : World}
set_option maxRecDepth 100000 in
theorem less5_c (k n : Int) (hk : 0 ≤ k ∧ k ≤ 4194305) (hn : -9223372036854775808 ≤ n ∧ n ≤ 9223372036854775807) :
    Calls Try.prog 77 #[.int .i64 k, .int .i64 n] w fun e w' => e = .returned (.int .i64 (lessOf k n)) ∧ w = w' := by
  by_cases h1 : n < 0
  · go_enter Try.func77, Try.ntmps77
    go_wp2
    go_ret
    exact ⟨ret_int (by unfold lessOf; omega), rfl⟩
  · by_cases h2 : k < n
    · go_enter Try.func77, Try.ntmps77
      go_wp2
      go_ret
      exact ⟨ret_int (by unfold lessOf; omega), rfl⟩
    · go_enter Try.func77, Try.ntmps77
      go_wp2
      go_ret
      exact ⟨ret_int (by unfold lessOf; omega), rfl⟩
end

section
variable {ob : Ob} {w0 w W : World} {b lb hs : Nat} {lv : Value} {g : Lg} {l : List ByteArray} {lg : ByteArray} {mk : Int} {bx : List (TypeId × Array Value)}
theorem Reads.store (h : Reads w lv l) (hz : w.heap.size ≤ W.heap.size) (hk : ∀ r, lv.ownBlock = some r → l ≠ [] → W.heap[r]? = w.heap[r]?) : Reads W lv l := by
  rcases h with h | ⟨g, cap, e, h1, h2, h3, h4⟩
  · exact .inl h
  · refine .inr ⟨g, cap, e, h1, h2, by omega, fun i s hi => ?_⟩
    have hne : l ≠ [] := by intro e; rw [e] at hi; simp at hi
    exact (World.cell?_of_block (a := ⟨g, i, none⟩) (hk g (by rw [e]; rfl) hne)).trans (h4 i s hi)
/-- nothing but the boxes was written: they are left -/
theorem LW.leave (h : LW w0 (bxK ob lv hs bx.length) (bxP ob lv l hs bx) b lb lg mk g w) (hob : ∀ r t cs, ob = some (r, t, cs) → r < hs) (hst : Step (fun r => hs ≤ r ∧ r < hs + bx.length) w W) (hb : ∀ t cs, (t, cs) ∈ bx → ∀ s, cs[0]? ≠ some (.string s)) :
    LW w0 (bxK ob lv 0 0) (bxP ob lv l 0 []) b lb lg mk g W := by
  have hr := h.reads
  refine h.unbox (hst.wider fun r hr => .inr (.inl hr)) (hr.store hst.size fun r hk hne => hst.block r (hr.lt r hk) fun hin => ?_) (fun k hk => .inl hk) (fun r t cs e => (h.own.2.2 r t cs e).same (hst.block r (h.own.2.2 r t cs e).lt (fun hin => by have := hob r t cs e; omega)))
  obtain ⟨x, hx⟩ : ∃ x, bx[r - hs]? = some x := ⟨_, List.getElem?_eq_getElem (by omega)⟩
  have hB := h.box (i := r - hs) (t := x.1) (cs := x.2) (by rw [hx])
  rw [show hs + (r - hs) = r by omega] at hB
  exact hne (Reads.box_ne hr hB (hb x.1 x.2 (List.mem_of_getElem? hx)) hk)
theorem Blk.set4 {r : Nat} {t : TypeId} {x0 x1 x2 x3 v0 v1 v2 v3 : Value} (h : Blk w r t #[x0, x1, x2, x3]) :
    Blk ((((w.setCell ⟨r, 0, none⟩ v0).setCell ⟨r, 1, none⟩ v1).setCell ⟨r, 2, none⟩ v2).setCell ⟨r, 3, none⟩ v3) r t #[v0, v1, v2, v3] := by
  have := (((h.set_ 0 v0).set_ 1 v1).set_ 2 v2).set_ 3 v3
  simpa using this
theorem Step.set4 {F : Nat → Prop} {a : World} {r : Nat} {v0 v1 v2 v3 : Value} (h : Step F a w) (hr : F r) :
    Step F a ((((w.setCell ⟨r, 0, none⟩ v0).setCell ⟨r, 1, none⟩ v1).setCell ⟨r, 2, none⟩ v2).setCell ⟨r, 3, none⟩ v3) :=
  (((h.setCell (.inl hr) _).setCell (.inl hr) _).setCell (.inl hr) _).setCell (.inl hr) _
theorem Step.drew {F : Nat → Prop} {a : World} (h : Step F a w) : Step F a w.drew := ⟨h.os, h.tape, h.output, h.size, h.block⟩
end
end Go.Proofs.Ytnobiekgifjaeaa
