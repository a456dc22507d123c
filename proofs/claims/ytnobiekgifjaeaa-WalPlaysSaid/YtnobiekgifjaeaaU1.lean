/-
  'one': a record more.
-/
import Derived.Test.YtnobiekgifjaeaaU0
namespace Go.Proofs.Ytnobiekgifjaeaa
open Go.RowKit
attribute [local go_sem ↓] Go.wp_at_zero Go.wp_at_succ
section
variable {ob : Ob} {w0 w W : World} {b lb hs : Nat} {lv : Value} {g : Lg} {l : List ByteArray} {lg : ByteArray} {mk : Int} {bx : List (TypeId × Array Value)}
theorem LW.addBox (h : LW w0 (bxK ob lv hs bx.length) (bxP ob lv l hs bx) b lb lg mk g W) (hz : W.heap.size = hs + bx.length) (t : TypeId) (cs : Array Value) :
    LW w0 (bxK ob lv hs (bx ++ [(t, cs)]).length) (bxP ob lv l hs (bx ++ [(t, cs)])) b lb lg mk g (W.alloc (.cells cs t)) := by
  refine h.turn ((Step.refl _ W).alloc _) (fun r hr => ?_) ⟨h.own.1.below ((Below.refl _ _).alloc (Nat.le_refl _) _), fun i t' cs' hi => ?_, h.own.2.2.below ((Below.refl _ _).alloc (Nat.le_refl _) _)⟩
  · have e : (W.alloc (.cells cs t)).heap.size = W.heap.size + 1 := by simp
    rcases hr with hr | ⟨h1, h2⟩ | ho
    · exact ⟨.inl (.inl hr), by have := h.own.1.lt r hr; omega⟩
    · rw [List.length_append] at h2
      simp only [List.length_cons, List.length_nil] at h2
      rcases Nat.lt_or_ge r (hs + bx.length) with h3 | h3
      · exact ⟨.inl (.inr (.inl ⟨h1, h3⟩)), by omega⟩
      · exact ⟨.inr (by omega), by omega⟩
    · exact ⟨.inl (.inr (.inr ho)), by obtain ⟨t, cs, e2⟩ := ho; have := (h.own.2.2 r t cs e2).lt; omega⟩
  · rcases Nat.lt_or_ge i bx.length with h3 | h3
    · rw [List.getElem?_append_left h3] at hi
      exact (h.own.2.1 i t' cs' hi).alloc _
    · rw [List.getElem?_append_right h3] at hi
      have hi0 : i - bx.length = 0 := by
        rcases Nat.eq_zero_or_pos (i - bx.length) with h4 | h4
        · exact h4
        · rw [List.getElem?_eq_none (by simp; omega)] at hi; cases hi
      rw [hi0] at hi
      cases hi
      have := Blk.new W t cs
      rwa [show W.heap.size = hs + i by omega] at this
theorem LW.set4Box (h : LW w0 (bxK ob lv hs bx.length) (bxP ob lv l hs bx) b lb lg mk g W) {i : Nat} {t : TypeId} {x0 x1 x2 x3 v0 v1 v2 v3 : Value} (hi : bx[i]? = some (t, #[x0, x1, x2, x3])) (hx : ∀ s, x0 ≠ .string s) (hob : ∀ r t cs, ob = some (r, t, cs) → r < hs) :
    LW w0 (bxK ob lv hs bx.length) (bxP ob lv l hs (bx.set i (t, #[v0, v1, v2, v3]))) b lb lg mk g ((((W.setCell ⟨hs + i, 0, none⟩ v0).setCell ⟨hs + i, 1, none⟩ v1).setCell ⟨hs + i, 2, none⟩ v2).setCell ⟨hs + i, 3, none⟩ v3) := by
  have hlt : i < bx.length := (List.getElem?_eq_some_iff.1 hi).1
  have hin : bxK ob lv hs bx.length (hs + i) := .inr (.inl ⟨Nat.le_add_right _ _, by omega⟩)
  have hB := h.box hi
  have hz : ((((W.setCell ⟨hs + i, 0, none⟩ v0).setCell ⟨hs + i, 1, none⟩ v1).setCell ⟨hs + i, 2, none⟩ v2).setCell ⟨hs + i, 3, none⟩ v3).heap.size = W.heap.size := by simp [World.setCell]
  have hh : ∀ r, r ≠ hs + i → ((((W.setCell ⟨hs + i, 0, none⟩ v0).setCell ⟨hs + i, 1, none⟩ v1).setCell ⟨hs + i, 2, none⟩ v2).setCell ⟨hs + i, 3, none⟩ v3).heap[r]? = W.heap[r]? := fun r hr =>
    (Below.heap_setCell _ _ _ r hr).trans ((Below.heap_setCell _ _ _ r hr).trans ((Below.heap_setCell _ _ _ r hr).trans (Below.heap_setCell _ _ _ r hr)))
  have hst := (Step.refl (bxK ob lv hs bx.length) W).set4 (v0 := v0) (v1 := v1) (v2 := v2) (v3 := v3) hin
  refine h.turn hst (fun r hr => ⟨.inl hr, by rw [hz]; exact (h.ranges r hr).2⟩) ⟨h.reads.store (Nat.le_of_eq hz.symm) (fun r hk hne => hh r (fun e => ?_)), fun j t' cs' hj => ?_, fun r t' cs' e => (h.own.2.2 r t' cs' e).same (hh r (by have := hob r t' cs' e; omega))⟩
  · subst e
    exact hne (Reads.box_ne h.reads hB (by simpa using hx) hk)
  · rcases Nat.decEq i j with hne | rfl
    · rw [List.getElem?_set_ne hne] at hj
      exact (h.box hj).same (hh _ (by omega))
    · rw [List.getElem?_set_self hlt] at hj
      cases hj
      exact hB.set4
/-- the fourth box -/
def oneBx4 (lv : Value) (sure kept mark : Int) (a : Ac) (k : Array Value) : List (TypeId × Array Value) := oneBx lv sure kept mark a ++ [(89, k)]
theorem PlayAt.boxed4 (h : PlayAt ob w0 b lb lv g w) (a : Ac) (W3 : World)
    (hW : W3 = ((w.alloc (.cells #[lv, .int .i64 (g.sure : Int), .int .i64 g.kept, .int .u64 (g.marks : Int)] 89)).alloc (.cells #[.int .i64 a.kind, .int .i64 a.n, .string a.s, .int .u64 a.at_, .int .i64 a.fall.at_, .int .u64 a.fall.keep, .int .i64 a.fall.torn, .int .i64 a.fall.bytes, .int .i64 a.fall.log] 85)).alloc (.cells #[.slice none 0 0, .int .i64 0, .int .i64 0, .int .u64 0] 89)) :
    LW w0 (bxK ob lv w.heap.size 4) (bxP ob lv g.recs w.heap.size (oneBx4 lv g.sure g.kept g.marks a #[lv, .int .i64 (g.sure : Int), .int .i64 g.kept, .int .u64 (g.marks : Int)])) b lb (frames 1 (g.recs.take g.sure)) (g.marks : Int) g
      (W3.alloc (.cells #[lv, .int .i64 (g.sure : Int), .int .i64 g.kept, .int .u64 (g.marks : Int)] 89)) :=
  LW.addBox (bx := oneBx lv g.sure g.kept g.marks a) (h.boxed a W3 hW) (by rw [hW]; simp [oneBx]) 89 #[lv, .int .i64 (g.sure : Int), .int .i64 g.kept, .int .u64 (g.marks : Int)]
theorem one_bx4_ok {x y z : Int} {a : Ac} {k : Array Value} (h : ∀ s, lv ≠ .string s) (hk : ∀ s, k[0]? ≠ some (.string s)) : ∀ t cs, (t, cs) ∈ oneBx4 lv x y z a k → ∀ s, cs[0]? ≠ some (.string s) := by
  intro t cs hm
  rcases List.mem_append.1 hm with hm | hm
  · exact one_bx_ok h t cs hm
  · simp at hm
    rw [hm.2]
    exact hk
theorem Blk.far4 {r q : Nat} {t : TypeId} {cs : Array Value} {v0 v1 v2 v3 : Value} (h : Blk w r t cs) (hne : r ≠ q) :
    Blk ((((w.setCell ⟨q, 0, none⟩ v0).setCell ⟨q, 1, none⟩ v1).setCell ⟨q, 2, none⟩ v2).setCell ⟨q, 3, none⟩ v3) r t cs :=
  (((h.far (p := ⟨q, 0, none⟩) hne v0).far (p := ⟨q, 1, none⟩) hne v1).far (p := ⟨q, 2, none⟩) hne v2).far (p := ⟨q, 3, none⟩) hne v3
theorem heap_set4 {q k : Nat} {v0 v1 v2 v3 : Value} (hk : k ≠ q) :
    ((((w.setCell ⟨q, 0, none⟩ v0).setCell ⟨q, 1, none⟩ v1).setCell ⟨q, 2, none⟩ v2).setCell ⟨q, 3, none⟩ v3).heap[k]? = w.heap[k]? :=
  (Below.heap_setCell _ _ _ k hk).trans ((Below.heap_setCell _ _ _ k hk).trans ((Below.heap_setCell _ _ _ k hk).trans (Below.heap_setCell _ _ _ k hk)))
theorem own_set4 {q B n : Nat} {t : TypeId} {size : Nat} {v : Value} {xs : List Value} {v0 v1 v2 v3 : Value} (h : w.ownsRow B t size v n xs) (hq : q < B) :
    ((((w.setCell ⟨q, 0, none⟩ v0).setCell ⟨q, 1, none⟩ v1).setCell ⟨q, 2, none⟩ v2).setCell ⟨q, 3, none⟩ v3).ownsRow B t size v n xs :=
  own_same h (fun k hk => heap_set4 (by have := (h.lt k hk).1; omega))
theorem own_set1 {q o B n : Nat} {t : TypeId} {size : Nat} {v : Value} {xs : List Value} {u : Value} (h : w.ownsRow B t size v n xs) (hq : q < B) : (w.setCell ⟨q, o, none⟩ u).ownsRow B t size v n xs :=
  own_same h (fun k hk => Below.heap_setCell _ _ _ k (by have := (h.lt k hk).1; show k ≠ q; omega))
theorem own_drew {B n : Nat} {t : TypeId} {size : Nat} {v : Value} {xs : List Value} (h : w.ownsRow B t size v n xs) : w.drew.ownsRow B t size v n xs := own_same h (fun _ _ => rfl)
theorem obP.step {F : Nat → Prop} (h : obP ob w) (hs : Step F w W) (hf : ∀ r t cs, ob = some (r, t, cs) → ¬ F r) : obP ob W := fun r t cs e => (h r t cs e).same (hs.block r (h r t cs e).lt (hf r t cs e))
/-- a record more: the end of all ways -/
theorem one_pushed {la : Option Addr} {lc : Nat} {s : ByteArray} {w3 : World} {lv2 : Value} {k2 : Int} {B : Nat} (hf : g.fits) (ho : g.ok)
    (h : LW w0 (bxK ob (.slice la g.recs.length lc) hs bx.length) (bxP ob (.slice la g.recs.length lc) g.recs hs bx) b lb (frames 1 (g.recs.take g.sure)) (g.marks : Int) { g.add s with kept := k2 } w3) (hB : w3.heap.size ≤ B)
    (hob : ∀ r t cs, ob = some (r, t, cs) → r < hs) (hst : Step (fun r => hs ≤ r ∧ r < hs + bx.length) w3 W) (hr : W.ownsRow B 9 1 lv2 (g.recs.length + 1) ((g.recs ++ [s]).map Value.string)) :
    PlayAt ob w0 b lb lv2 { g.add s with kept := k2 } W := by
  refine ⟨?_, fits_kept (hf.add ho.sure s) k2⟩
  have e : (g.recs ++ [s]).take g.sure = g.recs.take g.sure := List.take_append_of_le_length ho.sure
  show LW w0 (bxK ob lv2 0 0) (bxP ob lv2 (g.recs ++ [s]) 0 []) b lb (frames 1 ((g.recs ++ [s]).take g.sure)) (g.marks : Int) _ W
  rw [e]
  refine h.unbox (hst.wider fun r hr => .inr (.inl hr)) (Reads.of_own (B := B) (l := g.recs ++ [s]) (by rw [List.length_append]; exact hr)) (fun k hk => .inr ?_) (h.own.2.2.step hst fun r t cs e hin => by have := hob r t cs e; omega)
  have := (hr.lt k hk).1
  omega
set_option maxRecDepth 100000 in
set_option maxHeartbeats 4000000 in
theorem one_put0 (h : PlayAt ob w0 b lb lv g w) (a : Ac) (ha : a.ok) (hk : a.kind = 0) :
    Calls Try.prog 58 #[.pointer (some ⟨b, 0, none⟩), .pointer (some ⟨lb, 0, none⟩), modelV lv g.sure g.kept g.marks, acV a] w (OnePost ob w0 b (g.tryAdd a.s g.kept)) := by
  have h4 := h.boxed4 a _ rfl
  obtain ⟨la, lc, rfl⟩ := (LW.reads (bx := []) h.1).form
  have h1 := h.boxed a _ rfl
  have hok := h.1.ok
  have HOB : Hid (∀ r t cs, ob = some (r, t, cs) → r < w.heap.size) := fun r t cs e => (h.1.own.2.2 r t cs e).lt
  have HF0 := Lib.hid h.2
  have hk1 := hok.kept1
  have hk2 := hok.kept2
  have hsr := hok.sure
  have hn1 := ha.n1
  have hn2 := ha.n2
  have hat1 := ha.at1
  have hat2 := ha.at2
  have HOK := Lib.hid hok
  have HA := Lib.hid ha
  clear h hok ha
  unfold modelV acV
  obtain ⟨kind, n, s, at_, fat, fke, fto, fby, flo⟩ := a
  simp only at *
  subst hk
  have hsz : s.size ≤ 9223372036854775807 := HA.out.s
  have hro := HOK.out.recsOk
  have hg := (h4.logs (bx_stable ob (.slice la g.recs.length lc) g.recs w.heap.size (oneBx4 (.slice la g.recs.length lc) g.sure g.kept g.marks ⟨0, n, s, at_, ⟨fat, fke, fto, fby, flo⟩⟩ #[.slice la g.recs.length lc, .int .i64 (g.sure : Int), .int .i64 g.kept, .int .u64 (g.marks : Int)])) (fun G hw => lappend_c hw HF0.out.tight s hsz))
  clear h1 h4
  by_cases hb : badRec s
  · skip
    simp only [addV, Lg.tryAdd, if_pos hb] at hg
    have HG := Lib.hid hg
    have HMP : ∀ W, Reads W (.slice la g.recs.length lc) g.recs → Hid (Calls Try.prog 50 #[.agg #[(.slice la g.recs.length lc), .int .i64 (g.sure : Int), .int .i64 g.kept, .int .u64 (g.marks : Int)], .string s, .int .i64 (g.kept)] W fun e w' => e = .returned (.tuple #[.agg #[(.slice la g.recs.length lc), .int .i64 (g.sure : Int), .int .i64 g.kept, .int .u64 (g.marks : Int)], .int .u64 0, .int .i64 51]) ∧ Below W.heap.size W w') := fun W hW => mput_bad hW hb (by omega)
    clear hg
    have HB := Lib.hid hb
    clear hb
    rw [show g.tryAdd s g.kept = g by unfold Lg.tryAdd; rw [if_pos HB.out]]
    go_enter Try.func58, Try.ntmps58
    go_wp2_with (fail)
    refine HG.out.mono ?_
    rintro e w3 ⟨rfl, h3⟩
    generalize hhs : w.heap.size = hs at *
    clear hhs HG
    have b6 := h3.box (bx := (oneBx4 (.slice la g.recs.length lc) g.sure g.kept g.marks ⟨0, n, s, at_, ⟨fat, fke, fto, fby, flo⟩⟩ #[.slice la g.recs.length lc, .int .i64 (g.sure : Int), .int .i64 g.kept, .int .u64 (g.marks : Int)])) (i := 0) rfl
    have b7 := h3.box (bx := (oneBx4 (.slice la g.recs.length lc) g.sure g.kept g.marks ⟨0, n, s, at_, ⟨fat, fke, fto, fby, flo⟩⟩ #[.slice la g.recs.length lc, .int .i64 (g.sure : Int), .int .i64 g.kept, .int .u64 (g.marks : Int)])) (i := 1) rfl
    have b9 := h3.box (bx := (oneBx4 (.slice la g.recs.length lc) g.sure g.kept g.marks ⟨0, n, s, at_, ⟨fat, fke, fto, fby, flo⟩⟩ #[.slice la g.recs.length lc, .int .i64 (g.sure : Int), .int .i64 g.kept, .int .u64 (g.marks : Int)])) (i := 2) rfl
    have bk := h3.box (bx := (oneBx4 (.slice la g.recs.length lc) g.sure g.kept g.marks ⟨0, n, s, at_, ⟨fat, fke, fto, fby, flo⟩⟩ #[.slice la g.recs.length lc, .int .i64 (g.sure : Int), .int .i64 g.kept, .int .u64 (g.marks : Int)])) (i := 3) rfl
    have c60 : w3.cell? ⟨hs, 0, none⟩ = some (.slice la g.recs.length lc) := b6.cell 0
    have c61 : w3.cell? ⟨hs, 1, none⟩ = some (.int .i64 (g.sure : Int)) := b6.cell 1
    have c62 : w3.cell? ⟨hs, 2, none⟩ = some (.int .i64 g.kept) := b6.cell 2
    have c63 : w3.cell? ⟨hs, 3, none⟩ = some (.int .u64 (g.marks : Int)) := b6.cell 3
    have c72 : w3.cell? ⟨hs + 1, 2, none⟩ = some (.string s) := b7.cell 2
    have c90 : w3.cell? ⟨hs + 1 + 1, 0, none⟩ = some (.slice none 0 0) := b9.cell 0
    have c91 : w3.cell? ⟨hs + 1 + 1, 1, none⟩ = some (.int .i64 0) := b9.cell 1
    have c92 : w3.cell? ⟨hs + 1 + 1, 2, none⟩ = some (.int .i64 0) := b9.cell 2
    have c93 : w3.cell? ⟨hs + 1 + 1, 3, none⟩ = some (.int .u64 0) := b9.cell 3
    have f90 : w3.frozen? ⟨hs + 1 + 1, 0, none⟩ = false := b9.frozen 0
    have f91 : w3.frozen? ⟨hs + 1 + 1, 1, none⟩ = false := b9.frozen 1
    have f92 : w3.frozen? ⟨hs + 1 + 1, 2, none⟩ = false := b9.frozen 2
    have f93 : w3.frozen? ⟨hs + 1 + 1, 3, none⟩ = false := b9.frozen 3
    have ck0 : w3.cell? ⟨hs + 1 + 1 + 1, 0, none⟩ = some (.slice la g.recs.length lc) := bk.cell 0
    have ck1 : w3.cell? ⟨hs + 1 + 1 + 1, 1, none⟩ = some (.int .i64 (g.sure : Int)) := bk.cell 1
    have ck2 : w3.cell? ⟨hs + 1 + 1 + 1, 2, none⟩ = some (.int .i64 g.kept) := bk.cell 2
    have ck3 : w3.cell? ⟨hs + 1 + 1 + 1, 3, none⟩ = some (.int .u64 (g.marks : Int)) := bk.cell 3
    have fk0 : w3.frozen? ⟨hs + 1 + 1 + 1, 0, none⟩ = false := bk.frozen 0
    have fk1 : w3.frozen? ⟨hs + 1 + 1 + 1, 1, none⟩ = false := bk.frozen 1
    have fk2 : w3.frozen? ⟨hs + 1 + 1 + 1, 2, none⟩ = false := bk.frozen 2
    have fk3 : w3.frozen? ⟨hs + 1 + 1 + 1, 3, none⟩ = false := bk.frozen 3
    have B9 := Lib.hid b9
    clear b6 b7 b9 bk
    have hl3 : hs + 3 < w3.heap.size := (h3.box (bx := (oneBx4 (.slice la g.recs.length lc) g.sure g.kept g.marks ⟨0, n, s, at_, ⟨fat, fke, fto, fby, flo⟩⟩ #[.slice la g.recs.length lc, .int .i64 (g.sure : Int), .int .i64 g.kept, .int .u64 (g.marks : Int)])) (i := 3) rfl).lt
    have HM := HMP w3 (LW.reads (bx := (oneBx4 (.slice la g.recs.length lc) g.sure g.kept g.marks ⟨0, n, s, at_, ⟨fat, fke, fto, fby, flo⟩⟩ #[.slice la g.recs.length lc, .int .i64 (g.sure : Int), .int .i64 g.kept, .int .u64 (g.marks : Int)])) h3)
    have H3 := Lib.hid h3
    clear h3 HMP
    go_wp2_with (fail)
    clear c60 c61 c62 c63 c72 c90 c91 c92 c93 f90 f91 f92 f93 ck0 ck1 ck2 ck3 fk0 fk1 fk2 fk3 B9
    refine HM.out.mono ?_
    rintro e w4 ⟨rfl, hb4⟩
    have h4 := H3.out.below (bx_stable ob (.slice la g.recs.length lc) g.recs hs (oneBx4 (.slice la g.recs.length lc) g.sure g.kept g.marks ⟨0, n, s, at_, ⟨fat, fke, fto, fby, flo⟩⟩ #[.slice la g.recs.length lc, .int .i64 (g.sure : Int), .int .i64 g.kept, .int .u64 (g.marks : Int)])) hb4
    clear hb4
    have b6 := h4.box (bx := (oneBx4 (.slice la g.recs.length lc) g.sure g.kept g.marks ⟨0, n, s, at_, ⟨fat, fke, fto, fby, flo⟩⟩ #[.slice la g.recs.length lc, .int .i64 (g.sure : Int), .int .i64 g.kept, .int .u64 (g.marks : Int)])) (i := 0) rfl
    have b7 := h4.box (bx := (oneBx4 (.slice la g.recs.length lc) g.sure g.kept g.marks ⟨0, n, s, at_, ⟨fat, fke, fto, fby, flo⟩⟩ #[.slice la g.recs.length lc, .int .i64 (g.sure : Int), .int .i64 g.kept, .int .u64 (g.marks : Int)])) (i := 1) rfl
    have b9 := h4.box (bx := (oneBx4 (.slice la g.recs.length lc) g.sure g.kept g.marks ⟨0, n, s, at_, ⟨fat, fke, fto, fby, flo⟩⟩ #[.slice la g.recs.length lc, .int .i64 (g.sure : Int), .int .i64 g.kept, .int .u64 (g.marks : Int)])) (i := 2) rfl
    have bk := h4.box (bx := (oneBx4 (.slice la g.recs.length lc) g.sure g.kept g.marks ⟨0, n, s, at_, ⟨fat, fke, fto, fby, flo⟩⟩ #[.slice la g.recs.length lc, .int .i64 (g.sure : Int), .int .i64 g.kept, .int .u64 (g.marks : Int)])) (i := 3) rfl
    have c60 : w4.cell? ⟨hs, 0, none⟩ = some (.slice la g.recs.length lc) := b6.cell 0
    have c61 : w4.cell? ⟨hs, 1, none⟩ = some (.int .i64 (g.sure : Int)) := b6.cell 1
    have c62 : w4.cell? ⟨hs, 2, none⟩ = some (.int .i64 g.kept) := b6.cell 2
    have c63 : w4.cell? ⟨hs, 3, none⟩ = some (.int .u64 (g.marks : Int)) := b6.cell 3
    have c72 : w4.cell? ⟨hs + 1, 2, none⟩ = some (.string s) := b7.cell 2
    have c90 : w4.cell? ⟨hs + 1 + 1, 0, none⟩ = some (.slice none 0 0) := b9.cell 0
    have c91 : w4.cell? ⟨hs + 1 + 1, 1, none⟩ = some (.int .i64 0) := b9.cell 1
    have c92 : w4.cell? ⟨hs + 1 + 1, 2, none⟩ = some (.int .i64 0) := b9.cell 2
    have c93 : w4.cell? ⟨hs + 1 + 1, 3, none⟩ = some (.int .u64 0) := b9.cell 3
    have f90 : w4.frozen? ⟨hs + 1 + 1, 0, none⟩ = false := b9.frozen 0
    have f91 : w4.frozen? ⟨hs + 1 + 1, 1, none⟩ = false := b9.frozen 1
    have f92 : w4.frozen? ⟨hs + 1 + 1, 2, none⟩ = false := b9.frozen 2
    have f93 : w4.frozen? ⟨hs + 1 + 1, 3, none⟩ = false := b9.frozen 3
    have ck0 : w4.cell? ⟨hs + 1 + 1 + 1, 0, none⟩ = some (.slice la g.recs.length lc) := bk.cell 0
    have ck1 : w4.cell? ⟨hs + 1 + 1 + 1, 1, none⟩ = some (.int .i64 (g.sure : Int)) := bk.cell 1
    have ck2 : w4.cell? ⟨hs + 1 + 1 + 1, 2, none⟩ = some (.int .i64 g.kept) := bk.cell 2
    have ck3 : w4.cell? ⟨hs + 1 + 1 + 1, 3, none⟩ = some (.int .u64 (g.marks : Int)) := bk.cell 3
    have fk0 : w4.frozen? ⟨hs + 1 + 1 + 1, 0, none⟩ = false := bk.frozen 0
    have fk1 : w4.frozen? ⟨hs + 1 + 1 + 1, 1, none⟩ = false := bk.frozen 1
    have fk2 : w4.frozen? ⟨hs + 1 + 1 + 1, 2, none⟩ = false := bk.frozen 2
    have fk3 : w4.frozen? ⟨hs + 1 + 1 + 1, 3, none⟩ = false := bk.frozen 3
    have B9 := Lib.hid b9
    clear b6 b7 b9 bk
    have H4 := Lib.hid h4
    clear h4 H3
    go_wp2_with (fail)
    go_region
    go_wp2
    have B9' := ((B9.out.far4 (q := hs + 1 + 1 + 1) (v0 := (.slice la g.recs.length lc)) (v1 := .int .i64 (g.sure : Int)) (v2 := .int .i64 g.kept) (v3 := .int .u64 (g.marks : Int)) (by omega)).set4 (v0 := (.slice la g.recs.length lc)) (v1 := .int .i64 (g.sure : Int)) (v2 := .int .i64 (g.kept)) (v3 := .int .u64 (g.marks : Int)))
    have r0 := B9'.cell 0
    have r1 := B9'.cell 1
    have r2 := B9'.cell 2
    have r3 := B9'.cell 3
    simp at r0 r1 r2 r3
    (try simp only [Exit.inBlock, Exit.then])
    refine bodyPost_ret (by simp [results, Try.results58, go_sem, r0, r1, r2, r3]; try rfl) rfl ?_
    exact ⟨lb, (.slice la g.recs.length lc), rfl, LW.leave (bx := (oneBx4 (.slice la g.recs.length lc) g.sure g.kept g.marks ⟨0, n, s, at_, ⟨fat, fke, fto, fby, flo⟩⟩ #[.slice la g.recs.length lc, .int .i64 (g.sure : Int), .int .i64 g.kept, .int .u64 (g.marks : Int)])) H4.out HOB.out ((((Step.refl _ w4).set4 (r := hs + 1 + 1 + 1) ⟨by omega, by show hs + 1 + 1 + 1 < hs + 4; omega⟩).set4 (r := hs + 1 + 1) ⟨by omega, by show hs + 1 + 1 < hs + 4; omega⟩).drew) (one_bx4_ok (by simp) (by simp)), HF0.out⟩
  · by_cases hf : addFull g s g.kept
    · skip
      have HB : Hid (¬ badRec s ∧ addFull g s (g.kept)) := ⟨hb, hf⟩
      simp only [addV, Lg.tryAdd, if_neg hb, if_pos hf] at hg
      have HG := Lib.hid hg
      have HMP : ∀ W, Reads W (.slice la g.recs.length lc) g.recs → Hid (Calls Try.prog 50 #[.agg #[(.slice la g.recs.length lc), .int .i64 (g.sure : Int), .int .i64 g.kept, .int .u64 (g.marks : Int)], .string s, .int .i64 (g.kept)] W fun e w' => e = .returned (.tuple #[.agg #[(.slice la g.recs.length lc), .int .i64 (g.sure : Int), .int .i64 g.kept, .int .u64 (g.marks : Int)], .int .u64 0, .int .i64 50]) ∧ Below W.heap.size W w') := fun W hW => mput_full hW hro hb ⟨hk1, hk2⟩ hf
      clear hg hb hf
      rw [show g.tryAdd s g.kept = g by unfold Lg.tryAdd; rw [if_neg HB.out.1, if_pos HB.out.2]]
      go_enter Try.func58, Try.ntmps58
      go_wp2_with (fail)
      refine HG.out.mono ?_
      rintro e w3 ⟨rfl, h3⟩
      generalize hhs : w.heap.size = hs at *
      clear hhs HG
      have b6 := h3.box (bx := (oneBx4 (.slice la g.recs.length lc) g.sure g.kept g.marks ⟨0, n, s, at_, ⟨fat, fke, fto, fby, flo⟩⟩ #[.slice la g.recs.length lc, .int .i64 (g.sure : Int), .int .i64 g.kept, .int .u64 (g.marks : Int)])) (i := 0) rfl
      have b7 := h3.box (bx := (oneBx4 (.slice la g.recs.length lc) g.sure g.kept g.marks ⟨0, n, s, at_, ⟨fat, fke, fto, fby, flo⟩⟩ #[.slice la g.recs.length lc, .int .i64 (g.sure : Int), .int .i64 g.kept, .int .u64 (g.marks : Int)])) (i := 1) rfl
      have b9 := h3.box (bx := (oneBx4 (.slice la g.recs.length lc) g.sure g.kept g.marks ⟨0, n, s, at_, ⟨fat, fke, fto, fby, flo⟩⟩ #[.slice la g.recs.length lc, .int .i64 (g.sure : Int), .int .i64 g.kept, .int .u64 (g.marks : Int)])) (i := 2) rfl
      have bk := h3.box (bx := (oneBx4 (.slice la g.recs.length lc) g.sure g.kept g.marks ⟨0, n, s, at_, ⟨fat, fke, fto, fby, flo⟩⟩ #[.slice la g.recs.length lc, .int .i64 (g.sure : Int), .int .i64 g.kept, .int .u64 (g.marks : Int)])) (i := 3) rfl
      have c60 : w3.cell? ⟨hs, 0, none⟩ = some (.slice la g.recs.length lc) := b6.cell 0
      have c61 : w3.cell? ⟨hs, 1, none⟩ = some (.int .i64 (g.sure : Int)) := b6.cell 1
      have c62 : w3.cell? ⟨hs, 2, none⟩ = some (.int .i64 g.kept) := b6.cell 2
      have c63 : w3.cell? ⟨hs, 3, none⟩ = some (.int .u64 (g.marks : Int)) := b6.cell 3
      have c72 : w3.cell? ⟨hs + 1, 2, none⟩ = some (.string s) := b7.cell 2
      have c90 : w3.cell? ⟨hs + 1 + 1, 0, none⟩ = some (.slice none 0 0) := b9.cell 0
      have c91 : w3.cell? ⟨hs + 1 + 1, 1, none⟩ = some (.int .i64 0) := b9.cell 1
      have c92 : w3.cell? ⟨hs + 1 + 1, 2, none⟩ = some (.int .i64 0) := b9.cell 2
      have c93 : w3.cell? ⟨hs + 1 + 1, 3, none⟩ = some (.int .u64 0) := b9.cell 3
      have f90 : w3.frozen? ⟨hs + 1 + 1, 0, none⟩ = false := b9.frozen 0
      have f91 : w3.frozen? ⟨hs + 1 + 1, 1, none⟩ = false := b9.frozen 1
      have f92 : w3.frozen? ⟨hs + 1 + 1, 2, none⟩ = false := b9.frozen 2
      have f93 : w3.frozen? ⟨hs + 1 + 1, 3, none⟩ = false := b9.frozen 3
      have ck0 : w3.cell? ⟨hs + 1 + 1 + 1, 0, none⟩ = some (.slice la g.recs.length lc) := bk.cell 0
      have ck1 : w3.cell? ⟨hs + 1 + 1 + 1, 1, none⟩ = some (.int .i64 (g.sure : Int)) := bk.cell 1
      have ck2 : w3.cell? ⟨hs + 1 + 1 + 1, 2, none⟩ = some (.int .i64 g.kept) := bk.cell 2
      have ck3 : w3.cell? ⟨hs + 1 + 1 + 1, 3, none⟩ = some (.int .u64 (g.marks : Int)) := bk.cell 3
      have fk0 : w3.frozen? ⟨hs + 1 + 1 + 1, 0, none⟩ = false := bk.frozen 0
      have fk1 : w3.frozen? ⟨hs + 1 + 1 + 1, 1, none⟩ = false := bk.frozen 1
      have fk2 : w3.frozen? ⟨hs + 1 + 1 + 1, 2, none⟩ = false := bk.frozen 2
      have fk3 : w3.frozen? ⟨hs + 1 + 1 + 1, 3, none⟩ = false := bk.frozen 3
      have B9 := Lib.hid b9
      clear b6 b7 b9 bk
      have hl3 : hs + 3 < w3.heap.size := (h3.box (bx := (oneBx4 (.slice la g.recs.length lc) g.sure g.kept g.marks ⟨0, n, s, at_, ⟨fat, fke, fto, fby, flo⟩⟩ #[.slice la g.recs.length lc, .int .i64 (g.sure : Int), .int .i64 g.kept, .int .u64 (g.marks : Int)])) (i := 3) rfl).lt
      have HM := HMP w3 (LW.reads (bx := (oneBx4 (.slice la g.recs.length lc) g.sure g.kept g.marks ⟨0, n, s, at_, ⟨fat, fke, fto, fby, flo⟩⟩ #[.slice la g.recs.length lc, .int .i64 (g.sure : Int), .int .i64 g.kept, .int .u64 (g.marks : Int)])) h3)
      have H3 := Lib.hid h3
      clear h3 HMP
      go_wp2_with (fail)
      clear c60 c61 c62 c63 c72 c90 c91 c92 c93 f90 f91 f92 f93 ck0 ck1 ck2 ck3 fk0 fk1 fk2 fk3 B9
      refine HM.out.mono ?_
      rintro e w4 ⟨rfl, hb4⟩
      have h4 := H3.out.below (bx_stable ob (.slice la g.recs.length lc) g.recs hs (oneBx4 (.slice la g.recs.length lc) g.sure g.kept g.marks ⟨0, n, s, at_, ⟨fat, fke, fto, fby, flo⟩⟩ #[.slice la g.recs.length lc, .int .i64 (g.sure : Int), .int .i64 g.kept, .int .u64 (g.marks : Int)])) hb4
      clear hb4
      have b6 := h4.box (bx := (oneBx4 (.slice la g.recs.length lc) g.sure g.kept g.marks ⟨0, n, s, at_, ⟨fat, fke, fto, fby, flo⟩⟩ #[.slice la g.recs.length lc, .int .i64 (g.sure : Int), .int .i64 g.kept, .int .u64 (g.marks : Int)])) (i := 0) rfl
      have b7 := h4.box (bx := (oneBx4 (.slice la g.recs.length lc) g.sure g.kept g.marks ⟨0, n, s, at_, ⟨fat, fke, fto, fby, flo⟩⟩ #[.slice la g.recs.length lc, .int .i64 (g.sure : Int), .int .i64 g.kept, .int .u64 (g.marks : Int)])) (i := 1) rfl
      have b9 := h4.box (bx := (oneBx4 (.slice la g.recs.length lc) g.sure g.kept g.marks ⟨0, n, s, at_, ⟨fat, fke, fto, fby, flo⟩⟩ #[.slice la g.recs.length lc, .int .i64 (g.sure : Int), .int .i64 g.kept, .int .u64 (g.marks : Int)])) (i := 2) rfl
      have bk := h4.box (bx := (oneBx4 (.slice la g.recs.length lc) g.sure g.kept g.marks ⟨0, n, s, at_, ⟨fat, fke, fto, fby, flo⟩⟩ #[.slice la g.recs.length lc, .int .i64 (g.sure : Int), .int .i64 g.kept, .int .u64 (g.marks : Int)])) (i := 3) rfl
      have c60 : w4.cell? ⟨hs, 0, none⟩ = some (.slice la g.recs.length lc) := b6.cell 0
      have c61 : w4.cell? ⟨hs, 1, none⟩ = some (.int .i64 (g.sure : Int)) := b6.cell 1
      have c62 : w4.cell? ⟨hs, 2, none⟩ = some (.int .i64 g.kept) := b6.cell 2
      have c63 : w4.cell? ⟨hs, 3, none⟩ = some (.int .u64 (g.marks : Int)) := b6.cell 3
      have c72 : w4.cell? ⟨hs + 1, 2, none⟩ = some (.string s) := b7.cell 2
      have c90 : w4.cell? ⟨hs + 1 + 1, 0, none⟩ = some (.slice none 0 0) := b9.cell 0
      have c91 : w4.cell? ⟨hs + 1 + 1, 1, none⟩ = some (.int .i64 0) := b9.cell 1
      have c92 : w4.cell? ⟨hs + 1 + 1, 2, none⟩ = some (.int .i64 0) := b9.cell 2
      have c93 : w4.cell? ⟨hs + 1 + 1, 3, none⟩ = some (.int .u64 0) := b9.cell 3
      have f90 : w4.frozen? ⟨hs + 1 + 1, 0, none⟩ = false := b9.frozen 0
      have f91 : w4.frozen? ⟨hs + 1 + 1, 1, none⟩ = false := b9.frozen 1
      have f92 : w4.frozen? ⟨hs + 1 + 1, 2, none⟩ = false := b9.frozen 2
      have f93 : w4.frozen? ⟨hs + 1 + 1, 3, none⟩ = false := b9.frozen 3
      have ck0 : w4.cell? ⟨hs + 1 + 1 + 1, 0, none⟩ = some (.slice la g.recs.length lc) := bk.cell 0
      have ck1 : w4.cell? ⟨hs + 1 + 1 + 1, 1, none⟩ = some (.int .i64 (g.sure : Int)) := bk.cell 1
      have ck2 : w4.cell? ⟨hs + 1 + 1 + 1, 2, none⟩ = some (.int .i64 g.kept) := bk.cell 2
      have ck3 : w4.cell? ⟨hs + 1 + 1 + 1, 3, none⟩ = some (.int .u64 (g.marks : Int)) := bk.cell 3
      have fk0 : w4.frozen? ⟨hs + 1 + 1 + 1, 0, none⟩ = false := bk.frozen 0
      have fk1 : w4.frozen? ⟨hs + 1 + 1 + 1, 1, none⟩ = false := bk.frozen 1
      have fk2 : w4.frozen? ⟨hs + 1 + 1 + 1, 2, none⟩ = false := bk.frozen 2
      have fk3 : w4.frozen? ⟨hs + 1 + 1 + 1, 3, none⟩ = false := bk.frozen 3
      have B9 := Lib.hid b9
      clear b6 b7 b9 bk
      have H4 := Lib.hid h4
      clear h4 H3
      go_wp2_with (fail)
      go_region
      go_wp2
      have B9' := ((B9.out.far4 (q := hs + 1 + 1 + 1) (v0 := (.slice la g.recs.length lc)) (v1 := .int .i64 (g.sure : Int)) (v2 := .int .i64 g.kept) (v3 := .int .u64 (g.marks : Int)) (by omega)).set4 (v0 := (.slice la g.recs.length lc)) (v1 := .int .i64 (g.sure : Int)) (v2 := .int .i64 (g.kept)) (v3 := .int .u64 (g.marks : Int)))
      have r0 := B9'.cell 0
      have r1 := B9'.cell 1
      have r2 := B9'.cell 2
      have r3 := B9'.cell 3
      simp at r0 r1 r2 r3
      (try simp only [Exit.inBlock, Exit.then])
      refine bodyPost_ret (by simp [results, Try.results58, go_sem, r0, r1, r2, r3]; try rfl) rfl ?_
      exact ⟨lb, (.slice la g.recs.length lc), rfl, LW.leave (bx := (oneBx4 (.slice la g.recs.length lc) g.sure g.kept g.marks ⟨0, n, s, at_, ⟨fat, fke, fto, fby, flo⟩⟩ #[.slice la g.recs.length lc, .int .i64 (g.sure : Int), .int .i64 g.kept, .int .u64 (g.marks : Int)])) H4.out HOB.out ((((Step.refl _ w4).set4 (r := hs + 1 + 1 + 1) ⟨by omega, by show hs + 1 + 1 + 1 < hs + 4; omega⟩).set4 (r := hs + 1 + 1) ⟨by omega, by show hs + 1 + 1 < hs + 4; omega⟩).drew) (one_bx4_ok (by simp) (by simp)), HF0.out⟩
    · skip
      have HB : Hid (¬ badRec s ∧ ¬ addFull g s (g.kept)) := ⟨hb, hf⟩
      simp only [addV, Lg.tryAdd, if_neg hb, if_neg hf] at hg
      have HG := Lib.hid hg
      have HMP : ∀ W, Reads W (.slice la g.recs.length lc) g.recs → Hid (Calls Try.prog 50 #[.agg #[(.slice la g.recs.length lc), .int .i64 (g.sure : Int), .int .i64 g.kept, .int .u64 (g.marks : Int)], .string s, .int .i64 (g.kept)] W fun e w' => ∃ lv', e = .returned (.tuple #[.agg #[lv', .int .i64 (g.sure : Int), .int .i64 g.kept, .int .u64 (g.marks : Int)], .int .u64 (g.end_ : Int), .int .i64 0]) ∧ w'.ownsRow W.heap.size 9 1 lv' (g.recs.length + 1) ((g.recs ++ [s]).map Value.string) ∧ Below W.heap.size W w') := fun W hW => mput_ok hW hro hb ⟨hk1, hk2⟩ hf
      clear hg hb hf
      rw [show g.tryAdd s g.kept = g.add s by unfold Lg.tryAdd; rw [if_neg HB.out.1, if_neg HB.out.2]]
      go_enter Try.func58, Try.ntmps58
      go_wp2_with (fail)
      refine HG.out.mono ?_
      rintro e w3 ⟨rfl, h3⟩
      generalize hhs : w.heap.size = hs at *
      clear hhs HG
      have b6 := h3.box (bx := (oneBx4 (.slice la g.recs.length lc) g.sure g.kept g.marks ⟨0, n, s, at_, ⟨fat, fke, fto, fby, flo⟩⟩ #[.slice la g.recs.length lc, .int .i64 (g.sure : Int), .int .i64 g.kept, .int .u64 (g.marks : Int)])) (i := 0) rfl
      have b7 := h3.box (bx := (oneBx4 (.slice la g.recs.length lc) g.sure g.kept g.marks ⟨0, n, s, at_, ⟨fat, fke, fto, fby, flo⟩⟩ #[.slice la g.recs.length lc, .int .i64 (g.sure : Int), .int .i64 g.kept, .int .u64 (g.marks : Int)])) (i := 1) rfl
      have b9 := h3.box (bx := (oneBx4 (.slice la g.recs.length lc) g.sure g.kept g.marks ⟨0, n, s, at_, ⟨fat, fke, fto, fby, flo⟩⟩ #[.slice la g.recs.length lc, .int .i64 (g.sure : Int), .int .i64 g.kept, .int .u64 (g.marks : Int)])) (i := 2) rfl
      have bk := h3.box (bx := (oneBx4 (.slice la g.recs.length lc) g.sure g.kept g.marks ⟨0, n, s, at_, ⟨fat, fke, fto, fby, flo⟩⟩ #[.slice la g.recs.length lc, .int .i64 (g.sure : Int), .int .i64 g.kept, .int .u64 (g.marks : Int)])) (i := 3) rfl
      have c60 : w3.cell? ⟨hs, 0, none⟩ = some (.slice la g.recs.length lc) := b6.cell 0
      have c61 : w3.cell? ⟨hs, 1, none⟩ = some (.int .i64 (g.sure : Int)) := b6.cell 1
      have c62 : w3.cell? ⟨hs, 2, none⟩ = some (.int .i64 g.kept) := b6.cell 2
      have c63 : w3.cell? ⟨hs, 3, none⟩ = some (.int .u64 (g.marks : Int)) := b6.cell 3
      have c72 : w3.cell? ⟨hs + 1, 2, none⟩ = some (.string s) := b7.cell 2
      have c90 : w3.cell? ⟨hs + 1 + 1, 0, none⟩ = some (.slice none 0 0) := b9.cell 0
      have c91 : w3.cell? ⟨hs + 1 + 1, 1, none⟩ = some (.int .i64 0) := b9.cell 1
      have c92 : w3.cell? ⟨hs + 1 + 1, 2, none⟩ = some (.int .i64 0) := b9.cell 2
      have c93 : w3.cell? ⟨hs + 1 + 1, 3, none⟩ = some (.int .u64 0) := b9.cell 3
      have f90 : w3.frozen? ⟨hs + 1 + 1, 0, none⟩ = false := b9.frozen 0
      have f91 : w3.frozen? ⟨hs + 1 + 1, 1, none⟩ = false := b9.frozen 1
      have f92 : w3.frozen? ⟨hs + 1 + 1, 2, none⟩ = false := b9.frozen 2
      have f93 : w3.frozen? ⟨hs + 1 + 1, 3, none⟩ = false := b9.frozen 3
      have ck0 : w3.cell? ⟨hs + 1 + 1 + 1, 0, none⟩ = some (.slice la g.recs.length lc) := bk.cell 0
      have ck1 : w3.cell? ⟨hs + 1 + 1 + 1, 1, none⟩ = some (.int .i64 (g.sure : Int)) := bk.cell 1
      have ck2 : w3.cell? ⟨hs + 1 + 1 + 1, 2, none⟩ = some (.int .i64 g.kept) := bk.cell 2
      have ck3 : w3.cell? ⟨hs + 1 + 1 + 1, 3, none⟩ = some (.int .u64 (g.marks : Int)) := bk.cell 3
      have fk0 : w3.frozen? ⟨hs + 1 + 1 + 1, 0, none⟩ = false := bk.frozen 0
      have fk1 : w3.frozen? ⟨hs + 1 + 1 + 1, 1, none⟩ = false := bk.frozen 1
      have fk2 : w3.frozen? ⟨hs + 1 + 1 + 1, 2, none⟩ = false := bk.frozen 2
      have fk3 : w3.frozen? ⟨hs + 1 + 1 + 1, 3, none⟩ = false := bk.frozen 3
      have B9 := Lib.hid b9
      clear b6 b7 b9 bk
      have hl3 : hs + 3 < w3.heap.size := (h3.box (bx := (oneBx4 (.slice la g.recs.length lc) g.sure g.kept g.marks ⟨0, n, s, at_, ⟨fat, fke, fto, fby, flo⟩⟩ #[.slice la g.recs.length lc, .int .i64 (g.sure : Int), .int .i64 g.kept, .int .u64 (g.marks : Int)])) (i := 3) rfl).lt
      have HM := HMP w3 (LW.reads (bx := (oneBx4 (.slice la g.recs.length lc) g.sure g.kept g.marks ⟨0, n, s, at_, ⟨fat, fke, fto, fby, flo⟩⟩ #[.slice la g.recs.length lc, .int .i64 (g.sure : Int), .int .i64 g.kept, .int .u64 (g.marks : Int)])) h3)
      have H3 := Lib.hid h3
      clear h3 HMP
      go_wp2_with (fail)
      clear c60 c61 c62 c63 c72 c90 c91 c92 c93 f90 f91 f92 f93 ck0 ck1 ck2 ck3 fk0 fk1 fk2 fk3 B9
      refine HM.out.mono ?_
      rintro e w4 ⟨lv2, rfl, ho4, hb4⟩
      obtain ⟨a4, c4, rfl⟩ := own_form ho4
      have HB4 := Lib.hid hb4
      have HO4 := Lib.hid ho4
      have h4 := H3.out.below (bx_stable ob (.slice la g.recs.length lc) g.recs hs (oneBx4 (.slice la g.recs.length lc) g.sure g.kept g.marks ⟨0, n, s, at_, ⟨fat, fke, fto, fby, flo⟩⟩ #[.slice la g.recs.length lc, .int .i64 (g.sure : Int), .int .i64 g.kept, .int .u64 (g.marks : Int)])) hb4
      clear hb4 ho4
      have b6 := h4.box (bx := (oneBx4 (.slice la g.recs.length lc) g.sure g.kept g.marks ⟨0, n, s, at_, ⟨fat, fke, fto, fby, flo⟩⟩ #[.slice la g.recs.length lc, .int .i64 (g.sure : Int), .int .i64 g.kept, .int .u64 (g.marks : Int)])) (i := 0) rfl
      have b7 := h4.box (bx := (oneBx4 (.slice la g.recs.length lc) g.sure g.kept g.marks ⟨0, n, s, at_, ⟨fat, fke, fto, fby, flo⟩⟩ #[.slice la g.recs.length lc, .int .i64 (g.sure : Int), .int .i64 g.kept, .int .u64 (g.marks : Int)])) (i := 1) rfl
      have b9 := h4.box (bx := (oneBx4 (.slice la g.recs.length lc) g.sure g.kept g.marks ⟨0, n, s, at_, ⟨fat, fke, fto, fby, flo⟩⟩ #[.slice la g.recs.length lc, .int .i64 (g.sure : Int), .int .i64 g.kept, .int .u64 (g.marks : Int)])) (i := 2) rfl
      have bk := h4.box (bx := (oneBx4 (.slice la g.recs.length lc) g.sure g.kept g.marks ⟨0, n, s, at_, ⟨fat, fke, fto, fby, flo⟩⟩ #[.slice la g.recs.length lc, .int .i64 (g.sure : Int), .int .i64 g.kept, .int .u64 (g.marks : Int)])) (i := 3) rfl
      have c60 : w4.cell? ⟨hs, 0, none⟩ = some (.slice la g.recs.length lc) := b6.cell 0
      have c61 : w4.cell? ⟨hs, 1, none⟩ = some (.int .i64 (g.sure : Int)) := b6.cell 1
      have c62 : w4.cell? ⟨hs, 2, none⟩ = some (.int .i64 g.kept) := b6.cell 2
      have c63 : w4.cell? ⟨hs, 3, none⟩ = some (.int .u64 (g.marks : Int)) := b6.cell 3
      have c72 : w4.cell? ⟨hs + 1, 2, none⟩ = some (.string s) := b7.cell 2
      have c90 : w4.cell? ⟨hs + 1 + 1, 0, none⟩ = some (.slice none 0 0) := b9.cell 0
      have c91 : w4.cell? ⟨hs + 1 + 1, 1, none⟩ = some (.int .i64 0) := b9.cell 1
      have c92 : w4.cell? ⟨hs + 1 + 1, 2, none⟩ = some (.int .i64 0) := b9.cell 2
      have c93 : w4.cell? ⟨hs + 1 + 1, 3, none⟩ = some (.int .u64 0) := b9.cell 3
      have f90 : w4.frozen? ⟨hs + 1 + 1, 0, none⟩ = false := b9.frozen 0
      have f91 : w4.frozen? ⟨hs + 1 + 1, 1, none⟩ = false := b9.frozen 1
      have f92 : w4.frozen? ⟨hs + 1 + 1, 2, none⟩ = false := b9.frozen 2
      have f93 : w4.frozen? ⟨hs + 1 + 1, 3, none⟩ = false := b9.frozen 3
      have ck0 : w4.cell? ⟨hs + 1 + 1 + 1, 0, none⟩ = some (.slice la g.recs.length lc) := bk.cell 0
      have ck1 : w4.cell? ⟨hs + 1 + 1 + 1, 1, none⟩ = some (.int .i64 (g.sure : Int)) := bk.cell 1
      have ck2 : w4.cell? ⟨hs + 1 + 1 + 1, 2, none⟩ = some (.int .i64 g.kept) := bk.cell 2
      have ck3 : w4.cell? ⟨hs + 1 + 1 + 1, 3, none⟩ = some (.int .u64 (g.marks : Int)) := bk.cell 3
      have fk0 : w4.frozen? ⟨hs + 1 + 1 + 1, 0, none⟩ = false := bk.frozen 0
      have fk1 : w4.frozen? ⟨hs + 1 + 1 + 1, 1, none⟩ = false := bk.frozen 1
      have fk2 : w4.frozen? ⟨hs + 1 + 1 + 1, 2, none⟩ = false := bk.frozen 2
      have fk3 : w4.frozen? ⟨hs + 1 + 1 + 1, 3, none⟩ = false := bk.frozen 3
      have B9 := Lib.hid b9
      clear b6 b7 b9 bk
      clear h4
      go_wp2_with (fail)
      go_region
      go_wp2
      have B9' := ((B9.out.far4 (q := hs + 1 + 1 + 1) (v0 := .slice a4 (g.recs.length + 1) c4) (v1 := .int .i64 (g.sure : Int)) (v2 := .int .i64 g.kept) (v3 := .int .u64 (g.marks : Int)) (by omega)).set4 (v0 := .slice a4 (g.recs.length + 1) c4) (v1 := .int .i64 (g.sure : Int)) (v2 := .int .i64 (g.kept)) (v3 := .int .u64 (g.marks : Int)))
      have r0 := B9'.cell 0
      have r1 := B9'.cell 1
      have r2 := B9'.cell 2
      have r3 := B9'.cell 3
      simp at r0 r1 r2 r3
      (try simp only [Exit.inBlock, Exit.then])
      refine bodyPost_ret (by simp [results, Try.results58, go_sem, r0, r1, r2, r3]; try rfl) rfl ?_
      exact ⟨lb, .slice a4 (g.recs.length + 1) c4, rfl, one_pushed (bx := (oneBx4 (.slice la g.recs.length lc) g.sure g.kept g.marks ⟨0, n, s, at_, ⟨fat, fke, fto, fby, flo⟩⟩ #[.slice la g.recs.length lc, .int .i64 (g.sure : Int), .int .i64 g.kept, .int .u64 (g.marks : Int)])) (k2 := g.kept) (B := w3.heap.size) HF0.out HOK.out H3.out (Nat.le_refl _) HOB.out ((((Step.below HB4.out).set4 (r := hs + 1 + 1 + 1) ⟨by omega, by show hs + 1 + 1 + 1 < hs + 4; omega⟩).set4 (r := hs + 1 + 1) ⟨by omega, by show hs + 1 + 1 < hs + 4; omega⟩).drew) (own_drew (own_set4 (own_set4 HO4.out (by omega)) (by omega)))⟩
end
end Go.Proofs.Ytnobiekgifjaeaa
