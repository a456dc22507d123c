/-
  'one': something done to both.
-/
import Derived.Test.YtnobiekgifjaeaaT6
namespace Go.Proofs.Ytnobiekgifjaeaa
open Go.RowKit
attribute [local go_sem ↓] Go.wp_at_zero Go.wp_at_succ

def acV (a : Ac) : Value := .agg #[.int .i64 a.kind, .int .i64 a.n, .string a.s, .int .u64 a.at_, .int .i64 a.fall.at_, .int .u64 a.fall.keep, .int .i64 a.fall.torn, .int .i64 a.fall.bytes, .int .i64 a.fall.log]
def OnePost (ob : Ob) (w0 : World) (b : Nat) (g' : Lg) (e : Ending) (w' : World) : Prop :=
  ∃ lb' lv', e = .returned (.tuple #[.pointer (some ⟨lb', 0, none⟩), modelV lv' (g'.sure : Int) g'.kept (g'.marks : Int), .bool true]) ∧ PlayAt ob w0 b lb' lv' g' w'
/-- the three boxes with which 'one' begins -/
def oneBx (lv : Value) (sure kept mark : Int) (a : Ac) : List (TypeId × Array Value) :=
  [(89, #[lv, .int .i64 sure, .int .i64 kept, .int .u64 mark]),
   (85, #[.int .i64 a.kind, .int .i64 a.n, .string a.s, .int .u64 a.at_, .int .i64 a.fall.at_, .int .u64 a.fall.keep, .int .i64 a.fall.torn, .int .i64 a.fall.bytes, .int .i64 a.fall.log]),
   (89, #[.slice none 0 0, .int .i64 0, .int .i64 0, .int .u64 0])]

section
variable {ob : Ob} {w0 w : World} {b lb : Nat} {lv : Value} {g : Lg}
theorem PlayAt.boxed (h : PlayAt ob w0 b lb lv g w) (a : Ac) (W : World)
    (hW : W = ((w.alloc (.cells #[lv, .int .i64 (g.sure : Int), .int .i64 g.kept, .int .u64 (g.marks : Int)] 89)).alloc (.cells #[.int .i64 a.kind, .int .i64 a.n, .string a.s, .int .u64 a.at_, .int .i64 a.fall.at_, .int .u64 a.fall.keep, .int .i64 a.fall.torn, .int .i64 a.fall.bytes, .int .i64 a.fall.log] 85)).alloc (.cells #[.slice none 0 0, .int .i64 0, .int .i64 0, .int .u64 0] 89)) :
    LW w0 (bxK ob lv w.heap.size 3) (bxP ob lv g.recs w.heap.size (oneBx lv g.sure g.kept g.marks a)) b lb (frames 1 (g.recs.take g.sure)) (g.marks : Int) g W := by
  subst hW
  refine LW.boxed (bx := oneBx lv g.sure g.kept g.marks a) h.1 (((Below.refl _ _).alloc (Nat.le_refl _) _ |>.alloc (by simp) _).alloc (by simp; omega) _) (fun i t cs hi => ?_) (by simp [oneBx])
  match i, hi with
  | 0, hi => cases hi; exact ((Blk.new w _ _).alloc _).alloc _
  | 1, hi =>
    cases hi
    have := (Blk.new (w.alloc (.cells #[lv, .int .i64 (g.sure : Int), .int .i64 g.kept, .int .u64 (g.marks : Int)] 89)) 85 #[.int .i64 a.kind, .int .i64 a.n, .string a.s, .int .u64 a.at_, .int .i64 a.fall.at_, .int .u64 a.fall.keep, .int .i64 a.fall.torn, .int .i64 a.fall.bytes, .int .i64 a.fall.log]).alloc (.cells #[.slice none 0 0, .int .i64 0, .int .i64 0, .int .u64 0] 89)
    simpa using this
  | 2, hi =>
    cases hi
    have := Blk.new ((w.alloc (.cells #[lv, .int .i64 (g.sure : Int), .int .i64 g.kept, .int .u64 (g.marks : Int)] 89)).alloc (.cells #[.int .i64 a.kind, .int .i64 a.n, .string a.s, .int .u64 a.at_, .int .i64 a.fall.at_, .int .u64 a.fall.keep, .int .i64 a.fall.torn, .int .i64 a.fall.bytes, .int .i64 a.fall.log] 85)) 89 #[.slice none 0 0, .int .i64 0, .int .i64 0, .int .u64 0]
    simpa using this

theorem one_bx_ok {lv : Value} {x y z : Int} {a : Ac} (h : ∀ s, lv ≠ .string s) : ∀ t cs, (t, cs) ∈ oneBx lv x y z a → ∀ s, cs[0]? ≠ some (.string s) := by
  intro t cs hm s
  simp [oneBx] at hm
  rcases hm with ⟨_, rfl⟩ | ⟨_, rfl⟩ | ⟨_, rfl⟩
  · simpa using h s
  · simp
  · simp

set_option maxRecDepth 100000 in
set_option maxHeartbeats 4000000 in
theorem one_give (h : PlayAt ob w0 b lb lv g w) (a : Ac) (ha : a.ok) (hk : a.kind = 3) :
    Calls Try.prog 58 #[.pointer (some ⟨b, 0, none⟩), .pointer (some ⟨lb, 0, none⟩), modelV lv g.sure g.kept g.marks, acV a] w (OnePost ob w0 b { g with kept := lessOf g.kept a.n }) := by
  obtain ⟨la, lc, rfl⟩ := (LW.reads (bx := []) h.1).form
  have h1 := h.boxed a _ rfl
  have hok := h.1.ok
  have HOB : Hid (∀ r t cs, ob = some (r, t, cs) → r < w.heap.size) := fun r t cs e => (h.1.own.2.2 r t cs e).lt
  have HF0 := Lib.hid h.2
  have hk1 := hok.kept1
  have hk2 := hok.kept2
  have hsr := hok.sure
  have hn1 := ha.n1
  have hn2 := ha.n2
  have hat1 := ha.at1
  have hat2 := ha.at2
  have HOK := Lib.hid hok
  have HA := Lib.hid ha
  clear h hok ha
  unfold modelV acV
  obtain ⟨kind, n, s, at_, fat, fke, fto, fby, flo⟩ := a
  simp only at *
  subst hk
  have HG : Hid (Calls Try.prog 55 #[.pointer (some ⟨lb, 0, none⟩), .int .i64 n] _ fun e w' => e = .returned (.int .i64 (lessOf g.kept n)) ∧ LW w0 (bxK ob (.slice la g.recs.length lc) w.heap.size 3) (bxP ob (.slice la g.recs.length lc) g.recs w.heap.size _) b lb (frames 1 (g.recs.take g.sure)) (g.marks : Int) { g with kept := lessOf g.kept n } w') :=
    h1.logs (bx_stable ob (.slice la g.recs.length lc) g.recs w.heap.size (oneBx (.slice la g.recs.length lc) g.sure g.kept g.marks ⟨3, n, s, at_, ⟨fat, fke, fto, fby, flo⟩⟩)) (fun G hw => lgive_c hw n ⟨hn1, hn2⟩)
  clear h1
  have hls := lessOf_bounds (n := n) hk1
  go_enter Try.func58, Try.ntmps58
  go_wp2_with (fail)
  refine HG.out.mono ?_
  rintro e w2 ⟨rfl, h2⟩
  generalize hhs : w.heap.size = hs at *
  clear hhs
  have b6 := h2.box (bx := oneBx (.slice la g.recs.length lc) g.sure g.kept g.marks ⟨3, n, s, at_, ⟨fat, fke, fto, fby, flo⟩⟩) (i := 0) rfl
  have b7 := h2.box (bx := oneBx (.slice la g.recs.length lc) g.sure g.kept g.marks ⟨3, n, s, at_, ⟨fat, fke, fto, fby, flo⟩⟩) (i := 1) rfl
  have b9 := h2.box (bx := oneBx (.slice la g.recs.length lc) g.sure g.kept g.marks ⟨3, n, s, at_, ⟨fat, fke, fto, fby, flo⟩⟩) (i := 2) rfl
  have c60 : w2.cell? ⟨hs, 0, none⟩ = some (.slice la g.recs.length lc) := b6.cell 0
  have c61 : w2.cell? ⟨hs, 1, none⟩ = some (.int .i64 (g.sure : Int)) := b6.cell 1
  have c62 : w2.cell? ⟨hs, 2, none⟩ = some (.int .i64 g.kept) := b6.cell 2
  have c63 : w2.cell? ⟨hs, 3, none⟩ = some (.int .u64 (g.marks : Int)) := b6.cell 3
  have f60 : w2.frozen? ⟨hs, 0, none⟩ = false := b6.frozen 0
  have f61 : w2.frozen? ⟨hs, 1, none⟩ = false := b6.frozen 1
  have f62 : w2.frozen? ⟨hs, 2, none⟩ = false := b6.frozen 2
  have f63 : w2.frozen? ⟨hs, 3, none⟩ = false := b6.frozen 3
  have c71 : w2.cell? ⟨hs + 1, 1, none⟩ = some (.int .i64 n) := b7.cell 1
  have c72 : w2.cell? ⟨hs + 1, 2, none⟩ = some (.string s) := b7.cell 2
  have c73 : w2.cell? ⟨hs + 1, 3, none⟩ = some (.int .u64 at_) := b7.cell 3
  have c90 : w2.cell? ⟨hs + 1 + 1, 0, none⟩ = some (.slice none 0 0) := b9.cell 0
  have c91 : w2.cell? ⟨hs + 1 + 1, 1, none⟩ = some (.int .i64 0) := b9.cell 1
  have c92 : w2.cell? ⟨hs + 1 + 1, 2, none⟩ = some (.int .i64 0) := b9.cell 2
  have c93 : w2.cell? ⟨hs + 1 + 1, 3, none⟩ = some (.int .u64 0) := b9.cell 3
  have f90 : w2.frozen? ⟨hs + 1 + 1, 0, none⟩ = false := b9.frozen 0
  have f91 : w2.frozen? ⟨hs + 1 + 1, 1, none⟩ = false := b9.frozen 1
  have f92 : w2.frozen? ⟨hs + 1 + 1, 2, none⟩ = false := b9.frozen 2
  have f93 : w2.frozen? ⟨hs + 1 + 1, 3, none⟩ = false := b9.frozen 3
  have B9 := Lib.hid b9
  clear b6 b7 b9
  have H2 := Lib.hid h2
  clear h2 HG
  go_wp2_with (go_at_call 77; refine (less5_c _ _ (by omega) (by omega)).mono ?_; rintro e w' ⟨rfl, rfl⟩)
  go_region
  go_wp2
  have B9' := ((B9.out.far (p := ⟨hs, 2, none⟩) (by show hs + 2 ≠ hs; omega) (.int .i64 (lessOf g.kept n))).set4 (v0 := .slice la g.recs.length lc) (v1 := .int .i64 ((g.sure : Int))) (v2 := .int .i64 (lessOf g.kept n)) (v3 := .int .u64 ((g.marks : Int))))
  have r0 := B9'.cell 0
  have r1 := B9'.cell 1
  have r2 := B9'.cell 2
  have r3 := B9'.cell 3
  simp at r0 r1 r2 r3
  (try simp only [Exit.inBlock, Exit.then])
  refine bodyPost_ret (by simp [results, Try.results58, go_sem, r0, r1, r2, r3]; try rfl) rfl ?_
  exact ⟨lb, .slice la g.recs.length lc, rfl, LW.leave (bx := oneBx (.slice la g.recs.length lc) g.sure g.kept g.marks ⟨3, n, s, at_, ⟨fat, fke, fto, fby, flo⟩⟩) H2.out HOB.out ((((Step.refl _ w2).setCell (p := ⟨hs, 2, none⟩) (.inl ⟨Nat.le_refl _, by show hs < hs + 3; omega⟩) _).set4 (r := hs + 1 + 1) ⟨by omega, by show hs + 1 + 1 < hs + 3; omega⟩).drew) (one_bx_ok (by simp)), fits_kept HF0.out _⟩

set_option maxRecDepth 100000 in
set_option maxHeartbeats 4000000 in
theorem one_keep (h : PlayAt ob w0 b lb lv g w) (a : Ac) (ha : a.ok) (hk : a.kind = 2) :
    Calls Try.prog 58 #[.pointer (some ⟨b, 0, none⟩), .pointer (some ⟨lb, 0, none⟩), modelV lv g.sure g.kept g.marks, acV a] w (OnePost ob w0 b (g.keep a.n)) := by
  obtain ⟨la, lc, rfl⟩ := (LW.reads (bx := []) h.1).form
  have h1 := h.boxed a _ rfl
  have hok := h.1.ok
  have HOB : Hid (∀ r t cs, ob = some (r, t, cs) → r < w.heap.size) := fun r t cs e => (h.1.own.2.2 r t cs e).lt
  have HF0 := Lib.hid h.2
  have hk1 := hok.kept1
  have hk2 := hok.kept2
  have hsr := hok.sure
  have hn1 := ha.n1
  have hn2 := ha.n2
  have hat1 := ha.at1
  have hat2 := ha.at2
  have HOK := Lib.hid hok
  have HA := Lib.hid ha
  clear h hok ha
  unfold modelV acV
  obtain ⟨kind, n, s, at_, fat, fke, fto, fby, flo⟩ := a
  simp only at *
  subst hk
  by_cases hneg : n < 0
  · have e1 : keepCode g n = 1 := by unfold keepCode; rw [if_pos hneg]
    have e2 : g.keep n = g := by unfold Lg.keep; rw [if_pos hneg]
    rw [e2]
    have HG : Hid (Calls Try.prog 43 #[.pointer (some ⟨lb, 0, none⟩), .int .i64 n] _ fun e w' => e = .returned (.int .i64 (keepCode g n)) ∧ LW w0 (bxK ob (.slice la g.recs.length lc) w.heap.size 3) (bxP ob (.slice la g.recs.length lc) g.recs w.heap.size _) b lb (frames 1 (g.recs.take g.sure)) (g.marks : Int) (g.keep n) w') :=
      h1.logs (bx_stable ob (.slice la g.recs.length lc) g.recs w.heap.size (oneBx (.slice la g.recs.length lc) g.sure g.kept g.marks ⟨2, n, s, at_, ⟨fat, fke, fto, fby, flo⟩⟩)) (fun G hw => lkeep_c hw n ⟨hn1, hn2⟩)
    rw [e1, e2] at HG
    clear h1
    go_enter Try.func58, Try.ntmps58
    go_wp2_with (fail)
    refine HG.out.mono ?_
    rintro e w2 ⟨rfl, h2⟩
    generalize hhs : w.heap.size = hs at *
    clear hhs
    clear e1 e2
    have b6 := h2.box (bx := oneBx (.slice la g.recs.length lc) g.sure g.kept g.marks ⟨2, n, s, at_, ⟨fat, fke, fto, fby, flo⟩⟩) (i := 0) rfl
    have b7 := h2.box (bx := oneBx (.slice la g.recs.length lc) g.sure g.kept g.marks ⟨2, n, s, at_, ⟨fat, fke, fto, fby, flo⟩⟩) (i := 1) rfl
    have b9 := h2.box (bx := oneBx (.slice la g.recs.length lc) g.sure g.kept g.marks ⟨2, n, s, at_, ⟨fat, fke, fto, fby, flo⟩⟩) (i := 2) rfl
    have c60 : w2.cell? ⟨hs, 0, none⟩ = some (.slice la g.recs.length lc) := b6.cell 0
    have c61 : w2.cell? ⟨hs, 1, none⟩ = some (.int .i64 (g.sure : Int)) := b6.cell 1
    have c62 : w2.cell? ⟨hs, 2, none⟩ = some (.int .i64 g.kept) := b6.cell 2
    have c63 : w2.cell? ⟨hs, 3, none⟩ = some (.int .u64 (g.marks : Int)) := b6.cell 3
    have f60 : w2.frozen? ⟨hs, 0, none⟩ = false := b6.frozen 0
    have f61 : w2.frozen? ⟨hs, 1, none⟩ = false := b6.frozen 1
    have f62 : w2.frozen? ⟨hs, 2, none⟩ = false := b6.frozen 2
    have f63 : w2.frozen? ⟨hs, 3, none⟩ = false := b6.frozen 3
    have c71 : w2.cell? ⟨hs + 1, 1, none⟩ = some (.int .i64 n) := b7.cell 1
    have c72 : w2.cell? ⟨hs + 1, 2, none⟩ = some (.string s) := b7.cell 2
    have c73 : w2.cell? ⟨hs + 1, 3, none⟩ = some (.int .u64 at_) := b7.cell 3
    have c90 : w2.cell? ⟨hs + 1 + 1, 0, none⟩ = some (.slice none 0 0) := b9.cell 0
    have c91 : w2.cell? ⟨hs + 1 + 1, 1, none⟩ = some (.int .i64 0) := b9.cell 1
    have c92 : w2.cell? ⟨hs + 1 + 1, 2, none⟩ = some (.int .i64 0) := b9.cell 2
    have c93 : w2.cell? ⟨hs + 1 + 1, 3, none⟩ = some (.int .u64 0) := b9.cell 3
    have f90 : w2.frozen? ⟨hs + 1 + 1, 0, none⟩ = false := b9.frozen 0
    have f91 : w2.frozen? ⟨hs + 1 + 1, 1, none⟩ = false := b9.frozen 1
    have f92 : w2.frozen? ⟨hs + 1 + 1, 2, none⟩ = false := b9.frozen 2
    have f93 : w2.frozen? ⟨hs + 1 + 1, 3, none⟩ = false := b9.frozen 3
    have B9 := Lib.hid b9
    clear b6 b7 b9
    have H2 := Lib.hid h2
    clear h2 HG
    go_wp2_with (fail)
    go_region
    go_wp2
    have B9' := ((B9.out).set4 (v0 := .slice la g.recs.length lc) (v1 := .int .i64 ((g.sure : Int))) (v2 := .int .i64 (g.kept)) (v3 := .int .u64 ((g.marks : Int))))
    have r0 := B9'.cell 0
    have r1 := B9'.cell 1
    have r2 := B9'.cell 2
    have r3 := B9'.cell 3
    simp at r0 r1 r2 r3
    (try simp only [Exit.inBlock, Exit.then])
    refine bodyPost_ret (by simp [results, Try.results58, go_sem, r0, r1, r2, r3]; try rfl) rfl ?_
    exact ⟨lb, (.slice la g.recs.length lc), rfl, LW.leave (bx := oneBx (.slice la g.recs.length lc) g.sure g.kept g.marks ⟨2, n, s, at_, ⟨fat, fke, fto, fby, flo⟩⟩) H2.out HOB.out (((Step.refl _ w2).set4 (r := hs + 1 + 1) ⟨by omega, by show hs + 1 + 1 < hs + 3; omega⟩).drew) (one_bx_ok (by simp)), HF0.out⟩
  · by_cases hbig : 4194305 - (g.end_ : Int) - g.kept < n
    · have e1 : keepCode g n = 50 := by unfold keepCode; rw [if_neg hneg, if_pos hbig]
      have e2 : g.keep n = g := by unfold Lg.keep; rw [if_neg hneg, if_pos hbig]
      rw [e2]
      have hbig2 : 4194305 - (endFrom 1 g.recs : Int) - g.kept < n := hbig
      clear hbig
      have HG : Hid (Calls Try.prog 43 #[.pointer (some ⟨lb, 0, none⟩), .int .i64 n] _ fun e w' => e = .returned (.int .i64 (keepCode g n)) ∧ LW w0 (bxK ob (.slice la g.recs.length lc) w.heap.size 3) (bxP ob (.slice la g.recs.length lc) g.recs w.heap.size _) b lb (frames 1 (g.recs.take g.sure)) (g.marks : Int) (g.keep n) w') :=
        h1.logs (bx_stable ob (.slice la g.recs.length lc) g.recs w.heap.size (oneBx (.slice la g.recs.length lc) g.sure g.kept g.marks ⟨2, n, s, at_, ⟨fat, fke, fto, fby, flo⟩⟩)) (fun G hw => lkeep_c hw n ⟨hn1, hn2⟩)
      rw [e1, e2] at HG
      clear h1
      go_enter Try.func58, Try.ntmps58
      go_wp2_with (fail)
      refine HG.out.mono ?_
      rintro e w2 ⟨rfl, h2⟩
      generalize hhs : w.heap.size = hs at *
      clear hhs
      clear e1 e2
      have b6 := h2.box (bx := oneBx (.slice la g.recs.length lc) g.sure g.kept g.marks ⟨2, n, s, at_, ⟨fat, fke, fto, fby, flo⟩⟩) (i := 0) rfl
      have b7 := h2.box (bx := oneBx (.slice la g.recs.length lc) g.sure g.kept g.marks ⟨2, n, s, at_, ⟨fat, fke, fto, fby, flo⟩⟩) (i := 1) rfl
      have b9 := h2.box (bx := oneBx (.slice la g.recs.length lc) g.sure g.kept g.marks ⟨2, n, s, at_, ⟨fat, fke, fto, fby, flo⟩⟩) (i := 2) rfl
      have c60 : w2.cell? ⟨hs, 0, none⟩ = some (.slice la g.recs.length lc) := b6.cell 0
      have c61 : w2.cell? ⟨hs, 1, none⟩ = some (.int .i64 (g.sure : Int)) := b6.cell 1
      have c62 : w2.cell? ⟨hs, 2, none⟩ = some (.int .i64 g.kept) := b6.cell 2
      have c63 : w2.cell? ⟨hs, 3, none⟩ = some (.int .u64 (g.marks : Int)) := b6.cell 3
      have f60 : w2.frozen? ⟨hs, 0, none⟩ = false := b6.frozen 0
      have f61 : w2.frozen? ⟨hs, 1, none⟩ = false := b6.frozen 1
      have f62 : w2.frozen? ⟨hs, 2, none⟩ = false := b6.frozen 2
      have f63 : w2.frozen? ⟨hs, 3, none⟩ = false := b6.frozen 3
      have c71 : w2.cell? ⟨hs + 1, 1, none⟩ = some (.int .i64 n) := b7.cell 1
      have c72 : w2.cell? ⟨hs + 1, 2, none⟩ = some (.string s) := b7.cell 2
      have c73 : w2.cell? ⟨hs + 1, 3, none⟩ = some (.int .u64 at_) := b7.cell 3
      have c90 : w2.cell? ⟨hs + 1 + 1, 0, none⟩ = some (.slice none 0 0) := b9.cell 0
      have c91 : w2.cell? ⟨hs + 1 + 1, 1, none⟩ = some (.int .i64 0) := b9.cell 1
      have c92 : w2.cell? ⟨hs + 1 + 1, 2, none⟩ = some (.int .i64 0) := b9.cell 2
      have c93 : w2.cell? ⟨hs + 1 + 1, 3, none⟩ = some (.int .u64 0) := b9.cell 3
      have f90 : w2.frozen? ⟨hs + 1 + 1, 0, none⟩ = false := b9.frozen 0
      have f91 : w2.frozen? ⟨hs + 1 + 1, 1, none⟩ = false := b9.frozen 1
      have f92 : w2.frozen? ⟨hs + 1 + 1, 2, none⟩ = false := b9.frozen 2
      have f93 : w2.frozen? ⟨hs + 1 + 1, 3, none⟩ = false := b9.frozen 3
      have B9 := Lib.hid b9
      clear b6 b7 b9
      have HMR : ∀ W, Below w2.heap.size w2 W → Hid (Calls Try.prog 75 #[.agg #[(.slice la g.recs.length lc), .int .i64 (g.sure : Int), .int .i64 g.kept, .int .u64 (g.marks : Int)]] W fun e w' => e = .returned (.int .i64 (4194305 - (endFrom 1 g.recs : Int))) ∧ Below W.heap.size W w') := fun W hW =>
        mroom_c W _ g.recs _ _ _ ((LW.reads (bx := oneBx (.slice la g.recs.length lc) g.sure g.kept g.marks ⟨2, n, s, at_, ⟨fat, fke, fto, fby, flo⟩⟩) h2).below hW) HOK.out.recsOk rfl rfl rfl
      have hB6 := h2.box (bx := oneBx (.slice la g.recs.length lc) g.sure g.kept g.marks ⟨2, n, s, at_, ⟨fat, fke, fto, fby, flo⟩⟩) (i := 0) rfl
      have hB7 := h2.box (bx := oneBx (.slice la g.recs.length lc) g.sure g.kept g.marks ⟨2, n, s, at_, ⟨fat, fke, fto, fby, flo⟩⟩) (i := 1) rfl
      have hl6 : hs < w2.heap.size := hB6.lt
      have hl7 : hs + 1 < w2.heap.size := hB7.lt
      have H2 := Lib.hid h2
      have HB6 := Lib.hid hB6
      have HB7 := Lib.hid hB7
      have hend1 := HOK.out.end_le
      have hend2 := g.end_pos
      unfold Lg.end_ at hend1 hend2
      have hwr : IntKind.i64.wrap (4194305 - (endFrom 1 g.recs : Int) - g.kept) = 4194305 - (endFrom 1 g.recs : Int) - g.kept := by rw [IntKind.wrap_i64]; omega
      clear h2 HG hB6 hB7
      go_wp2_with (fail)
      refine wp_region_late (S := Below w2.heap.size w2) (late := []) (by kernel_rfl) (below_drewN w2 1) (fun hHeld => ?_)
      refine wpAnyL_move (i := 0) (v := ?_) (by rfl) (by kernel_rfl) (by kernel_rfl) (by kernel_rfl) (by rfl) (by exact fun _ _ _ h => h) (Or.inl ⟨by rfl, ?_⟩) (by assumption) ?_; rotate_left; · (intro w0; go_simp; try with_reducible rfl)
      try simp only [Act.put, List.setIfInBounds_toArray, List.set_cons_zero, List.set_cons_succ]
      refine wpAnyL_load (i := 1) (v := ?_) (by rfl) (by kernel_rfl) (by kernel_rfl) (by kernel_rfl) (by rfl) (by kernel_rfl) (by exact fun _ _ _ h => h) (Or.inl ⟨by rfl, ?_⟩) (by assumption) ?_; rotate_left; · (intro w0 hS0; have k60 : w0.cell? ⟨hs, 0, none⟩ = some (.slice la g.recs.length lc) := (hS0.cell (p := ⟨hs, 0, none⟩) hl6).trans (HB6.out.cell 0); have k61 : w0.cell? ⟨hs, 1, none⟩ = some (.int .i64 (g.sure : Int)) := (hS0.cell (p := ⟨hs, 1, none⟩) hl6).trans (HB6.out.cell 1); have k62 : w0.cell? ⟨hs, 2, none⟩ = some (.int .i64 g.kept) := (hS0.cell (p := ⟨hs, 2, none⟩) hl6).trans (HB6.out.cell 2); have k63 : w0.cell? ⟨hs, 3, none⟩ = some (.int .u64 (g.marks : Int)) := (hS0.cell (p := ⟨hs, 3, none⟩) hl6).trans (HB6.out.cell 3); have k71 : w0.cell? ⟨hs + 1, 1, none⟩ = some (.int .i64 n) := (hS0.cell (p := ⟨hs + 1, 1, none⟩) hl7).trans (HB7.out.cell 1); go_simp; try with_reducible rfl)
      try simp only [Act.put, List.setIfInBounds_toArray, List.set_cons_zero, List.set_cons_succ]
      refine wpAnyL_load (i := 2) (v := ?_) (by rfl) (by kernel_rfl) (by kernel_rfl) (by kernel_rfl) (by rfl) (by kernel_rfl) (by exact fun _ _ _ h => h) (Or.inl ⟨by rfl, ?_⟩) (by assumption) ?_; rotate_left; · (intro w0 hS0; have k60 : w0.cell? ⟨hs, 0, none⟩ = some (.slice la g.recs.length lc) := (hS0.cell (p := ⟨hs, 0, none⟩) hl6).trans (HB6.out.cell 0); have k61 : w0.cell? ⟨hs, 1, none⟩ = some (.int .i64 (g.sure : Int)) := (hS0.cell (p := ⟨hs, 1, none⟩) hl6).trans (HB6.out.cell 1); have k62 : w0.cell? ⟨hs, 2, none⟩ = some (.int .i64 g.kept) := (hS0.cell (p := ⟨hs, 2, none⟩) hl6).trans (HB6.out.cell 2); have k63 : w0.cell? ⟨hs, 3, none⟩ = some (.int .u64 (g.marks : Int)) := (hS0.cell (p := ⟨hs, 3, none⟩) hl6).trans (HB6.out.cell 3); have k71 : w0.cell? ⟨hs + 1, 1, none⟩ = some (.int .i64 n) := (hS0.cell (p := ⟨hs + 1, 1, none⟩) hl7).trans (HB7.out.cell 1); go_simp; try with_reducible rfl)
      try simp only [Act.put, List.setIfInBounds_toArray, List.set_cons_zero, List.set_cons_succ]
      refine wpAnyL_move (i := 4) (v := ?_) (by rfl) (by kernel_rfl) (by kernel_rfl) (by kernel_rfl) (by rfl) (by exact fun _ _ _ h => h) (Or.inl ⟨by rfl, ?_⟩) (by assumption) ?_; rotate_left; · (intro w0; go_simp; try with_reducible rfl)
      try simp only [Act.put, List.setIfInBounds_toArray, List.set_cons_zero, List.set_cons_succ]
      refine wpAnyL_load (i := 5) (v := ?_) (by rfl) (by kernel_rfl) (by kernel_rfl) (by kernel_rfl) (by rfl) (by kernel_rfl) (by exact fun _ _ _ h => h) (Or.inl ⟨by rfl, ?_⟩) (by assumption) ?_; rotate_left; · (intro w0 hS0; have k60 : w0.cell? ⟨hs, 0, none⟩ = some (.slice la g.recs.length lc) := (hS0.cell (p := ⟨hs, 0, none⟩) hl6).trans (HB6.out.cell 0); have k61 : w0.cell? ⟨hs, 1, none⟩ = some (.int .i64 (g.sure : Int)) := (hS0.cell (p := ⟨hs, 1, none⟩) hl6).trans (HB6.out.cell 1); have k62 : w0.cell? ⟨hs, 2, none⟩ = some (.int .i64 g.kept) := (hS0.cell (p := ⟨hs, 2, none⟩) hl6).trans (HB6.out.cell 2); have k63 : w0.cell? ⟨hs, 3, none⟩ = some (.int .u64 (g.marks : Int)) := (hS0.cell (p := ⟨hs, 3, none⟩) hl6).trans (HB6.out.cell 3); have k71 : w0.cell? ⟨hs + 1, 1, none⟩ = some (.int .i64 n) := (hS0.cell (p := ⟨hs + 1, 1, none⟩) hl7).trans (HB7.out.cell 1); go_simp; try with_reducible rfl)
      try simp only [Act.put, List.setIfInBounds_toArray, List.set_cons_zero, List.set_cons_succ]
      refine wpAnyL_each (rs := [3]) (by kernel_rfl) (by simp) ?_
      refine EachL.cons (by rfl) (by rfl) (fun K hK => ?_) EachL.nil
      go_simp
      refine (HMR _ hHeld).out.mono ?_
      rintro e w3 ⟨rfl, hb3⟩
      dsimp only
      refine hK.out _ _ (hHeld.trans (hb3.mono hHeld.size)) (fun hHeld => ?_)
      clear hK K
      try simp only [Act.put, List.setIfInBounds_toArray, List.set_cons_zero, List.set_cons_succ]
      refine wpAnyL_move (i := 6) (v := ?_) (by rfl) (by kernel_rfl) (by kernel_rfl) (by kernel_rfl) (by rfl) (by exact fun _ _ _ h => h) (Or.inl ⟨by rfl, ?_⟩) (by assumption) ?_; rotate_left; · (intro w0; go_simp; try with_reducible rfl)
      try simp only [Act.put, List.setIfInBounds_toArray, List.set_cons_zero, List.set_cons_succ]
      refine wpAnyL_move (i := 7) (v := ?_) (by rfl) (by kernel_rfl) (by kernel_rfl) (by kernel_rfl) (by rfl) (by exact fun _ _ _ h => h) (Or.inl ⟨by rfl, ?_⟩) (by assumption) ?_; rotate_left; · (intro w0; go_simp; try with_reducible rfl)
      try simp only [Act.put, List.setIfInBounds_toArray, List.set_cons_zero, List.set_cons_succ]
      refine wpAnyL_done (by kernel_rfl) ?_ _
      have h3 := H2.out.below (bx_stable ob (.slice la g.recs.length lc) g.recs hs (oneBx (.slice la g.recs.length lc) g.sure g.kept g.marks ⟨2, n, s, at_, ⟨fat, fke, fto, fby, flo⟩⟩)) hHeld
      clear hHeld hb3 H2 HMR HB6 HB7
      have b6 := h3.box (bx := oneBx (.slice la g.recs.length lc) g.sure g.kept g.marks ⟨2, n, s, at_, ⟨fat, fke, fto, fby, flo⟩⟩) (i := 0) rfl
      have b7 := h3.box (bx := oneBx (.slice la g.recs.length lc) g.sure g.kept g.marks ⟨2, n, s, at_, ⟨fat, fke, fto, fby, flo⟩⟩) (i := 1) rfl
      have b9 := h3.box (bx := oneBx (.slice la g.recs.length lc) g.sure g.kept g.marks ⟨2, n, s, at_, ⟨fat, fke, fto, fby, flo⟩⟩) (i := 2) rfl
      have c60 : w3.cell? ⟨hs, 0, none⟩ = some (.slice la g.recs.length lc) := b6.cell 0
      have c61 : w3.cell? ⟨hs, 1, none⟩ = some (.int .i64 (g.sure : Int)) := b6.cell 1
      have c62 : w3.cell? ⟨hs, 2, none⟩ = some (.int .i64 g.kept) := b6.cell 2
      have c63 : w3.cell? ⟨hs, 3, none⟩ = some (.int .u64 (g.marks : Int)) := b6.cell 3
      have f60 : w3.frozen? ⟨hs, 0, none⟩ = false := b6.frozen 0
      have f61 : w3.frozen? ⟨hs, 1, none⟩ = false := b6.frozen 1
      have f62 : w3.frozen? ⟨hs, 2, none⟩ = false := b6.frozen 2
      have f63 : w3.frozen? ⟨hs, 3, none⟩ = false := b6.frozen 3
      have c71 : w3.cell? ⟨hs + 1, 1, none⟩ = some (.int .i64 n) := b7.cell 1
      have c72 : w3.cell? ⟨hs + 1, 2, none⟩ = some (.string s) := b7.cell 2
      have c73 : w3.cell? ⟨hs + 1, 3, none⟩ = some (.int .u64 at_) := b7.cell 3
      have c90 : w3.cell? ⟨hs + 1 + 1, 0, none⟩ = some (.slice none 0 0) := b9.cell 0
      have c91 : w3.cell? ⟨hs + 1 + 1, 1, none⟩ = some (.int .i64 0) := b9.cell 1
      have c92 : w3.cell? ⟨hs + 1 + 1, 2, none⟩ = some (.int .i64 0) := b9.cell 2
      have c93 : w3.cell? ⟨hs + 1 + 1, 3, none⟩ = some (.int .u64 0) := b9.cell 3
      have f90 : w3.frozen? ⟨hs + 1 + 1, 0, none⟩ = false := b9.frozen 0
      have f91 : w3.frozen? ⟨hs + 1 + 1, 1, none⟩ = false := b9.frozen 1
      have f92 : w3.frozen? ⟨hs + 1 + 1, 2, none⟩ = false := b9.frozen 2
      have f93 : w3.frozen? ⟨hs + 1 + 1, 3, none⟩ = false := b9.frozen 3
      have B9 := Lib.hid b9
      clear b6 b7 b9
      have H3 := Lib.hid h3
      clear h3
      go_wp2_with (fail)
      go_region
      go_wp2
      have B9' := ((B9.out).set4 (v0 := .slice la g.recs.length lc) (v1 := .int .i64 ((g.sure : Int))) (v2 := .int .i64 (g.kept)) (v3 := .int .u64 ((g.marks : Int))))
      have r0 := B9'.cell 0
      have r1 := B9'.cell 1
      have r2 := B9'.cell 2
      have r3 := B9'.cell 3
      simp at r0 r1 r2 r3
      (try simp only [Exit.inBlock, Exit.then])
      refine bodyPost_ret (by simp [results, Try.results58, go_sem, r0, r1, r2, r3]; try rfl) rfl ?_
      exact ⟨lb, (.slice la g.recs.length lc), rfl, LW.leave (bx := oneBx (.slice la g.recs.length lc) g.sure g.kept g.marks ⟨2, n, s, at_, ⟨fat, fke, fto, fby, flo⟩⟩) H3.out HOB.out (((Step.refl _ w3).set4 (r := hs + 1 + 1) ⟨by omega, by show hs + 1 + 1 < hs + 3; omega⟩).drew) (one_bx_ok (by simp)), HF0.out⟩
    · have e1 : keepCode g n = 0 := by unfold keepCode; rw [if_neg hneg, if_neg hbig]
      have e2 : g.keep n = { g with kept := g.kept + n } := by unfold Lg.keep; rw [if_neg hneg, if_neg hbig]
      rw [e2]
      have hbig2 : ¬ 4194305 - (endFrom 1 g.recs : Int) - g.kept < n := hbig
      clear hbig
      have HG : Hid (Calls Try.prog 43 #[.pointer (some ⟨lb, 0, none⟩), .int .i64 n] _ fun e w' => e = .returned (.int .i64 (keepCode g n)) ∧ LW w0 (bxK ob (.slice la g.recs.length lc) w.heap.size 3) (bxP ob (.slice la g.recs.length lc) g.recs w.heap.size _) b lb (frames 1 (g.recs.take g.sure)) (g.marks : Int) (g.keep n) w') :=
        h1.logs (bx_stable ob (.slice la g.recs.length lc) g.recs w.heap.size (oneBx (.slice la g.recs.length lc) g.sure g.kept g.marks ⟨2, n, s, at_, ⟨fat, fke, fto, fby, flo⟩⟩)) (fun G hw => lkeep_c hw n ⟨hn1, hn2⟩)
      rw [e1, e2] at HG
      clear h1
      go_enter Try.func58, Try.ntmps58
      go_wp2_with (fail)
      refine HG.out.mono ?_
      rintro e w2 ⟨rfl, h2⟩
      generalize hhs : w.heap.size = hs at *
      clear hhs
      clear e1 e2
      have b6 := h2.box (bx := oneBx (.slice la g.recs.length lc) g.sure g.kept g.marks ⟨2, n, s, at_, ⟨fat, fke, fto, fby, flo⟩⟩) (i := 0) rfl
      have b7 := h2.box (bx := oneBx (.slice la g.recs.length lc) g.sure g.kept g.marks ⟨2, n, s, at_, ⟨fat, fke, fto, fby, flo⟩⟩) (i := 1) rfl
      have b9 := h2.box (bx := oneBx (.slice la g.recs.length lc) g.sure g.kept g.marks ⟨2, n, s, at_, ⟨fat, fke, fto, fby, flo⟩⟩) (i := 2) rfl
      have c60 : w2.cell? ⟨hs, 0, none⟩ = some (.slice la g.recs.length lc) := b6.cell 0
      have c61 : w2.cell? ⟨hs, 1, none⟩ = some (.int .i64 (g.sure : Int)) := b6.cell 1
      have c62 : w2.cell? ⟨hs, 2, none⟩ = some (.int .i64 g.kept) := b6.cell 2
      have c63 : w2.cell? ⟨hs, 3, none⟩ = some (.int .u64 (g.marks : Int)) := b6.cell 3
      have f60 : w2.frozen? ⟨hs, 0, none⟩ = false := b6.frozen 0
      have f61 : w2.frozen? ⟨hs, 1, none⟩ = false := b6.frozen 1
      have f62 : w2.frozen? ⟨hs, 2, none⟩ = false := b6.frozen 2
      have f63 : w2.frozen? ⟨hs, 3, none⟩ = false := b6.frozen 3
      have c71 : w2.cell? ⟨hs + 1, 1, none⟩ = some (.int .i64 n) := b7.cell 1
      have c72 : w2.cell? ⟨hs + 1, 2, none⟩ = some (.string s) := b7.cell 2
      have c73 : w2.cell? ⟨hs + 1, 3, none⟩ = some (.int .u64 at_) := b7.cell 3
      have c90 : w2.cell? ⟨hs + 1 + 1, 0, none⟩ = some (.slice none 0 0) := b9.cell 0
      have c91 : w2.cell? ⟨hs + 1 + 1, 1, none⟩ = some (.int .i64 0) := b9.cell 1
      have c92 : w2.cell? ⟨hs + 1 + 1, 2, none⟩ = some (.int .i64 0) := b9.cell 2
      have c93 : w2.cell? ⟨hs + 1 + 1, 3, none⟩ = some (.int .u64 0) := b9.cell 3
      have f90 : w2.frozen? ⟨hs + 1 + 1, 0, none⟩ = false := b9.frozen 0
      have f91 : w2.frozen? ⟨hs + 1 + 1, 1, none⟩ = false := b9.frozen 1
      have f92 : w2.frozen? ⟨hs + 1 + 1, 2, none⟩ = false := b9.frozen 2
      have f93 : w2.frozen? ⟨hs + 1 + 1, 3, none⟩ = false := b9.frozen 3
      have B9 := Lib.hid b9
      clear b6 b7 b9
      have HMR : ∀ W, Below w2.heap.size w2 W → Hid (Calls Try.prog 75 #[.agg #[(.slice la g.recs.length lc), .int .i64 (g.sure : Int), .int .i64 g.kept, .int .u64 (g.marks : Int)]] W fun e w' => e = .returned (.int .i64 (4194305 - (endFrom 1 g.recs : Int))) ∧ Below W.heap.size W w') := fun W hW =>
        mroom_c W _ g.recs _ _ _ ((LW.reads (bx := oneBx (.slice la g.recs.length lc) g.sure g.kept g.marks ⟨2, n, s, at_, ⟨fat, fke, fto, fby, flo⟩⟩) h2).below hW) HOK.out.recsOk rfl rfl rfl
      have hB6 := h2.box (bx := oneBx (.slice la g.recs.length lc) g.sure g.kept g.marks ⟨2, n, s, at_, ⟨fat, fke, fto, fby, flo⟩⟩) (i := 0) rfl
      have hB7 := h2.box (bx := oneBx (.slice la g.recs.length lc) g.sure g.kept g.marks ⟨2, n, s, at_, ⟨fat, fke, fto, fby, flo⟩⟩) (i := 1) rfl
      have hl6 : hs < w2.heap.size := hB6.lt
      have hl7 : hs + 1 < w2.heap.size := hB7.lt
      have H2 := Lib.hid h2
      have HB6 := Lib.hid hB6
      have HB7 := Lib.hid hB7
      have hend1 := HOK.out.end_le
      have hend2 := g.end_pos
      unfold Lg.end_ at hend1 hend2
      have hwr : IntKind.i64.wrap (4194305 - (endFrom 1 g.recs : Int) - g.kept) = 4194305 - (endFrom 1 g.recs : Int) - g.kept := by rw [IntKind.wrap_i64]; omega
      clear h2 HG hB6 hB7
      go_wp2_with (fail)
      refine wp_region_late (S := Below w2.heap.size w2) (late := []) (by kernel_rfl) (below_drewN w2 1) (fun hHeld => ?_)
      refine wpAnyL_move (i := 0) (v := ?_) (by rfl) (by kernel_rfl) (by kernel_rfl) (by kernel_rfl) (by rfl) (by exact fun _ _ _ h => h) (Or.inl ⟨by rfl, ?_⟩) (by assumption) ?_; rotate_left; · (intro w0; go_simp; try with_reducible rfl)
      try simp only [Act.put, List.setIfInBounds_toArray, List.set_cons_zero, List.set_cons_succ]
      refine wpAnyL_load (i := 1) (v := ?_) (by rfl) (by kernel_rfl) (by kernel_rfl) (by kernel_rfl) (by rfl) (by kernel_rfl) (by exact fun _ _ _ h => h) (Or.inl ⟨by rfl, ?_⟩) (by assumption) ?_; rotate_left; · (intro w0 hS0; have k60 : w0.cell? ⟨hs, 0, none⟩ = some (.slice la g.recs.length lc) := (hS0.cell (p := ⟨hs, 0, none⟩) hl6).trans (HB6.out.cell 0); have k61 : w0.cell? ⟨hs, 1, none⟩ = some (.int .i64 (g.sure : Int)) := (hS0.cell (p := ⟨hs, 1, none⟩) hl6).trans (HB6.out.cell 1); have k62 : w0.cell? ⟨hs, 2, none⟩ = some (.int .i64 g.kept) := (hS0.cell (p := ⟨hs, 2, none⟩) hl6).trans (HB6.out.cell 2); have k63 : w0.cell? ⟨hs, 3, none⟩ = some (.int .u64 (g.marks : Int)) := (hS0.cell (p := ⟨hs, 3, none⟩) hl6).trans (HB6.out.cell 3); have k71 : w0.cell? ⟨hs + 1, 1, none⟩ = some (.int .i64 n) := (hS0.cell (p := ⟨hs + 1, 1, none⟩) hl7).trans (HB7.out.cell 1); go_simp; try with_reducible rfl)
      try simp only [Act.put, List.setIfInBounds_toArray, List.set_cons_zero, List.set_cons_succ]
      refine wpAnyL_load (i := 2) (v := ?_) (by rfl) (by kernel_rfl) (by kernel_rfl) (by kernel_rfl) (by rfl) (by kernel_rfl) (by exact fun _ _ _ h => h) (Or.inl ⟨by rfl, ?_⟩) (by assumption) ?_; rotate_left; · (intro w0 hS0; have k60 : w0.cell? ⟨hs, 0, none⟩ = some (.slice la g.recs.length lc) := (hS0.cell (p := ⟨hs, 0, none⟩) hl6).trans (HB6.out.cell 0); have k61 : w0.cell? ⟨hs, 1, none⟩ = some (.int .i64 (g.sure : Int)) := (hS0.cell (p := ⟨hs, 1, none⟩) hl6).trans (HB6.out.cell 1); have k62 : w0.cell? ⟨hs, 2, none⟩ = some (.int .i64 g.kept) := (hS0.cell (p := ⟨hs, 2, none⟩) hl6).trans (HB6.out.cell 2); have k63 : w0.cell? ⟨hs, 3, none⟩ = some (.int .u64 (g.marks : Int)) := (hS0.cell (p := ⟨hs, 3, none⟩) hl6).trans (HB6.out.cell 3); have k71 : w0.cell? ⟨hs + 1, 1, none⟩ = some (.int .i64 n) := (hS0.cell (p := ⟨hs + 1, 1, none⟩) hl7).trans (HB7.out.cell 1); go_simp; try with_reducible rfl)
      try simp only [Act.put, List.setIfInBounds_toArray, List.set_cons_zero, List.set_cons_succ]
      refine wpAnyL_move (i := 4) (v := ?_) (by rfl) (by kernel_rfl) (by kernel_rfl) (by kernel_rfl) (by rfl) (by exact fun _ _ _ h => h) (Or.inl ⟨by rfl, ?_⟩) (by assumption) ?_; rotate_left; · (intro w0; go_simp; try with_reducible rfl)
      try simp only [Act.put, List.setIfInBounds_toArray, List.set_cons_zero, List.set_cons_succ]
      refine wpAnyL_load (i := 5) (v := ?_) (by rfl) (by kernel_rfl) (by kernel_rfl) (by kernel_rfl) (by rfl) (by kernel_rfl) (by exact fun _ _ _ h => h) (Or.inl ⟨by rfl, ?_⟩) (by assumption) ?_; rotate_left; · (intro w0 hS0; have k60 : w0.cell? ⟨hs, 0, none⟩ = some (.slice la g.recs.length lc) := (hS0.cell (p := ⟨hs, 0, none⟩) hl6).trans (HB6.out.cell 0); have k61 : w0.cell? ⟨hs, 1, none⟩ = some (.int .i64 (g.sure : Int)) := (hS0.cell (p := ⟨hs, 1, none⟩) hl6).trans (HB6.out.cell 1); have k62 : w0.cell? ⟨hs, 2, none⟩ = some (.int .i64 g.kept) := (hS0.cell (p := ⟨hs, 2, none⟩) hl6).trans (HB6.out.cell 2); have k63 : w0.cell? ⟨hs, 3, none⟩ = some (.int .u64 (g.marks : Int)) := (hS0.cell (p := ⟨hs, 3, none⟩) hl6).trans (HB6.out.cell 3); have k71 : w0.cell? ⟨hs + 1, 1, none⟩ = some (.int .i64 n) := (hS0.cell (p := ⟨hs + 1, 1, none⟩) hl7).trans (HB7.out.cell 1); go_simp; try with_reducible rfl)
      try simp only [Act.put, List.setIfInBounds_toArray, List.set_cons_zero, List.set_cons_succ]
      refine wpAnyL_each (rs := [3]) (by kernel_rfl) (by simp) ?_
      refine EachL.cons (by rfl) (by rfl) (fun K hK => ?_) EachL.nil
      go_simp
      refine (HMR _ hHeld).out.mono ?_
      rintro e w3 ⟨rfl, hb3⟩
      dsimp only
      refine hK.out _ _ (hHeld.trans (hb3.mono hHeld.size)) (fun hHeld => ?_)
      clear hK K
      try simp only [Act.put, List.setIfInBounds_toArray, List.set_cons_zero, List.set_cons_succ]
      refine wpAnyL_move (i := 6) (v := ?_) (by rfl) (by kernel_rfl) (by kernel_rfl) (by kernel_rfl) (by rfl) (by exact fun _ _ _ h => h) (Or.inl ⟨by rfl, ?_⟩) (by assumption) ?_; rotate_left; · (intro w0; go_simp; try with_reducible rfl)
      try simp only [Act.put, List.setIfInBounds_toArray, List.set_cons_zero, List.set_cons_succ]
      refine wpAnyL_move (i := 7) (v := ?_) (by rfl) (by kernel_rfl) (by kernel_rfl) (by kernel_rfl) (by rfl) (by exact fun _ _ _ h => h) (Or.inl ⟨by rfl, ?_⟩) (by assumption) ?_; rotate_left; · (intro w0; go_simp; try with_reducible rfl)
      try simp only [Act.put, List.setIfInBounds_toArray, List.set_cons_zero, List.set_cons_succ]
      refine wpAnyL_done (by kernel_rfl) ?_ _
      have h3 := H2.out.below (bx_stable ob (.slice la g.recs.length lc) g.recs hs (oneBx (.slice la g.recs.length lc) g.sure g.kept g.marks ⟨2, n, s, at_, ⟨fat, fke, fto, fby, flo⟩⟩)) hHeld
      clear hHeld hb3 H2 HMR HB6 HB7
      have b6 := h3.box (bx := oneBx (.slice la g.recs.length lc) g.sure g.kept g.marks ⟨2, n, s, at_, ⟨fat, fke, fto, fby, flo⟩⟩) (i := 0) rfl
      have b7 := h3.box (bx := oneBx (.slice la g.recs.length lc) g.sure g.kept g.marks ⟨2, n, s, at_, ⟨fat, fke, fto, fby, flo⟩⟩) (i := 1) rfl
      have b9 := h3.box (bx := oneBx (.slice la g.recs.length lc) g.sure g.kept g.marks ⟨2, n, s, at_, ⟨fat, fke, fto, fby, flo⟩⟩) (i := 2) rfl
      have c60 : w3.cell? ⟨hs, 0, none⟩ = some (.slice la g.recs.length lc) := b6.cell 0
      have c61 : w3.cell? ⟨hs, 1, none⟩ = some (.int .i64 (g.sure : Int)) := b6.cell 1
      have c62 : w3.cell? ⟨hs, 2, none⟩ = some (.int .i64 g.kept) := b6.cell 2
      have c63 : w3.cell? ⟨hs, 3, none⟩ = some (.int .u64 (g.marks : Int)) := b6.cell 3
      have f60 : w3.frozen? ⟨hs, 0, none⟩ = false := b6.frozen 0
      have f61 : w3.frozen? ⟨hs, 1, none⟩ = false := b6.frozen 1
      have f62 : w3.frozen? ⟨hs, 2, none⟩ = false := b6.frozen 2
      have f63 : w3.frozen? ⟨hs, 3, none⟩ = false := b6.frozen 3
      have c71 : w3.cell? ⟨hs + 1, 1, none⟩ = some (.int .i64 n) := b7.cell 1
      have c72 : w3.cell? ⟨hs + 1, 2, none⟩ = some (.string s) := b7.cell 2
      have c73 : w3.cell? ⟨hs + 1, 3, none⟩ = some (.int .u64 at_) := b7.cell 3
      have c90 : w3.cell? ⟨hs + 1 + 1, 0, none⟩ = some (.slice none 0 0) := b9.cell 0
      have c91 : w3.cell? ⟨hs + 1 + 1, 1, none⟩ = some (.int .i64 0) := b9.cell 1
      have c92 : w3.cell? ⟨hs + 1 + 1, 2, none⟩ = some (.int .i64 0) := b9.cell 2
      have c93 : w3.cell? ⟨hs + 1 + 1, 3, none⟩ = some (.int .u64 0) := b9.cell 3
      have f90 : w3.frozen? ⟨hs + 1 + 1, 0, none⟩ = false := b9.frozen 0
      have f91 : w3.frozen? ⟨hs + 1 + 1, 1, none⟩ = false := b9.frozen 1
      have f92 : w3.frozen? ⟨hs + 1 + 1, 2, none⟩ = false := b9.frozen 2
      have f93 : w3.frozen? ⟨hs + 1 + 1, 3, none⟩ = false := b9.frozen 3
      have B9 := Lib.hid b9
      clear b6 b7 b9
      have H3 := Lib.hid h3
      clear h3
      go_wp2_with (fail)
      go_region
      go_wp2
      have B9' := ((B9.out.far (p := ⟨hs, 2, none⟩) (by show hs + 2 ≠ hs; omega) (.int .i64 (g.kept + n))).set4 (v0 := .slice la g.recs.length lc) (v1 := .int .i64 ((g.sure : Int))) (v2 := .int .i64 (g.kept + n)) (v3 := .int .u64 ((g.marks : Int))))
      have r0 := B9'.cell 0
      have r1 := B9'.cell 1
      have r2 := B9'.cell 2
      have r3 := B9'.cell 3
      simp at r0 r1 r2 r3
      (try simp only [Exit.inBlock, Exit.then])
      refine bodyPost_ret (by simp [results, Try.results58, go_sem, r0, r1, r2, r3]; try rfl) rfl ?_
      exact ⟨lb, (.slice la g.recs.length lc), rfl, LW.leave (bx := oneBx (.slice la g.recs.length lc) g.sure g.kept g.marks ⟨2, n, s, at_, ⟨fat, fke, fto, fby, flo⟩⟩) H3.out HOB.out ((((Step.refl _ w3).setCell (p := ⟨hs, 2, none⟩) (.inl ⟨Nat.le_refl _, by show hs < hs + 3; omega⟩) _).set4 (r := hs + 1 + 1) ⟨by omega, by show hs + 1 + 1 < hs + 3; omega⟩).drew) (one_bx_ok (by simp)), fits_kept HF0.out _⟩
end
end Go.Proofs.Ytnobiekgifjaeaa
