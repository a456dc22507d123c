/-
  The statements' own model: a record more.
-/
import Derived.Test.YtnobiekgifjaeaaT1
import Derived.Maps.AppendAt
namespace Go.Proofs.Ytnobiekgifjaeaa
open Go.RowKit
attribute [local go_sem ↓] Go.wp_at_zero Go.wp_at_succ

theorem Reads.of_own {w : World} {B : Nat} {v : Value} {l : List ByteArray} (h : w.ownsRow B 9 1 v l.length (l.map Value.string)) : Reads w v l := by
  rcases h.2 with ⟨rfl, h0⟩ | ⟨g, cap, cur, e, _, hh, h1, h2, _⟩
  · exact .inl ⟨rfl, List.eq_nil_of_length_eq_zero h0⟩
  · refine .inr ⟨g, cap, e, h1, h2, (Array.getElem?_eq_some_iff.1 hh).1, fun i s hi => ?_⟩
    have := h.cells (g := g) (by rw [e]; rfl) i (.string s) (by rw [List.getElem?_map, hi]; rfl)
    rwa [addr_add] at this

def modelV (lv : Value) (sure kept mark : Int) : Value := .agg #[lv, .int .i64 sure, .int .i64 kept, .int .u64 mark]
def mputFull (l : List ByteArray) (s : ByteArray) (beside : Int) : Prop := 4194305 - (endFrom 1 l : Int) < (s.size : Int) + 12 + beside
instance (l : List ByteArray) (s : ByteArray) (beside : Int) : Decidable (mputFull l s beside) := by unfold mputFull; exact inferInstance

section
variable {w : World} {lv : Value} {l : List ByteArray} {c1 c2 c3 : Int} {s : ByteArray} {beside : Int}
set_option maxRecDepth 100000 in
set_option maxHeartbeats 4000000 in
theorem mput_bad (h : Reads w lv l) (hs : badRec s) (hs2 : s.size ≤ 9223372036854775807) :
    Calls Try.prog 50 #[modelV lv c1 c2 c3, .string s, .int .i64 beside] w fun e w' => e = .returned (.tuple #[modelV lv c1 c2 c3, .int .u64 0, .int .i64 51]) ∧ Below w.heap.size w w' := by
  obtain ⟨la, lc, rfl⟩ := h.form
  unfold modelV
  obtain hx | ⟨hx, hx2⟩ : s.size < 1 ∨ (¬ s.size < 1 ∧ 8192 < s.size) := by unfold badRec at hs; omega
  · clear h hs
    go_enter Try.func50, Try.ntmps50
    go_wp2
    go_returns
    refine ⟨rfl, ?_⟩
    exact ((Below.refl _ _).alloc (Nat.le_refl _) _).alloc (by simp) _
  · clear h hs
    go_enter Try.func50, Try.ntmps50
    go_wp2
    go_returns
    refine ⟨rfl, ?_⟩
    exact ((Below.refl _ _).alloc (Nat.le_refl _) _).alloc (by simp) _

set_option maxRecDepth 100000 in
set_option maxHeartbeats 4000000 in
theorem mput_full (h : Reads w lv l) (hl : RecsOk l) (hs : ¬ badRec s) (hk : 0 ≤ beside ∧ beside ≤ 4194304) (hf : mputFull l s beside) :
    Calls Try.prog 50 #[modelV lv c1 c2 c3, .string s, .int .i64 beside] w fun e w' => e = .returned (.tuple #[modelV lv c1 c2 c3, .int .u64 0, .int .i64 50]) ∧ Below w.heap.size w w' := by
  have hff : 4194305 - (endFrom 1 l : Int) < (s.size : Int) + 12 + beside := hf
  clear hf
  obtain ⟨la, lc, rfl⟩ := h.form
  unfold modelV
  have hlen := hl.len
  have hend := hl.end_
  have hpos := endFrom_le l 1
  have hx1 : ¬ s.size < 1 := by unfold badRec at hs; omega
  have hx2 : ¬ 8192 < s.size := by unfold badRec at hs; omega
  have B0 := (Blk.new w 89 #[.slice la l.length lc, .int .i64 c1, .int .i64 c2, .int .u64 c3]).alloc (.cells #[.slice none 0 0, .int .i64 0, .int .i64 0, .int .u64 0] 89)
  have B1 := Blk.new (w.alloc (.cells #[.slice la l.length lc, .int .i64 c1, .int .i64 c2, .int .u64 c3] 89)) 89 #[.slice none 0 0, .int .i64 0, .int .i64 0, .int .u64 0]
  have hrv : (w.alloc (.cells #[.slice la l.length lc, .int .i64 c1, .int .i64 c2, .int .u64 c3] 89)).heap.size = w.heap.size + 1 := by simp
  rw [hrv] at B1
  have hbw : Below w.heap.size w ((w.alloc (.cells #[.slice la l.length lc, .int .i64 c1, .int .i64 c2, .int .u64 c3] 89)).alloc (.cells #[.slice none 0 0, .int .i64 0, .int .i64 0, .int .u64 0] 89)) := ((Below.refl _ _).alloc (Nat.le_refl _) _).alloc (by simp) _
  have HRm : ∀ W, Below w.heap.size w W → Hid (Calls Try.prog 75 #[.agg #[.slice la l.length lc, .int .i64 c1, .int .i64 c2, .int .u64 c3]] W fun e w' => e = .returned (.int .i64 (4194305 - (endFrom 1 l : Int))) ∧ Below W.heap.size W w') := fun W hW => mroom_c W _ l _ _ _ (h.below hW) hl rfl rfl rfl
  have HRD := Lib.hid h
  have HLO := Lib.hid hl
  clear h hl hs hrv
  go_enter Try.func50, Try.ntmps50
  go_wp2_with (fail)
  generalize (w.alloc (.cells #[.slice la l.length lc, .int .i64 c1, .int .i64 c2, .int .u64 c3] 89)).alloc (.cells #[.slice none 0 0, .int .i64 0, .int .i64 0, .int .u64 0] 89) = w1 at *
  have HBW := Lib.hid hbw
  have HB0 := Lib.hid B0
  have HB1 := Lib.hid B1
  refine (HRm _ hbw).out.mono ?_
  rintro e w2 ⟨rfl, hb2⟩
  have b0 := HB0.out.same (hb2.block _ HB0.out.lt)
  have b1 := HB1.out.same (hb2.block _ HB1.out.lt)
  have HB2 : Hid (Below w.heap.size w w2) := hbw.trans (hb2.mono hbw.size)
  clear hbw B0 B1
  have d0 : w2.cell? ⟨w.heap.size, 0, none⟩ = some (.slice la l.length lc) := b0.cell 0
  have d1 : w2.cell? ⟨w.heap.size, 1, none⟩ = some (.int .i64 c1) := b0.cell 1
  have d2 : w2.cell? ⟨w.heap.size, 2, none⟩ = some (.int .i64 c2) := b0.cell 2
  have d3 : w2.cell? ⟨w.heap.size, 3, none⟩ = some (.int .u64 c3) := b0.cell 3
  have g0 : w2.cell? ⟨w.heap.size + 1, 0, none⟩ = some (.slice none 0 0) := b1.cell 0
  have g1 : w2.cell? ⟨w.heap.size + 1, 1, none⟩ = some (.int .i64 0) := b1.cell 1
  have g2 : w2.cell? ⟨w.heap.size + 1, 2, none⟩ = some (.int .i64 0) := b1.cell 2
  have g3 : w2.cell? ⟨w.heap.size + 1, 3, none⟩ = some (.int .u64 0) := b1.cell 3
  have f0 := b1.frozen 0
  have f1 := b1.frozen 1
  have f2 := b1.frozen 2
  have f3 := b1.frozen 3
  have t0 := World.cell?_setCell_same _ _ (Value.slice la l.length lc) g0
  have o1 : (w2.setCell ⟨w.heap.size + 1, 0, none⟩ (Value.slice la l.length lc)).cell? ⟨w.heap.size + 1, 1, none⟩ = some (.int .i64 0) := (World.cell?_setCell_other _ _ _ _ (by simp)).trans g1
  have t1 := World.cell?_setCell_same _ _ (.int .i64 c1) o1
  have o2 : ((w2.setCell ⟨w.heap.size + 1, 0, none⟩ (Value.slice la l.length lc)).setCell ⟨w.heap.size + 1, 1, none⟩ (.int .i64 c1)).cell? ⟨w.heap.size + 1, 2, none⟩ = some (.int .i64 0) := (World.cell?_setCell_other _ _ _ _ (by simp)).trans ((World.cell?_setCell_other _ _ _ _ (by simp)).trans g2)
  have t2 := World.cell?_setCell_same _ _ (.int .i64 c2) o2
  have o3 : (((w2.setCell ⟨w.heap.size + 1, 0, none⟩ (Value.slice la l.length lc)).setCell ⟨w.heap.size + 1, 1, none⟩ (.int .i64 c1)).setCell ⟨w.heap.size + 1, 2, none⟩ (.int .i64 c2)).cell? ⟨w.heap.size + 1, 3, none⟩ = some (.int .u64 0) := (World.cell?_setCell_other _ _ _ _ (by simp)).trans ((World.cell?_setCell_other _ _ _ _ (by simp)).trans ((World.cell?_setCell_other _ _ _ _ (by simp)).trans g3))
  have t3 := World.cell?_setCell_same _ _ (.int .u64 c3) o3
  have T0 := Lib.hid t0
  have T1 := Lib.hid t1
  have T2 := Lib.hid t2
  have T3 := Lib.hid t3
  clear t0 t1 t2 t3 o1 o2 o3
  clear hb2 b0 b1
  go_wp2
  have t0 := T0.out
  have t1 := T1.out
  have t2 := T2.out
  have t3 := T3.out
  (try simp only [Exit.inBlock, Exit.then])
  refine bodyPost_ret (by simp [results, Try.results50, go_sem, t0, t1, t2, t3]; try rfl) rfl ?_
  refine ⟨rfl, ?_⟩
  exact (((HB2.out.setCell (by show w.heap.size ≤ w.heap.size + 1; omega) _).setCell (by show w.heap.size ≤ w.heap.size + 1; omega) _).setCell (by show w.heap.size ≤ w.heap.size + 1; omega) _).setCell (by show w.heap.size ≤ w.heap.size + 1; omega) _

/-- what is known behind both appends -/
structure PutMid (w w5 : World) (v5 : Value) (l : List ByteArray) (s : ByteArray) (la : Option Addr) (lc : Nat) (c1 c2 c3 : Int) : Prop where
  own : w5.ownsRow w.heap.size 9 1 v5 (l.length + 1) ((l ++ [s]).map Value.string)
  base : Below w.heap.size w w5
  box : Blk w5 w.heap.size 89 #[.slice la l.length lc, .int .i64 c1, .int .i64 c2, .int .u64 c3]
  res : Blk w5 (w.heap.size + 1) 89 #[.slice none 0 0, .int .i64 0, .int .i64 0, .int .u64 0]
/-- an append of what is one's own, into a row that was made here -/
theorem putMid_app {w w3 w4 w5 : World} {v v5 : Value} {n : Nat} {xs : List Value} {l : List ByteArray} {s : ByteArray} {la : Option Addr} {lc : Nat} {c1 c2 c3 : Int} (hv : ∀ k, v.ownBlock = some k → w3.heap.size ≤ k) (hb : Below w.heap.size w w3) (hb4 : Below w3.heap.size w3 w4)
    (b0 : Blk w3 w.heap.size 89 #[.slice la l.length lc, .int .i64 c1, .int .i64 c2, .int .u64 c3]) (b1 : Blk w3 (w.heap.size + 1) 89 #[.slice none 0 0, .int .i64 0, .int .i64 0, .int .u64 0])
    (q1 : w5.ownsRow w3.heap.size 9 1 v5 (n + 1) (xs ++ [.string s])) (hn : n = l.length) (hxs : xs = l.map Value.string) (q2 : (w4.alloc (.cells #[.string s] 9)).grownBy w5 v.ownBlock) :
    PutMid w w5 v5 l s la lc c1 c2 c3 := by
  subst hn hxs
  have h5 : Below w3.heap.size w3 w5 := (hb4.alloc hb4.size _).grown q2 (by have := hb4.size; simp; omega) hv
  refine ⟨?_, hb.trans (h5.mono hb.size), b0.same (h5.block _ b0.lt), b1.same (h5.block _ b1.lt)⟩
  refine ⟨by simp, ?_⟩
  rcases q1.2 with ⟨e, h0⟩ | ⟨g, cap, cur, e, hg, r⟩
  · exact .inl ⟨e, h0⟩
  · refine .inr ⟨g, cap, cur, e, Nat.le_trans hb.size hg, ?_⟩
    simpa using r

theorem putMid_facts {w w5 : World} {v5 : Value} {l : List ByteArray} {s : ByteArray} {la : Option Addr} {lc : Nat} {c1 c2 c3 : Int} (M : PutMid w w5 v5 l s la lc c1 c2 c3) :
    (w5.cell? ⟨w.heap.size, 0, none⟩ = some (.slice la l.length lc) ∧ w5.frozen? ⟨w.heap.size, 0, none⟩ = false) ∧
    ((w5.setCell ⟨w.heap.size, 0, none⟩ v5).cell? ⟨w.heap.size, 0, none⟩ = some v5 ∧ (w5.setCell ⟨w.heap.size, 0, none⟩ v5).cell? ⟨w.heap.size, 1, none⟩ = some (.int .i64 c1) ∧ (w5.setCell ⟨w.heap.size, 0, none⟩ v5).cell? ⟨w.heap.size, 2, none⟩ = some (.int .i64 c2) ∧ (w5.setCell ⟨w.heap.size, 0, none⟩ v5).cell? ⟨w.heap.size, 3, none⟩ = some (.int .u64 c3)) ∧
    ((w5.setCell ⟨w.heap.size, 0, none⟩ v5).cell? ⟨w.heap.size + 1, 0, none⟩ = some (.slice none 0 0) ∧ (w5.setCell ⟨w.heap.size, 0, none⟩ v5).cell? ⟨w.heap.size + 1, 1, none⟩ = some (.int .i64 0) ∧ (w5.setCell ⟨w.heap.size, 0, none⟩ v5).cell? ⟨w.heap.size + 1, 2, none⟩ = some (.int .i64 0) ∧ (w5.setCell ⟨w.heap.size, 0, none⟩ v5).cell? ⟨w.heap.size + 1, 3, none⟩ = some (.int .u64 0)) ∧
    (∀ i, (w5.setCell ⟨w.heap.size, 0, none⟩ v5).frozen? ⟨w.heap.size + 1, i, none⟩ = false) ∧
    ((((((w5.setCell ⟨w.heap.size, 0, none⟩ v5).setCell ⟨w.heap.size + 1, 0, none⟩ v5).setCell ⟨w.heap.size + 1, 1, none⟩ (.int .i64 c1)).setCell ⟨w.heap.size + 1, 2, none⟩ (.int .i64 c2)).setCell ⟨w.heap.size + 1, 3, none⟩ (.int .u64 c3)).ownsRow w.heap.size 9 1 v5 (l.length + 1) ((l ++ [s]).map Value.string) ∧
     Below w.heap.size w (((((w5.setCell ⟨w.heap.size, 0, none⟩ v5).setCell ⟨w.heap.size + 1, 0, none⟩ v5).setCell ⟨w.heap.size + 1, 1, none⟩ (.int .i64 c1)).setCell ⟨w.heap.size + 1, 2, none⟩ (.int .i64 c2)).setCell ⟨w.heap.size + 1, 3, none⟩ (.int .u64 c3))) := by
  have hb := M.box.set_ 0 v5
  have hr : Blk (w5.setCell ⟨w.heap.size, 0, none⟩ v5) (w.heap.size + 1) 89 #[.slice none 0 0, .int .i64 0, .int .i64 0, .int .u64 0] := M.res.far (by show w.heap.size + 1 ≠ w.heap.size; omega) v5
  have n1 : v5.ownBlock ≠ some w.heap.size := own_blk_ne M.own M.box (by decide)
  have n2 : v5.ownBlock ≠ some (w.heap.size + 1) := own_blk_ne M.own M.res (by decide)
  refine ⟨⟨M.box.cell 0, M.box.frozen 0⟩, ⟨hb.cell 0, hb.cell 1, hb.cell 2, hb.cell 3⟩, ⟨hr.cell 0, hr.cell 1, hr.cell 2, hr.cell 3⟩, hr.frozen, own_same M.own (fun k hk => ?_), ?_⟩
  · have k1 : k ≠ w.heap.size := fun e => n1 (by rw [hk, e])
    have k2 : k ≠ w.heap.size + 1 := fun e => n2 (by rw [hk, e])
    exact (Below.heap_setCell _ _ _ k k2).trans ((Below.heap_setCell _ _ _ k k2).trans ((Below.heap_setCell _ _ _ k k2).trans ((Below.heap_setCell _ _ _ k k2).trans (Below.heap_setCell _ _ _ k k1))))
  · exact ((((M.base.setCell (by show w.heap.size ≤ w.heap.size; omega) _).setCell (by show w.heap.size ≤ w.heap.size + 1; omega) _).setCell (by show w.heap.size ≤ w.heap.size + 1; omega) _).setCell (by show w.heap.size ≤ w.heap.size + 1; omega) _).setCell (by show w.heap.size ≤ w.heap.size + 1; omega) _

set_option maxRecDepth 100000 in
set_option maxHeartbeats 4000000 in
theorem mput_ok (h : Reads w lv l) (hl : RecsOk l) (hs : ¬ badRec s) (hk : 0 ≤ beside ∧ beside ≤ 4194304) (hf : ¬ mputFull l s beside) :
    Calls Try.prog 50 #[modelV lv c1 c2 c3, .string s, .int .i64 beside] w fun e w' => ∃ lv', e = .returned (.tuple #[modelV lv' c1 c2 c3, .int .u64 (endFrom 1 l : Int), .int .i64 0]) ∧ w'.ownsRow w.heap.size 9 1 lv' (l.length + 1) ((l ++ [s]).map Value.string) ∧ Below w.heap.size w w' := by
  have hff : ¬ 4194305 - (endFrom 1 l : Int) < (s.size : Int) + 12 + beside := hf
  obtain ⟨is, his, hsz0, hsz1, hsz2⟩ := info_parts infoString
  have HA : ∀ lv W, Reads W lv l → Hid (Calls Try.prog 52 #[.agg #[lv, .int .i64 c1, .int .i64 c2, .int .u64 c3]] W (AtPost W l)) := fun lv W hW => mat_c W _ l _ _ _ hW hl.len hl.end_ hl.sizes
  clear hf
  obtain ⟨la, lc, rfl⟩ := h.form
  unfold modelV
  have hlen := hl.len
  have hend := hl.end_
  have hpos := endFrom_le l 1
  have hx1 : ¬ s.size < 1 := by unfold badRec at hs; omega
  have hx2 : ¬ 8192 < s.size := by unfold badRec at hs; omega
  have B0 := (Blk.new w 89 #[.slice la l.length lc, .int .i64 c1, .int .i64 c2, .int .u64 c3]).alloc (.cells #[.slice none 0 0, .int .i64 0, .int .i64 0, .int .u64 0] 89)
  have B1 := Blk.new (w.alloc (.cells #[.slice la l.length lc, .int .i64 c1, .int .i64 c2, .int .u64 c3] 89)) 89 #[.slice none 0 0, .int .i64 0, .int .i64 0, .int .u64 0]
  have hrv : (w.alloc (.cells #[.slice la l.length lc, .int .i64 c1, .int .i64 c2, .int .u64 c3] 89)).heap.size = w.heap.size + 1 := by simp
  rw [hrv] at B1
  have hbw : Below w.heap.size w ((w.alloc (.cells #[.slice la l.length lc, .int .i64 c1, .int .i64 c2, .int .u64 c3] 89)).alloc (.cells #[.slice none 0 0, .int .i64 0, .int .i64 0, .int .u64 0] 89)) := ((Below.refl _ _).alloc (Nat.le_refl _) _).alloc (by simp) _
  have HRm : ∀ W, Below w.heap.size w W → Hid (Calls Try.prog 75 #[.agg #[.slice la l.length lc, .int .i64 c1, .int .i64 c2, .int .u64 c3]] W fun e w' => e = .returned (.int .i64 (4194305 - (endFrom 1 l : Int))) ∧ Below W.heap.size W w') := fun W hW => mroom_c W _ l _ _ _ (h.below hW) hl rfl rfl rfl
  have HRD := Lib.hid h
  have HLO := Lib.hid hl
  clear h hl hs hrv
  go_enter Try.func50, Try.ntmps50
  go_wp2_with (fail)
  generalize (w.alloc (.cells #[.slice la l.length lc, .int .i64 c1, .int .i64 c2, .int .u64 c3] 89)).alloc (.cells #[.slice none 0 0, .int .i64 0, .int .i64 0, .int .u64 0] 89) = w1 at *
  have HBW := Lib.hid hbw
  have HB0 := Lib.hid B0
  have HB1 := Lib.hid B1
  refine (HRm _ hbw).out.mono ?_
  rintro e w2 ⟨rfl, hb2⟩
  have b0 := HB0.out.same (hb2.block _ HB0.out.lt)
  have b1 := HB1.out.same (hb2.block _ HB1.out.lt)
  have HB2 : Hid (Below w.heap.size w w2) := hbw.trans (hb2.mono hbw.size)
  clear hbw B0 B1
  have D0 : Hid (w2.cell? ⟨w.heap.size, 0, none⟩ = some (.slice la l.length lc)) := b0.cell 0
  have D1 : Hid (w2.cell? ⟨w.heap.size, 1, none⟩ = some (.int .i64 c1)) := b0.cell 1
  have D2 : Hid (w2.cell? ⟨w.heap.size, 2, none⟩ = some (.int .i64 c2)) := b0.cell 2
  have D3 : Hid (w2.cell? ⟨w.heap.size, 3, none⟩ = some (.int .u64 c3)) := b0.cell 3
  have hms := b0.lt
  have C0 := Lib.hid b0
  have C1 := Lib.hid b1
  clear hb2 b0 b1 HRm
  go_wp2_with (fail)
  refine wp_region_late (S := Below w2.heap.size w2) (late := []) (by kernel_rfl) (below_drewN w2 1) (fun hHeld => ?_)
  refine wpAnyL_load (i := 0) (v := ?_) (by rfl) (by kernel_rfl) (by kernel_rfl) (by kernel_rfl) (by rfl) (by kernel_rfl) (by exact fun _ _ _ h => h) (Or.inl ⟨by rfl, ?_⟩) (by assumption) ?_; rotate_left; · (intro w0 hS0; have hS1 : w0.cell? ⟨w.heap.size, 0, none⟩ = some (.slice la l.length lc) := (hS0.cell (p := ⟨w.heap.size, 0, none⟩) hms).trans D0.out; have hS2 : w0.cell? ⟨w.heap.size, 1, none⟩ = some (.int .i64 c1) := (hS0.cell (p := ⟨w.heap.size, 1, none⟩) hms).trans D1.out; have hS3 : w0.cell? ⟨w.heap.size, 2, none⟩ = some (.int .i64 c2) := (hS0.cell (p := ⟨w.heap.size, 2, none⟩) hms).trans D2.out; have hS4 : w0.cell? ⟨w.heap.size, 3, none⟩ = some (.int .u64 c3) := (hS0.cell (p := ⟨w.heap.size, 3, none⟩) hms).trans D3.out; go_simp; try with_reducible rfl)
  try simp only [Act.put, List.setIfInBounds_toArray, List.set_cons_zero, List.set_cons_succ]
  refine wpAnyL_move (i := 2) (v := ?_) (by rfl) (by kernel_rfl) (by kernel_rfl) (by kernel_rfl) (by rfl) (by exact fun _ _ _ h => h) (Or.inl ⟨by rfl, ?_⟩) (by assumption) ?_; rotate_left; · (intro w0; go_simp; try with_reducible rfl)
  try simp only [Act.put, List.setIfInBounds_toArray, List.set_cons_zero, List.set_cons_succ]
  refine wpAnyL_load (i := 3) (v := ?_) (by rfl) (by kernel_rfl) (by kernel_rfl) (by kernel_rfl) (by rfl) (by kernel_rfl) (by exact fun _ _ _ h => h) (Or.inl ⟨by rfl, ?_⟩) (by assumption) ?_; rotate_left; · (intro w0 hS0; have hS1 : w0.cell? ⟨w.heap.size, 0, none⟩ = some (.slice la l.length lc) := (hS0.cell (p := ⟨w.heap.size, 0, none⟩) hms).trans D0.out; have hS2 : w0.cell? ⟨w.heap.size, 1, none⟩ = some (.int .i64 c1) := (hS0.cell (p := ⟨w.heap.size, 1, none⟩) hms).trans D1.out; have hS3 : w0.cell? ⟨w.heap.size, 2, none⟩ = some (.int .i64 c2) := (hS0.cell (p := ⟨w.heap.size, 2, none⟩) hms).trans D2.out; have hS4 : w0.cell? ⟨w.heap.size, 3, none⟩ = some (.int .u64 c3) := (hS0.cell (p := ⟨w.heap.size, 3, none⟩) hms).trans D3.out; go_simp; try with_reducible rfl)
  try simp only [Act.put, List.setIfInBounds_toArray, List.set_cons_zero, List.set_cons_succ]
  refine wpAnyL_move (i := 4) (v := ?_) (by rfl) (by kernel_rfl) (by kernel_rfl) (by kernel_rfl) (by rfl) (by exact fun _ _ _ h => h) (Or.inl ⟨by rfl, ?_⟩) (by assumption) ?_; rotate_left; · (intro w0; go_simp; try with_reducible rfl)
  try simp only [Act.put, List.setIfInBounds_toArray, List.set_cons_zero, List.set_cons_succ]
  refine wpAnyL_each (rs := [1]) (by kernel_rfl) (by simp) ?_
  refine EachL.cons (by rfl) (by rfl) (fun K hK => ?_) ?_
  · go_simp
    refine (HA _ _ (HRD.out.below (HB2.out.trans (hHeld.mono HB2.out.size)))).out.mono ?_
    rintro e w3 ⟨g, gc, rfl, ho, hb⟩
    have ce : w3.cell? ⟨g, l.length, none⟩ = some (.int .u64 (endFrom 1 l : Int)) := by
      rw [ho.cellAt l.length (by omega), plRow_get l (Nat.le_refl _)]
      show some (Value.int .u64 (endFrom 1 (l.take l.length) : Int)) = _
      rw [List.take_length]
    have hgc : l.length + 1 ≤ gc ∧ gc ≤ maxLen := by
      rcases ho.2 with ⟨e, _⟩ | ⟨g', c', cur, e, _, _, h1, h2, _⟩
      · cases e
      · cases e
        exact ⟨h1, h2⟩
    obtain ⟨hgc1, hgc2⟩ := hgc
    have hll : (l.length : Int) < (l.length : Int) + 1 := by omega
    dsimp only
    refine hK.out _ _ (hHeld.trans (hb.mono hHeld.size)) (fun hHeld => ?_)
    clear hK K
    try simp only [Act.put, List.setIfInBounds_toArray, List.set_cons_zero, List.set_cons_succ]
    refine wpAnyL_move (i := 5) (v := ?_) (by rfl) (by kernel_rfl) (by kernel_rfl) (by kernel_rfl) (by rfl) (by exact fun _ _ _ h => h) (Or.inl ⟨by rfl, ?_⟩) (by assumption) ?_; rotate_left; · (intro w0; go_simp; try with_reducible rfl)
    try simp only [Act.put, List.setIfInBounds_toArray, List.set_cons_zero, List.set_cons_succ]
    refine wpAnyL_each (rs := [6]) (by kernel_rfl) (by simp) ?_
    refine EachL.cons (by rfl) (by rfl) (fun K hK => ?_) ?_
    · go_simp
      refine hK.out _ _ hHeld (fun hHeld => ?_)
      clear hK K
      try simp only [Act.put, List.setIfInBounds_toArray, List.set_cons_zero, List.set_cons_succ]
      refine wpAnyL_move (i := 7) (v := ?_) (by rfl) (by kernel_rfl) (by kernel_rfl) (by kernel_rfl) (by rfl) (by exact fun _ _ _ h => h) (Or.inl ⟨by rfl, ?_⟩) (by assumption) ?_; rotate_left; · (intro w0; go_simp; try with_reducible rfl)
      try simp only [Act.put, List.setIfInBounds_toArray, List.set_cons_zero, List.set_cons_succ]
      refine wpAnyL_done (by kernel_rfl) ?_ _
      have b0 := C0.out.same (hHeld.block _ C0.out.lt)
      have b1 := C1.out.same (hHeld.block _ C1.out.lt)
      have HB3 : Hid (Below w.heap.size w w3) := HB2.out.trans (hHeld.mono HB2.out.size)
      clear hHeld ho hb ce D0 D1 D2 D3 C0 C1
      have d0 : w3.cell? ⟨w.heap.size, 0, none⟩ = some (.slice la l.length lc) := b0.cell 0
      have hms3 := b0.lt
      have BB0 := Lib.hid b0
      have BB1 := Lib.hid b1
      have O1 : Hid (∀ u ∈ [Value.string s], u.oneCell' = true) := fun u hu => by simp at hu; subst hu; rfl
      have HE : Hid ((w3.alloc (.cells #[] 9)).ownsRow w3.heap.size 9 1 (.slice (some ⟨w3.heap.size, 0, none⟩) 0 0) 0 []) := World.ownsRow_lit w3 #[] 0 (Nat.le_refl _) (Nat.zero_le _) rfl
      clear b0 b1
      have HBS : Hid (w3.heap.size ≤ (w3.alloc (.cells #[] 9)).heap.size) := by show _ ≤ _; simp
      cases la with
      | none =>
        have hl0 : l = [] := by
          rcases HRD.out with ⟨_, h⟩ | ⟨_, _, h, _⟩
          · exact h
          · cases h
        have HL0 : Hid (0 = l.length) := by show 0 = l.length; rw [hl0]; rfl
        have HX0 : Hid ([] = l.map Value.string) := by show [] = l.map Value.string; rw [hl0]; rfl
        have HB40 : Hid (Below w3.heap.size w3 (w3.alloc (.cells #[] 9))) := (Below.refl _ _).alloc (Nat.le_refl _) _
        have HV0 : Hid (∀ k, (Value.slice (some ⟨w3.heap.size, 0, none⟩) 0 0).ownBlock = some k → w3.heap.size ≤ k) := fun k hk => by simp [Value.ownBlock] at hk; omega
        have HE1 : Hid (((w3.alloc (.cells #[] 9)).alloc (.cells #[.string s] 9)).ownsRow w3.heap.size 9 1 (.slice (some ⟨w3.heap.size, 0, none⟩) 0 0) 0 []) := own_same HE.out (fun k hk => Below.heap_alloc _ _ k (HE.out.lt k hk).2)
        have HN1 : Hid (∀ (j : Nat) u, [Value.string s][j]? = some u → ((w3.alloc (.cells #[] 9)).alloc (.cells #[.string s] 9)).cell? ((⟨w3.heap.size + 1, 0, none⟩ : Addr).add j) = some u) := World.news_of_block (cs := #[.string s]) (t := 9) (fr := (0, 0)) (by have := heap_alloc_new (w3.alloc (.cells #[] 9)) (.cells #[.string s] 9); simpa using this)
        have N1 : Hid (0 + 1 ≤ maxLen) := by show 0 + 1 ≤ maxLen; simp only [maxLen]; omega
        have N2 : Hid ((0 + 1) * 16 ≤ 140737488355328) := by show (0 + 1) * 16 ≤ _; omega
        have HBS : Hid (w3.heap.size ≤ ((w3.alloc (.cells #[] 9)).alloc (.cells #[.string s] 9)).heap.size) := by show _ ≤ _; simp; omega
        have HL00 := Lib.hid hl0
        clear hl0
        go_wp2_with (at_builtin; refine wpList_append_own_at _ (by rfl) _ _ 51 (by rfl) w3.heap.size 9 is _ 1 16 Try.underlying51 his hsz0 hsz1 hsz2 rfl (by omega) (.slice (some ⟨w3.heap.size, 0, none⟩) 0 0) 0 [] (by rfl) HE1.out ⟨w3.heap.size + 1, 0, none⟩ 1 1 [.string s] (by rfl) (by rfl) HN1.out O1.out N1.out N2.out HBS.out ?_; intro v5 w5 q1 q2 _ q4; obtain ⟨a5, c5, rfl⟩ := own_form q1; have M5 := Lib.hid (putMid_app (la := none) (lc := lc) (c1 := c1) (c2 := c2) (c3 := c3) HV0.out HB3.out HB40.out BB0.out BB1.out q1 HL0.out HX0.out q2); have PF := Lib.hid (putMid_facts M5.out); have k0 := PF.out.1.1; have kf := PF.out.1.2; have m0 := PF.out.2.1.1; have m1 := PF.out.2.1.2.1; have m2 := PF.out.2.1.2.2.1; have m3 := PF.out.2.1.2.2.2; have g0 := PF.out.2.2.1.1; have g1 := PF.out.2.2.1.2.1; have g2 := PF.out.2.2.1.2.2.1; have g3 := PF.out.2.2.1.2.2.2; have f0 := PF.out.2.2.2.1 0; have f1 := PF.out.2.2.2.1 1; have f2 := PF.out.2.2.2.1 2; have f3 := PF.out.2.2.2.1 3; clear q1 q2 q4)
        have W0 := World.cell?_setCell_same _ _ (Value.slice a5 (0 + 1) c5) g0
        have o1 := (World.cell?_setCell_other (w5.setCell ⟨w.heap.size, 0, none⟩ (.slice a5 (0 + 1) c5)) ⟨w.heap.size + 1, 0, none⟩ ⟨w.heap.size + 1, 1, none⟩ (Value.slice a5 (0 + 1) c5) (by simp)).trans g1
        have W1 := World.cell?_setCell_same _ _ (.int .i64 c1) o1
        have o2 := (World.cell?_setCell_other ((w5.setCell ⟨w.heap.size, 0, none⟩ (.slice a5 (0 + 1) c5)).setCell ⟨w.heap.size + 1, 0, none⟩ (.slice a5 (0 + 1) c5)) ⟨w.heap.size + 1, 1, none⟩ ⟨w.heap.size + 1, 2, none⟩ (.int .i64 c1) (by simp)).trans ((World.cell?_setCell_other _ _ _ _ (by simp)).trans g2)
        have W2 := World.cell?_setCell_same _ _ (.int .i64 c2) o2
        have o3 := (World.cell?_setCell_other (((w5.setCell ⟨w.heap.size, 0, none⟩ (.slice a5 (0 + 1) c5)).setCell ⟨w.heap.size + 1, 0, none⟩ (.slice a5 (0 + 1) c5)).setCell ⟨w.heap.size + 1, 1, none⟩ (.int .i64 c1)) ⟨w.heap.size + 1, 2, none⟩ ⟨w.heap.size + 1, 3, none⟩ (.int .i64 c2) (by simp)).trans ((World.cell?_setCell_other _ _ _ _ (by simp)).trans ((World.cell?_setCell_other _ _ _ _ (by simp)).trans g3))
        have W3 := World.cell?_setCell_same _ _ (.int .u64 c3) o3
        (try simp only [Exit.inBlock, Exit.then])
        refine bodyPost_ret (by simp [results, Try.results50, go_sem, W0, W1, W2, W3]; try rfl) rfl ?_
        exact ⟨.slice a5 (0 + 1) c5, by first | rfl | (rw [HL00.out]; done) | (rw [HL00.out]; rfl), by first | exact PF.out.2.2.2.2.1 | simpa using PF.out.2.2.2.2.1, PF.out.2.2.2.2.2⟩
      | some x =>
        obtain ⟨bb, hxe, hbc⟩ : ∃ bb, x = ⟨bb, 0, none⟩ ∧ ∀ (i : Nat) (t : ByteArray), l[i]? = some t → w.cell? ⟨bb, i, none⟩ = some (.string t) := by
          rcases HRD.out with ⟨h, _⟩ | ⟨bb, _, h, _, _, _, h4⟩
          · cases h
          · cases h
            exact ⟨bb, rfl, h4⟩
        subst hxe
        have hbl : bb < w.heap.size ∨ l = [] := by
          rcases HRD.out with ⟨h, _⟩ | ⟨_, _, h, _, _, h3, _⟩
          · cases h
          · cases h
            exact .inl h3
        have HNN : Hid (∀ (j : Nat) u, (l.map Value.string)[j]? = some u → (w3.alloc (.cells #[] 9)).cell? ((⟨bb, 0, none⟩ : Addr).add j) = some u) := fun j u hu => by
          rw [List.getElem?_map] at hu
          cases hlj : l[j]? with
          | none => rw [hlj] at hu; cases hu
          | some t =>
            rw [hlj] at hu
            cases hu
            have hc := hbc j t hlj
            rw [addr_add, World.cell?_alloc_lt _ _ _ (Nat.lt_of_lt_of_le (World.block_lt_of_cell? w _ hc) HB3.out.size)]
            exact (HB3.out.cell (World.block_lt_of_cell? w _ hc)).trans hc
        have OO : Hid (∀ u ∈ l.map Value.string, u.oneCell' = true) := fun u hu => by obtain ⟨t, _, rfl⟩ := List.mem_map.1 hu; rfl
        have NA : Hid (0 + l.length ≤ maxLen) := by show 0 + l.length ≤ maxLen; simp only [maxLen]; omega
        have NB : Hid ((0 + l.length) * 16 ≤ 140737488355328) := by show (0 + l.length) * 16 ≤ _; omega
        have NC : Hid (l.length + 1 ≤ maxLen) := by show l.length + 1 ≤ maxLen; simp only [maxLen]; omega
        have ND : Hid ((l.length + 1) * 16 ≤ 140737488355328) := by show (l.length + 1) * 16 ≤ _; omega
        clear hbl hbc
        go_wp2_with (first | (at_builtin; refine wpList_append_own_at _ (by rfl) _ _ 51 (by rfl) w3.heap.size 9 is _ 1 16 Try.underlying51 his hsz0 hsz1 hsz2 rfl (by omega) (.slice (some ⟨w3.heap.size, 0, none⟩) 0 0) 0 [] (by rfl) HE.out ⟨bb, 0, none⟩ l.length lc (l.map Value.string) (by rfl) (by simp) HNN.out OO.out NA.out NB.out HBS.out ?_; intro v4 w4 p1 p2 _ p4; obtain ⟨a4, c4, rfl⟩ := own_form p1; have P1 := Lib.hid p1; have P4 : Hid (Below w3.heap.size w3 w4) := ((Below.refl _ _).alloc (Nat.le_refl _) _).grown p2 (by simp) (fun k hk => by simp [Value.ownBlock] at hk; omega); have P5 : Hid ((w4.alloc (.cells #[.string s] 9)).ownsRow w3.heap.size 9 1 (.slice a4 l.length c4) l.length (l.map Value.string)) := (by show World.ownsRow _ _ _ _ _ _ _; simpa using own_same p1 (fun k hk => Below.heap_alloc _ _ k (p1.lt k hk).2)); clear p1 p2 p4) | (at_builtin; refine wpList_append_own_at _ (by rfl) _ _ 51 (by rfl) w3.heap.size 9 is _ 1 16 Try.underlying51 his hsz0 hsz1 hsz2 rfl (by omega) (.slice a4 l.length c4) l.length (l.map Value.string) (by rfl) P5.out ⟨w4.heap.size, 0, none⟩ 1 1 [.string s] (by rfl) (by rfl) (World.news_of_block (cs := #[.string s]) (t := 9) (fr := (0, 0)) (heap_alloc_new w4 _)) O1.out NC.out ND.out (Nat.le_trans P4.out.size (by simp)) ?_; intro v5 w5 q1 q2 _ q4; obtain ⟨a5, c5, rfl⟩ := own_form q1; have M5 := Lib.hid (putMid_app (la := (some ⟨bb, 0, none⟩)) (lc := lc) (c1 := c1) (c2 := c2) (c3 := c3) (fun k hk => (P5.out.lt k hk).1) HB3.out P4.out BB0.out BB1.out q1 rfl rfl q2); have PF := Lib.hid (putMid_facts M5.out); have k0 := PF.out.1.1; have kf := PF.out.1.2; have m0 := PF.out.2.1.1; have m1 := PF.out.2.1.2.1; have m2 := PF.out.2.1.2.2.1; have m3 := PF.out.2.1.2.2.2; have g0 := PF.out.2.2.1.1; have g1 := PF.out.2.2.1.2.1; have g2 := PF.out.2.2.1.2.2.1; have g3 := PF.out.2.2.1.2.2.2; have f0 := PF.out.2.2.2.1 0; have f1 := PF.out.2.2.2.1 1; have f2 := PF.out.2.2.2.1 2; have f3 := PF.out.2.2.2.1 3; clear q1 q2 q4))
        have W0 := World.cell?_setCell_same _ _ (Value.slice a5 (l.length + 1) c5) g0
        have o1 := (World.cell?_setCell_other (w5.setCell ⟨w.heap.size, 0, none⟩ (.slice a5 (l.length + 1) c5)) ⟨w.heap.size + 1, 0, none⟩ ⟨w.heap.size + 1, 1, none⟩ (Value.slice a5 (l.length + 1) c5) (by simp)).trans g1
        have W1 := World.cell?_setCell_same _ _ (.int .i64 c1) o1
        have o2 := (World.cell?_setCell_other ((w5.setCell ⟨w.heap.size, 0, none⟩ (.slice a5 (l.length + 1) c5)).setCell ⟨w.heap.size + 1, 0, none⟩ (.slice a5 (l.length + 1) c5)) ⟨w.heap.size + 1, 1, none⟩ ⟨w.heap.size + 1, 2, none⟩ (.int .i64 c1) (by simp)).trans ((World.cell?_setCell_other _ _ _ _ (by simp)).trans g2)
        have W2 := World.cell?_setCell_same _ _ (.int .i64 c2) o2
        have o3 := (World.cell?_setCell_other (((w5.setCell ⟨w.heap.size, 0, none⟩ (.slice a5 (l.length + 1) c5)).setCell ⟨w.heap.size + 1, 0, none⟩ (.slice a5 (l.length + 1) c5)).setCell ⟨w.heap.size + 1, 1, none⟩ (.int .i64 c1)) ⟨w.heap.size + 1, 2, none⟩ ⟨w.heap.size + 1, 3, none⟩ (.int .i64 c2) (by simp)).trans ((World.cell?_setCell_other _ _ _ _ (by simp)).trans ((World.cell?_setCell_other _ _ _ _ (by simp)).trans g3))
        have W3 := World.cell?_setCell_same _ _ (.int .u64 c3) o3
        (try simp only [Exit.inBlock, Exit.then])
        refine bodyPost_ret (by simp [results, Try.results50, go_sem, W0, W1, W2, W3]; try rfl) rfl ?_
        exact ⟨.slice a5 (l.length + 1) c5, by first | rfl | (rw [HL00.out]; done) | (rw [HL00.out]; rfl), by first | exact PF.out.2.2.2.2.1 | simpa using PF.out.2.2.2.2.1, PF.out.2.2.2.2.2⟩
    exact EachL.nil
  exact EachL.nil
end
end Go.Proofs.Ytnobiekgifjaeaa
