/-
  The walk of 'WalPlays'.
-/
import Derived.Test.YtnobiekgifjaeaaU2
namespace Go.Proofs.Ytnobiekgifjaeaa
open Go.RowKit
attribute [local go_sem ↓] Go.wp_at_zero Go.wp_at_succ
section
variable {w0 w W w3 : World} {b lb mb : Nat} {lv : Value} {g : Lg}
def lawBx (lv : Value) (g : Lg) : Array Value := #[lv, .int .i64 (g.sure : Int), .int .i64 g.kept, .int .u64 (g.marks : Int)]
/-- the log, its disk, and the law's box with its model -/
def LawAt (w0 : World) (mb b lb : Nat) (lv : Value) (g : Lg) (w : World) : Prop := PlayAt (some (mb, 89, lawBx lv g)) w0 b lb lv g w
theorem LawAt.reads (h : LawAt w0 mb b lb lv g w) : Reads w lv g.recs := LW.reads (bx := []) h.1
theorem LawAt.box (h : LawAt w0 mb b lb lv g w) : Blk w mb 89 (lawBx lv g) := h.1.own.2.2 mb _ _ rfl
theorem LawAt.below (h : LawAt w0 mb b lb lv g w) (hb : Below w.heap.size w W) : LawAt w0 mb b lb lv g W := ⟨h.1.below (bx_stable _ lv g.recs 0 []) hb, h.2⟩
theorem LawAt.says (h : LawAt w0 mb b lb lv g w) (a : Ac) (ha : a.ok) :
    Calls Try.prog 53 #[.pointer (some ⟨lb, 0, none⟩), modelV lv (g.sure : Int) g.kept (g.marks : Int), acV a] w fun e w' => e = .returned (.bool true) ∧ Below w.heap.size w w' := by
  obtain ⟨c, hx⟩ := h.1
  obtain ⟨G, hg⟩ := hx.wal
  exact says_c hg h.reads a ha
theorem LawAt.start (h : LW w0 (fun _ => False) (fun _ => True) b lb ⟨#[]⟩ 0 (openG [] 0) w) :
    LawAt w0 w.heap.size b lb (.slice none 0 0) (openG [] 0) (w.alloc (.cells #[.slice none 0 0, .int .i64 0, .int .i64 0, .int .u64 0] 89)) := by
  refine ⟨?_, fits_new⟩
  refine h.turn ((Step.refl _ w).alloc _) (fun r hr => ?_) ⟨.inl ⟨rfl, rfl⟩, fun i t cs hi => by simp at hi, fun r t cs e => ?_⟩
  · rcases hr with hr | ⟨_, hr⟩ | ⟨t, cs, e⟩
    · simp [Value.ownBlock] at hr
    · omega
    · have : w.heap.size = r := by have := Option.some.inj e; exact (Prod.mk.inj this).1
      exact ⟨.inr (by omega), by simp; omega⟩
  · have e' := Option.some.inj e
    obtain ⟨e1, e2⟩ := Prod.mk.inj e'
    obtain ⟨e2, e3⟩ := Prod.mk.inj e2
    subst e1 e2 e3
    exact Blk.new w _ _
/-- the law's box has the model as it is now -/
theorem LawAt.put {lv2 : Value} {g2 : Lg} {lb2 : Nat} (h : PlayAt (some (mb, 89, lawBx lv g)) w0 b lb2 lv2 g2 w) (hlv : ∀ s, lv ≠ .string s) :
    LawAt w0 mb b lb2 lv2 g2 ((((w.setCell ⟨mb, 0, none⟩ lv2).setCell ⟨mb, 1, none⟩ (.int .i64 (g2.sure : Int))).setCell ⟨mb, 2, none⟩ (.int .i64 g2.kept)).setCell ⟨mb, 3, none⟩ (.int .u64 (g2.marks : Int))) := by
  have hB : Blk w mb 89 (lawBx lv g) := h.1.own.2.2 mb _ _ rfl
  have hr : Reads w lv2 g2.recs := LW.reads (bx := []) h.1
  have hin : bxK (some (mb, 89, lawBx lv g)) lv2 0 0 mb := .inr (.inr ⟨_, _, rfl⟩)
  have hz : ((((w.setCell ⟨mb, 0, none⟩ lv2).setCell ⟨mb, 1, none⟩ (.int .i64 (g2.sure : Int))).setCell ⟨mb, 2, none⟩ (.int .i64 g2.kept)).setCell ⟨mb, 3, none⟩ (.int .u64 (g2.marks : Int))).heap.size = w.heap.size := by simp [World.setCell]
  refine ⟨?_, h.2⟩
  refine h.1.turn ((Step.refl _ w).set4 hin) (fun r hr' => ⟨.inl ?_, ?_⟩) ⟨hr.store (Nat.le_of_eq hz.symm) (fun r hk hne => heap_set4 (fun e => ?_)), fun i t cs hi => by simp at hi, fun r t cs e => ?_⟩
  · rcases hr' with hr' | ⟨h1, h2⟩ | ⟨t, cs, e⟩
    · exact .inl hr'
    · omega
    · have : mb = r := by have := Option.some.inj e; exact (Prod.mk.inj this).1
      subst this
      exact hin
  · rw [hz]
    rcases hr' with hr' | ⟨h1, h2⟩ | ⟨t, cs, e⟩
    · exact hr.lt r hr'
    · omega
    · have : mb = r := by have := Option.some.inj e; exact (Prod.mk.inj this).1
      subst this
      exact hB.lt
  · subst e
    exact hne (Reads.box_ne hr hB (by simpa [lawBx] using hlv) hk)
  · have e' := Option.some.inj e
    obtain ⟨e1, e2⟩ := Prod.mk.inj e'
    obtain ⟨e2, e3⟩ := Prod.mk.inj e2
    subst e1 e2 e3
    exact hB.set4
set_option maxRecDepth 100000 in
set_option maxHeartbeats 4000000 in
theorem walPlays_w (a : Option Addr) (len cap : Nat) (l : List Ac) (w : World) (h : IsActs w a len cap l) :
    Calls Try.prog 13 #[.slice a len cap] w fun e w' => e = .returned (.bool true) ∧ Below w.heap.size w w' := by
  have hlen := h.len
  have HH := Lib.hid h
  have HN := Lib.hid (new_c w 8 (by omega) (by omega))
  have HO1 : ∀ w0 b W, DW w0 (fun _ => False) (fun _ => True) b ⟨#[]⟩ 0 W → Hid (Calls Try.prog 38 #[.pointer (some ⟨b, 0, none⟩)] W fun e w' => ∃ lb, e = .returned (.tuple #[.pointer (some ⟨lb, 0, none⟩), .int .i64 0, .int .i64 0]) ∧ LW w0 (fun _ => False) (fun _ => True) b lb ⟨#[]⟩ 0 (openG [] 0) w') := fun w0 b W h =>
    h.open_ stable_none (by omega) [] ⟨#[]⟩ (bytes_nil _).symm (by simp) (takenOk_short (by decide) _)
  have HW : ∀ W, Hid (Calls Try.prog 36 #[] W fun e w' => e = .returned (.bool true) ∧ Below W.heap.size W w') := fun W => awake5_c W
  clear h
  go_enter Try.func13, Try.ntmps13
  go_wp2_with (fail)
  refine HN.out.mono ?_; rintro e w1 ⟨rfl, l1⟩
  generalize hbb : w.heap.size + 1 = b at *
  have L1 := HO1 _ b _ (DW.of_live l1)
  clear l1 HN
  go_wp2_with (fail)
  refine L1.out.mono ?_; rintro e w2 ⟨lb, rfl, l2⟩
  have L2 := Lib.hid l2
  clear l2 L1
  go_wp2_with (fail)
  refine (HW _).out.mono ?_; rintro e w3 ⟨rfl, l3⟩
  have H3 := Lib.hid (LawAt.start (L2.out.below stable_none l3))
  clear l3 L2 HW HO1
  go_wp2_with (fail)
  generalize hmb : w3.heap.size = mb at *
  clear hmb hbb
  go_loopw [5, 9] (fun s5 s9 wr => ∃ (k lb : Nat), k ≤ len ∧ k ≤ 50 ∧ s5 = .pointer (some ⟨lb, 0, none⟩) ∧ s9 = .int .i64 (k : Int) ∧ Hid (∃ la lc g, LawAt w mb b lb (.slice la g.recs.length lc) g wr)) (fun _ i _ => 50 - (intOf i).toNat)
  case atStart => exact ⟨0, lb, Nat.zero_le _, Nat.zero_le _, rfl, rfl, _, _, _, H3.out⟩
  case round =>
    obtain ⟨k, lb2, hk1, hk2, rfl, rfl, hR⟩ := hrel
    obtain ⟨la, lc, g, hL⟩ := hR.out
    clear hR H3
    by_cases hgo : k < len ∧ k < 50
    · obtain ⟨hg1, hg2⟩ := hgo
      obtain ⟨c, hck⟩ : ∃ c, l[k]? = some c := ⟨_, List.getElem?_eq_getElem (by rw [HH.out.len_eq]; exact hg1)⟩
      obtain ⟨ab, off, rfl, hc1, hc2, hco, hab, hcell⟩ := HH.out.at_ (Below.refl _ _) hck
      have HL := Lib.hid hL
      have HCO := Lib.hid hco
      have HCE : Hid (∀ W, Below w.heap.size w W → ∀ (j : Nat) (u : Value), (acCells c)[j]? = some u → W.cell? ⟨ab, off + k * 9 + j, none⟩ = some u) := fun W hW j u hj => (hW.cell (p := ⟨ab, off + k * 9 + j, none⟩) hab).trans (hcell j u hj)
      have HON := Lib.hid (one_any (hL.below (below_drewN wr 1)) c hco)
      unfold modelV acV at HON
      have hmb := hL.box.lt
      clear hck hco hcell hL
      go_wp2_with (fail)
      refine wp_region_late (S := (fun W => Blk W mb 89 (lawBx (.slice la g.recs.length lc) g) ∧ Below w.heap.size w W)) (late := [13]) (by kernel_rfl) ⟨HL.out.box, (HL.out.below (below_drewN wr 1)).1.base⟩ (fun hHeld => ?_)
      refine wpAnyL_move (i := 0) (v := ?_) (by rfl) (by kernel_rfl) (by kernel_rfl) (by kernel_rfl) (by rfl) (by exact fun _ _ _ h => h) (Or.inl ⟨by rfl, ?_⟩) (by assumption) ?_; rotate_left; · (intro w0; go_simp; try with_reducible rfl)
      try simp only [Act.put, List.setIfInBounds_toArray, List.set_cons_zero, List.set_cons_succ]
      refine wpAnyL_move (i := 1) (v := ?_) (by rfl) (by kernel_rfl) (by kernel_rfl) (by kernel_rfl) (by rfl) (by exact fun _ _ _ h => h) (Or.inl ⟨by rfl, ?_⟩) (by assumption) ?_; rotate_left; · (intro w0; go_simp; try with_reducible rfl)
      try simp only [Act.put, List.setIfInBounds_toArray, List.set_cons_zero, List.set_cons_succ]
      refine wpAnyL_load (i := 2) (v := ?_) (by rfl) (by kernel_rfl) (by kernel_rfl) (by kernel_rfl) (by rfl) (by kernel_rfl) (by exact fun _ _ _ h => h) (Or.inl ⟨by rfl, ?_⟩) (by assumption) ?_; rotate_left; · (intro w0 hS0; have m0 : w0.cell? ⟨mb, 0, none⟩ = some (.slice la g.recs.length lc) := hS0.1.cell 0; have m1 : w0.cell? ⟨mb, 1, none⟩ = some (.int .i64 (g.sure : Int)) := hS0.1.cell 1; have m2 : w0.cell? ⟨mb, 2, none⟩ = some (.int .i64 g.kept) := hS0.1.cell 2; have m3 : w0.cell? ⟨mb, 3, none⟩ = some (.int .u64 (g.marks : Int)) := hS0.1.cell 3; have a0 : w0.cell? ⟨ab, off + k * 9, none⟩ = some (.int .i64 c.kind) := HCE.out _ hS0.2 0 _ rfl; have a1 : w0.cell? ⟨ab, off + k * 9 + 1, none⟩ = some (.int .i64 c.n) := HCE.out _ hS0.2 1 _ rfl; have a2 : w0.cell? ⟨ab, off + k * 9 + 2, none⟩ = some (.string c.s) := HCE.out _ hS0.2 2 _ rfl; have a3 : w0.cell? ⟨ab, off + k * 9 + 3, none⟩ = some (.int .u64 c.at_) := HCE.out _ hS0.2 3 _ rfl; have a4 : w0.cell? ⟨ab, off + k * 9 + 4, none⟩ = some (.int .i64 c.fall.at_) := HCE.out _ hS0.2 4 _ rfl; have a5 : w0.cell? ⟨ab, off + k * 9 + 5, none⟩ = some (.int .u64 c.fall.keep) := HCE.out _ hS0.2 5 _ rfl; have a6 : w0.cell? ⟨ab, off + k * 9 + 6, none⟩ = some (.int .i64 c.fall.torn) := HCE.out _ hS0.2 6 _ rfl; have a7 : w0.cell? ⟨ab, off + k * 9 + 7, none⟩ = some (.int .i64 c.fall.bytes) := HCE.out _ hS0.2 7 _ rfl; have a8 : w0.cell? ⟨ab, off + k * 9 + 8, none⟩ = some (.int .i64 c.fall.log) := HCE.out _ hS0.2 8 _ rfl; go_simp; try with_reducible rfl)
      try simp only [Act.put, List.setIfInBounds_toArray, List.set_cons_zero, List.set_cons_succ]
      refine wpAnyL_move (i := 3) (v := ?_) (by rfl) (by kernel_rfl) (by kernel_rfl) (by kernel_rfl) (by rfl) (by exact fun _ _ _ h => h) (Or.inl ⟨by rfl, ?_⟩) (by assumption) ?_; rotate_left; · (intro w0; go_simp; try with_reducible rfl)
      try simp only [Act.put, List.setIfInBounds_toArray, List.set_cons_zero, List.set_cons_succ]
      refine wpAnyL_move (i := 4) (v := ?_) (by rfl) (by kernel_rfl) (by kernel_rfl) (by kernel_rfl) (by rfl) (by exact fun _ _ _ h => h) (Or.inl ⟨by rfl, ?_⟩) (by assumption) ?_; rotate_left; · (intro w0; go_simp; try with_reducible rfl)
      try simp only [Act.put, List.setIfInBounds_toArray, List.set_cons_zero, List.set_cons_succ]
      refine wpAnyL_move (i := 5) (v := ?_) (by rfl) (by kernel_rfl) (by kernel_rfl) (by kernel_rfl) (by rfl) (by exact fun _ _ _ h => h) (Or.inl ⟨by rfl, ?_⟩) (by assumption) ?_; rotate_left; · (intro w0; go_simp; try with_reducible rfl)
      try simp only [Act.put, List.setIfInBounds_toArray, List.set_cons_zero, List.set_cons_succ]
      refine wpAnyL_load (i := 6) (v := ?_) (by rfl) (by kernel_rfl) (by kernel_rfl) (by kernel_rfl) (by rfl) (by kernel_rfl) (by exact fun _ _ _ h => h) (Or.inl ⟨by rfl, ?_⟩) (by assumption) ?_; rotate_left; · (intro w0 hS0; have m0 : w0.cell? ⟨mb, 0, none⟩ = some (.slice la g.recs.length lc) := hS0.1.cell 0; have m1 : w0.cell? ⟨mb, 1, none⟩ = some (.int .i64 (g.sure : Int)) := hS0.1.cell 1; have m2 : w0.cell? ⟨mb, 2, none⟩ = some (.int .i64 g.kept) := hS0.1.cell 2; have m3 : w0.cell? ⟨mb, 3, none⟩ = some (.int .u64 (g.marks : Int)) := hS0.1.cell 3; have a0 : w0.cell? ⟨ab, off + k * 9, none⟩ = some (.int .i64 c.kind) := HCE.out _ hS0.2 0 _ rfl; have a1 : w0.cell? ⟨ab, off + k * 9 + 1, none⟩ = some (.int .i64 c.n) := HCE.out _ hS0.2 1 _ rfl; have a2 : w0.cell? ⟨ab, off + k * 9 + 2, none⟩ = some (.string c.s) := HCE.out _ hS0.2 2 _ rfl; have a3 : w0.cell? ⟨ab, off + k * 9 + 3, none⟩ = some (.int .u64 c.at_) := HCE.out _ hS0.2 3 _ rfl; have a4 : w0.cell? ⟨ab, off + k * 9 + 4, none⟩ = some (.int .i64 c.fall.at_) := HCE.out _ hS0.2 4 _ rfl; have a5 : w0.cell? ⟨ab, off + k * 9 + 5, none⟩ = some (.int .u64 c.fall.keep) := HCE.out _ hS0.2 5 _ rfl; have a6 : w0.cell? ⟨ab, off + k * 9 + 6, none⟩ = some (.int .i64 c.fall.torn) := HCE.out _ hS0.2 6 _ rfl; have a7 : w0.cell? ⟨ab, off + k * 9 + 7, none⟩ = some (.int .i64 c.fall.bytes) := HCE.out _ hS0.2 7 _ rfl; have a8 : w0.cell? ⟨ab, off + k * 9 + 8, none⟩ = some (.int .i64 c.fall.log) := HCE.out _ hS0.2 8 _ rfl; go_simp; try with_reducible rfl)
      try simp only [Act.put, List.setIfInBounds_toArray, List.set_cons_zero, List.set_cons_succ]
      refine wpAnyL_each (rs := [7]) (by kernel_rfl) (by simp) ?_
      refine EachL.cons (by rfl) (by rfl) (fun K hK => ?_) EachL.nil
      go_simp
      refine HON.out.mono ?_
      rintro e w4 ⟨g4, lb4, lv4, rfl, hP⟩
      obtain ⟨la4, lc4, rfl⟩ := (LW.reads (bx := []) hP.1).form
      unfold modelV
      dsimp only
      refine hK.out _ _ ⟨hP.1.own.2.2 mb _ _ rfl, hP.1.base⟩ (fun hHeld => ?_)
      clear hK K
      try simp only [Act.put, List.setIfInBounds_toArray, List.set_cons_zero, List.set_cons_succ]
      refine wpAnyL_move (i := 8) (v := ?_) (by rfl) (by kernel_rfl) (by kernel_rfl) (by kernel_rfl) (by rfl) (by exact fun _ _ _ h => h) (Or.inl ⟨by rfl, ?_⟩) (by assumption) ?_; rotate_left; · (intro w0; go_simp; try with_reducible rfl)
      try simp only [Act.put, List.setIfInBounds_toArray, List.set_cons_zero, List.set_cons_succ]
      refine wpAnyL_move (i := 9) (v := ?_) (by rfl) (by kernel_rfl) (by kernel_rfl) (by kernel_rfl) (by rfl) (by exact fun _ _ _ h => h) (Or.inl ⟨by rfl, ?_⟩) (by assumption) ?_; rotate_left; · (intro w0; go_simp; try with_reducible rfl)
      try simp only [Act.put, List.setIfInBounds_toArray, List.set_cons_zero, List.set_cons_succ]
      refine wpAnyL_move (i := 10) (v := ?_) (by rfl) (by kernel_rfl) (by kernel_rfl) (by kernel_rfl) (by rfl) (by exact fun _ _ _ h => h) (Or.inl ⟨by rfl, ?_⟩) (by assumption) ?_; rotate_left; · (intro w0; go_simp; try with_reducible rfl)
      try simp only [Act.put, List.setIfInBounds_toArray, List.set_cons_zero, List.set_cons_succ]
      refine wpAnyL_move (i := 11) (v := ?_) (by rfl) (by kernel_rfl) (by kernel_rfl) (by kernel_rfl) (by rfl) (by exact fun _ _ _ h => h) (Or.inl ⟨by rfl, ?_⟩) (by assumption) ?_; rotate_left; · (intro w0; go_simp; try with_reducible rfl)
      try simp only [Act.put, List.setIfInBounds_toArray, List.set_cons_zero, List.set_cons_succ]
      refine wpAnyL_move (i := 12) (v := ?_) (by rfl) (by kernel_rfl) (by kernel_rfl) (by kernel_rfl) (by rfl) (by exact fun _ _ _ h => h) (Or.inl ⟨by rfl, ?_⟩) (by assumption) ?_; rotate_left; · (intro w0; go_simp; try with_reducible rfl)
      try simp only [Act.put, List.setIfInBounds_toArray, List.set_cons_zero, List.set_cons_succ]
      have hB4 := hP.1.own.2.2 mb _ _ rfl
      have n0 : w4.cell? ⟨mb, 0, none⟩ = some (.slice la g.recs.length lc) := hB4.cell 0
      have n1 : w4.cell? ⟨mb, 1, none⟩ = some (.int .i64 (g.sure : Int)) := hB4.cell 1
      have n2 : w4.cell? ⟨mb, 2, none⟩ = some (.int .i64 g.kept) := hB4.cell 2
      have n3 : w4.cell? ⟨mb, 3, none⟩ = some (.int .u64 (g.marks : Int)) := hB4.cell 3
      have z0 : w4.frozen? ⟨mb, 0, none⟩ = false := hB4.frozen 0
      have z1 : w4.frozen? ⟨mb, 1, none⟩ = false := hB4.frozen 1
      have z2 : w4.frozen? ⟨mb, 2, none⟩ = false := hB4.frozen 2
      have z3 : w4.frozen? ⟨mb, 3, none⟩ = false := hB4.frozen 3
      have H5 := Lib.hid (LawAt.put hP (by simp))
      clear hP hB4 hHeld HON HL
      refine wpAnyL_late (i := 13) (by kernel_rfl) (by rfl) (by rfl) (fun K hK => ?_)
      go_simp
      refine hK.out _ _ ?_
      clear hK K
      try simp only [Act.put, List.setIfInBounds_toArray, List.set_cons_zero, List.set_cons_succ]
      refine wpAny_move (i := 14) (v := ?_) (by rfl) (by kernel_rfl) (by kernel_rfl) (by kernel_rfl) (by exact fun _ _ _ h => h) (Or.inl ⟨by rfl, ?_⟩) ?_; rotate_left; · (intro w0; go_simp; try with_reducible rfl)
      try simp only [Act.put, List.setIfInBounds_toArray, List.set_cons_zero, List.set_cons_succ]
      refine wpAny_done (by kernel_rfl) ?_ _
      clear n0 n1 n2 n3 z0 z1 z2 z3 hmb
      generalize ((((w4.setCell ⟨mb, 0, none⟩ (.slice la4 g4.recs.length lc4)).setCell ⟨mb, 1, none⟩ (.int .i64 (g4.sure : Int))).setCell ⟨mb, 2, none⟩ (.int .i64 g4.kept)).setCell ⟨mb, 3, none⟩ (.int .u64 (g4.marks : Int))) = w5 at *
      have hmb5 := H5.out.box.lt
      have HSA : ∀ W, Below w5.heap.size w5 W → Hid (Calls Try.prog 53 #[.pointer (some ⟨lb4, 0, none⟩), .agg #[.slice la4 g4.recs.length lc4, .int .i64 (g4.sure : Int), .int .i64 g4.kept, .int .u64 (g4.marks : Int)], .agg #[.int .i64 c.kind, .int .i64 c.n, .string c.s, .int .u64 c.at_, .int .i64 c.fall.at_, .int .u64 c.fall.keep, .int .i64 c.fall.torn, .int .i64 c.fall.bytes, .int .i64 c.fall.log]] W fun e w' => e = .returned (.bool true) ∧ Below W.heap.size W w') := fun W hW => (H5.out.below hW).says c HCO.out
      have HB5 : Hid (Below w.heap.size w w5) := H5.out.1.base
      have D0 : Hid (w5.cell? ⟨mb, 0, none⟩ = some (.slice la4 g4.recs.length lc4)) := H5.out.box.cell 0
      have D1 : Hid (w5.cell? ⟨mb, 1, none⟩ = some (.int .i64 (g4.sure : Int))) := H5.out.box.cell 1
      have D2 : Hid (w5.cell? ⟨mb, 2, none⟩ = some (.int .i64 g4.kept)) := H5.out.box.cell 2
      have D3 : Hid (w5.cell? ⟨mb, 3, none⟩ = some (.int .u64 (g4.marks : Int))) := H5.out.box.cell 3
      go_wp2_with (fail)
      refine wp_region_late (S := Below w5.heap.size w5) (late := []) (by kernel_rfl) (below_drewN w5 1) (fun hHeld => ?_)
      refine wpAnyL_move (i := 0) (v := ?_) (by rfl) (by kernel_rfl) (by kernel_rfl) (by kernel_rfl) (by rfl) (by exact fun _ _ _ h => h) (Or.inl ⟨by rfl, ?_⟩) (by assumption) ?_; rotate_left; · (intro w0; go_simp; try with_reducible rfl)
      try simp only [Act.put, List.setIfInBounds_toArray, List.set_cons_zero, List.set_cons_succ]
      refine wpAnyL_move (i := 1) (v := ?_) (by rfl) (by kernel_rfl) (by kernel_rfl) (by kernel_rfl) (by rfl) (by exact fun _ _ _ h => h) (Or.inl ⟨by rfl, ?_⟩) (by assumption) ?_; rotate_left; · (intro w0; go_simp; try with_reducible rfl)
      try simp only [Act.put, List.setIfInBounds_toArray, List.set_cons_zero, List.set_cons_succ]
      refine wpAnyL_move (i := 2) (v := ?_) (by rfl) (by kernel_rfl) (by kernel_rfl) (by kernel_rfl) (by rfl) (by exact fun _ _ _ h => h) (Or.inl ⟨by rfl, ?_⟩) (by assumption) ?_; rotate_left; · (intro w0; go_simp; try with_reducible rfl)
      try simp only [Act.put, List.setIfInBounds_toArray, List.set_cons_zero, List.set_cons_succ]
      refine wpAnyL_move (i := 3) (v := ?_) (by rfl) (by kernel_rfl) (by kernel_rfl) (by kernel_rfl) (by rfl) (by exact fun _ _ _ h => h) (Or.inl ⟨by rfl, ?_⟩) (by assumption) ?_; rotate_left; · (intro w0; go_simp; try with_reducible rfl)
      try simp only [Act.put, List.setIfInBounds_toArray, List.set_cons_zero, List.set_cons_succ]
      refine wpAnyL_load (i := 4) (v := ?_) (by rfl) (by kernel_rfl) (by kernel_rfl) (by kernel_rfl) (by rfl) (by kernel_rfl) (by exact fun _ _ _ h => h) (Or.inl ⟨by rfl, ?_⟩) (by assumption) ?_; rotate_left; · (intro w0 hS0; have m0 : w0.cell? ⟨mb, 0, none⟩ = some (.slice la4 g4.recs.length lc4) := (hS0.cell (p := ⟨mb, 0, none⟩) hmb5).trans D0.out; have m1 : w0.cell? ⟨mb, 1, none⟩ = some (.int .i64 (g4.sure : Int)) := (hS0.cell (p := ⟨mb, 1, none⟩) hmb5).trans D1.out; have m2 : w0.cell? ⟨mb, 2, none⟩ = some (.int .i64 g4.kept) := (hS0.cell (p := ⟨mb, 2, none⟩) hmb5).trans D2.out; have m3 : w0.cell? ⟨mb, 3, none⟩ = some (.int .u64 (g4.marks : Int)) := (hS0.cell (p := ⟨mb, 3, none⟩) hmb5).trans D3.out; have a0 : w0.cell? ⟨ab, off + k * 9, none⟩ = some (.int .i64 c.kind) := HCE.out _ (HB5.out.trans (hS0.mono HB5.out.size)) 0 _ rfl; have a1 : w0.cell? ⟨ab, off + k * 9 + 1, none⟩ = some (.int .i64 c.n) := HCE.out _ (HB5.out.trans (hS0.mono HB5.out.size)) 1 _ rfl; have a2 : w0.cell? ⟨ab, off + k * 9 + 2, none⟩ = some (.string c.s) := HCE.out _ (HB5.out.trans (hS0.mono HB5.out.size)) 2 _ rfl; have a3 : w0.cell? ⟨ab, off + k * 9 + 3, none⟩ = some (.int .u64 c.at_) := HCE.out _ (HB5.out.trans (hS0.mono HB5.out.size)) 3 _ rfl; have a4 : w0.cell? ⟨ab, off + k * 9 + 4, none⟩ = some (.int .i64 c.fall.at_) := HCE.out _ (HB5.out.trans (hS0.mono HB5.out.size)) 4 _ rfl; have a5 : w0.cell? ⟨ab, off + k * 9 + 5, none⟩ = some (.int .u64 c.fall.keep) := HCE.out _ (HB5.out.trans (hS0.mono HB5.out.size)) 5 _ rfl; have a6 : w0.cell? ⟨ab, off + k * 9 + 6, none⟩ = some (.int .i64 c.fall.torn) := HCE.out _ (HB5.out.trans (hS0.mono HB5.out.size)) 6 _ rfl; have a7 : w0.cell? ⟨ab, off + k * 9 + 7, none⟩ = some (.int .i64 c.fall.bytes) := HCE.out _ (HB5.out.trans (hS0.mono HB5.out.size)) 7 _ rfl; have a8 : w0.cell? ⟨ab, off + k * 9 + 8, none⟩ = some (.int .i64 c.fall.log) := HCE.out _ (HB5.out.trans (hS0.mono HB5.out.size)) 8 _ rfl; go_simp; try with_reducible rfl)
      try simp only [Act.put, List.setIfInBounds_toArray, List.set_cons_zero, List.set_cons_succ]
      refine wpAnyL_move (i := 5) (v := ?_) (by rfl) (by kernel_rfl) (by kernel_rfl) (by kernel_rfl) (by rfl) (by exact fun _ _ _ h => h) (Or.inl ⟨by rfl, ?_⟩) (by assumption) ?_; rotate_left; · (intro w0; go_simp; try with_reducible rfl)
      try simp only [Act.put, List.setIfInBounds_toArray, List.set_cons_zero, List.set_cons_succ]
      refine wpAnyL_move (i := 6) (v := ?_) (by rfl) (by kernel_rfl) (by kernel_rfl) (by kernel_rfl) (by rfl) (by exact fun _ _ _ h => h) (Or.inl ⟨by rfl, ?_⟩) (by assumption) ?_; rotate_left; · (intro w0; go_simp; try with_reducible rfl)
      try simp only [Act.put, List.setIfInBounds_toArray, List.set_cons_zero, List.set_cons_succ]
      refine wpAnyL_move (i := 7) (v := ?_) (by rfl) (by kernel_rfl) (by kernel_rfl) (by kernel_rfl) (by rfl) (by exact fun _ _ _ h => h) (Or.inl ⟨by rfl, ?_⟩) (by assumption) ?_; rotate_left; · (intro w0; go_simp; try with_reducible rfl)
      try simp only [Act.put, List.setIfInBounds_toArray, List.set_cons_zero, List.set_cons_succ]
      refine wpAnyL_load (i := 8) (v := ?_) (by rfl) (by kernel_rfl) (by kernel_rfl) (by kernel_rfl) (by rfl) (by kernel_rfl) (by exact fun _ _ _ h => h) (Or.inl ⟨by rfl, ?_⟩) (by assumption) ?_; rotate_left; · (intro w0 hS0; have m0 : w0.cell? ⟨mb, 0, none⟩ = some (.slice la4 g4.recs.length lc4) := (hS0.cell (p := ⟨mb, 0, none⟩) hmb5).trans D0.out; have m1 : w0.cell? ⟨mb, 1, none⟩ = some (.int .i64 (g4.sure : Int)) := (hS0.cell (p := ⟨mb, 1, none⟩) hmb5).trans D1.out; have m2 : w0.cell? ⟨mb, 2, none⟩ = some (.int .i64 g4.kept) := (hS0.cell (p := ⟨mb, 2, none⟩) hmb5).trans D2.out; have m3 : w0.cell? ⟨mb, 3, none⟩ = some (.int .u64 (g4.marks : Int)) := (hS0.cell (p := ⟨mb, 3, none⟩) hmb5).trans D3.out; have a0 : w0.cell? ⟨ab, off + k * 9, none⟩ = some (.int .i64 c.kind) := HCE.out _ (HB5.out.trans (hS0.mono HB5.out.size)) 0 _ rfl; have a1 : w0.cell? ⟨ab, off + k * 9 + 1, none⟩ = some (.int .i64 c.n) := HCE.out _ (HB5.out.trans (hS0.mono HB5.out.size)) 1 _ rfl; have a2 : w0.cell? ⟨ab, off + k * 9 + 2, none⟩ = some (.string c.s) := HCE.out _ (HB5.out.trans (hS0.mono HB5.out.size)) 2 _ rfl; have a3 : w0.cell? ⟨ab, off + k * 9 + 3, none⟩ = some (.int .u64 c.at_) := HCE.out _ (HB5.out.trans (hS0.mono HB5.out.size)) 3 _ rfl; have a4 : w0.cell? ⟨ab, off + k * 9 + 4, none⟩ = some (.int .i64 c.fall.at_) := HCE.out _ (HB5.out.trans (hS0.mono HB5.out.size)) 4 _ rfl; have a5 : w0.cell? ⟨ab, off + k * 9 + 5, none⟩ = some (.int .u64 c.fall.keep) := HCE.out _ (HB5.out.trans (hS0.mono HB5.out.size)) 5 _ rfl; have a6 : w0.cell? ⟨ab, off + k * 9 + 6, none⟩ = some (.int .i64 c.fall.torn) := HCE.out _ (HB5.out.trans (hS0.mono HB5.out.size)) 6 _ rfl; have a7 : w0.cell? ⟨ab, off + k * 9 + 7, none⟩ = some (.int .i64 c.fall.bytes) := HCE.out _ (HB5.out.trans (hS0.mono HB5.out.size)) 7 _ rfl; have a8 : w0.cell? ⟨ab, off + k * 9 + 8, none⟩ = some (.int .i64 c.fall.log) := HCE.out _ (HB5.out.trans (hS0.mono HB5.out.size)) 8 _ rfl; go_simp; try with_reducible rfl)
      try simp only [Act.put, List.setIfInBounds_toArray, List.set_cons_zero, List.set_cons_succ]
      refine wpAnyL_each (rs := [9]) (by kernel_rfl) (by simp) ?_
      refine EachL.cons (by rfl) (by rfl) (fun K hK => ?_) EachL.nil
      go_simp
      refine (HSA _ hHeld).out.mono ?_
      rintro e w6 ⟨rfl, hb6⟩
      dsimp only
      refine hK.out _ _ (hHeld.trans (hb6.mono hHeld.size)) (fun hHeld => ?_)
      clear hK K
      try simp only [Act.put, List.setIfInBounds_toArray, List.set_cons_zero, List.set_cons_succ]
      refine wpAnyL_move (i := 10) (v := ?_) (by rfl) (by kernel_rfl) (by kernel_rfl) (by kernel_rfl) (by rfl) (by exact fun _ _ _ h => h) (Or.inl ⟨by rfl, ?_⟩) (by assumption) ?_; rotate_left; · (intro w0; go_simp; try with_reducible rfl)
      try simp only [Act.put, List.setIfInBounds_toArray, List.set_cons_zero, List.set_cons_succ]
      refine wpAnyL_move (i := 11) (v := ?_) (by rfl) (by kernel_rfl) (by kernel_rfl) (by kernel_rfl) (by rfl) (by exact fun _ _ _ h => h) (Or.inl ⟨by rfl, ?_⟩) (by assumption) ?_; rotate_left; · (intro w0; go_simp; try with_reducible rfl)
      try simp only [Act.put, List.setIfInBounds_toArray, List.set_cons_zero, List.set_cons_succ]
      refine wpAnyL_done (by kernel_rfl) ?_ _
      have H6 := Lib.hid (H5.out.below hHeld)
      clear hHeld hb6 H5 HSA D0 D1 D2 D3 HB5
      go_wp2
      go_roundw
      case rel => exact ⟨k + 1, lb4, by omega, by omega, rfl, by go_num, _, _, _, H6.out⟩
      case measure => simp [intOf]; omega
    · have HB := Lib.hid hL.1.base
      clear hL
      go_wp2_with (fail)
      all_goals
        go_ret
        exact ⟨rfl, HB.out⟩
end
end Go.Proofs.Ytnobiekgifjaeaa
