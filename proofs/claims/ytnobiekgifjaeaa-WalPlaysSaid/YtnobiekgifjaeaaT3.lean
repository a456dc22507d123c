/-
  Does a log say what it must? The walk of 'says'.
-/
import Derived.Test.YtnobiekgifjaeaaT2
import Derived.Test.YtnobiekgifjaeaaD2
import Derived.BigRegion
import Derived.Deep.RegionWith
namespace Go.Proofs.Ytnobiekgifjaeaa
open Go.RowKit
attribute [local go_sem ↓] Go.wp_at_zero Go.wp_at_succ

theorem Lg.ok.recsOk {g : Lg} (h : g.ok) : RecsOk g.recs := ⟨by have := h.length; omega, h.end_le, fun s hs => (h.recs s hs).2⟩
theorem Lg.flushed_pl {g : Lg} (h : g.sure ≤ g.recs.length) : g.flushed = pl g.recs g.sure := by
  unfold Lg.flushed
  rcases Nat.lt_or_ge g.sure g.recs.length with h1 | h1
  · rw [pl_get h1]
    rfl
  · rw [List.getElem?_eq_none (by rw [places_length]; exact h1), show g.sure = g.recs.length by omega, pl_end]
    rfl
theorem last_some {w : World} {G : Nat → Prop} {lb db : Nat} {g : Lg} (h : WalAt w G lb db g) {n : Nat} (hn : g.recs.length = n + 1) :
    Calls Try.prog 54 #[.pointer (some ⟨lb, 0, none⟩)] w fun e w' => e = .returned (.tuple #[.int .u64 (pl g.recs n : Int), .bool true]) ∧ ∃ q, w' = w.drewN q := by
  refine llast_of h ?_ rfl
  have := back_at h (j := n) (by omega)
  rw [show pl g.recs (n + 1) = g.end_ by rw [← pl_end, hn]] at this
  exact this
theorem last_none {w : World} {G : Nat → Prop} {lb db : Nat} {g : Lg} (h : WalAt w G lb db g) (hn : g.recs.length = 0) :
    Calls Try.prog 54 #[.pointer (some ⟨lb, 0, none⟩)] w fun e w' => e = .returned (.tuple #[.int .u64 0, .bool false]) ∧ ∃ q, w' = w.drewN q := by
  refine llast_of h ?_ rfl
  have e : g.end_ = 1 := by rw [← pl_end, hn]; rfl
  rw [e]
  exact back_first h

set_option maxRecDepth 100000 in
set_option maxHeartbeats 8000000 in
theorem says_c {w : World} {G : Nat → Prop} {lb db : Nat} {g : Lg} {lv : Value} (h : WalAt w G lb db g) (hr : Reads w lv g.recs) (a : Ac) (ha : a.ok) :
    Calls Try.prog 53 #[.pointer (some ⟨lb, 0, none⟩), modelV lv (g.sure : Int) g.kept (g.marks : Int), .agg #[.int .i64 a.kind, .int .i64 a.n, .string a.s, .int .u64 a.at_, .int .i64 a.fall.at_, .int .u64 a.fall.keep, .int .i64 a.fall.torn, .int .i64 a.fall.bytes, .int .i64 a.fall.log]] w
      fun e w' => e = .returned (.bool true) ∧ Below w.heap.size w w' := by
  obtain ⟨la, lc, rfl⟩ := hr.form
  have hro := h.ok.recsOk
  have hsure := h.ok.sure
  have hfl := Lg.flushed_pl hsure
  have hlen := hro.len
  have hende := hro.end_
  unfold modelV
  have B0 := (Blk.new w 89 #[.slice la g.recs.length lc, .int .i64 (g.sure : Int), .int .i64 g.kept, .int .u64 (g.marks : Int)]).alloc (.cells #[.int .i64 a.kind, .int .i64 a.n, .string a.s, .int .u64 a.at_, .int .i64 a.fall.at_, .int .u64 a.fall.keep, .int .i64 a.fall.torn, .int .i64 a.fall.bytes, .int .i64 a.fall.log] 85)
  have B1 := Blk.new (w.alloc (.cells #[.slice la g.recs.length lc, .int .i64 (g.sure : Int), .int .i64 g.kept, .int .u64 (g.marks : Int)] 89)) 85 #[.int .i64 a.kind, .int .i64 a.n, .string a.s, .int .u64 a.at_, .int .i64 a.fall.at_, .int .u64 a.fall.keep, .int .i64 a.fall.torn, .int .i64 a.fall.bytes, .int .i64 a.fall.log]
  have hrv : (w.alloc (.cells #[.slice la g.recs.length lc, .int .i64 (g.sure : Int), .int .i64 g.kept, .int .u64 (g.marks : Int)] 89)).heap.size = w.heap.size + 1 := by simp
  rw [hrv] at B1
  have hbw : Below w.heap.size w ((w.alloc (.cells #[.slice la g.recs.length lc, .int .i64 (g.sure : Int), .int .i64 g.kept, .int .u64 (g.marks : Int)] 89)).alloc (.cells #[.int .i64 a.kind, .int .i64 a.n, .string a.s, .int .u64 a.at_, .int .i64 a.fall.at_, .int .u64 a.fall.keep, .int .i64 a.fall.torn, .int .i64 a.fall.bytes, .int .i64 a.fall.log] 85)) := ((Below.refl _ _).alloc (Nat.le_refl _) _).alloc (by simp) _
  have HA := Lib.hid (mat_c _ _ g.recs (.int .i64 (g.sure : Int)) (.int .i64 g.kept) (.int .u64 (g.marks : Int)) (hr.below hbw) hro.len hro.end_ hro.sizes)
  have H := Lib.hid h
  have HRD := Lib.hid hr
  have HRO := Lib.hid hro
  have HFL := Lib.hid hfl
  have HAC := Lib.hid ha
  clear h hr hro hrv hfl ha
  go_enter Try.func53, Try.ntmps53
  go_wp2_with (fail)
  generalize (w.alloc (.cells #[.slice la g.recs.length lc, .int .i64 (g.sure : Int), .int .i64 g.kept, .int .u64 (g.marks : Int)] 89)).alloc (.cells #[.int .i64 a.kind, .int .i64 a.n, .string a.s, .int .u64 a.at_, .int .i64 a.fall.at_, .int .u64 a.fall.keep, .int .i64 a.fall.torn, .int .i64 a.fall.bytes, .int .i64 a.fall.log] 85) = w1 at *
  refine HA.out.mono ?_
  rintro e w2 ⟨ag, agc, rfl, ho, hb2⟩
  have hgc : g.recs.length + 1 ≤ agc ∧ agc ≤ maxLen := by
    rcases ho.2 with ⟨e, _⟩ | ⟨g', c', cur, e, _, _, h1, h2, _⟩
    · cases e
    · cases e
      exact ⟨h1, h2⟩
  obtain ⟨hgc1, hgc2⟩ := hgc
  have hag : ag < w2.heap.size := (ho.lt ag rfl).2
  have HROW : Hid (∀ j, j ≤ g.recs.length → w2.cell? ⟨ag, j, none⟩ = some (.int .u64 (pl g.recs j : Int))) := fun j hj => by
    rw [ho.cellAt j (by omega), plRow_get g.recs hj]
    rfl
  have HB2 : Hid (Below w.heap.size w w2) := hbw.trans (hb2.mono hbw.size)
  have b0 := B0.same (hb2.block _ B0.lt)
  have b1 := B1.same (hb2.block _ B1.lt)
  have BX0 := Lib.hid b0
  have BX1 := Lib.hid b1
  have hmb := b0.lt
  have hab := b1.lt
  have d0 : w2.cell? ⟨w.heap.size, 0, none⟩ = some (.slice la g.recs.length lc) := b0.cell 0
  have d1 : w2.cell? ⟨w.heap.size, 1, none⟩ = some (.int .i64 (g.sure : Int)) := b0.cell 1
  have d2 : w2.cell? ⟨w.heap.size, 2, none⟩ = some (.int .i64 g.kept) := b0.cell 2
  have d3 : w2.cell? ⟨w.heap.size, 3, none⟩ = some (.int .u64 (g.marks : Int)) := b0.cell 3
  have W2 := Lib.hid (H.out.below HB2.out)
  have r1 : w2.cell? ⟨ag, g.recs.length, none⟩ = some (.int .u64 (g.end_ : Int)) := by rw [HROW.out _ (Nat.le_refl _), pl_end]
  have r2 : w2.cell? ⟨ag, g.sure, none⟩ = some (.int .u64 (g.flushed : Int)) := by rw [HROW.out _ hsure, HFL.out]
  have HE : ∀ W, Below w2.heap.size w2 W → Hid (Calls Try.prog 40 #[.pointer (some ⟨lb, 0, none⟩)] W fun e w' => e = .returned (.int .u64 (g.end_ : Int)) ∧ w' = W) := fun W hW => lend_c (W2.out.below hW)
  have HFd : ∀ W, Below w2.heap.size w2 W → Hid (Calls Try.prog 49 #[.pointer (some ⟨lb, 0, none⟩)] W fun e w' => e = .returned (.int .u64 (g.flushed : Int)) ∧ Below W.heap.size W w') := fun W hW => (lflushed_c (W2.out.below hW)).mono fun e w' ⟨he, q, hw⟩ => ⟨he, hw ▸ below_drewN _ _⟩
  have HLn : ∀ W, Below w2.heap.size w2 W → Hid (Calls Try.prog 48 #[.pointer (some ⟨lb, 0, none⟩)] W fun e w' => e = .returned (.int .i64 (g.recs.length : Int)) ∧ w' = W) := fun W hW => llen_c (W2.out.below hW)
  have HRm : ∀ W, Below w2.heap.size w2 W → Hid (Calls Try.prog 44 #[.pointer (some ⟨lb, 0, none⟩)] W fun e w' => e = .returned (.int .i64 (4194305 - (g.end_ : Int))) ∧ w' = W) := fun W hW => lroom_c (W2.out.below hW)
  have HMR : ∀ W, Below w2.heap.size w2 W → Hid (Calls Try.prog 75 #[.agg #[.slice la g.recs.length lc, .int .i64 (g.sure : Int), .int .i64 g.kept, .int .u64 (g.marks : Int)]] W fun e w' => e = .returned (.int .i64 (4194305 - (g.end_ : Int))) ∧ Below W.heap.size W w') := fun W hW => mroom_c _ _ g.recs _ _ _ ((HRD.out.below HB2.out).below hW) HRO.out rfl rfl rfl
  have HKp : ∀ W, Below w2.heap.size w2 W → Hid (Calls Try.prog 46 #[.pointer (some ⟨lb, 0, none⟩)] W fun e w' => e = .returned (.int .i64 g.kept) ∧ w' = W) := fun W hW => lkept_c (W2.out.below hW)
  have HMs : ∀ W, Below w2.heap.size w2 W → Hid (Calls Try.prog 56 #[.pointer (some ⟨lb, 0, none⟩)] W fun e w' => e = .returned (.int .u64 (g.marks : Int)) ∧ w' = W) := fun W hW => lmaster_c (W2.out.below hW)
  have D0 := Lib.hid d0
  have D1 := Lib.hid d1
  have D2 := Lib.hid d2
  have D3 := Lib.hid d3
  have R1 := Lib.hid r1
  have R2 := Lib.hid r2
  have hsb : (g.sure : Int) < (g.recs.length : Int) + 1 := by omega
  have hnb : (g.recs.length : Int) < (g.recs.length : Int) + 1 := by omega
  clear ho hb2 B0 B1 b0 b1 HA hbw
  by_cases hn : g.recs.length = 0
  · have HL := Lib.hid ((last_none W2.out hn).mono (R' := fun e w' => e = .returned (.tuple #[.int .u64 0, .bool false]) ∧ Below w2.heap.size w2 w') fun e w' ⟨he, q, hw⟩ => ⟨he, hw ▸ below_drewN _ _⟩)
    have hnp : ¬ ((0 : Int) < (g.recs.length : Int)) := by omega
    have HN := Lib.hid hn
    clear hn
    generalize hN : g.recs.length = N at *
    have HNN := Lib.hid hN
    clear hN
    obtain rfl : N = 0 := HN.out
    have hsb1 : (g.sure : Int) < 1 := by omega
    clear HN hnp
    go_wp2_with (fail)
    refine HL.out.mono ?_
    rintro e w3 ⟨rfl, hb3⟩
    go_wp2_with (fail)
    refine wp_region_late (S := Below w2.heap.size w2) (late := []) (by kernel_rfl) (hb3.trans ((below_drewN w3 1).mono hb3.size)) (fun hHeld => ?_)
    refine wpAnyL_move (i := 0) (v := ?_) (by rfl) (by kernel_rfl) (by kernel_rfl) (by kernel_rfl) (by rfl) (by exact fun _ _ _ h => h) (Or.inl ⟨by rfl, ?_⟩) (by assumption) ?_; rotate_left; · (intro w0; go_simp; try with_reducible rfl)
    try simp only [Act.put, List.setIfInBounds_toArray, List.set_cons_zero, List.set_cons_succ]
    refine wpAnyL_move (i := 2) (v := ?_) (by rfl) (by kernel_rfl) (by kernel_rfl) (by kernel_rfl) (by rfl) (by exact fun _ _ _ h => h) (Or.inl ⟨by rfl, ?_⟩) (by assumption) ?_; rotate_left; · (intro w0; go_simp; try with_reducible rfl)
    try simp only [Act.put, List.setIfInBounds_toArray, List.set_cons_zero, List.set_cons_succ]
    refine wpAnyL_move (i := 3) (v := ?_) (by rfl) (by kernel_rfl) (by kernel_rfl) (by kernel_rfl) (by rfl) (by exact fun _ _ _ h => h) (Or.inl ⟨by rfl, ?_⟩) (by assumption) ?_; rotate_left; · (intro w0; go_simp; try with_reducible rfl)
    try simp only [Act.put, List.setIfInBounds_toArray, List.set_cons_zero, List.set_cons_succ]
    refine wpAnyL_move (i := 4) (v := ?_) (by rfl) (by kernel_rfl) (by kernel_rfl) (by kernel_rfl) (by rfl) (by exact fun _ _ _ h => h) (Or.inl ⟨by rfl, ?_⟩) (by assumption) ?_; rotate_left; · (intro w0; go_simp; try with_reducible rfl)
    try simp only [Act.put, List.setIfInBounds_toArray, List.set_cons_zero, List.set_cons_succ]
    refine wpAnyL_load (i := 5) (v := ?_) (by rfl) (by kernel_rfl) (by kernel_rfl) (by kernel_rfl) (by rfl) (by kernel_rfl) (by exact fun _ _ _ h => h) (Or.inl ⟨by rfl, ?_⟩) (by assumption) ?_; rotate_left; · (intro w0 hS0; have k0 : w0.cell? ⟨w.heap.size, 0, none⟩ = some (.slice la 0 lc) := (hS0.cell (p := ⟨w.heap.size, 0, none⟩) hmb).trans D0.out; have k1 : w0.cell? ⟨w.heap.size, 1, none⟩ = some (.int .i64 (g.sure : Int)) := (hS0.cell (p := ⟨w.heap.size, 1, none⟩) hmb).trans D1.out; have k2 : w0.cell? ⟨w.heap.size, 2, none⟩ = some (.int .i64 g.kept) := (hS0.cell (p := ⟨w.heap.size, 2, none⟩) hmb).trans D2.out; have k3 : w0.cell? ⟨w.heap.size, 3, none⟩ = some (.int .u64 (g.marks : Int)) := (hS0.cell (p := ⟨w.heap.size, 3, none⟩) hmb).trans D3.out; have k4 : w0.cell? ⟨ag, 0, none⟩ = some (.int .u64 (g.end_ : Int)) := (hS0.cell (p := ⟨ag, 0, none⟩) hag).trans R1.out; have k5 : w0.cell? ⟨ag, g.sure, none⟩ = some (.int .u64 (g.flushed : Int)) := (hS0.cell (p := ⟨ag, g.sure, none⟩) hag).trans R2.out; go_simp; try with_reducible rfl)
    try simp only [Act.put, List.setIfInBounds_toArray, List.set_cons_zero, List.set_cons_succ]
    refine wpAnyL_each (rs := [1]) (by kernel_rfl) (by simp) ?_
    refine EachL.cons (by rfl) (by rfl) (fun K hK => ?_) EachL.nil
    go_simp
    refine (HE _ hHeld).out.mono ?_
    rintro e w' ⟨rfl, rfl⟩
    dsimp only
    refine hK.out _ _ hHeld (fun hHeld => ?_)
    clear hK K
    try simp only [Act.put, List.setIfInBounds_toArray, List.set_cons_zero, List.set_cons_succ]
    refine wpAnyL_move (i := 6) (v := ?_) (by rfl) (by kernel_rfl) (by kernel_rfl) (by kernel_rfl) (by rfl) (by exact fun _ _ _ h => h) (Or.inl ⟨by rfl, ?_⟩) (by assumption) ?_; rotate_left; · (intro w0; go_simp; try with_reducible rfl)
    try simp only [Act.put, List.setIfInBounds_toArray, List.set_cons_zero, List.set_cons_succ]
    refine wpAnyL_move (i := 7) (v := ?_) (by rfl) (by kernel_rfl) (by kernel_rfl) (by kernel_rfl) (by rfl) (by exact fun _ _ _ h => h) (Or.inl ⟨by rfl, ?_⟩) (by assumption) ?_; rotate_left; · (intro w0; go_simp; try with_reducible rfl)
    try simp only [Act.put, List.setIfInBounds_toArray, List.set_cons_zero, List.set_cons_succ]
    refine wpAnyL_move (i := 8) (v := ?_) (by rfl) (by kernel_rfl) (by kernel_rfl) (by kernel_rfl) (by rfl) (by exact fun _ _ _ h => h) (Or.inl ⟨by rfl, ?_⟩) (by assumption) ?_; rotate_left; · (intro w0; go_simp; try with_reducible rfl)
    try simp only [Act.put, List.setIfInBounds_toArray, List.set_cons_zero, List.set_cons_succ]
    refine wpAnyL_move (i := 10) (v := ?_) (by rfl) (by kernel_rfl) (by kernel_rfl) (by kernel_rfl) (by rfl) (by exact fun _ _ _ h => h) (Or.inl ⟨by rfl, ?_⟩) (by assumption) ?_; rotate_left; · (intro w0; go_simp; try with_reducible rfl)
    try simp only [Act.put, List.setIfInBounds_toArray, List.set_cons_zero, List.set_cons_succ]
    refine wpAnyL_move (i := 11) (v := ?_) (by rfl) (by kernel_rfl) (by kernel_rfl) (by kernel_rfl) (by rfl) (by exact fun _ _ _ h => h) (Or.inl ⟨by rfl, ?_⟩) (by assumption) ?_; rotate_left; · (intro w0; go_simp; try with_reducible rfl)
    try simp only [Act.put, List.setIfInBounds_toArray, List.set_cons_zero, List.set_cons_succ]
    refine wpAnyL_load (i := 12) (v := ?_) (by rfl) (by kernel_rfl) (by kernel_rfl) (by kernel_rfl) (by rfl) (by kernel_rfl) (by exact fun _ _ _ h => h) (Or.inl ⟨by rfl, ?_⟩) (by assumption) ?_; rotate_left; · (intro w0 hS0; have k0 : w0.cell? ⟨w.heap.size, 0, none⟩ = some (.slice la 0 lc) := (hS0.cell (p := ⟨w.heap.size, 0, none⟩) hmb).trans D0.out; have k1 : w0.cell? ⟨w.heap.size, 1, none⟩ = some (.int .i64 (g.sure : Int)) := (hS0.cell (p := ⟨w.heap.size, 1, none⟩) hmb).trans D1.out; have k2 : w0.cell? ⟨w.heap.size, 2, none⟩ = some (.int .i64 g.kept) := (hS0.cell (p := ⟨w.heap.size, 2, none⟩) hmb).trans D2.out; have k3 : w0.cell? ⟨w.heap.size, 3, none⟩ = some (.int .u64 (g.marks : Int)) := (hS0.cell (p := ⟨w.heap.size, 3, none⟩) hmb).trans D3.out; have k4 : w0.cell? ⟨ag, 0, none⟩ = some (.int .u64 (g.end_ : Int)) := (hS0.cell (p := ⟨ag, 0, none⟩) hag).trans R1.out; have k5 : w0.cell? ⟨ag, g.sure, none⟩ = some (.int .u64 (g.flushed : Int)) := (hS0.cell (p := ⟨ag, g.sure, none⟩) hag).trans R2.out; go_simp; try with_reducible rfl)
    try simp only [Act.put, List.setIfInBounds_toArray, List.set_cons_zero, List.set_cons_succ]
    refine wpAnyL_move (i := 13) (v := ?_) (by rfl) (by kernel_rfl) (by kernel_rfl) (by kernel_rfl) (by rfl) (by exact fun _ _ _ h => h) (Or.inl ⟨by rfl, ?_⟩) (by assumption) ?_; rotate_left; · (intro w0; go_simp; try with_reducible rfl)
    try simp only [Act.put, List.setIfInBounds_toArray, List.set_cons_zero, List.set_cons_succ]
    refine wpAnyL_load (i := 14) (v := ?_) (by rfl) (by kernel_rfl) (by kernel_rfl) (by kernel_rfl) (by rfl) (by kernel_rfl) (by exact fun _ _ _ h => h) (Or.inl ⟨by rfl, ?_⟩) (by assumption) ?_; rotate_left; · (intro w0 hS0; have k0 : w0.cell? ⟨w.heap.size, 0, none⟩ = some (.slice la 0 lc) := (hS0.cell (p := ⟨w.heap.size, 0, none⟩) hmb).trans D0.out; have k1 : w0.cell? ⟨w.heap.size, 1, none⟩ = some (.int .i64 (g.sure : Int)) := (hS0.cell (p := ⟨w.heap.size, 1, none⟩) hmb).trans D1.out; have k2 : w0.cell? ⟨w.heap.size, 2, none⟩ = some (.int .i64 g.kept) := (hS0.cell (p := ⟨w.heap.size, 2, none⟩) hmb).trans D2.out; have k3 : w0.cell? ⟨w.heap.size, 3, none⟩ = some (.int .u64 (g.marks : Int)) := (hS0.cell (p := ⟨w.heap.size, 3, none⟩) hmb).trans D3.out; have k4 : w0.cell? ⟨ag, 0, none⟩ = some (.int .u64 (g.end_ : Int)) := (hS0.cell (p := ⟨ag, 0, none⟩) hag).trans R1.out; have k5 : w0.cell? ⟨ag, g.sure, none⟩ = some (.int .u64 (g.flushed : Int)) := (hS0.cell (p := ⟨ag, g.sure, none⟩) hag).trans R2.out; go_simp; try with_reducible rfl)
    try simp only [Act.put, List.setIfInBounds_toArray, List.set_cons_zero, List.set_cons_succ]
    refine wpAnyL_each (rs := [9]) (by kernel_rfl) (by simp) ?_
    refine EachL.cons (by rfl) (by rfl) (fun K hK => ?_) EachL.nil
    go_simp
    refine (HFd _ hHeld).out.mono ?_
    rintro e w7 ⟨rfl, hb7⟩
    dsimp only
    refine hK.out _ _ (hHeld.trans (hb7.mono hHeld.size)) (fun hHeld => ?_)
    clear hK K
    try simp only [Act.put, List.setIfInBounds_toArray, List.set_cons_zero, List.set_cons_succ]
    refine wpAnyL_move (i := 15) (v := ?_) (by rfl) (by kernel_rfl) (by kernel_rfl) (by kernel_rfl) (by rfl) (by exact fun _ _ _ h => h) (Or.inl ⟨by rfl, ?_⟩) (by assumption) ?_; rotate_left; · (intro w0; go_simp; try with_reducible rfl)
    try simp only [Act.put, List.setIfInBounds_toArray, List.set_cons_zero, List.set_cons_succ]
    refine wpAnyL_move (i := 16) (v := ?_) (by rfl) (by kernel_rfl) (by kernel_rfl) (by kernel_rfl) (by rfl) (by exact fun _ _ _ h => h) (Or.inl ⟨by rfl, ?_⟩) (by assumption) ?_; rotate_left; · (intro w0; go_simp; try with_reducible rfl)
    try simp only [Act.put, List.setIfInBounds_toArray, List.set_cons_zero, List.set_cons_succ]
    refine wpAnyL_move (i := 17) (v := ?_) (by rfl) (by kernel_rfl) (by kernel_rfl) (by kernel_rfl) (by rfl) (by exact fun _ _ _ h => h) (Or.inl ⟨by rfl, ?_⟩) (by assumption) ?_; rotate_left; · (intro w0; go_simp; try with_reducible rfl)
    try simp only [Act.put, List.setIfInBounds_toArray, List.set_cons_zero, List.set_cons_succ]
    refine wpAnyL_move (i := 18) (v := ?_) (by rfl) (by kernel_rfl) (by kernel_rfl) (by kernel_rfl) (by rfl) (by exact fun _ _ _ h => h) (Or.inl ⟨by rfl, ?_⟩) (by assumption) ?_; rotate_left; · (intro w0; go_simp; try with_reducible rfl)
    try simp only [Act.put, List.setIfInBounds_toArray, List.set_cons_zero, List.set_cons_succ]
    refine wpAnyL_move (i := 20) (v := ?_) (by rfl) (by kernel_rfl) (by kernel_rfl) (by kernel_rfl) (by rfl) (by exact fun _ _ _ h => h) (Or.inl ⟨by rfl, ?_⟩) (by assumption) ?_; rotate_left; · (intro w0; go_simp; try with_reducible rfl)
    try simp only [Act.put, List.setIfInBounds_toArray, List.set_cons_zero, List.set_cons_succ]
    refine wpAnyL_each (rs := [19]) (by kernel_rfl) (by simp) ?_
    refine EachL.cons (by rfl) (by rfl) (fun K hK => ?_) EachL.nil
    go_simp
    refine (HLn _ hHeld).out.mono ?_
    rintro e w' ⟨rfl, rfl⟩
    dsimp only
    refine hK.out _ _ hHeld (fun hHeld => ?_)
    clear hK K
    try simp only [Act.put, List.setIfInBounds_toArray, List.set_cons_zero, List.set_cons_succ]
    refine wpAnyL_move (i := 21) (v := ?_) (by rfl) (by kernel_rfl) (by kernel_rfl) (by kernel_rfl) (by rfl) (by exact fun _ _ _ h => h) (Or.inl ⟨by rfl, ?_⟩) (by assumption) ?_; rotate_left; · (intro w0; go_simp; try with_reducible rfl)
    try simp only [Act.put, List.setIfInBounds_toArray, List.set_cons_zero, List.set_cons_succ]
    refine wpAnyL_move (i := 22) (v := ?_) (by rfl) (by kernel_rfl) (by kernel_rfl) (by kernel_rfl) (by rfl) (by exact fun _ _ _ h => h) (Or.inl ⟨by rfl, ?_⟩) (by assumption) ?_; rotate_left; · (intro w0; go_simp; try with_reducible rfl)
    try simp only [Act.put, List.setIfInBounds_toArray, List.set_cons_zero, List.set_cons_succ]
    refine wpAnyL_move (i := 23) (v := ?_) (by rfl) (by kernel_rfl) (by kernel_rfl) (by kernel_rfl) (by rfl) (by exact fun _ _ _ h => h) (Or.inl ⟨by rfl, ?_⟩) (by assumption) ?_; rotate_left; · (intro w0; go_simp; try with_reducible rfl)
    try simp only [Act.put, List.setIfInBounds_toArray, List.set_cons_zero, List.set_cons_succ]
    refine wpAnyL_move (i := 24) (v := ?_) (by rfl) (by kernel_rfl) (by kernel_rfl) (by kernel_rfl) (by rfl) (by exact fun _ _ _ h => h) (Or.inl ⟨by rfl, ?_⟩) (by assumption) ?_; rotate_left; · (intro w0; go_simp; try with_reducible rfl)
    try simp only [Act.put, List.setIfInBounds_toArray, List.set_cons_zero, List.set_cons_succ]
    refine wpAnyL_load (i := 26) (v := ?_) (by rfl) (by kernel_rfl) (by kernel_rfl) (by kernel_rfl) (by rfl) (by kernel_rfl) (by exact fun _ _ _ h => h) (Or.inl ⟨by rfl, ?_⟩) (by assumption) ?_; rotate_left; · (intro w0 hS0; have k0 : w0.cell? ⟨w.heap.size, 0, none⟩ = some (.slice la 0 lc) := (hS0.cell (p := ⟨w.heap.size, 0, none⟩) hmb).trans D0.out; have k1 : w0.cell? ⟨w.heap.size, 1, none⟩ = some (.int .i64 (g.sure : Int)) := (hS0.cell (p := ⟨w.heap.size, 1, none⟩) hmb).trans D1.out; have k2 : w0.cell? ⟨w.heap.size, 2, none⟩ = some (.int .i64 g.kept) := (hS0.cell (p := ⟨w.heap.size, 2, none⟩) hmb).trans D2.out; have k3 : w0.cell? ⟨w.heap.size, 3, none⟩ = some (.int .u64 (g.marks : Int)) := (hS0.cell (p := ⟨w.heap.size, 3, none⟩) hmb).trans D3.out; have k4 : w0.cell? ⟨ag, 0, none⟩ = some (.int .u64 (g.end_ : Int)) := (hS0.cell (p := ⟨ag, 0, none⟩) hag).trans R1.out; have k5 : w0.cell? ⟨ag, g.sure, none⟩ = some (.int .u64 (g.flushed : Int)) := (hS0.cell (p := ⟨ag, g.sure, none⟩) hag).trans R2.out; go_simp; try with_reducible rfl)
    try simp only [Act.put, List.setIfInBounds_toArray, List.set_cons_zero, List.set_cons_succ]
    refine wpAnyL_each (rs := [25]) (by kernel_rfl) (by simp) ?_
    refine EachL.cons (by rfl) (by rfl) (fun K hK => ?_) EachL.nil
    go_simp
    refine (HRm _ hHeld).out.mono ?_
    rintro e w' ⟨rfl, rfl⟩
    dsimp only
    refine hK.out _ _ hHeld (fun hHeld => ?_)
    clear hK K
    try simp only [Act.put, List.setIfInBounds_toArray, List.set_cons_zero, List.set_cons_succ]
    refine wpAnyL_each (rs := [27]) (by kernel_rfl) (by simp) ?_
    refine EachL.cons (by rfl) (by rfl) (fun K hK => ?_) EachL.nil
    go_simp
    refine (HMR _ hHeld).out.mono ?_
    rintro e w6 ⟨rfl, hb6⟩
    dsimp only
    refine hK.out _ _ (hHeld.trans (hb6.mono hHeld.size)) (fun hHeld => ?_)
    clear hK K
    try simp only [Act.put, List.setIfInBounds_toArray, List.set_cons_zero, List.set_cons_succ]
    refine wpAnyL_move (i := 28) (v := ?_) (by rfl) (by kernel_rfl) (by kernel_rfl) (by kernel_rfl) (by rfl) (by exact fun _ _ _ h => h) (Or.inl ⟨by rfl, ?_⟩) (by assumption) ?_; rotate_left; · (intro w0; go_simp; try with_reducible rfl)
    try simp only [Act.put, List.setIfInBounds_toArray, List.set_cons_zero, List.set_cons_succ]
    refine wpAnyL_move (i := 29) (v := ?_) (by rfl) (by kernel_rfl) (by kernel_rfl) (by kernel_rfl) (by rfl) (by exact fun _ _ _ h => h) (Or.inl ⟨by rfl, ?_⟩) (by assumption) ?_; rotate_left; · (intro w0; go_simp; try with_reducible rfl)
    try simp only [Act.put, List.setIfInBounds_toArray, List.set_cons_zero, List.set_cons_succ]
    refine wpAnyL_move (i := 30) (v := ?_) (by rfl) (by kernel_rfl) (by kernel_rfl) (by kernel_rfl) (by rfl) (by exact fun _ _ _ h => h) (Or.inl ⟨by rfl, ?_⟩) (by assumption) ?_; rotate_left; · (intro w0; go_simp; try with_reducible rfl)
    try simp only [Act.put, List.setIfInBounds_toArray, List.set_cons_zero, List.set_cons_succ]
    refine wpAnyL_move (i := 31) (v := ?_) (by rfl) (by kernel_rfl) (by kernel_rfl) (by kernel_rfl) (by rfl) (by exact fun _ _ _ h => h) (Or.inl ⟨by rfl, ?_⟩) (by assumption) ?_; rotate_left; · (intro w0; go_simp; try with_reducible rfl)
    try simp only [Act.put, List.setIfInBounds_toArray, List.set_cons_zero, List.set_cons_succ]
    refine wpAnyL_move (i := 33) (v := ?_) (by rfl) (by kernel_rfl) (by kernel_rfl) (by kernel_rfl) (by rfl) (by exact fun _ _ _ h => h) (Or.inl ⟨by rfl, ?_⟩) (by assumption) ?_; rotate_left; · (intro w0; go_simp; try with_reducible rfl)
    try simp only [Act.put, List.setIfInBounds_toArray, List.set_cons_zero, List.set_cons_succ]
    refine wpAnyL_load (i := 34) (v := ?_) (by rfl) (by kernel_rfl) (by kernel_rfl) (by kernel_rfl) (by rfl) (by kernel_rfl) (by exact fun _ _ _ h => h) (Or.inl ⟨by rfl, ?_⟩) (by assumption) ?_; rotate_left; · (intro w0 hS0; have k0 : w0.cell? ⟨w.heap.size, 0, none⟩ = some (.slice la 0 lc) := (hS0.cell (p := ⟨w.heap.size, 0, none⟩) hmb).trans D0.out; have k1 : w0.cell? ⟨w.heap.size, 1, none⟩ = some (.int .i64 (g.sure : Int)) := (hS0.cell (p := ⟨w.heap.size, 1, none⟩) hmb).trans D1.out; have k2 : w0.cell? ⟨w.heap.size, 2, none⟩ = some (.int .i64 g.kept) := (hS0.cell (p := ⟨w.heap.size, 2, none⟩) hmb).trans D2.out; have k3 : w0.cell? ⟨w.heap.size, 3, none⟩ = some (.int .u64 (g.marks : Int)) := (hS0.cell (p := ⟨w.heap.size, 3, none⟩) hmb).trans D3.out; have k4 : w0.cell? ⟨ag, 0, none⟩ = some (.int .u64 (g.end_ : Int)) := (hS0.cell (p := ⟨ag, 0, none⟩) hag).trans R1.out; have k5 : w0.cell? ⟨ag, g.sure, none⟩ = some (.int .u64 (g.flushed : Int)) := (hS0.cell (p := ⟨ag, g.sure, none⟩) hag).trans R2.out; go_simp; try with_reducible rfl)
    try simp only [Act.put, List.setIfInBounds_toArray, List.set_cons_zero, List.set_cons_succ]
    refine wpAnyL_each (rs := [32]) (by kernel_rfl) (by simp) ?_
    refine EachL.cons (by rfl) (by rfl) (fun K hK => ?_) EachL.nil
    go_simp
    refine (HKp _ hHeld).out.mono ?_
    rintro e w' ⟨rfl, rfl⟩
    dsimp only
    refine hK.out _ _ hHeld (fun hHeld => ?_)
    clear hK K
    try simp only [Act.put, List.setIfInBounds_toArray, List.set_cons_zero, List.set_cons_succ]
    refine wpAnyL_move (i := 35) (v := ?_) (by rfl) (by kernel_rfl) (by kernel_rfl) (by kernel_rfl) (by rfl) (by exact fun _ _ _ h => h) (Or.inl ⟨by rfl, ?_⟩) (by assumption) ?_; rotate_left; · (intro w0; go_simp; try with_reducible rfl)
    try simp only [Act.put, List.setIfInBounds_toArray, List.set_cons_zero, List.set_cons_succ]
    refine wpAnyL_move (i := 36) (v := ?_) (by rfl) (by kernel_rfl) (by kernel_rfl) (by kernel_rfl) (by rfl) (by exact fun _ _ _ h => h) (Or.inl ⟨by rfl, ?_⟩) (by assumption) ?_; rotate_left; · (intro w0; go_simp; try with_reducible rfl)
    try simp only [Act.put, List.setIfInBounds_toArray, List.set_cons_zero, List.set_cons_succ]
    refine wpAnyL_move (i := 37) (v := ?_) (by rfl) (by kernel_rfl) (by kernel_rfl) (by kernel_rfl) (by rfl) (by exact fun _ _ _ h => h) (Or.inl ⟨by rfl, ?_⟩) (by assumption) ?_; rotate_left; · (intro w0; go_simp; try with_reducible rfl)
    try simp only [Act.put, List.setIfInBounds_toArray, List.set_cons_zero, List.set_cons_succ]
    refine wpAnyL_move (i := 38) (v := ?_) (by rfl) (by kernel_rfl) (by kernel_rfl) (by kernel_rfl) (by rfl) (by exact fun _ _ _ h => h) (Or.inl ⟨by rfl, ?_⟩) (by assumption) ?_; rotate_left; · (intro w0; go_simp; try with_reducible rfl)
    try simp only [Act.put, List.setIfInBounds_toArray, List.set_cons_zero, List.set_cons_succ]
    refine wpAnyL_move (i := 40) (v := ?_) (by rfl) (by kernel_rfl) (by kernel_rfl) (by kernel_rfl) (by rfl) (by exact fun _ _ _ h => h) (Or.inl ⟨by rfl, ?_⟩) (by assumption) ?_; rotate_left; · (intro w0; go_simp; try with_reducible rfl)
    try simp only [Act.put, List.setIfInBounds_toArray, List.set_cons_zero, List.set_cons_succ]
    refine wpAnyL_load (i := 41) (v := ?_) (by rfl) (by kernel_rfl) (by kernel_rfl) (by kernel_rfl) (by rfl) (by kernel_rfl) (by exact fun _ _ _ h => h) (Or.inl ⟨by rfl, ?_⟩) (by assumption) ?_; rotate_left; · (intro w0 hS0; have k0 : w0.cell? ⟨w.heap.size, 0, none⟩ = some (.slice la 0 lc) := (hS0.cell (p := ⟨w.heap.size, 0, none⟩) hmb).trans D0.out; have k1 : w0.cell? ⟨w.heap.size, 1, none⟩ = some (.int .i64 (g.sure : Int)) := (hS0.cell (p := ⟨w.heap.size, 1, none⟩) hmb).trans D1.out; have k2 : w0.cell? ⟨w.heap.size, 2, none⟩ = some (.int .i64 g.kept) := (hS0.cell (p := ⟨w.heap.size, 2, none⟩) hmb).trans D2.out; have k3 : w0.cell? ⟨w.heap.size, 3, none⟩ = some (.int .u64 (g.marks : Int)) := (hS0.cell (p := ⟨w.heap.size, 3, none⟩) hmb).trans D3.out; have k4 : w0.cell? ⟨ag, 0, none⟩ = some (.int .u64 (g.end_ : Int)) := (hS0.cell (p := ⟨ag, 0, none⟩) hag).trans R1.out; have k5 : w0.cell? ⟨ag, g.sure, none⟩ = some (.int .u64 (g.flushed : Int)) := (hS0.cell (p := ⟨ag, g.sure, none⟩) hag).trans R2.out; go_simp; try with_reducible rfl)
    try simp only [Act.put, List.setIfInBounds_toArray, List.set_cons_zero, List.set_cons_succ]
    refine wpAnyL_each (rs := [39]) (by kernel_rfl) (by simp) ?_
    refine EachL.cons (by rfl) (by rfl) (fun K hK => ?_) EachL.nil
    go_simp
    refine (HMs _ hHeld).out.mono ?_
    rintro e w' ⟨rfl, rfl⟩
    dsimp only
    refine hK.out _ _ hHeld (fun hHeld => ?_)
    clear hK K
    try simp only [Act.put, List.setIfInBounds_toArray, List.set_cons_zero, List.set_cons_succ]
    refine wpAnyL_move (i := 42) (v := ?_) (by rfl) (by kernel_rfl) (by kernel_rfl) (by kernel_rfl) (by rfl) (by exact fun _ _ _ h => h) (Or.inl ⟨by rfl, ?_⟩) (by assumption) ?_; rotate_left; · (intro w0; go_simp; try with_reducible rfl)
    try simp only [Act.put, List.setIfInBounds_toArray, List.set_cons_zero, List.set_cons_succ]
    refine wpAnyL_move (i := 43) (v := ?_) (by rfl) (by kernel_rfl) (by kernel_rfl) (by kernel_rfl) (by rfl) (by exact fun _ _ _ h => h) (Or.inl ⟨by rfl, ?_⟩) (by assumption) ?_; rotate_left; · (intro w0; go_simp; try with_reducible rfl)
    try simp only [Act.put, List.setIfInBounds_toArray, List.set_cons_zero, List.set_cons_succ]
    refine wpAnyL_move (i := 44) (v := ?_) (by rfl) (by kernel_rfl) (by kernel_rfl) (by kernel_rfl) (by rfl) (by exact fun _ _ _ h => h) (Or.inl ⟨by rfl, ?_⟩) (by assumption) ?_; rotate_left; · (intro w0; go_simp; try with_reducible rfl)
    try simp only [Act.put, List.setIfInBounds_toArray, List.set_cons_zero, List.set_cons_succ]
    refine wpAnyL_move (i := 45) (v := ?_) (by rfl) (by kernel_rfl) (by kernel_rfl) (by kernel_rfl) (by rfl) (by exact fun _ _ _ h => h) (Or.inl ⟨by rfl, ?_⟩) (by assumption) ?_; rotate_left; · (intro w0; go_simp; try with_reducible rfl)
    try simp only [Act.put, List.setIfInBounds_toArray, List.set_cons_zero, List.set_cons_succ]
    refine wpAnyL_move (i := 46) (v := ?_) (by rfl) (by kernel_rfl) (by kernel_rfl) (by kernel_rfl) (by rfl) (by exact fun _ _ _ h => h) (Or.inl ⟨by rfl, ?_⟩) (by assumption) ?_; rotate_left; · (intro w0; go_simp; try with_reducible rfl)
    try simp only [Act.put, List.setIfInBounds_toArray, List.set_cons_zero, List.set_cons_succ]
    refine wpAnyL_move (i := 47) (v := ?_) (by rfl) (by kernel_rfl) (by kernel_rfl) (by kernel_rfl) (by rfl) (by exact fun _ _ _ h => h) (Or.inl ⟨by rfl, ?_⟩) (by assumption) ?_; rotate_left; · (intro w0; go_simp; try with_reducible rfl)
    try simp only [Act.put, List.setIfInBounds_toArray, List.set_cons_zero, List.set_cons_succ]
    refine wpAnyL_move (i := 48) (v := ?_) (by rfl) (by kernel_rfl) (by kernel_rfl) (by kernel_rfl) (by rfl) (by exact fun _ _ _ h => h) (Or.inl ⟨by rfl, ?_⟩) (by assumption) ?_; rotate_left; · (intro w0; go_simp; try with_reducible rfl)
    try simp only [Act.put, List.setIfInBounds_toArray, List.set_cons_zero, List.set_cons_succ]
    refine wpAnyL_move (i := 49) (v := ?_) (by rfl) (by kernel_rfl) (by kernel_rfl) (by kernel_rfl) (by rfl) (by exact fun _ _ _ h => h) (Or.inl ⟨by rfl, ?_⟩) (by assumption) ?_; rotate_left; · (intro w0; go_simp; try with_reducible rfl)
    try simp only [Act.put, List.setIfInBounds_toArray, List.set_cons_zero, List.set_cons_succ]
    refine wpAnyL_move (i := 50) (v := ?_) (by rfl) (by kernel_rfl) (by kernel_rfl) (by kernel_rfl) (by rfl) (by exact fun _ _ _ h => h) (Or.inl ⟨by rfl, ?_⟩) (by assumption) ?_; rotate_left; · (intro w0; go_simp; try with_reducible rfl)
    try simp only [Act.put, List.setIfInBounds_toArray, List.set_cons_zero, List.set_cons_succ]
    refine wpAnyL_move (i := 51) (v := ?_) (by rfl) (by kernel_rfl) (by kernel_rfl) (by kernel_rfl) (by rfl) (by exact fun _ _ _ h => h) (Or.inl ⟨by rfl, ?_⟩) (by assumption) ?_; rotate_left; · (intro w0; go_simp; try with_reducible rfl)
    try simp only [Act.put, List.setIfInBounds_toArray, List.set_cons_zero, List.set_cons_succ]
    refine wpAnyL_move (i := 52) (v := ?_) (by rfl) (by kernel_rfl) (by kernel_rfl) (by kernel_rfl) (by rfl) (by exact fun _ _ _ h => h) (Or.inl ⟨by rfl, ?_⟩) (by assumption) ?_; rotate_left; · (intro w0; go_simp; try with_reducible rfl)
    try simp only [Act.put, List.setIfInBounds_toArray, List.set_cons_zero, List.set_cons_succ]
    refine wpAnyL_move (i := 53) (v := undef) (by rfl) (by kernel_rfl) (by kernel_rfl) (by kernel_rfl) (by rfl) (by exact fun _ _ _ h => h) (Or.inr ⟨by rfl, rfl⟩) (by assumption) ?_
    try simp only [Act.put, List.setIfInBounds_toArray, List.set_cons_zero, List.set_cons_succ]
    refine wpAnyL_move (i := 54) (v := undef) (by rfl) (by kernel_rfl) (by kernel_rfl) (by kernel_rfl) (by rfl) (by exact fun _ _ _ h => h) (Or.inr ⟨by rfl, rfl⟩) (by assumption) ?_
    try simp only [Act.put, List.setIfInBounds_toArray, List.set_cons_zero, List.set_cons_succ]
    refine wpAnyL_move (i := 55) (v := undef) (by rfl) (by kernel_rfl) (by kernel_rfl) (by kernel_rfl) (by rfl) (by exact fun _ _ _ h => h) (Or.inr ⟨by rfl, rfl⟩) (by assumption) ?_
    try simp only [Act.put, List.setIfInBounds_toArray, List.set_cons_zero, List.set_cons_succ]
    refine wpAnyL_move (i := 56) (v := undef) (by rfl) (by kernel_rfl) (by kernel_rfl) (by kernel_rfl) (by rfl) (by exact fun _ _ _ h => h) (Or.inr ⟨by rfl, rfl⟩) (by assumption) ?_
    try simp only [Act.put, List.setIfInBounds_toArray, List.set_cons_zero, List.set_cons_succ]
    refine wpAnyL_move (i := 57) (v := undef) (by rfl) (by kernel_rfl) (by kernel_rfl) (by kernel_rfl) (by rfl) (by exact fun _ _ _ h => h) (Or.inr ⟨by rfl, rfl⟩) (by assumption) ?_
    try simp only [Act.put, List.setIfInBounds_toArray, List.set_cons_zero, List.set_cons_succ]
    refine wpAnyL_move (i := 58) (v := undef) (by rfl) (by kernel_rfl) (by kernel_rfl) (by kernel_rfl) (by rfl) (by exact fun _ _ _ h => h) (Or.inr ⟨by rfl, rfl⟩) (by assumption) ?_
    try simp only [Act.put, List.setIfInBounds_toArray, List.set_cons_zero, List.set_cons_succ]
    refine wpAnyL_move (i := 59) (v := undef) (by rfl) (by kernel_rfl) (by kernel_rfl) (by kernel_rfl) (by rfl) (by exact fun _ _ _ h => h) (Or.inr ⟨by rfl, rfl⟩) (by assumption) ?_
    try simp only [Act.put, List.setIfInBounds_toArray, List.set_cons_zero, List.set_cons_succ]
    refine wpAnyL_move (i := 60) (v := ?_) (by rfl) (by kernel_rfl) (by kernel_rfl) (by kernel_rfl) (by rfl) (by exact fun _ _ _ h => h) (Or.inl ⟨by rfl, ?_⟩) (by assumption) ?_; rotate_left; · (intro w0; go_simp; try with_reducible rfl)
    try simp only [Act.put, List.setIfInBounds_toArray, List.set_cons_zero, List.set_cons_succ]
    refine wpAnyL_move (i := 61) (v := ?_) (by rfl) (by kernel_rfl) (by kernel_rfl) (by kernel_rfl) (by rfl) (by exact fun _ _ _ h => h) (Or.inl ⟨by rfl, ?_⟩) (by assumption) ?_; rotate_left; · (intro w0; go_simp; try with_reducible rfl)
    try simp only [Act.put, List.setIfInBounds_toArray, List.set_cons_zero, List.set_cons_succ]
    refine wpAnyL_done (by kernel_rfl) ?_ _
    have HQ := Lib.hid hHeld
    clear hHeld
    go_wp2_with (fail)
    go_loopw [11] (fun s11 wr => ∃ i : Nat, i ≤ 0 ∧ s11 = .int .i64 (i : Int) ∧ Hid (Below w2.heap.size w2 wr)) (fun i _ => 0 - (intOf i).toNat)
    case atStart => exact ⟨0, Nat.zero_le _, rfl, HQ.out⟩
    case round =>
      obtain ⟨i, hi, rfl, hQ⟩ := hrel
      have k0 : wr.cell? ⟨w.heap.size, 0, none⟩ = some (.slice la 0 lc) := (hQ.out.cell (p := ⟨w.heap.size, 0, none⟩) hmb).trans D0.out
      by_cases hlt : i < 0
      · exact absurd hlt (Nat.not_lt_zero _)
      · have hie : i = 0 := by omega
        have HFi : ∀ q, Hid (Calls Try.prog 76 #[.agg #[.slice la 0 lc, .int .i64 (g.sure : Int), .int .i64 g.kept, .int .u64 (g.marks : Int)], .int .u64 a.at_] (wr.drewN q) (FindPost (wr.drewN q) g.recs a.at_)) := fun q => mfind_c _ _ g.recs _ _ _ a.at_ (((HRD.out.below HB2.out).below hQ.out).below (below_drewN _ _)) HRO.out rfl rfl rfl
        have k1 : wr.cell? ⟨w.heap.size, 1, none⟩ = some (.int .i64 (g.sure : Int)) := (hQ.out.cell (p := ⟨w.heap.size, 1, none⟩) hmb).trans D1.out
        have k2 : wr.cell? ⟨w.heap.size, 2, none⟩ = some (.int .i64 g.kept) := (hQ.out.cell (p := ⟨w.heap.size, 2, none⟩) hmb).trans D2.out
        have k3 : wr.cell? ⟨w.heap.size, 3, none⟩ = some (.int .u64 (g.marks : Int)) := (hQ.out.cell (p := ⟨w.heap.size, 3, none⟩) hmb).trans D3.out
        have ka : wr.cell? ⟨w.heap.size + 1, 3, none⟩ = some (.int .u64 a.at_) := (hQ.out.cell (p := ⟨w.heap.size + 1, 3, none⟩) hab).trans (BX1.out.cell 3)
        have HB1 : ∀ q, Hid (Calls Try.prog 41 #[.pointer (some ⟨lb, 0, none⟩), .int .u64 1] (wr.drewN q) fun e w' => e = .returned (.tuple #[.int .u64 0, .bool false]) ∧ ∃ q', w' = (wr.drewN q).drewN q') := fun q => back_first ((W2.out.below hQ.out).below (below_drewN _ _))
        have HGa : Hid (∃ v1 v2, Calls Try.prog 42 #[.pointer (some ⟨lb, 0, none⟩), .int .u64 a.at_] wr fun e w' => e = .returned (.tuple #[v1, v2, .bool (g.has a.at_)]) ∧ ∃ q, w' = wr.drewN q) := by
          cases hh : g.has a.at_
          · exact ⟨_, _, lget_miss (W2.out.below hQ.out) hh⟩
          · obtain ⟨j, hj, he⟩ := (has_iff g a.at_).1 hh
            have := get_at (W2.out.below hQ.out) (List.getElem?_eq_getElem hj)
            rw [he] at this
            exact ⟨_, _, this⟩
        obtain ⟨v1, v2, hga⟩ := HGa.out
        have HGG := Lib.hid hga
        clear hga HGa
        go_wp2_with (fail)
        refine HGG.out.mono ?_
        rintro e w5 ⟨rfl, q, rfl⟩
        go_wp2_with (fail)
        refine (HB1 _).out.mono ?_
        rintro e w6 ⟨rfl, q', rfl⟩
        go_wp2_with (fail)
        refine (HFi _).out.mono ?_
        rintro e w7 ⟨r, rfl, hr, hb7⟩
        have hfin : (g.has a.at_ == decide (0 ≤ r)) = true := by
          rcases hr with ⟨j, hj, he, rfl⟩ | ⟨hno, rfl⟩
          · rw [(has_iff g a.at_).2 ⟨j, hj, he⟩, decide_eq_true (by omega)]
            rfl
          · have : g.has a.at_ = false := by
              rw [Bool.eq_false_iff]
              intro hh
              obtain ⟨j, hj, he⟩ := (has_iff g a.at_).1 hh
              exact hno j hj he
            rw [this, decide_eq_false (by omega)]
            rfl
        have HB7 : Hid (Below w.heap.size w w7) := HB2.out.trans ((hQ.out.trans (((below_drewN wr _).trans hb7).mono hQ.out.size)).mono HB2.out.size)
        clear hr hb7
        go_wp2
        go_ret
        exact ⟨rfl, HB7.out⟩
  · obtain ⟨n, hn'⟩ : ∃ n, g.recs.length = n + 1 := ⟨g.recs.length - 1, by omega⟩
    have HL := Lib.hid ((last_some W2.out hn').mono (R' := fun e w' => e = .returned (.tuple #[.int .u64 (pl g.recs n : Int), .bool true]) ∧ Below w2.heap.size w2 w') fun e w' ⟨he, q, hw⟩ => ⟨he, hw ▸ below_drewN _ _⟩)
    have hnp : (0 : Int) < (g.recs.length : Int) := by omega
    have hdn : decide ((0 : Int) < (g.recs.length : Int)) = true := decide_eq_true (by omega)
    have hdn2 : decide (0 < g.recs.length) = true := decide_eq_true (by omega)
    have hn1 : (g.recs.length : Int) - 1 = (n : Int) := by omega
    have hnl : (n : Int) < (g.recs.length : Int) + 1 := by omega
    have hnn : n < g.recs.length + 1 := by omega
    have R3 : Hid (w2.cell? ⟨ag, n, none⟩ = some (.int .u64 (pl g.recs n : Int))) := HROW.out n (by omega)
    have hn2 : 0 ≤ (g.recs.length : Int) - 1 := by omega
    have hwn : IntKind.i64.wrap (n : Int) = (n : Int) := by rw [IntKind.wrap_i64]; omega
    have hn0 : (0 : Int) ≤ (n : Int) := by omega
    clear hn hn'
    generalize hN : g.recs.length = N at *
    have HNN := Lib.hid hN
    clear hN
    go_wp2_with (fail)
    refine HL.out.mono ?_
    rintro e w3 ⟨rfl, hb3⟩
    go_wp2_with (fail)
    refine wp_region_late (S := Below w2.heap.size w2) (late := []) (by kernel_rfl) (hb3.trans ((below_drewN w3 1).mono hb3.size)) (fun hHeld => ?_)
    refine wpAnyL_move (i := 0) (v := ?_) (by rfl) (by kernel_rfl) (by kernel_rfl) (by kernel_rfl) (by rfl) (by exact fun _ _ _ h => h) (Or.inl ⟨by rfl, ?_⟩) (by assumption) ?_; rotate_left; · (intro w0; go_simp; try with_reducible rfl)
    try simp only [Act.put, List.setIfInBounds_toArray, List.set_cons_zero, List.set_cons_succ]
    refine wpAnyL_move (i := 2) (v := ?_) (by rfl) (by kernel_rfl) (by kernel_rfl) (by kernel_rfl) (by rfl) (by exact fun _ _ _ h => h) (Or.inl ⟨by rfl, ?_⟩) (by assumption) ?_; rotate_left; · (intro w0; go_simp; try with_reducible rfl)
    try simp only [Act.put, List.setIfInBounds_toArray, List.set_cons_zero, List.set_cons_succ]
    refine wpAnyL_move (i := 3) (v := ?_) (by rfl) (by kernel_rfl) (by kernel_rfl) (by kernel_rfl) (by rfl) (by exact fun _ _ _ h => h) (Or.inl ⟨by rfl, ?_⟩) (by assumption) ?_; rotate_left; · (intro w0; go_simp; try with_reducible rfl)
    try simp only [Act.put, List.setIfInBounds_toArray, List.set_cons_zero, List.set_cons_succ]
    refine wpAnyL_move (i := 4) (v := ?_) (by rfl) (by kernel_rfl) (by kernel_rfl) (by kernel_rfl) (by rfl) (by exact fun _ _ _ h => h) (Or.inl ⟨by rfl, ?_⟩) (by assumption) ?_; rotate_left; · (intro w0; go_simp; try with_reducible rfl)
    try simp only [Act.put, List.setIfInBounds_toArray, List.set_cons_zero, List.set_cons_succ]
    refine wpAnyL_load (i := 5) (v := ?_) (by rfl) (by kernel_rfl) (by kernel_rfl) (by kernel_rfl) (by rfl) (by kernel_rfl) (by exact fun _ _ _ h => h) (Or.inl ⟨by rfl, ?_⟩) (by assumption) ?_; rotate_left; · (intro w0 hS0; have k0 : w0.cell? ⟨w.heap.size, 0, none⟩ = some (.slice la N lc) := (hS0.cell (p := ⟨w.heap.size, 0, none⟩) hmb).trans D0.out; have k1 : w0.cell? ⟨w.heap.size, 1, none⟩ = some (.int .i64 (g.sure : Int)) := (hS0.cell (p := ⟨w.heap.size, 1, none⟩) hmb).trans D1.out; have k2 : w0.cell? ⟨w.heap.size, 2, none⟩ = some (.int .i64 g.kept) := (hS0.cell (p := ⟨w.heap.size, 2, none⟩) hmb).trans D2.out; have k3 : w0.cell? ⟨w.heap.size, 3, none⟩ = some (.int .u64 (g.marks : Int)) := (hS0.cell (p := ⟨w.heap.size, 3, none⟩) hmb).trans D3.out; have k4 : w0.cell? ⟨ag, N, none⟩ = some (.int .u64 (g.end_ : Int)) := (hS0.cell (p := ⟨ag, N, none⟩) hag).trans R1.out; have k5 : w0.cell? ⟨ag, g.sure, none⟩ = some (.int .u64 (g.flushed : Int)) := (hS0.cell (p := ⟨ag, g.sure, none⟩) hag).trans R2.out; have k6 : w0.cell? ⟨ag, n, none⟩ = some (.int .u64 (pl g.recs n : Int)) := (hS0.cell (p := ⟨ag, n, none⟩) hag).trans R3.out; go_simp; try with_reducible rfl)
    try simp only [Act.put, List.setIfInBounds_toArray, List.set_cons_zero, List.set_cons_succ]
    refine wpAnyL_each (rs := [1]) (by kernel_rfl) (by simp) ?_
    refine EachL.cons (by rfl) (by rfl) (fun K hK => ?_) EachL.nil
    go_simp
    refine (HE _ hHeld).out.mono ?_
    rintro e w' ⟨rfl, rfl⟩
    dsimp only
    refine hK.out _ _ hHeld (fun hHeld => ?_)
    clear hK K
    try simp only [Act.put, List.setIfInBounds_toArray, List.set_cons_zero, List.set_cons_succ]
    refine wpAnyL_move (i := 6) (v := ?_) (by rfl) (by kernel_rfl) (by kernel_rfl) (by kernel_rfl) (by rfl) (by exact fun _ _ _ h => h) (Or.inl ⟨by rfl, ?_⟩) (by assumption) ?_; rotate_left; · (intro w0; go_simp; try with_reducible rfl)
    try simp only [Act.put, List.setIfInBounds_toArray, List.set_cons_zero, List.set_cons_succ]
    refine wpAnyL_move (i := 7) (v := ?_) (by rfl) (by kernel_rfl) (by kernel_rfl) (by kernel_rfl) (by rfl) (by exact fun _ _ _ h => h) (Or.inl ⟨by rfl, ?_⟩) (by assumption) ?_; rotate_left; · (intro w0; go_simp; try with_reducible rfl)
    try simp only [Act.put, List.setIfInBounds_toArray, List.set_cons_zero, List.set_cons_succ]
    refine wpAnyL_move (i := 8) (v := ?_) (by rfl) (by kernel_rfl) (by kernel_rfl) (by kernel_rfl) (by rfl) (by exact fun _ _ _ h => h) (Or.inl ⟨by rfl, ?_⟩) (by assumption) ?_; rotate_left; · (intro w0; go_simp; try with_reducible rfl)
    try simp only [Act.put, List.setIfInBounds_toArray, List.set_cons_zero, List.set_cons_succ]
    refine wpAnyL_move (i := 10) (v := ?_) (by rfl) (by kernel_rfl) (by kernel_rfl) (by kernel_rfl) (by rfl) (by exact fun _ _ _ h => h) (Or.inl ⟨by rfl, ?_⟩) (by assumption) ?_; rotate_left; · (intro w0; go_simp; try with_reducible rfl)
    try simp only [Act.put, List.setIfInBounds_toArray, List.set_cons_zero, List.set_cons_succ]
    refine wpAnyL_move (i := 11) (v := ?_) (by rfl) (by kernel_rfl) (by kernel_rfl) (by kernel_rfl) (by rfl) (by exact fun _ _ _ h => h) (Or.inl ⟨by rfl, ?_⟩) (by assumption) ?_; rotate_left; · (intro w0; go_simp; try with_reducible rfl)
    try simp only [Act.put, List.setIfInBounds_toArray, List.set_cons_zero, List.set_cons_succ]
    refine wpAnyL_load (i := 12) (v := ?_) (by rfl) (by kernel_rfl) (by kernel_rfl) (by kernel_rfl) (by rfl) (by kernel_rfl) (by exact fun _ _ _ h => h) (Or.inl ⟨by rfl, ?_⟩) (by assumption) ?_; rotate_left; · (intro w0 hS0; have k0 : w0.cell? ⟨w.heap.size, 0, none⟩ = some (.slice la N lc) := (hS0.cell (p := ⟨w.heap.size, 0, none⟩) hmb).trans D0.out; have k1 : w0.cell? ⟨w.heap.size, 1, none⟩ = some (.int .i64 (g.sure : Int)) := (hS0.cell (p := ⟨w.heap.size, 1, none⟩) hmb).trans D1.out; have k2 : w0.cell? ⟨w.heap.size, 2, none⟩ = some (.int .i64 g.kept) := (hS0.cell (p := ⟨w.heap.size, 2, none⟩) hmb).trans D2.out; have k3 : w0.cell? ⟨w.heap.size, 3, none⟩ = some (.int .u64 (g.marks : Int)) := (hS0.cell (p := ⟨w.heap.size, 3, none⟩) hmb).trans D3.out; have k4 : w0.cell? ⟨ag, N, none⟩ = some (.int .u64 (g.end_ : Int)) := (hS0.cell (p := ⟨ag, N, none⟩) hag).trans R1.out; have k5 : w0.cell? ⟨ag, g.sure, none⟩ = some (.int .u64 (g.flushed : Int)) := (hS0.cell (p := ⟨ag, g.sure, none⟩) hag).trans R2.out; have k6 : w0.cell? ⟨ag, n, none⟩ = some (.int .u64 (pl g.recs n : Int)) := (hS0.cell (p := ⟨ag, n, none⟩) hag).trans R3.out; go_simp; try with_reducible rfl)
    try simp only [Act.put, List.setIfInBounds_toArray, List.set_cons_zero, List.set_cons_succ]
    refine wpAnyL_move (i := 13) (v := ?_) (by rfl) (by kernel_rfl) (by kernel_rfl) (by kernel_rfl) (by rfl) (by exact fun _ _ _ h => h) (Or.inl ⟨by rfl, ?_⟩) (by assumption) ?_; rotate_left; · (intro w0; go_simp; try with_reducible rfl)
    try simp only [Act.put, List.setIfInBounds_toArray, List.set_cons_zero, List.set_cons_succ]
    refine wpAnyL_load (i := 14) (v := ?_) (by rfl) (by kernel_rfl) (by kernel_rfl) (by kernel_rfl) (by rfl) (by kernel_rfl) (by exact fun _ _ _ h => h) (Or.inl ⟨by rfl, ?_⟩) (by assumption) ?_; rotate_left; · (intro w0 hS0; have k0 : w0.cell? ⟨w.heap.size, 0, none⟩ = some (.slice la N lc) := (hS0.cell (p := ⟨w.heap.size, 0, none⟩) hmb).trans D0.out; have k1 : w0.cell? ⟨w.heap.size, 1, none⟩ = some (.int .i64 (g.sure : Int)) := (hS0.cell (p := ⟨w.heap.size, 1, none⟩) hmb).trans D1.out; have k2 : w0.cell? ⟨w.heap.size, 2, none⟩ = some (.int .i64 g.kept) := (hS0.cell (p := ⟨w.heap.size, 2, none⟩) hmb).trans D2.out; have k3 : w0.cell? ⟨w.heap.size, 3, none⟩ = some (.int .u64 (g.marks : Int)) := (hS0.cell (p := ⟨w.heap.size, 3, none⟩) hmb).trans D3.out; have k4 : w0.cell? ⟨ag, N, none⟩ = some (.int .u64 (g.end_ : Int)) := (hS0.cell (p := ⟨ag, N, none⟩) hag).trans R1.out; have k5 : w0.cell? ⟨ag, g.sure, none⟩ = some (.int .u64 (g.flushed : Int)) := (hS0.cell (p := ⟨ag, g.sure, none⟩) hag).trans R2.out; have k6 : w0.cell? ⟨ag, n, none⟩ = some (.int .u64 (pl g.recs n : Int)) := (hS0.cell (p := ⟨ag, n, none⟩) hag).trans R3.out; go_simp; try with_reducible rfl)
    try simp only [Act.put, List.setIfInBounds_toArray, List.set_cons_zero, List.set_cons_succ]
    refine wpAnyL_each (rs := [9]) (by kernel_rfl) (by simp) ?_
    refine EachL.cons (by rfl) (by rfl) (fun K hK => ?_) EachL.nil
    go_simp
    refine (HFd _ hHeld).out.mono ?_
    rintro e w7 ⟨rfl, hb7⟩
    dsimp only
    refine hK.out _ _ (hHeld.trans (hb7.mono hHeld.size)) (fun hHeld => ?_)
    clear hK K
    try simp only [Act.put, List.setIfInBounds_toArray, List.set_cons_zero, List.set_cons_succ]
    refine wpAnyL_move (i := 15) (v := ?_) (by rfl) (by kernel_rfl) (by kernel_rfl) (by kernel_rfl) (by rfl) (by exact fun _ _ _ h => h) (Or.inl ⟨by rfl, ?_⟩) (by assumption) ?_; rotate_left; · (intro w0; go_simp; try with_reducible rfl)
    try simp only [Act.put, List.setIfInBounds_toArray, List.set_cons_zero, List.set_cons_succ]
    refine wpAnyL_move (i := 16) (v := ?_) (by rfl) (by kernel_rfl) (by kernel_rfl) (by kernel_rfl) (by rfl) (by exact fun _ _ _ h => h) (Or.inl ⟨by rfl, ?_⟩) (by assumption) ?_; rotate_left; · (intro w0; go_simp; try with_reducible rfl)
    try simp only [Act.put, List.setIfInBounds_toArray, List.set_cons_zero, List.set_cons_succ]
    refine wpAnyL_move (i := 17) (v := ?_) (by rfl) (by kernel_rfl) (by kernel_rfl) (by kernel_rfl) (by rfl) (by exact fun _ _ _ h => h) (Or.inl ⟨by rfl, ?_⟩) (by assumption) ?_; rotate_left; · (intro w0; go_simp; try with_reducible rfl)
    try simp only [Act.put, List.setIfInBounds_toArray, List.set_cons_zero, List.set_cons_succ]
    refine wpAnyL_move (i := 18) (v := ?_) (by rfl) (by kernel_rfl) (by kernel_rfl) (by kernel_rfl) (by rfl) (by exact fun _ _ _ h => h) (Or.inl ⟨by rfl, ?_⟩) (by assumption) ?_; rotate_left; · (intro w0; go_simp; try with_reducible rfl)
    try simp only [Act.put, List.setIfInBounds_toArray, List.set_cons_zero, List.set_cons_succ]
    refine wpAnyL_move (i := 20) (v := ?_) (by rfl) (by kernel_rfl) (by kernel_rfl) (by kernel_rfl) (by rfl) (by exact fun _ _ _ h => h) (Or.inl ⟨by rfl, ?_⟩) (by assumption) ?_; rotate_left; · (intro w0; go_simp; try with_reducible rfl)
    try simp only [Act.put, List.setIfInBounds_toArray, List.set_cons_zero, List.set_cons_succ]
    refine wpAnyL_each (rs := [19]) (by kernel_rfl) (by simp) ?_
    refine EachL.cons (by rfl) (by rfl) (fun K hK => ?_) EachL.nil
    go_simp
    refine (HLn _ hHeld).out.mono ?_
    rintro e w' ⟨rfl, rfl⟩
    dsimp only
    refine hK.out _ _ hHeld (fun hHeld => ?_)
    clear hK K
    try simp only [Act.put, List.setIfInBounds_toArray, List.set_cons_zero, List.set_cons_succ]
    refine wpAnyL_move (i := 21) (v := ?_) (by rfl) (by kernel_rfl) (by kernel_rfl) (by kernel_rfl) (by rfl) (by exact fun _ _ _ h => h) (Or.inl ⟨by rfl, ?_⟩) (by assumption) ?_; rotate_left; · (intro w0; go_simp; try with_reducible rfl)
    try simp only [Act.put, List.setIfInBounds_toArray, List.set_cons_zero, List.set_cons_succ]
    refine wpAnyL_move (i := 22) (v := ?_) (by rfl) (by kernel_rfl) (by kernel_rfl) (by kernel_rfl) (by rfl) (by exact fun _ _ _ h => h) (Or.inl ⟨by rfl, ?_⟩) (by assumption) ?_; rotate_left; · (intro w0; go_simp; try with_reducible rfl)
    try simp only [Act.put, List.setIfInBounds_toArray, List.set_cons_zero, List.set_cons_succ]
    refine wpAnyL_move (i := 23) (v := ?_) (by rfl) (by kernel_rfl) (by kernel_rfl) (by kernel_rfl) (by rfl) (by exact fun _ _ _ h => h) (Or.inl ⟨by rfl, ?_⟩) (by assumption) ?_; rotate_left; · (intro w0; go_simp; try with_reducible rfl)
    try simp only [Act.put, List.setIfInBounds_toArray, List.set_cons_zero, List.set_cons_succ]
    refine wpAnyL_move (i := 24) (v := ?_) (by rfl) (by kernel_rfl) (by kernel_rfl) (by kernel_rfl) (by rfl) (by exact fun _ _ _ h => h) (Or.inl ⟨by rfl, ?_⟩) (by assumption) ?_; rotate_left; · (intro w0; go_simp; try with_reducible rfl)
    try simp only [Act.put, List.setIfInBounds_toArray, List.set_cons_zero, List.set_cons_succ]
    refine wpAnyL_load (i := 26) (v := ?_) (by rfl) (by kernel_rfl) (by kernel_rfl) (by kernel_rfl) (by rfl) (by kernel_rfl) (by exact fun _ _ _ h => h) (Or.inl ⟨by rfl, ?_⟩) (by assumption) ?_; rotate_left; · (intro w0 hS0; have k0 : w0.cell? ⟨w.heap.size, 0, none⟩ = some (.slice la N lc) := (hS0.cell (p := ⟨w.heap.size, 0, none⟩) hmb).trans D0.out; have k1 : w0.cell? ⟨w.heap.size, 1, none⟩ = some (.int .i64 (g.sure : Int)) := (hS0.cell (p := ⟨w.heap.size, 1, none⟩) hmb).trans D1.out; have k2 : w0.cell? ⟨w.heap.size, 2, none⟩ = some (.int .i64 g.kept) := (hS0.cell (p := ⟨w.heap.size, 2, none⟩) hmb).trans D2.out; have k3 : w0.cell? ⟨w.heap.size, 3, none⟩ = some (.int .u64 (g.marks : Int)) := (hS0.cell (p := ⟨w.heap.size, 3, none⟩) hmb).trans D3.out; have k4 : w0.cell? ⟨ag, N, none⟩ = some (.int .u64 (g.end_ : Int)) := (hS0.cell (p := ⟨ag, N, none⟩) hag).trans R1.out; have k5 : w0.cell? ⟨ag, g.sure, none⟩ = some (.int .u64 (g.flushed : Int)) := (hS0.cell (p := ⟨ag, g.sure, none⟩) hag).trans R2.out; have k6 : w0.cell? ⟨ag, n, none⟩ = some (.int .u64 (pl g.recs n : Int)) := (hS0.cell (p := ⟨ag, n, none⟩) hag).trans R3.out; go_simp; try with_reducible rfl)
    try simp only [Act.put, List.setIfInBounds_toArray, List.set_cons_zero, List.set_cons_succ]
    refine wpAnyL_each (rs := [25]) (by kernel_rfl) (by simp) ?_
    refine EachL.cons (by rfl) (by rfl) (fun K hK => ?_) EachL.nil
    go_simp
    refine (HRm _ hHeld).out.mono ?_
    rintro e w' ⟨rfl, rfl⟩
    dsimp only
    refine hK.out _ _ hHeld (fun hHeld => ?_)
    clear hK K
    try simp only [Act.put, List.setIfInBounds_toArray, List.set_cons_zero, List.set_cons_succ]
    refine wpAnyL_each (rs := [27]) (by kernel_rfl) (by simp) ?_
    refine EachL.cons (by rfl) (by rfl) (fun K hK => ?_) EachL.nil
    go_simp
    refine (HMR _ hHeld).out.mono ?_
    rintro e w6 ⟨rfl, hb6⟩
    dsimp only
    refine hK.out _ _ (hHeld.trans (hb6.mono hHeld.size)) (fun hHeld => ?_)
    clear hK K
    try simp only [Act.put, List.setIfInBounds_toArray, List.set_cons_zero, List.set_cons_succ]
    refine wpAnyL_move (i := 28) (v := ?_) (by rfl) (by kernel_rfl) (by kernel_rfl) (by kernel_rfl) (by rfl) (by exact fun _ _ _ h => h) (Or.inl ⟨by rfl, ?_⟩) (by assumption) ?_; rotate_left; · (intro w0; go_simp; try with_reducible rfl)
    try simp only [Act.put, List.setIfInBounds_toArray, List.set_cons_zero, List.set_cons_succ]
    refine wpAnyL_move (i := 29) (v := ?_) (by rfl) (by kernel_rfl) (by kernel_rfl) (by kernel_rfl) (by rfl) (by exact fun _ _ _ h => h) (Or.inl ⟨by rfl, ?_⟩) (by assumption) ?_; rotate_left; · (intro w0; go_simp; try with_reducible rfl)
    try simp only [Act.put, List.setIfInBounds_toArray, List.set_cons_zero, List.set_cons_succ]
    refine wpAnyL_move (i := 30) (v := ?_) (by rfl) (by kernel_rfl) (by kernel_rfl) (by kernel_rfl) (by rfl) (by exact fun _ _ _ h => h) (Or.inl ⟨by rfl, ?_⟩) (by assumption) ?_; rotate_left; · (intro w0; go_simp; try with_reducible rfl)
    try simp only [Act.put, List.setIfInBounds_toArray, List.set_cons_zero, List.set_cons_succ]
    refine wpAnyL_move (i := 31) (v := ?_) (by rfl) (by kernel_rfl) (by kernel_rfl) (by kernel_rfl) (by rfl) (by exact fun _ _ _ h => h) (Or.inl ⟨by rfl, ?_⟩) (by assumption) ?_; rotate_left; · (intro w0; go_simp; try with_reducible rfl)
    try simp only [Act.put, List.setIfInBounds_toArray, List.set_cons_zero, List.set_cons_succ]
    refine wpAnyL_move (i := 33) (v := ?_) (by rfl) (by kernel_rfl) (by kernel_rfl) (by kernel_rfl) (by rfl) (by exact fun _ _ _ h => h) (Or.inl ⟨by rfl, ?_⟩) (by assumption) ?_; rotate_left; · (intro w0; go_simp; try with_reducible rfl)
    try simp only [Act.put, List.setIfInBounds_toArray, List.set_cons_zero, List.set_cons_succ]
    refine wpAnyL_load (i := 34) (v := ?_) (by rfl) (by kernel_rfl) (by kernel_rfl) (by kernel_rfl) (by rfl) (by kernel_rfl) (by exact fun _ _ _ h => h) (Or.inl ⟨by rfl, ?_⟩) (by assumption) ?_; rotate_left; · (intro w0 hS0; have k0 : w0.cell? ⟨w.heap.size, 0, none⟩ = some (.slice la N lc) := (hS0.cell (p := ⟨w.heap.size, 0, none⟩) hmb).trans D0.out; have k1 : w0.cell? ⟨w.heap.size, 1, none⟩ = some (.int .i64 (g.sure : Int)) := (hS0.cell (p := ⟨w.heap.size, 1, none⟩) hmb).trans D1.out; have k2 : w0.cell? ⟨w.heap.size, 2, none⟩ = some (.int .i64 g.kept) := (hS0.cell (p := ⟨w.heap.size, 2, none⟩) hmb).trans D2.out; have k3 : w0.cell? ⟨w.heap.size, 3, none⟩ = some (.int .u64 (g.marks : Int)) := (hS0.cell (p := ⟨w.heap.size, 3, none⟩) hmb).trans D3.out; have k4 : w0.cell? ⟨ag, N, none⟩ = some (.int .u64 (g.end_ : Int)) := (hS0.cell (p := ⟨ag, N, none⟩) hag).trans R1.out; have k5 : w0.cell? ⟨ag, g.sure, none⟩ = some (.int .u64 (g.flushed : Int)) := (hS0.cell (p := ⟨ag, g.sure, none⟩) hag).trans R2.out; have k6 : w0.cell? ⟨ag, n, none⟩ = some (.int .u64 (pl g.recs n : Int)) := (hS0.cell (p := ⟨ag, n, none⟩) hag).trans R3.out; go_simp; try with_reducible rfl)
    try simp only [Act.put, List.setIfInBounds_toArray, List.set_cons_zero, List.set_cons_succ]
    refine wpAnyL_each (rs := [32]) (by kernel_rfl) (by simp) ?_
    refine EachL.cons (by rfl) (by rfl) (fun K hK => ?_) EachL.nil
    go_simp
    refine (HKp _ hHeld).out.mono ?_
    rintro e w' ⟨rfl, rfl⟩
    dsimp only
    refine hK.out _ _ hHeld (fun hHeld => ?_)
    clear hK K
    try simp only [Act.put, List.setIfInBounds_toArray, List.set_cons_zero, List.set_cons_succ]
    refine wpAnyL_move (i := 35) (v := ?_) (by rfl) (by kernel_rfl) (by kernel_rfl) (by kernel_rfl) (by rfl) (by exact fun _ _ _ h => h) (Or.inl ⟨by rfl, ?_⟩) (by assumption) ?_; rotate_left; · (intro w0; go_simp; try with_reducible rfl)
    try simp only [Act.put, List.setIfInBounds_toArray, List.set_cons_zero, List.set_cons_succ]
    refine wpAnyL_move (i := 36) (v := ?_) (by rfl) (by kernel_rfl) (by kernel_rfl) (by kernel_rfl) (by rfl) (by exact fun _ _ _ h => h) (Or.inl ⟨by rfl, ?_⟩) (by assumption) ?_; rotate_left; · (intro w0; go_simp; try with_reducible rfl)
    try simp only [Act.put, List.setIfInBounds_toArray, List.set_cons_zero, List.set_cons_succ]
    refine wpAnyL_move (i := 37) (v := ?_) (by rfl) (by kernel_rfl) (by kernel_rfl) (by kernel_rfl) (by rfl) (by exact fun _ _ _ h => h) (Or.inl ⟨by rfl, ?_⟩) (by assumption) ?_; rotate_left; · (intro w0; go_simp; try with_reducible rfl)
    try simp only [Act.put, List.setIfInBounds_toArray, List.set_cons_zero, List.set_cons_succ]
    refine wpAnyL_move (i := 38) (v := ?_) (by rfl) (by kernel_rfl) (by kernel_rfl) (by kernel_rfl) (by rfl) (by exact fun _ _ _ h => h) (Or.inl ⟨by rfl, ?_⟩) (by assumption) ?_; rotate_left; · (intro w0; go_simp; try with_reducible rfl)
    try simp only [Act.put, List.setIfInBounds_toArray, List.set_cons_zero, List.set_cons_succ]
    refine wpAnyL_move (i := 40) (v := ?_) (by rfl) (by kernel_rfl) (by kernel_rfl) (by kernel_rfl) (by rfl) (by exact fun _ _ _ h => h) (Or.inl ⟨by rfl, ?_⟩) (by assumption) ?_; rotate_left; · (intro w0; go_simp; try with_reducible rfl)
    try simp only [Act.put, List.setIfInBounds_toArray, List.set_cons_zero, List.set_cons_succ]
    refine wpAnyL_load (i := 41) (v := ?_) (by rfl) (by kernel_rfl) (by kernel_rfl) (by kernel_rfl) (by rfl) (by kernel_rfl) (by exact fun _ _ _ h => h) (Or.inl ⟨by rfl, ?_⟩) (by assumption) ?_; rotate_left; · (intro w0 hS0; have k0 : w0.cell? ⟨w.heap.size, 0, none⟩ = some (.slice la N lc) := (hS0.cell (p := ⟨w.heap.size, 0, none⟩) hmb).trans D0.out; have k1 : w0.cell? ⟨w.heap.size, 1, none⟩ = some (.int .i64 (g.sure : Int)) := (hS0.cell (p := ⟨w.heap.size, 1, none⟩) hmb).trans D1.out; have k2 : w0.cell? ⟨w.heap.size, 2, none⟩ = some (.int .i64 g.kept) := (hS0.cell (p := ⟨w.heap.size, 2, none⟩) hmb).trans D2.out; have k3 : w0.cell? ⟨w.heap.size, 3, none⟩ = some (.int .u64 (g.marks : Int)) := (hS0.cell (p := ⟨w.heap.size, 3, none⟩) hmb).trans D3.out; have k4 : w0.cell? ⟨ag, N, none⟩ = some (.int .u64 (g.end_ : Int)) := (hS0.cell (p := ⟨ag, N, none⟩) hag).trans R1.out; have k5 : w0.cell? ⟨ag, g.sure, none⟩ = some (.int .u64 (g.flushed : Int)) := (hS0.cell (p := ⟨ag, g.sure, none⟩) hag).trans R2.out; have k6 : w0.cell? ⟨ag, n, none⟩ = some (.int .u64 (pl g.recs n : Int)) := (hS0.cell (p := ⟨ag, n, none⟩) hag).trans R3.out; go_simp; try with_reducible rfl)
    try simp only [Act.put, List.setIfInBounds_toArray, List.set_cons_zero, List.set_cons_succ]
    refine wpAnyL_each (rs := [39]) (by kernel_rfl) (by simp) ?_
    refine EachL.cons (by rfl) (by rfl) (fun K hK => ?_) EachL.nil
    go_simp
    refine (HMs _ hHeld).out.mono ?_
    rintro e w' ⟨rfl, rfl⟩
    dsimp only
    refine hK.out _ _ hHeld (fun hHeld => ?_)
    clear hK K
    try simp only [Act.put, List.setIfInBounds_toArray, List.set_cons_zero, List.set_cons_succ]
    refine wpAnyL_move (i := 42) (v := ?_) (by rfl) (by kernel_rfl) (by kernel_rfl) (by kernel_rfl) (by rfl) (by exact fun _ _ _ h => h) (Or.inl ⟨by rfl, ?_⟩) (by assumption) ?_; rotate_left; · (intro w0; go_simp; try with_reducible rfl)
    try simp only [Act.put, List.setIfInBounds_toArray, List.set_cons_zero, List.set_cons_succ]
    refine wpAnyL_move (i := 43) (v := ?_) (by rfl) (by kernel_rfl) (by kernel_rfl) (by kernel_rfl) (by rfl) (by exact fun _ _ _ h => h) (Or.inl ⟨by rfl, ?_⟩) (by assumption) ?_; rotate_left; · (intro w0; go_simp; try with_reducible rfl)
    try simp only [Act.put, List.setIfInBounds_toArray, List.set_cons_zero, List.set_cons_succ]
    refine wpAnyL_move (i := 44) (v := ?_) (by rfl) (by kernel_rfl) (by kernel_rfl) (by kernel_rfl) (by rfl) (by exact fun _ _ _ h => h) (Or.inl ⟨by rfl, ?_⟩) (by assumption) ?_; rotate_left; · (intro w0; go_simp; try with_reducible rfl)
    try simp only [Act.put, List.setIfInBounds_toArray, List.set_cons_zero, List.set_cons_succ]
    refine wpAnyL_move (i := 45) (v := ?_) (by rfl) (by kernel_rfl) (by kernel_rfl) (by kernel_rfl) (by rfl) (by exact fun _ _ _ h => h) (Or.inl ⟨by rfl, ?_⟩) (by assumption) ?_; rotate_left; · (intro w0; go_simp; try with_reducible rfl)
    try simp only [Act.put, List.setIfInBounds_toArray, List.set_cons_zero, List.set_cons_succ]
    refine wpAnyL_move (i := 46) (v := ?_) (by rfl) (by kernel_rfl) (by kernel_rfl) (by kernel_rfl) (by rfl) (by exact fun _ _ _ h => h) (Or.inl ⟨by rfl, ?_⟩) (by assumption) ?_; rotate_left; · (intro w0; go_simp; try with_reducible rfl)
    try simp only [Act.put, List.setIfInBounds_toArray, List.set_cons_zero, List.set_cons_succ]
    refine wpAnyL_move (i := 47) (v := ?_) (by rfl) (by kernel_rfl) (by kernel_rfl) (by kernel_rfl) (by rfl) (by exact fun _ _ _ h => h) (Or.inl ⟨by rfl, ?_⟩) (by assumption) ?_; rotate_left; · (intro w0; go_simp; try with_reducible rfl)
    try simp only [Act.put, List.setIfInBounds_toArray, List.set_cons_zero, List.set_cons_succ]
    refine wpAnyL_move (i := 48) (v := ?_) (by rfl) (by kernel_rfl) (by kernel_rfl) (by kernel_rfl) (by rfl) (by exact fun _ _ _ h => h) (Or.inl ⟨by rfl, ?_⟩) (by assumption) ?_; rotate_left; · (intro w0; go_simp; try with_reducible rfl)
    try simp only [Act.put, List.setIfInBounds_toArray, List.set_cons_zero, List.set_cons_succ]
    refine wpAnyL_move (i := 49) (v := ?_) (by rfl) (by kernel_rfl) (by kernel_rfl) (by kernel_rfl) (by rfl) (by exact fun _ _ _ h => h) (Or.inl ⟨by rfl, ?_⟩) (by assumption) ?_; rotate_left; · (intro w0; go_simp; try with_reducible rfl)
    try simp only [Act.put, List.setIfInBounds_toArray, List.set_cons_zero, List.set_cons_succ]
    refine wpAnyL_move (i := 50) (v := ?_) (by rfl) (by kernel_rfl) (by kernel_rfl) (by kernel_rfl) (by rfl) (by exact fun _ _ _ h => h) (Or.inl ⟨by rfl, ?_⟩) (by assumption) ?_; rotate_left; · (intro w0; go_simp; try with_reducible rfl)
    try simp only [Act.put, List.setIfInBounds_toArray, List.set_cons_zero, List.set_cons_succ]
    refine wpAnyL_move (i := 51) (v := ?_) (by rfl) (by kernel_rfl) (by kernel_rfl) (by kernel_rfl) (by rfl) (by exact fun _ _ _ h => h) (Or.inl ⟨by rfl, ?_⟩) (by assumption) ?_; rotate_left; · (intro w0; go_simp; try with_reducible rfl)
    try simp only [Act.put, List.setIfInBounds_toArray, List.set_cons_zero, List.set_cons_succ]
    refine wpAnyL_move (i := 52) (v := ?_) (by rfl) (by kernel_rfl) (by kernel_rfl) (by kernel_rfl) (by rfl) (by exact fun _ _ _ h => h) (Or.inl ⟨by rfl, ?_⟩) (by assumption) ?_; rotate_left; · (intro w0; go_simp; try with_reducible rfl)
    try simp only [Act.put, List.setIfInBounds_toArray, List.set_cons_zero, List.set_cons_succ]
    refine wpAnyL_move (i := 53) (v := ?_) (by rfl) (by kernel_rfl) (by kernel_rfl) (by kernel_rfl) (by rfl) (by exact fun _ _ _ h => h) (Or.inl ⟨by rfl, ?_⟩) (by assumption) ?_; rotate_left; · (intro w0; go_simp; try with_reducible rfl)
    try simp only [Act.put, List.setIfInBounds_toArray, List.set_cons_zero, List.set_cons_succ]
    refine wpAnyL_move (i := 54) (v := ?_) (by rfl) (by kernel_rfl) (by kernel_rfl) (by kernel_rfl) (by rfl) (by exact fun _ _ _ h => h) (Or.inl ⟨by rfl, ?_⟩) (by assumption) ?_; rotate_left; · (intro w0; go_simp; try with_reducible rfl)
    try simp only [Act.put, List.setIfInBounds_toArray, List.set_cons_zero, List.set_cons_succ]
    refine wpAnyL_move (i := 55) (v := ?_) (by rfl) (by kernel_rfl) (by kernel_rfl) (by kernel_rfl) (by rfl) (by exact fun _ _ _ h => h) (Or.inl ⟨by rfl, ?_⟩) (by assumption) ?_; rotate_left; · (intro w0; go_simp; try with_reducible rfl)
    try simp only [Act.put, List.setIfInBounds_toArray, List.set_cons_zero, List.set_cons_succ]
    refine wpAnyL_move (i := 56) (v := ?_) (by rfl) (by kernel_rfl) (by kernel_rfl) (by kernel_rfl) (by rfl) (by exact fun _ _ _ h => h) (Or.inl ⟨by rfl, ?_⟩) (by assumption) ?_; rotate_left; · (intro w0; go_simp; try with_reducible rfl)
    try simp only [Act.put, List.setIfInBounds_toArray, List.set_cons_zero, List.set_cons_succ]
    refine wpAnyL_move (i := 57) (v := ?_) (by rfl) (by kernel_rfl) (by kernel_rfl) (by kernel_rfl) (by rfl) (by exact fun _ _ _ h => h) (Or.inl ⟨by rfl, ?_⟩) (by assumption) ?_; rotate_left; · (intro w0; go_simp; try with_reducible rfl)
    try simp only [Act.put, List.setIfInBounds_toArray, List.set_cons_zero, List.set_cons_succ]
    refine wpAnyL_load (i := 58) (v := ?_) (by rfl) (by kernel_rfl) (by kernel_rfl) (by kernel_rfl) (by rfl) (by kernel_rfl) (by exact fun _ _ _ h => h) (Or.inl ⟨by rfl, ?_⟩) (by assumption) ?_; rotate_left; · (intro w0 hS0; have k0 : w0.cell? ⟨w.heap.size, 0, none⟩ = some (.slice la N lc) := (hS0.cell (p := ⟨w.heap.size, 0, none⟩) hmb).trans D0.out; have k1 : w0.cell? ⟨w.heap.size, 1, none⟩ = some (.int .i64 (g.sure : Int)) := (hS0.cell (p := ⟨w.heap.size, 1, none⟩) hmb).trans D1.out; have k2 : w0.cell? ⟨w.heap.size, 2, none⟩ = some (.int .i64 g.kept) := (hS0.cell (p := ⟨w.heap.size, 2, none⟩) hmb).trans D2.out; have k3 : w0.cell? ⟨w.heap.size, 3, none⟩ = some (.int .u64 (g.marks : Int)) := (hS0.cell (p := ⟨w.heap.size, 3, none⟩) hmb).trans D3.out; have k4 : w0.cell? ⟨ag, N, none⟩ = some (.int .u64 (g.end_ : Int)) := (hS0.cell (p := ⟨ag, N, none⟩) hag).trans R1.out; have k5 : w0.cell? ⟨ag, g.sure, none⟩ = some (.int .u64 (g.flushed : Int)) := (hS0.cell (p := ⟨ag, g.sure, none⟩) hag).trans R2.out; have k6 : w0.cell? ⟨ag, n, none⟩ = some (.int .u64 (pl g.recs n : Int)) := (hS0.cell (p := ⟨ag, n, none⟩) hag).trans R3.out; go_simp; try with_reducible rfl)
    try simp only [Act.put, List.setIfInBounds_toArray, List.set_cons_zero, List.set_cons_succ]
    refine wpAnyL_move (i := 59) (v := ?_) (by rfl) (by kernel_rfl) (by kernel_rfl) (by kernel_rfl) (by rfl) (by exact fun _ _ _ h => h) (Or.inl ⟨by rfl, ?_⟩) (by assumption) ?_; rotate_left; · (intro w0; go_simp; try with_reducible rfl)
    try simp only [Act.put, List.setIfInBounds_toArray, List.set_cons_zero, List.set_cons_succ]
    refine wpAnyL_move (i := 60) (v := ?_) (by rfl) (by kernel_rfl) (by kernel_rfl) (by kernel_rfl) (by rfl) (by exact fun _ _ _ h => h) (Or.inl ⟨by rfl, ?_⟩) (by assumption) ?_; rotate_left; · (intro w0; go_simp; try with_reducible rfl)
    try simp only [Act.put, List.setIfInBounds_toArray, List.set_cons_zero, List.set_cons_succ]
    refine wpAnyL_move (i := 61) (v := ?_) (by rfl) (by kernel_rfl) (by kernel_rfl) (by kernel_rfl) (by rfl) (by exact fun _ _ _ h => h) (Or.inl ⟨by rfl, ?_⟩) (by assumption) ?_; rotate_left; · (intro w0; go_simp; try with_reducible rfl)
    try simp only [Act.put, List.setIfInBounds_toArray, List.set_cons_zero, List.set_cons_succ]
    refine wpAnyL_done (by kernel_rfl) ?_ _
    have HQ := Lib.hid hHeld
    clear hHeld
    go_wp2_with (fail)
    go_loopw [11] (fun s11 wr => ∃ i : Nat, i ≤ N ∧ s11 = .int .i64 (i : Int) ∧ Hid (Below w2.heap.size w2 wr)) (fun i _ => N - (intOf i).toNat)
    case atStart => exact ⟨0, Nat.zero_le _, rfl, HQ.out⟩
    case round =>
      obtain ⟨i, hi, rfl, hQ⟩ := hrel
      have k0 : wr.cell? ⟨w.heap.size, 0, none⟩ = some (.slice la N lc) := (hQ.out.cell (p := ⟨w.heap.size, 0, none⟩) hmb).trans D0.out
      by_cases hlt : i < N
      · obtain ⟨x, hx⟩ : ∃ x, g.recs[i]? = some x := ⟨_, List.getElem?_eq_getElem (by rw [HNN.out]; exact hlt)⟩
        have HX := Lib.hid hx
        have c1 : wr.cell? ⟨ag, i, none⟩ = some (.int .u64 (pl g.recs i : Int)) := (hQ.out.cell (p := ⟨ag, i, none⟩) hag).trans (HROW.out i (by omega))
        have c2 : wr.cell? ⟨ag, i + 1, none⟩ = some (.int .u64 (pl g.recs (i + 1) : Int)) := (hQ.out.cell (p := ⟨ag, i + 1, none⟩) hag).trans (HROW.out (i + 1) (by omega))
        have HG := Lib.hid (get_at (W2.out.below hQ.out) hx)
        have HBk : ∀ q, Hid (Calls Try.prog 41 #[.pointer (some ⟨lb, 0, none⟩), .int .u64 (pl g.recs (i + 1) : Int)] (wr.drewN q) fun e w' => e = .returned (.tuple #[.int .u64 (pl g.recs i : Int), .bool true]) ∧ ∃ q', w' = (wr.drewN q).drewN q') := fun q => back_at ((W2.out.below hQ.out).below (below_drewN _ _)) (by rw [HNN.out]; exact hlt)
        obtain ⟨sb, hsa, -, hsc1, hsc2, hsb3, cs⟩ := ((HRD.out.below HB2.out).below hQ.out).at_ hx
        subst hsa
        have hxx : (x.toList == x.toList) = true := by simp
        have hi1 : (i : Int) + 1 < (N : Int) + 1 := by omega
        have hi2 : (i : Int) < (N : Int) + 1 := by omega
        clear hx
        generalize hpi : pl g.recs i = pi at *
        generalize hpi1 : pl g.recs (i + 1) = pi1 at *
        clear hpi hpi1
        go_wp2_with (fail)
        refine HG.out.mono ?_
        rintro e w5 ⟨rfl, q, rfl⟩
        go_wp2_with (fail)
        refine (HBk _).out.mono ?_
        rintro e w6 ⟨rfl, q', rfl⟩
        go_wp2
        go_roundw
        case rel => exact ⟨i + 1, by omega, by go_num, hQ.out.trans ((below_drewN _ _).mono hQ.out.size)⟩
        case measure => simp [intOf]; omega
      · have hie : i = N := by omega
        have HFi : ∀ q, Hid (Calls Try.prog 76 #[.agg #[.slice la N lc, .int .i64 (g.sure : Int), .int .i64 g.kept, .int .u64 (g.marks : Int)], .int .u64 a.at_] (wr.drewN q) (FindPost (wr.drewN q) g.recs a.at_)) := fun q => mfind_c _ _ g.recs _ _ _ a.at_ (((HRD.out.below HB2.out).below hQ.out).below (below_drewN _ _)) HRO.out rfl rfl rfl
        have k1 : wr.cell? ⟨w.heap.size, 1, none⟩ = some (.int .i64 (g.sure : Int)) := (hQ.out.cell (p := ⟨w.heap.size, 1, none⟩) hmb).trans D1.out
        have k2 : wr.cell? ⟨w.heap.size, 2, none⟩ = some (.int .i64 g.kept) := (hQ.out.cell (p := ⟨w.heap.size, 2, none⟩) hmb).trans D2.out
        have k3 : wr.cell? ⟨w.heap.size, 3, none⟩ = some (.int .u64 (g.marks : Int)) := (hQ.out.cell (p := ⟨w.heap.size, 3, none⟩) hmb).trans D3.out
        have ka : wr.cell? ⟨w.heap.size + 1, 3, none⟩ = some (.int .u64 a.at_) := (hQ.out.cell (p := ⟨w.heap.size + 1, 3, none⟩) hab).trans (BX1.out.cell 3)
        have HB1 : ∀ q, Hid (Calls Try.prog 41 #[.pointer (some ⟨lb, 0, none⟩), .int .u64 1] (wr.drewN q) fun e w' => e = .returned (.tuple #[.int .u64 0, .bool false]) ∧ ∃ q', w' = (wr.drewN q).drewN q') := fun q => back_first ((W2.out.below hQ.out).below (below_drewN _ _))
        have HGa : Hid (∃ v1 v2, Calls Try.prog 42 #[.pointer (some ⟨lb, 0, none⟩), .int .u64 a.at_] wr fun e w' => e = .returned (.tuple #[v1, v2, .bool (g.has a.at_)]) ∧ ∃ q, w' = wr.drewN q) := by
          cases hh : g.has a.at_
          · exact ⟨_, _, lget_miss (W2.out.below hQ.out) hh⟩
          · obtain ⟨j, hj, he⟩ := (has_iff g a.at_).1 hh
            have := get_at (W2.out.below hQ.out) (List.getElem?_eq_getElem hj)
            rw [he] at this
            exact ⟨_, _, this⟩
        obtain ⟨v1, v2, hga⟩ := HGa.out
        have HGG := Lib.hid hga
        clear hga HGa
        go_wp2_with (fail)
        refine HGG.out.mono ?_
        rintro e w5 ⟨rfl, q, rfl⟩
        go_wp2_with (fail)
        refine (HB1 _).out.mono ?_
        rintro e w6 ⟨rfl, q', rfl⟩
        go_wp2_with (fail)
        refine (HFi _).out.mono ?_
        rintro e w7 ⟨r, rfl, hr, hb7⟩
        have hfin : (g.has a.at_ == decide (0 ≤ r)) = true := by
          rcases hr with ⟨j, hj, he, rfl⟩ | ⟨hno, rfl⟩
          · rw [(has_iff g a.at_).2 ⟨j, hj, he⟩, decide_eq_true (by omega)]
            rfl
          · have : g.has a.at_ = false := by
              rw [Bool.eq_false_iff]
              intro hh
              obtain ⟨j, hj, he⟩ := (has_iff g a.at_).1 hh
              exact hno j hj he
            rw [this, decide_eq_false (by omega)]
            rfl
        have HB7 : Hid (Below w.heap.size w w7) := HB2.out.trans ((hQ.out.trans (((below_drewN wr _).trans hb7).mono hQ.out.size)).mono HB2.out.size)
        clear hr hb7
        go_wp2
        go_ret
        exact ⟨rfl, HB7.out⟩
end Go.Proofs.Ytnobiekgifjaeaa
