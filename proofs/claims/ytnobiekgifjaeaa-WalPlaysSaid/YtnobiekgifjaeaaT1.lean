/-
  The statements' own model: its room, what it finds, a record more.
-/
import Derived.Test.YtnobiekgifjaeaaT0
import Derived.Handy
namespace Go.Proofs.Ytnobiekgifjaeaa
open Go.RowKit
attribute [local go_sem ↓] Go.wp_at_zero Go.wp_at_succ

/-- what is asked of a list of records -/
structure RecsOk (l : List ByteArray) : Prop where
  len : l.length ≤ 400000
  end_ : endFrom 1 l ≤ 4194305
  sizes : ∀ s ∈ l, s.size ≤ 8192

set_option maxRecDepth 100000 in
set_option maxHeartbeats 4000000 in
theorem mroom_c (w : World) (lv : Value) (l : List ByteArray) (c1 c2 c3 : Value) (h : Reads w lv l) (hl : RecsOk l) (_ho1 : c1.oneCell' = true) (_ho2 : c2.oneCell' = true) (_ho3 : c3.oneCell' = true) :
    Calls Try.prog 75 #[.agg #[lv, c1, c2, c3]] w fun e w' => e = .returned (.int .i64 (4194305 - (endFrom 1 l : Int))) ∧ Below w.heap.size w w' := by
  obtain ⟨la, lc, rfl⟩ := h.form
  have hend := hl.end_
  have hpos := endFrom_le l 1
  have hlen := hl.len
  have B0 := Blk.new w 89 #[.slice la l.length lc, c1, c2, c3]
  have e0 : (w.alloc (.cells #[.slice la l.length lc, c1, c2, c3] 89)).cell? ⟨w.heap.size, 0, none⟩ = some (.slice la l.length lc) := B0.cell 0
  have e1 : (w.alloc (.cells #[.slice la l.length lc, c1, c2, c3] 89)).cell? ⟨w.heap.size, 1, none⟩ = some c1 := B0.cell 1
  have e2 : (w.alloc (.cells #[.slice la l.length lc, c1, c2, c3] 89)).cell? ⟨w.heap.size, 2, none⟩ = some c2 := B0.cell 2
  have e3 : (w.alloc (.cells #[.slice la l.length lc, c1, c2, c3] 89)).cell? ⟨w.heap.size, 3, none⟩ = some c3 := B0.cell 3
  have hbw : Below w.heap.size w (w.alloc (.cells #[.slice la l.length lc, c1, c2, c3] 89)) := (Below.refl _ _).alloc (Nat.le_refl _) _
  have hbs : w.heap.size < (w.alloc (.cells #[.slice la l.length lc, c1, c2, c3] 89)).heap.size := by simp
  have HA : ∀ W, Below w.heap.size w W → Hid (Calls Try.prog 52 #[.agg #[.slice la l.length lc, c1, c2, c3]] W (AtPost W l)) := fun W hW => mat_c W _ l c1 c2 c3 (h.below hW) hl.len hl.end_ hl.sizes
  have hw1 : IntKind.u64.wrap ((endFrom 1 l : Int) - 1) = (endFrom 1 l : Int) - 1 := by rw [IntKind.wrap_u64]; omega
  have hw2 : IntKind.i64.wrap ((endFrom 1 l : Int) - 1) = (endFrom 1 l : Int) - 1 := by rw [IntKind.wrap_i64]; omega
  have hw3 : IntKind.i64.wrap (4194304 - ((endFrom 1 l : Int) - 1)) = 4194304 - ((endFrom 1 l : Int) - 1) := by rw [IntKind.wrap_i64]; omega
  clear h hl B0
  go_enter Try.func75, Try.ntmps75
  go_wp2_with (fail)
  generalize w.alloc (.cells #[.slice la l.length lc, c1, c2, c3] 89) = w1 at *
  have E0 := Lib.hid e0
  have E1 := Lib.hid e1
  have E2 := Lib.hid e2
  have E3 := Lib.hid e3
  have HBW := Lib.hid hbw
  clear e0 e1 e2 e3 hbw
  refine wp_region_late (S := Below w1.heap.size w1) (late := []) (by kernel_rfl) (below_drewN w1 1) (fun hHeld => ?_)
  refine wpAnyL_load (i := 0) (v := ?_) (by rfl) (by kernel_rfl) (by kernel_rfl) (by kernel_rfl) (by rfl) (by kernel_rfl) (by exact fun _ _ _ h => h) (Or.inl ⟨by rfl, ?_⟩) (by assumption) ?_; rotate_left; · (intro w0 hS0; have hS1 : w0.cell? ⟨w.heap.size, 0, none⟩ = some (.slice la l.length lc) := (hS0.cell (p := ⟨w.heap.size, 0, none⟩) hbs).trans E0.out; have hS2 : w0.cell? ⟨w.heap.size, 1, none⟩ = some c1 := (hS0.cell (p := ⟨w.heap.size, 1, none⟩) hbs).trans E1.out; have hS3 : w0.cell? ⟨w.heap.size, 2, none⟩ = some c2 := (hS0.cell (p := ⟨w.heap.size, 2, none⟩) hbs).trans E2.out; have hS4 : w0.cell? ⟨w.heap.size, 3, none⟩ = some c3 := (hS0.cell (p := ⟨w.heap.size, 3, none⟩) hbs).trans E3.out; go_simp; try with_reducible rfl)
  try simp only [Act.put, List.setIfInBounds_toArray, List.set_cons_zero, List.set_cons_succ]
  refine wpAnyL_move (i := 2) (v := ?_) (by rfl) (by kernel_rfl) (by kernel_rfl) (by kernel_rfl) (by rfl) (by exact fun _ _ _ h => h) (Or.inl ⟨by rfl, ?_⟩) (by assumption) ?_; rotate_left; · (intro w0; go_simp; try with_reducible rfl)
  try simp only [Act.put, List.setIfInBounds_toArray, List.set_cons_zero, List.set_cons_succ]
  refine wpAnyL_load (i := 3) (v := ?_) (by rfl) (by kernel_rfl) (by kernel_rfl) (by kernel_rfl) (by rfl) (by kernel_rfl) (by exact fun _ _ _ h => h) (Or.inl ⟨by rfl, ?_⟩) (by assumption) ?_; rotate_left; · (intro w0 hS0; have hS1 : w0.cell? ⟨w.heap.size, 0, none⟩ = some (.slice la l.length lc) := (hS0.cell (p := ⟨w.heap.size, 0, none⟩) hbs).trans E0.out; have hS2 : w0.cell? ⟨w.heap.size, 1, none⟩ = some c1 := (hS0.cell (p := ⟨w.heap.size, 1, none⟩) hbs).trans E1.out; have hS3 : w0.cell? ⟨w.heap.size, 2, none⟩ = some c2 := (hS0.cell (p := ⟨w.heap.size, 2, none⟩) hbs).trans E2.out; have hS4 : w0.cell? ⟨w.heap.size, 3, none⟩ = some c3 := (hS0.cell (p := ⟨w.heap.size, 3, none⟩) hbs).trans E3.out; go_simp; try with_reducible rfl)
  try simp only [Act.put, List.setIfInBounds_toArray, List.set_cons_zero, List.set_cons_succ]
  refine wpAnyL_move (i := 4) (v := ?_) (by rfl) (by kernel_rfl) (by kernel_rfl) (by kernel_rfl) (by rfl) (by exact fun _ _ _ h => h) (Or.inl ⟨by rfl, ?_⟩) (by assumption) ?_; rotate_left; · (intro w0; go_simp; try with_reducible rfl)
  try simp only [Act.put, List.setIfInBounds_toArray, List.set_cons_zero, List.set_cons_succ]
  refine wpAnyL_each (rs := [1]) (by kernel_rfl) (by simp) ?_
  refine EachL.cons (by rfl) (by rfl) (fun K hK => ?_) ?_
  · go_simp
    refine (HA _ (HBW.out.trans (hHeld.mono HBW.out.size))).out.mono ?_
    rintro e w2 ⟨g, gc, rfl, ho, hb⟩
    have ce : w2.cell? ⟨g, l.length, none⟩ = some (.int .u64 (endFrom 1 l : Int)) := by
      rw [ho.cellAt l.length (by omega), plRow_get l (Nat.le_refl _)]
      show some (Value.int .u64 (endFrom 1 (l.take l.length) : Int)) = _
      rw [List.take_length]
    have hgc : l.length + 1 ≤ gc ∧ gc ≤ maxLen := by
      rcases ho.2 with ⟨e, _⟩ | ⟨g', c', cur, e, _, _, h1, h2, _⟩
      · cases e
      · cases e
        exact ⟨h1, h2⟩
    obtain ⟨hgc1, hgc2⟩ := hgc
    have hll : (l.length : Int) < (l.length : Int) + 1 := by omega
    dsimp only
    refine hK.out _ _ (hHeld.trans (hb.mono hHeld.size)) (fun hHeld => ?_)
    clear hK K
    try simp only [Act.put, List.setIfInBounds_toArray, List.set_cons_zero, List.set_cons_succ]
    refine wpAnyL_move (i := 5) (v := ?_) (by rfl) (by kernel_rfl) (by kernel_rfl) (by kernel_rfl) (by rfl) (by exact fun _ _ _ h => h) (Or.inl ⟨by rfl, ?_⟩) (by assumption) ?_; rotate_left; · (intro w0; go_simp; try with_reducible rfl)
    try simp only [Act.put, List.setIfInBounds_toArray, List.set_cons_zero, List.set_cons_succ]
    refine wpAnyL_each (rs := [6]) (by kernel_rfl) (by simp) ?_
    refine EachL.cons (by rfl) (by rfl) (fun K hK => ?_) ?_
    · go_simp
      refine hK.out _ _ hHeld (fun hHeld => ?_)
      clear hK K
      try simp only [Act.put, List.setIfInBounds_toArray, List.set_cons_zero, List.set_cons_succ]
      refine wpAnyL_move (i := 7) (v := ?_) (by rfl) (by kernel_rfl) (by kernel_rfl) (by kernel_rfl) (by rfl) (by exact fun _ _ _ h => h) (Or.inl ⟨by rfl, ?_⟩) (by assumption) ?_; rotate_left; · (intro w0; go_simp; try with_reducible rfl)
      try simp only [Act.put, List.setIfInBounds_toArray, List.set_cons_zero, List.set_cons_succ]
      refine wpAnyL_move (i := 8) (v := ?_) (by rfl) (by kernel_rfl) (by kernel_rfl) (by kernel_rfl) (by rfl) (by exact fun _ _ _ h => h) (Or.inl ⟨by rfl, ?_⟩) (by assumption) ?_; rotate_left; · (intro w0; go_simp; try with_reducible rfl)
      try simp only [Act.put, List.setIfInBounds_toArray, List.set_cons_zero, List.set_cons_succ]
      refine wpAnyL_move (i := 9) (v := ?_) (by rfl) (by kernel_rfl) (by kernel_rfl) (by kernel_rfl) (by rfl) (by exact fun _ _ _ h => h) (Or.inl ⟨by rfl, ?_⟩) (by assumption) ?_; rotate_left; · (intro w0; go_simp; try with_reducible rfl)
      try simp only [Act.put, List.setIfInBounds_toArray, List.set_cons_zero, List.set_cons_succ]
      refine wpAnyL_move (i := 10) (v := ?_) (by rfl) (by kernel_rfl) (by kernel_rfl) (by kernel_rfl) (by rfl) (by exact fun _ _ _ h => h) (Or.inl ⟨by rfl, ?_⟩) (by assumption) ?_; rotate_left; · (intro w0; go_simp; try with_reducible rfl)
      try simp only [Act.put, List.setIfInBounds_toArray, List.set_cons_zero, List.set_cons_succ]
      refine wpAnyL_done (by kernel_rfl) ?_ _
      have HF : Hid (Below w.heap.size w w2) := HBW.out.trans (hHeld.mono HBW.out.size)
      clear hHeld ho hb ce
      go_wp2
      go_ret
      exact ⟨by rw [show (4194305 : Int) - (endFrom 1 l : Int) = 4194304 - ((endFrom 1 l : Int) - 1) by omega]; rfl, HF.out⟩
    exact EachL.nil
  exact EachL.nil

/-- what 'find' gives -/
def FindPost (w : World) (l : List ByteArray) (x : Int) (e : Ending) (w' : World) : Prop :=
  ∃ r : Int, e = .returned (.int .i64 r) ∧ ((∃ j, j < l.length ∧ (pl l j : Int) = x ∧ r = (j : Int)) ∨ ((∀ j, j < l.length → (pl l j : Int) ≠ x) ∧ r = -1)) ∧ Below w.heap.size w w'

set_option maxRecDepth 100000 in
set_option maxHeartbeats 4000000 in
theorem mfind_c (w : World) (lv : Value) (l : List ByteArray) (c1 c2 c3 : Value) (x : Int) (h : Reads w lv l) (hl : RecsOk l) (_ho1 : c1.oneCell' = true) (_ho2 : c2.oneCell' = true) (_ho3 : c3.oneCell' = true) :
    Calls Try.prog 76 #[.agg #[lv, c1, c2, c3], .int .u64 x] w (FindPost w l x) := by
  obtain ⟨la, lc, rfl⟩ := h.form
  have hlen := hl.len
  have B0 := Blk.new w 89 #[.slice la l.length lc, c1, c2, c3]
  have e0 : (w.alloc (.cells #[.slice la l.length lc, c1, c2, c3] 89)).cell? ⟨w.heap.size, 0, none⟩ = some (.slice la l.length lc) := B0.cell 0
  have e1 : (w.alloc (.cells #[.slice la l.length lc, c1, c2, c3] 89)).cell? ⟨w.heap.size, 1, none⟩ = some c1 := B0.cell 1
  have e2 : (w.alloc (.cells #[.slice la l.length lc, c1, c2, c3] 89)).cell? ⟨w.heap.size, 2, none⟩ = some c2 := B0.cell 2
  have e3 : (w.alloc (.cells #[.slice la l.length lc, c1, c2, c3] 89)).cell? ⟨w.heap.size, 3, none⟩ = some c3 := B0.cell 3
  have hbw : Below w.heap.size w (w.alloc (.cells #[.slice la l.length lc, c1, c2, c3] 89)) := (Below.refl _ _).alloc (Nat.le_refl _) _
  have hbs : w.heap.size < (w.alloc (.cells #[.slice la l.length lc, c1, c2, c3] 89)).heap.size := by simp
  have HA := Lib.hid (mat_c _ _ l c1 c2 c3 (h.below hbw) hl.len hl.end_ hl.sizes)
  have HBW := Lib.hid hbw
  clear h hl B0 hbw
  go_enter Try.func76, Try.ntmps76
  go_wp2_with (fail)
  generalize w.alloc (.cells #[.slice la l.length lc, c1, c2, c3] 89) = w1 at *
  refine HA.out.mono ?_
  rintro e w2 ⟨g, gc, rfl, ho, hb⟩
  have d0 : w2.cell? ⟨w.heap.size, 0, none⟩ = some (.slice la l.length lc) := (hb.cell (p := ⟨w.heap.size, 0, none⟩) hbs).trans e0
  have hgc : l.length + 1 ≤ gc ∧ gc ≤ maxLen := by
    rcases ho.2 with ⟨e, _⟩ | ⟨g', c', cur, e, _, _, h1, h2, _⟩
    · cases e
    · cases e
      exact ⟨h1, h2⟩
  obtain ⟨hgc1, hgc2⟩ := hgc
  have HO := Lib.hid ho
  have HB : Hid (Below w.heap.size w w2) := HBW.out.trans (hb.mono HBW.out.size)
  clear ho hb HA e0 e1 e2 e3
  go_wp2_with (fail)
  go_loop [6] (fun i => ∃ k : Nat, k ≤ l.length ∧ i = .int .i64 (k : Int) ∧ Hid (∀ j, j < k → (pl l j : Int) ≠ x)) (fun i => l.length - (intOf i).toNat)
  case atStart => exact ⟨0, Nat.zero_le _, rfl, fun j hj => by omega⟩
  case round =>
    obtain ⟨k, hk, rfl, hA⟩ := hrel
    by_cases hlt : k < l.length
    · have ck : w2.cell? ⟨g, k, none⟩ = some (.int .u64 (pl l k : Int)) := by
        rw [HO.out.cellAt k (by omega), plRow_get l (by omega)]
        rfl
      have hkk : (k : Int) < (l.length : Int) + 1 := by omega
      generalize hpk : (pl l k : Int) = pk at *
      have HPK := Lib.hid hpk
      clear hpk
      by_cases hq : pk = x
      · subst hq
        go_wp2
        go_ret
        exact ⟨(k : Int), rfl, .inl ⟨k, hlt, HPK.out, rfl⟩, HB.out⟩
      · go_wp2
        go_round
        case rel => exact ⟨k + 1, by omega, by go_num, fun j hj => by
            rcases Nat.lt_or_ge j k with h1 | h1
            · exact hA.out j h1
            · rw [show j = k by omega, HPK.out]
              exact hq⟩
        case measure => simp [intOf]; omega
    · obtain rfl : k = l.length := by omega
      go_wp2
      go_ret
      exact ⟨-1, rfl, .inr ⟨hA.out, rfl⟩, HB.out⟩
end Go.Proofs.Ytnobiekgifjaeaa
