/-
  The power fails at a call: the walks of 'Delete', of 'strikes' where it strikes, and of 'Plan'.
-/
import Derived.Test.YtnghgkaoopcglaaGreatV1
import Derived.Deep.RegionLaw
import Derived.Laws.IdiomCopy
namespace Go.Proofs.YtnghgkaoopcglaaGreat
open Go.RowKit
attribute [local go_sem ↓] Go.wp_at_zero Go.wp_at_succ

def fz0 : List Value := [.int .i64 0, .int .u64 0, .int .i64 0, .int .i64 0, .int .i64 0]
theorem zero_fall (w : World) : (zeroValue 78).run Tryz.prog w = .ok (.agg #[.int .i64 0, .int .u64 0, .int .i64 0, .int .i64 0, .int .i64 0]) w := by
  obtain ⟨i0, hi, hz0, hz1, hz2⟩ := info_parts infoFall
  simp [zeroValue, typeInfo, hi, hz0]
theorem clear_fall (w : World) (ty : TypeId) (b c : Nat) (hc : ∀ j, j < 5 → (w.cell? ⟨b, 0 + 0 + j, none⟩).isSome = true) (hf : ∀ j, j < 5 → w.frozen? ⟨b, 0 + 0 + j, none⟩ = false) :
    (Builtin.clear_ #[93] ty #[.slice (some ⟨b, 0, none⟩) 1 c]).run Tryz.prog w = .ok (.tuple #[]) (w.setCells b 0 fz0) := by
  have hst := run_storeCells_cells (P := Tryz.prog) b 0 fz0 0 w (fun j hj => hc j hj) (fun j hj => hf j hj) (by
    intro v hv
    simp [fz0] at hv
    rcases hv with rfl | rfl | rfl <;> rfl)
  have hz := zero_fall w
  have hzc : (Builtin.zeroCells (Value.agg #[.int .i64 0, .int .u64 0, .int .i64 0, .int .i64 0, .int .i64 0]).cells 1).toList = fz0 := by
    simp [Builtin.zeroCells, Value.cells, fz0]
    rfl
  simp only [Nat.add_zero] at hst
  simp [Builtin.clear_, run_underlying Tryz.underlying93, hz, hzc, hst]

theorem blk_setCells (g : Nat) (t : TypeId) : ∀ (vs : List Value) (o : Nat) (w : World) (cur : Array Value), w.heap[g]? = some (.cells cur t (0, 0)) → ∃ cur' : Array Value, (w.setCells g o vs).heap[g]? = some (.cells cur' t (0, 0)) ∧ cur'.size = cur.size
  | [], _, _, cur, h => ⟨cur, h, rfl⟩
  | v :: vs, o, w, cur, h => by
    obtain ⟨c, h1, h2⟩ := blk_setCells g t vs (o + 1) (w.setCell ⟨g, o, none⟩ v) _ (Blk.set_ h o v)
    exact ⟨c, h1, by rw [h2]; simp⟩
theorem step_setCells {w : World} (g : Nat) : ∀ (vs : List Value) (o : Nat) {w' : World}, Step (fun r => r = g) w w' → Step (fun r => r = g) w (w'.setCells g o vs)
  | [], _, _, h => h
  | v :: vs, o, _, h => step_setCells g vs (o + 1) (h.setCell (.inl rfl) v)

set_option maxRecDepth 100000 in
set_option maxHeartbeats 1000000 in
theorem delete_one {base : Nat} (w : World) (g cap : Nat) (f : Fl) (h : w.ownsRow base 78 5 (.slice (some ⟨g, 0, none⟩) 1 cap) 1 (flsCells [f])) :
    Calls Tryz.prog 149 #[.slice (some ⟨g, 0, none⟩) 1 cap, .int .i64 0, .int .i64 1] w fun e w' => e = .returned (.slice (some ⟨g, 0, none⟩) 0 cap) ∧ w'.ownsRow base 78 5 (.slice (some ⟨g, 0, none⟩) 0 cap) 0 [] ∧ Step (fun r => r = g) w w' := by
  obtain ⟨i0, hi, hz0, hz1, hz2⟩ := info_parts infoFall
  have hcell : ∀ q j, j < 5 → ((w.drewN q).cell? ⟨g, 0 + 0 + j, none⟩).isSome = true := fun q j hj => by
    have := h.cellAt j (by omega)
    show (w.cell? _).isSome = true
    rw [show 0 + 0 + j = j by omega, this]
    have hl : (flsCells [f]).length = 5 := rfl
    simp [hl, hj]
  have hfr : ∀ q j, j < 5 → (w.drewN q).frozen? ⟨g, 0 + 0 + j, none⟩ = false := fun q j hj => h.frozenAt (0 + 0 + j)
  have hcap : 1 ≤ cap ∧ cap ≤ maxLen := by
    rcases h.2 with ⟨e, _⟩ | ⟨g', c', cur, e, _, hh, h1, h2, _⟩
    · cases e
    · cases e
      exact ⟨h1, h2⟩
  obtain ⟨hc1, hc2⟩ := hcap
  have hclr : ∀ q ty, Hid ((Builtin.clear_ #[93] ty #[.slice (some ⟨g, 0, none⟩) 1 cap]).run Tryz.prog (w.drewN q) = .ok (.tuple #[]) ((w.drewN q).setCells g 0 fz0)) := fun q ty => clear_fall _ ty g cap (hcell q) (hfr q)
  have hclr1 : ∀ ty, (Builtin.clear_ #[93] ty #[.slice (some ⟨g, 0, none⟩) 1 cap]).run Tryz.prog w.drew = .ok (.tuple #[]) (w.drew.setCells g 0 fz0) := fun ty => hclr 1 ty
  have HH := Lib.hid h
  obtain ⟨A, hA⟩ : ∃ A : Addr, (if cap = 1 then some (⟨g, 0, none⟩ : Addr) else some ⟨g, 5, none⟩) = some A := by
    by_cases h : cap = 1
    · exact ⟨_, if_pos h⟩
    · exact ⟨_, if_neg h⟩
  clear h hcell hfr hclr
  go_enter Tryz.func149, Tryz.ntmps149
  go_wp2_with fail
  go_region_law (refine step_append_room rfl (.tmp 22) (.tmp 25) 93 rfl 78 i0 5 Tryz.underlying93 hi hz1 g 0 0 cap (by simp [Act.eval, Act.put]) A 0 (cap - 1) [] (by simp [Act.eval, Act.put]) rfl (fun j u hu => by simp at hu) (fun u hu => by simp at hu) (by omega) (fun j hj => by simp at hj) ?_)
  have hnil : ∀ (W : World) (o : Nat), W.setCells g o [] = W := fun _ _ => rfl
  simp only [hnil]
  go_wp2
  go_ret
  refine ⟨rfl, ?_, step_setCells g fz0 0 ((Step.refl _ w).drewN 1)⟩
  rcases HH.out.2 with ⟨e, _⟩ | ⟨g', c', cur, e, hb, hh, h1, h2, h3, _⟩
  · cases e
  · cases e
    obtain ⟨cur', k1, k2⟩ := blk_setCells g 78 fz0 0 w.drew cur hh
    exact ⟨rfl, .inr ⟨g, cap, cur', rfl, hb, k1, Nat.zero_le _, h2, by rw [k2, h3], by simp⟩⟩

theorem own_base {w : World} {B : Nat} {e : TypeId} {size n : Nat} {v : Value} {xs : List Value} (h : w.ownsRow B e size v n xs) : w.ownsRow 0 e size v n xs := by
  refine ⟨h.1, ?_⟩
  rcases h.2 with h2 | ⟨g, cap, cur, e, _, r⟩
  · exact .inl h2
  · exact .inr ⟨g, cap, cur, e, Nat.zero_le _, r⟩
def fallCellsL (f : Fl) : List Value := [.int .i64 f.at_, .int .u64 f.keep, .int .i64 f.torn, .int .i64 f.bytes, .int .i64 f.log]
theorem own_one_form {w : World} {B : Nat} {v : Value} {xs : List Value} (h : w.ownsRow B 78 5 v 1 xs) : ∃ g cap, v = .slice (some ⟨g, 0, none⟩) 1 cap ∧ B ≤ g ∧ g < w.heap.size := by
  rcases h.2 with ⟨_, e⟩ | ⟨g, cap, cur, e, hb, hh, _⟩
  · cases e
  · exact ⟨g, cap, e, hb, (Array.getElem?_eq_some_iff.1 hh).1⟩

set_option maxRecDepth 100000 in
set_option maxHeartbeats 2000000 in
theorem strikes_hit (b : Nat) (m : Dk) (f : Fl) (hf : f.ok) (hp : m.plan = [f]) (hat : f.at_ = m.calls) (hl : m.loose.length ≤ 1000000000) : StrikesOk b m := by
  intro w F h
  have hs : m.strikes = (true, { m with plan := [] }.crash f) := by
    unfold Dk.strikes
    have e1 : findAt m.calls m.plan = some 0 := by rw [hp]; unfold findAt; rw [if_pos hat]
    rw [e1, hp]
    rfl
  rw [hs]
  obtain ⟨mb, lv, pv, h⟩ := h
  have hpl := h.plan
  rw [hp] at hpl
  obtain ⟨pg, pc, rfl, -, hpg⟩ := own_one_form hpl
  have c6 := h.cells.2.2.2.2.2.2.1
  have c7 := h.cells.2.2.2.2.2.2.2.1
  have hb := h.lt b h.fb
  have hbx : Below w.heap.size w (w.alloc (.cells #[.pointer (some ⟨b, 0, none⟩)] 72)) := (Below.refl _ _).alloc (Nat.le_refl _) _
  have hfl : FlsAt (w.alloc (.cells #[.pointer (some ⟨b, 0, none⟩)] 72)) (.slice (some ⟨pg, 0, none⟩) 1 pc) [f] := (FlsAt.of_own (l := [f]) hpl).keep hbx
  have hi := indexFall_c [f] (.slice (some ⟨pg, 0, none⟩) 1 pc) b w.heap.size m.calls (w.alloc (.cells #[.pointer (some ⟨b, 0, none⟩)] 72)) hfl (Nat.le_of_lt (by decide : (1 : Nat) < 1000000000000)) (by go_simp) (by go_simp)
  have e0 : idxOf m.calls [f] = 0 := by unfold idxOf findAt; rw [if_pos hat]; rfl
  rw [e0] at hi
  have HAT := Lib.hid hat
  have HFO := Lib.hid hf
  have HLO := Lib.hid hl
  have HPP := Lib.hid hp
  have HI := Lib.hid hi
  have H := Lib.hid h
  have HPL := Lib.hid hpl
  clear h hi hfl hs hpl e0 hat hf hl hp
  go_enter Tryz.func122, Tryz.ntmps122
  go_wp2_with (fail)
  refine HI.out.mono ?_
  rintro e w1 ⟨rfl, hb1⟩
  have hbw1 : Below w.heap.size w w1 := hbx.trans (hb1.mono (by simp))
  have d7 : w1.cell? ⟨b, 7, none⟩ = some (.slice (some ⟨pg, 0, none⟩) 1 pc) := (hbw1.cell (p := ⟨b, 7, none⟩) hb).trans c7
  have d0 : w1.cell? ⟨w.heap.size, 0, none⟩ = some (.pointer (some ⟨b, 0, none⟩)) := (hb1.cell (by simp)).trans (by go_simp)
  have HC1 : ∀ j u, (fallCellsL f)[j]? = some u → w1.cell? ⟨pg, j, none⟩ = some u := fun j u hu => by
    have hj := (List.getElem?_eq_some_iff.1 hu).1
    have := HPL.out.cellAt j (by simpa [fallCellsL] using hj)
    rw [show (flsCells [f])[j]? = (fallCellsL f)[j]? by simp [flsCells, flCells, fallCellsL], hu] at this
    exact (hbw1.cell (p := ⟨pg, j, none⟩) hpg).trans this
  have g0 := HC1 0 _ rfl
  have g1 := HC1 1 _ rfl
  have g2 := HC1 2 _ rfl
  have g3 := HC1 3 _ rfl
  have g4 := HC1 4 _ rfl
  have HB1 := Lib.hid hbw1
  have hs1 : w.heap.size < w1.heap.size := Nat.lt_of_lt_of_le (by simp) hb1.size
  clear hbw1 hb1 HC1 hbx c6 c7
  go_wp2_with (fail)
  have V0 := (Blk.new w1 78 #[.int .i64 f.at_, .int .u64 f.keep, .int .i64 f.torn, .int .i64 f.bytes, .int .i64 f.log]).cell
  have hb2 : Below w1.heap.size w1 (w1.alloc (.cells #[.int .i64 f.at_, .int .u64 f.keep, .int .i64 f.torn, .int .i64 f.bytes, .int .i64 f.log] 78)) := (Below.refl _ _).alloc (Nat.le_refl _) _
  have hs2 : w1.heap.size < (w1.alloc (.cells #[.int .i64 f.at_, .int .u64 f.keep, .int .i64 f.torn, .int .i64 f.bytes, .int .i64 f.log] 78)).heap.size := by simp
  generalize w1.alloc (.cells #[.int .i64 f.at_, .int .u64 f.keep, .int .i64 f.torn, .int .i64 f.bytes, .int .i64 f.log] 78) = w2 at *
  have HB2 : Hid (Below w.heap.size w w2) := HB1.out.trans (hb2.mono HB1.out.size)
  have D0 : Hid (w2.cell? ⟨w.heap.size, 0, none⟩ = some (.pointer (some ⟨b, 0, none⟩))) := (hb2.cell (p := ⟨w.heap.size, 0, none⟩) hs1).trans d0
  have D7 : Hid (w2.cell? ⟨b, 7, none⟩ = some (.slice (some ⟨pg, 0, none⟩) 1 pc)) := (hb2.cell (p := ⟨b, 7, none⟩) (by show b < w1.heap.size; omega)).trans d7
  have VV := Lib.hid V0
  have q1 : w.heap.size < w2.heap.size := by omega
  have q2 : b < w2.heap.size := by omega
  have q3 : w1.heap.size < w2.heap.size := hs2
  have HCL : ∀ W, Below w2.heap.size w2 W → Hid (Calls Tryz.prog 80 #[.slice (some ⟨pg, 0, none⟩) 1 pc] W (CopyPost W [f])) := fun W hW => by
    have hW' := HB2.out.trans (hW.mono HB2.out.size)
    exact cloneFall_some W pg 0 1 pc [f] ((FlsAt.of_own (l := [f]) HPL.out).keep hW') (Nat.lt_of_lt_of_le hpg hW'.size) (Nat.le_of_lt (by decide : (1 : Nat) < 1000000000000))
  have HDL : ∀ W B g c, W.ownsRow B 78 5 (.slice (some ⟨g, 0, none⟩) 1 c) 1 (flsCells [f]) → Hid (Calls Tryz.prog 149 #[.slice (some ⟨g, 0, none⟩) 1 c, .int .i64 0, .int .i64 1] W fun e w' => e = .returned (.slice (some ⟨g, 0, none⟩) 0 c) ∧ w'.ownsRow B 78 5 (.slice (some ⟨g, 0, none⟩) 0 c) 0 [] ∧ Step (fun r => r = g) W w') := fun W B g c h => delete_one W g c f h
  clear d0 d7 g0 g1 g2 g3 g4 V0 hb2
  refine wp_region_late (S := Below w2.heap.size w2) (late := [12]) (by kernel_rfl) (below_drewN w2 1) (fun hHeld => ?_)
  refine wpAnyL_load (i := 0) (v := ?_) (by rfl) (by kernel_rfl) (by kernel_rfl) (by kernel_rfl) (by rfl) (by kernel_rfl) (by exact fun _ _ _ h => h) (Or.inl ⟨by rfl, ?_⟩) (by assumption) ?_; rotate_left; · (intro w0 hS0; have hS1 : w0.cell? ⟨w.heap.size, 0, none⟩ = some (.pointer (some ⟨b, 0, none⟩)) := (hS0.cell (p := ⟨w.heap.size, 0, none⟩) q1).trans D0.out; have hS2 : w0.cell? ⟨b, 7, none⟩ = some (.slice (some ⟨pg, 0, none⟩) 1 pc) := (hS0.cell (p := ⟨b, 7, none⟩) q2).trans D7.out; go_simp; try with_reducible rfl)
  try simp only [Act.put, List.setIfInBounds_toArray, List.set_cons_zero, List.set_cons_succ]
  refine wpAnyL_load (i := 1) (v := ?_) (by rfl) (by kernel_rfl) (by kernel_rfl) (by kernel_rfl) (by rfl) (by kernel_rfl) (by exact fun _ _ _ h => h) (Or.inl ⟨by rfl, ?_⟩) (by assumption) ?_; rotate_left; · (intro w0 hS0; have hS1 : w0.cell? ⟨w.heap.size, 0, none⟩ = some (.pointer (some ⟨b, 0, none⟩)) := (hS0.cell (p := ⟨w.heap.size, 0, none⟩) q1).trans D0.out; have hS2 : w0.cell? ⟨b, 7, none⟩ = some (.slice (some ⟨pg, 0, none⟩) 1 pc) := (hS0.cell (p := ⟨b, 7, none⟩) q2).trans D7.out; go_simp; try with_reducible rfl)
  try simp only [Act.put, List.setIfInBounds_toArray, List.set_cons_zero, List.set_cons_succ]
  refine wpAnyL_move (i := 2) (v := ?_) (by rfl) (by kernel_rfl) (by kernel_rfl) (by kernel_rfl) (by rfl) (by exact fun _ _ _ h => h) (Or.inl ⟨by rfl, ?_⟩) (by assumption) ?_; rotate_left; · (intro w0; go_simp; try with_reducible rfl)
  try simp only [Act.put, List.setIfInBounds_toArray, List.set_cons_zero, List.set_cons_succ]
  refine wpAnyL_move (i := 3) (v := ?_) (by rfl) (by kernel_rfl) (by kernel_rfl) (by kernel_rfl) (by rfl) (by exact fun _ _ _ h => h) (Or.inl ⟨by rfl, ?_⟩) (by assumption) ?_; rotate_left; · (intro w0; go_simp; try with_reducible rfl)
  try simp only [Act.put, List.setIfInBounds_toArray, List.set_cons_zero, List.set_cons_succ]
  refine wpAnyL_load (i := 4) (v := ?_) (by rfl) (by kernel_rfl) (by kernel_rfl) (by kernel_rfl) (by rfl) (by kernel_rfl) (by exact fun _ _ _ h => h) (Or.inl ⟨by rfl, ?_⟩) (by assumption) ?_; rotate_left; · (intro w0 hS0; have hS1 : w0.cell? ⟨w.heap.size, 0, none⟩ = some (.pointer (some ⟨b, 0, none⟩)) := (hS0.cell (p := ⟨w.heap.size, 0, none⟩) q1).trans D0.out; have hS2 : w0.cell? ⟨b, 7, none⟩ = some (.slice (some ⟨pg, 0, none⟩) 1 pc) := (hS0.cell (p := ⟨b, 7, none⟩) q2).trans D7.out; go_simp; try with_reducible rfl)
  try simp only [Act.put, List.setIfInBounds_toArray, List.set_cons_zero, List.set_cons_succ]
  refine wpAnyL_move (i := 6) (v := ?_) (by rfl) (by kernel_rfl) (by kernel_rfl) (by kernel_rfl) (by rfl) (by exact fun _ _ _ h => h) (Or.inl ⟨by rfl, ?_⟩) (by assumption) ?_; rotate_left; · (intro w0; go_simp; try with_reducible rfl)
  try simp only [Act.put, List.setIfInBounds_toArray, List.set_cons_zero, List.set_cons_succ]
  refine wpAnyL_move (i := 7) (v := ?_) (by rfl) (by kernel_rfl) (by kernel_rfl) (by kernel_rfl) (by rfl) (by exact fun _ _ _ h => h) (Or.inl ⟨by rfl, ?_⟩) (by assumption) ?_; rotate_left; · (intro w0; go_simp; try with_reducible rfl)
  try simp only [Act.put, List.setIfInBounds_toArray, List.set_cons_zero, List.set_cons_succ]
  refine wpAnyL_move (i := 8) (v := ?_) (by rfl) (by kernel_rfl) (by kernel_rfl) (by kernel_rfl) (by rfl) (by exact fun _ _ _ h => h) (Or.inl ⟨by rfl, ?_⟩) (by assumption) ?_; rotate_left; · (intro w0; go_simp; try with_reducible rfl)
  try simp only [Act.put, List.setIfInBounds_toArray, List.set_cons_zero, List.set_cons_succ]
  refine wpAnyL_each (rs := [5]) (by kernel_rfl) (by simp) ?_
  refine EachL.cons (by rfl) (by rfl) (fun K hK => ?_) ?_
  · go_simp
    refine (HCL _ hHeld).out.mono ?_
    rintro e w4 ⟨v4, rfl, ho4, hb4⟩
    obtain ⟨g4, c4, rfl, hg4, hl4⟩ := own_one_form ho4
    have hge : w2.heap.size ≤ g4 := Nat.le_trans hHeld.size hg4
    dsimp only
    refine hK.out _ _ (hHeld.trans (hb4.mono hHeld.size)) (fun hHeld => ?_)
    clear hK K
    try simp only [Act.put, List.setIfInBounds_toArray, List.set_cons_zero, List.set_cons_succ]
    refine wpAnyL_each (rs := [9]) (by kernel_rfl) (by simp) ?_
    refine EachL.cons (by rfl) (by rfl) (fun K hK => ?_) ?_
    · go_simp
      refine (HDL _ _ g4 c4 ho4).out.mono ?_
      rintro e w5 ⟨rfl, ho5, hs5⟩
      dsimp only
      refine hK.out _ _ (hHeld.trans (hs5.belowB (fun r hr => by subst hr; exact hge) hHeld.size)) (fun hHeld => ?_)
      clear hK K
      try simp only [Act.put, List.setIfInBounds_toArray, List.set_cons_zero, List.set_cons_succ]
      have k7 : w5.cell? ⟨b, 7, none⟩ = some (.slice (some ⟨pg, 0, none⟩) 1 pc) := (hHeld.cell (p := ⟨b, 7, none⟩) q2).trans D7.out
      have hbb := HB2.out.trans (hHeld.mono HB2.out.size)
      have kf : w5.frozen? ⟨b, 7, none⟩ = false := (hbb.frozen (p := ⟨b, 7, none⟩) hb).trans (H.out.blk.frozen 7)
      have HE5 := Lib.hid hHeld
      have HBB := Lib.hid hbb
      clear hbb
      refine wpAnyL_move (i := 10) (v := ?_) (by rfl) (by kernel_rfl) (by kernel_rfl) (by kernel_rfl) (by rfl) (by exact fun _ _ _ h => h) (Or.inl ⟨by rfl, ?_⟩) (by assumption) ?_; rotate_left; · (intro w0; go_simp; try with_reducible rfl)
      try simp only [Act.put, List.setIfInBounds_toArray, List.set_cons_zero, List.set_cons_succ]
      refine wpAnyL_move (i := 11) (v := ?_) (by rfl) (by kernel_rfl) (by kernel_rfl) (by kernel_rfl) (by rfl) (by exact fun _ _ _ h => h) (Or.inl ⟨by rfl, ?_⟩) (by assumption) ?_; rotate_left; · (intro w0; go_simp; try with_reducible rfl)
      try simp only [Act.put, List.setIfInBounds_toArray, List.set_cons_zero, List.set_cons_succ]
      refine wpAnyL_late (i := 12) (by kernel_rfl) (by rfl) (by rfl) (fun K hK => ?_)
      go_simp
      refine hK.out _ _ ?_
      clear hK K
      try simp only [Act.put, List.setIfInBounds_toArray, List.set_cons_zero, List.set_cons_succ]
      refine wpAny_done (by kernel_rfl) ?_ _
      have h6 : DiskIn (w5.setCell ⟨b, 7, none⟩ (.slice (some ⟨g4, 0, none⟩) 0 c4)) (fun r => F r ∨ r = g4) b mb lv (.slice (some ⟨g4, 0, none⟩) 0 c4) { m with plan := [] } := by
        have h5 := H.out.below HBB.out
        have ho : ∀ r, r ≠ b → (w5.setCell ⟨b, 7, none⟩ (.slice (some ⟨g4, 0, none⟩) 0 c4)).heap[r]? = w5.heap[r]? := fun r hr => Below.heap_setCell _ _ _ r hr
        have hsz : (w5.setCell ⟨b, 7, none⟩ (.slice (some ⟨g4, 0, none⟩) 0 c4)).heap.size = w5.heap.size := by simp [World.setCell]
        have hne : g4 ≠ b := by omega
        have hg5 : g4 < w5.heap.size := ho5.lt g4 rfl |>.2
        have ok := H.out.ok
        exact h5.anew (fun r hr _ => ho r hr) (Nat.le_of_eq hsz.symm) (h5.blk.set_ 7 _) rfl (own_same h5.loose (fun g hg => ho g (h5.loose_ne g hg))) (own_base (own_same ho5 (fun k hk => ho k (by simp [Value.ownBlock] at hk; omega)))) (fun _ h => .inl h) (fun g hg => .inl (h5.fl g hg)) (fun g hg => .inr (by simp [Value.ownBlock] at hg; omega)) ⟨ok.room1, ok.room2, ok.calls1, ok.calls2, ok.logs, ok.loose, ok.pages⟩ (fun r hr => by rw [hsz]; rcases hr with hr | hr; exact h5.lt r hr; omega)
      have s6 : Step F w (w5.setCell ⟨b, 7, none⟩ (.slice (some ⟨g4, 0, none⟩) 0 c4)) := (Step.below HBB.out).setCell (.inl H.out.fb) _
      have e0 : (w5.setCell ⟨b, 7, none⟩ (.slice (some ⟨g4, 0, none⟩) 0 c4)).cell? ⟨w.heap.size, 0, none⟩ = some (.pointer (some ⟨b, 0, none⟩)) := (World.cell?_setCell_far _ _ _ _ (by show b ≠ w.heap.size; omega)).trans ((HE5.out.cell (p := ⟨w.heap.size, 0, none⟩) q1).trans D0.out)
      have eV : ∀ j, (w5.setCell ⟨b, 7, none⟩ (.slice (some ⟨g4, 0, none⟩) 0 c4)).cell? ⟨w1.heap.size, j, none⟩ = #[Value.int .i64 f.at_, .int .u64 f.keep, .int .i64 f.torn, .int .i64 f.bytes, .int .i64 f.log][j]? := fun j => (World.cell?_setCell_far _ _ _ _ (by show b ≠ w1.heap.size; omega)).trans ((HE5.out.cell (p := ⟨w1.heap.size, j, none⟩) q3).trans (VV.out j))
      have e1 := eV 0
      have e2 := eV 1
      have e3 := eV 2
      have e4 := eV 3
      have e5 := eV 4
      generalize w5.setCell ⟨b, 7, none⟩ (.slice (some ⟨g4, 0, none⟩) 0 c4) = w6 at *
      have HCR := Lib.hid (crash_c (⟨mb, lv, _, h6⟩ : DiskAt w6 (fun r => F r ∨ r = g4) b { m with plan := [] }) f HFO.out HLO.out)
      have HS6 : Hid (Step F w w6 ∧ More F (fun r => F r ∨ r = g4) w) := ⟨s6, fun r hr => by rcases hr with hr | hr; exact .inl hr; right; omega⟩
      clear h6 s6 eV k7 kf hHeld ho5 hs5 ho4 hb4 HBB HE5
      go_wp2_with (fail)
      refine HCR.out.mono ?_
      rintro e w7 ⟨rfl, hq⟩
      go_wp2
      go_ret
      exact ⟨rfl, DPost.trans HS6.out.1 HS6.out.2 hq⟩
    exact EachL.nil
  exact EachL.nil
end Go.Proofs.YtnghgkaoopcglaaGreat
