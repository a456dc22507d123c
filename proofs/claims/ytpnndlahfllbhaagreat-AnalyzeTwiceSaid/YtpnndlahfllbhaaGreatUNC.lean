/-
  The walk of rec.Check. Printed by nc.py.
-/
import Derived.Test.YtpnndlahfllbhaaGreatUN1
import Derived.Deep.CutRange
namespace Go.Proofs.YtpnndlahfllbhaaGreat
open Go.RowKit
attribute [local go_sem ↓] Go.wp_at_zero Go.wp_at_succ

theorem op_none_iff (k a : Int) (s d : ByteArray) : (⟨k, a, s, d⟩ : PgOp) = .none ↔ (k = 0 ∧ a = 0 ∧ s.size = 0 ∧ d.size = 0) := by
  unfold PgOp.none
  constructor
  · intro h
    cases h
    exact ⟨rfl, rfl, rfl, rfl⟩
  · rintro ⟨rfl, rfl, h1, h2⟩
    rw [ByteArray.size_eq_zero_iff.1 h1, ByteArray.size_eq_zero_iff.1 h2]
    rfl
theorem en_none_iff (key : ByteArray) (rp : Nat) (rs : Int) : (⟨key, rp, rs⟩ : En) = .none ↔ (key.size = 0 ∧ rp = 0 ∧ rs = 0) := by
  unfold En.none
  constructor
  · intro h
    cases h
    exact ⟨rfl, rfl, rfl⟩
  · rintro ⟨h1, rfl, rfl⟩
    rw [ByteArray.size_eq_zero_iff.1 h1]
    rfl
def TB (b : Bool) (P : Prop) : Prop := b = true ↔ P
def okP1 (kind : Int) (tx : Int) : Prop := (1 ≤ kind ∧ kind ≤ 8 ∧ 0 ≤ tx ∧ tx < 2147483648)
def okP2 (kind : Int) (tx : Int) (undo : Int) : Prop := okP1 kind tx ∧ (0 ≤ undo ∧ undo ≤ 2)
def okP3 (kind : Int) (tx : Int) (undo : Int) (page : Nat) (k : Int) (a : Int) (s : ByteArray) (d : ByteArray) : Prop := okP2 kind tx undo ∧ (((kind = 1 ∨ kind = 2) → page ≠ 0 ∧ PgOp.ok ⟨k, a, s, d⟩) ∧ (¬ (kind = 1 ∨ kind = 2) → page = 0 ∧ (k = 0 ∧ a = 0 ∧ s.size = 0 ∧ d.size = 0) ∧ undo = 0))
def okP4 (kind : Int) (tx : Int) (undo : Int) (page : Nat) (k : Int) (a : Int) (s : ByteArray) (d : ByteArray) (index : Int) (key : ByteArray) (rp : Nat) (rs : Int) (live : Bool) : Prop := okP3 kind tx undo page k a s d ∧ ((undo = 2 → 0 ≤ index ∧ index < 65536 ∧ key.size ≤ 64 ∧ 0 ≤ rs ∧ rs < 65536) ∧ (undo ≠ 2 → index = 0 ∧ (key.size = 0 ∧ rp = 0 ∧ rs = 0) ∧ live = false))
def okP5 (kind : Int) (tx : Int) (undo : Int) (page : Nat) (k : Int) (a : Int) (s : ByteArray) (d : ByteArray) (index : Int) (key : ByteArray) (rp : Nat) (rs : Int) (live : Bool) (next : Nat) : Prop := okP4 kind tx undo page k a s d index key rp rs live ∧ (((kind = 2 ∨ kind = 3) ∨ next = 0) ∧ (kind = 1 ∨ undo = 0))
def okP6 (kind : Int) (tx : Int) (undo : Int) (page : Nat) (k : Int) (a : Int) (s : ByteArray) (d : ByteArray) (index : Int) (key : ByteArray) (rp : Nat) (rs : Int) (live : Bool) (next : Nat) (txs : List Ts) (dirty : List (Nat × Nat)) : Prop := okP5 kind tx undo page k a s d index key rp rs live next ∧ ((kind = 8 ∨ (txs.length = 0 ∧ dirty.length = 0)) ∧ txs.length ≤ 64 ∧ dirty.length ≤ 256)
def okL (b : Bool) (txs : List Ts) (j : Nat) : Prop := b = true ∧ ∀ t ∈ txs.take j, t.ok
section
variable {kind tx : Int} {prev next page : Nat} {k a : Int} {s d : ByteArray} {undo index : Int} {key : ByteArray} {rp : Nat} {rs : Int} {live : Bool} {txs : List Ts} {dirty : List (Nat × Nat)}
theorem rec_ok_iff : (⟨kind, tx, prev, next, page, ⟨k, a, s, d⟩, undo, index, ⟨key, rp, rs⟩, live, txs, dirty⟩ : Rc).ok ↔ ((okP6 kind tx undo page k a s d index key rp rs live next txs dirty) ∧ ∀ t ∈ txs, t.ok) := by
  rw [Rc.ok_iff]
  unfold Rc.ok1 Rc.ok2 Rc.ok3 Rc.ok4 Rc.ok5 Rc.ok6 Rc.chg Rc.nxt Rc.tab okP6 okP5 okP4 okP3 okP2 okP1
  simp only [op_none_iff, en_none_iff]
set_option maxRecDepth 100000 in
set_option maxHeartbeats 8000000 in
theorem recCheck_A (hmode : ¬ (okP3 kind tx undo page k a s d)) (ta da : Option Addr) (tc dc : Nat) (w : World) (hT : RdC 4 tsC w (.slice ta txs.length tc) txs) (hlt : txs.length ≤ maxLen) (hld : dirty.length ≤ maxLen) :
    Calls Tryz.prog 74 #[.agg #[.int .i64 kind, .int .i64 tx, .int .u64 (prev : Int), .int .u64 (next : Int), .int .u32 (page : Int), .int .i64 k, .int .i64 a, .string s, .string d, .int .i64 undo, .int .i64 index, .string key, .int .u32 (rp : Int), .int .i64 rs, .bool live, .slice ta txs.length tc, .slice da dirty.length dc]] w fun e w' => e = .returned (.int .i64 (if (⟨kind, tx, prev, next, page, ⟨k, a, s, d⟩, undo, index, ⟨key, rp, rs⟩, live, txs, dirty⟩ : Rc).ok then 0 else 40)) ∧ Below w.heap.size w w' := by
  have HF := Lib.hid hmode
  clear hmode
  obtain ⟨R, hR⟩ : ∃ x : Int, x = if (⟨kind, tx, prev, next, page, ⟨k, a, s, d⟩, undo, index, ⟨key, rp, rs⟩, live, txs, dirty⟩ : Rc).ok then 0 else 40 := ⟨_, rfl⟩
  rw [← hR]
  have HRR := Lib.hid hR
  clear hR
  have HX := Lib.hid (BoxAt.new w 63 #[.int .i64 kind, .int .i64 tx, .int .u64 (prev : Int), .int .u64 (next : Int), .int .u32 (page : Int), .int .i64 k, .int .i64 a, .string s, .string d, .int .i64 undo, .int .i64 index, .string key, .int .u32 (rp : Int), .int .i64 rs, .bool live, .slice ta txs.length tc, .slice da dirty.length dc])
  have HT := Lib.hid hT
  have HLT := Lib.hid hlt
  have HLD := Lib.hid hld
  clear hT hlt hld
  obtain ⟨bc, hbc⟩ : ∃ x, x = decide (kind = 1 ∨ kind = 2) := ⟨_, rfl⟩
  obtain ⟨bn, hbn⟩ : ∃ x, x = decide (kind = 2 ∨ kind = 3) := ⟨_, rfl⟩
  obtain ⟨bt, hbt⟩ : ∃ x, x = decide (kind = 8) := ⟨_, rfl⟩
  have HN : ∀ W, Hid (Calls Tryz.prog 88 #[.int .i64 kind] W fun e w' => e = .returned (.tuple #[.bool bc, .bool bn, .bool bt]) ∧ w' = W) := fun W => by
    rw [hbc, hbn, hbt]
    exact recNamed_c kind W
  have HBC := Lib.hid hbc
  have HBN := Lib.hid hbn
  have HBT := Lib.hid hbt
  clear hbc hbn hbt
  go_enter Tryz.func74, Tryz.ntmps74
  go_wp2_with (fail)
  refine (HN _).out.mono ?_
  rintro e w' ⟨rfl, rfl⟩
  clear HN
  go_upto_region 2 with (fail)
  go_cut [6] from 16 to 33 (fun s6 wx => ∃ b, s6 = .bool b ∧ Hid (TB b (okP1 kind tx)) ∧ Hid (BoxAt w 63 #[.int .i64 kind, .int .i64 tx, .int .u64 (prev : Int), .int .u64 (next : Int), .int .u32 (page : Int), .int .i64 k, .int .i64 a, .string s, .string d, .int .i64 undo, .int .i64 index, .string key, .int .u32 (rp : Int), .int .i64 rs, .bool live, .slice ta txs.length tc, .slice da dirty.length dc] wx))
  case first =>
    by_cases h1 : 1 ≤ kind
    · skip
      by_cases h2 : kind ≤ 8
      · skip
        by_cases h3 : 0 ≤ tx
        · skip
          by_cases h4 : tx < 2147483648
          · skip
            go_wp2_with (fail)
            go_meet
            exact ⟨true, rfl, Lib.hid (iff_of_true rfl (by unfold okP1; omega)), HX⟩
          · skip
            go_wp2_with (fail)
            go_meet
            exact ⟨false, rfl, Lib.hid (iff_of_false Bool.false_ne_true (by unfold okP1; omega)), HX⟩
        · skip
          go_wp2_with (fail)
          go_meet
          exact ⟨false, rfl, Lib.hid (iff_of_false Bool.false_ne_true (by unfold okP1; omega)), HX⟩
      · skip
        go_wp2_with (fail)
        go_meet
        exact ⟨false, rfl, Lib.hid (iff_of_false Bool.false_ne_true (by unfold okP1; omega)), HX⟩
    · skip
      go_wp2_with (fail)
      go_meet
      exact ⟨false, rfl, Lib.hid (iff_of_false Bool.false_ne_true (by unfold okP1; omega)), HX⟩
  case rest =>
  obtain ⟨b, rfl, hb, HX1⟩ := hcut
  clear HX
  have HX := HX1
  clear HX1
  have c9 : wc.cell? ⟨w.heap.size, 9, none⟩ = some (.int .i64 undo) := HX.out.blk.cell 9
  go_upto_region 3 with (fail)
  go_cut [6] from 34 to 44 (fun s6 wx => ∃ b, s6 = .bool b ∧ Hid (TB b (okP2 kind tx undo)) ∧ Hid (BoxAt w 63 #[.int .i64 kind, .int .i64 tx, .int .u64 (prev : Int), .int .u64 (next : Int), .int .u32 (page : Int), .int .i64 k, .int .i64 a, .string s, .string d, .int .i64 undo, .int .i64 index, .string key, .int .u32 (rp : Int), .int .i64 rs, .bool live, .slice ta txs.length tc, .slice da dirty.length dc] wx))
  case first =>
    cases b with
    | false =>
      go_wp2_with (fail)
      go_meet
      have z0 : (⟨#[]⟩ : ByteArray).size = 0 := rfl
      exact ⟨false, rfl, Lib.hid (iff_of_false Bool.false_ne_true (fun h => Bool.false_ne_true (hb.out.2 h.1))), HX⟩
    | true =>
      by_cases h1 : 0 ≤ undo
      · skip
        by_cases h2 : undo ≤ 2
        · skip
          go_wp2_with (fail)
          go_meet
          have z0 : (⟨#[]⟩ : ByteArray).size = 0 := rfl
          exact ⟨true, rfl, Lib.hid (iff_of_true rfl ⟨hb.out.1 rfl, (by omega)⟩), HX⟩
        · skip
          go_wp2_with (fail)
          go_meet
          have z0 : (⟨#[]⟩ : ByteArray).size = 0 := rfl
          exact ⟨false, rfl, Lib.hid (iff_of_false Bool.false_ne_true (fun h => (by omega : ¬ _) h.2)), HX⟩
      · skip
        go_wp2_with (fail)
        go_meet
        have z0 : (⟨#[]⟩ : ByteArray).size = 0 := rfl
        exact ⟨false, rfl, Lib.hid (iff_of_false Bool.false_ne_true (fun h => (by omega : ¬ _) h.2)), HX⟩
  case rest =>
  obtain ⟨b, rfl, hb, HX1⟩ := hcut
  clear c9
  clear HX
  have HX := HX1
  clear HX1
  have c4 : wc.cell? ⟨w.heap.size, 4, none⟩ = some (.int .u32 (page : Int)) := HX.out.blk.cell 4
  have c5 : wc.cell? ⟨w.heap.size, 5, none⟩ = some (.int .i64 k) := HX.out.blk.cell 5
  have c6 : wc.cell? ⟨w.heap.size, 6, none⟩ = some (.int .i64 a) := HX.out.blk.cell 6
  have c7 : wc.cell? ⟨w.heap.size, 7, none⟩ = some (.string s) := HX.out.blk.cell 7
  have c8 : wc.cell? ⟨w.heap.size, 8, none⟩ = some (.string d) := HX.out.blk.cell 8
  have c9 : wc.cell? ⟨w.heap.size, 9, none⟩ = some (.int .i64 undo) := HX.out.blk.cell 9
  go_upto_if 45 with (fail)
  go_cut [6] from 46 to 74 (fun s6 wx => ∃ b, s6 = .bool b ∧ Hid (TB b (okP3 kind tx undo page k a s d)) ∧ Hid (BoxAt w 63 #[.int .i64 kind, .int .i64 tx, .int .u64 (prev : Int), .int .u64 (next : Int), .int .u32 (page : Int), .int .i64 k, .int .i64 a, .string s, .string d, .int .i64 undo, .int .i64 index, .string key, .int .u32 (rp : Int), .int .i64 rs, .bool live, .slice ta txs.length tc, .slice da dirty.length dc] wx))
  case first =>
    cases bc with
    | true =>
      have hk := Lib.hid (of_decide_eq_true HBC.out.symm)
      by_cases hok : PgOp.ok ⟨k, a, s, d⟩
      · have HC : ∀ W, Hid (Calls Tryz.prog 152 #[.agg #[.int .i64 k, .int .i64 a, .string s, .string d]] W fun e w' => e = .returned (.int .i64 0) ∧ Below W.heap.size W w') := fun W => by have := pcheck_c ⟨k, a, s, d⟩ W; rw [if_pos hok] at this; exact this
        have HOK := Lib.hid hok
        clear hok
        cases b with
        | false =>
          go_wp2_with (fail)
          go_meet
          have z0 : (⟨#[]⟩ : ByteArray).size = 0 := rfl
          exact ⟨false, rfl, Lib.hid (iff_of_false Bool.false_ne_true (fun h => Bool.false_ne_true (hb.out.2 h.1))), HX⟩
        | true =>
          by_cases hp : page = 0
          · subst hp
            go_wp2_with (fail)
            go_meet
            exact ⟨false, rfl, Lib.hid (iff_of_false Bool.false_ne_true (fun h => (h.2.1 hk.out).1 rfl)), HX⟩
          · have hp' : ((page : Int) == 0) = false := by simp [hp]
            have hp'' : ((page : Int) != 0) = true := by simp [hp]
            go_wp2_with (fail)
            refine (HC _).out.mono ?_
            rintro e w' ⟨rfl, hbel⟩
            have HBL := Lib.hid (HX.out.below hbel)
            clear hbel
            go_wp2_with (fail)
            go_meet
            exact ⟨true, rfl, Lib.hid (iff_of_true rfl ⟨hb.out.1 rfl, fun _ => ⟨hp, HOK.out⟩, fun h => absurd hk.out h⟩), HBL⟩
      · have HC : ∀ W, Hid (Calls Tryz.prog 152 #[.agg #[.int .i64 k, .int .i64 a, .string s, .string d]] W fun e w' => e = .returned (.int .i64 33) ∧ Below W.heap.size W w') := fun W => by have := pcheck_c ⟨k, a, s, d⟩ W; rw [if_neg hok] at this; exact this
        have HOK := Lib.hid hok
        clear hok
        cases b with
        | false =>
          go_wp2_with (fail)
          go_meet
          have z0 : (⟨#[]⟩ : ByteArray).size = 0 := rfl
          exact ⟨false, rfl, Lib.hid (iff_of_false Bool.false_ne_true (fun h => Bool.false_ne_true (hb.out.2 h.1))), HX⟩
        | true =>
          by_cases hp : page = 0
          · subst hp
            go_wp2_with (fail)
            go_meet
            exact ⟨false, rfl, Lib.hid (iff_of_false Bool.false_ne_true (fun h => (h.2.1 hk.out).1 rfl)), HX⟩
          · have hp' : ((page : Int) == 0) = false := by simp [hp]
            have hp'' : ((page : Int) != 0) = true := by simp [hp]
            go_wp2_with (fail)
            refine (HC _).out.mono ?_
            rintro e w' ⟨rfl, hbel⟩
            have HBL := Lib.hid (HX.out.below hbel)
            clear hbel
            go_wp2_with (fail)
            go_meet
            exact ⟨false, rfl, Lib.hid (iff_of_false Bool.false_ne_true (fun h => HOK.out (h.2.1 hk.out).2)), HBL⟩
    | false =>
      have hk := Lib.hid (of_decide_eq_false HBC.out.symm)
      cases b with
      | false =>
        go_wp2_with (fail)
        go_meet
        have z0 : (⟨#[]⟩ : ByteArray).size = 0 := rfl
        exact ⟨false, rfl, Lib.hid (iff_of_false Bool.false_ne_true (fun h => Bool.false_ne_true (hb.out.2 h.1))), HX⟩
      | true =>
        by_cases hp : page = 0
        · subst hp
          by_cases q1 : k = 0
          · subst q1
            by_cases q2 : a = 0
            · subst q2
              rcases empty_or s with rfl | ⟨q3x, q3l, q3⟩
              · skip
                rcases empty_or d with rfl | ⟨q4x, q4l, q4⟩
                · skip
                  by_cases q5 : undo = 0
                  · subst q5
                    go_wp2_with (fail)
                    go_meet
                    have z0 : (⟨#[]⟩ : ByteArray).size = 0 := rfl
                    exact ⟨true, rfl, Lib.hid (iff_of_true rfl ⟨hb.out.1 rfl, fun h => absurd h hk.out, fun _ => ⟨rfl, ⟨rfl, rfl, rfl, rfl⟩, rfl⟩⟩), HX⟩
                  · have q5' : (undo == 0) = false := by simp [q5]
                    go_wp2_with (fail)
                    go_meet
                    have z0 : (⟨#[]⟩ : ByteArray).size = 0 := rfl
                    exact ⟨false, rfl, Lib.hid (iff_of_false Bool.false_ne_true (fun h => (by intro h; have := h.2 hk.out; omega : ¬ _) h.2)), HX⟩
                · have q4z := Lib.hid (size_cons q4)
                  go_wp2_with (fail)
                  go_meet
                  have q4zo := q4z.out
                  have z0 : (⟨#[]⟩ : ByteArray).size = 0 := rfl
                  exact ⟨false, rfl, Lib.hid (iff_of_false Bool.false_ne_true (fun h => (by intro h; have := h.2 hk.out; omega : ¬ _) h.2)), HX⟩
              · have q3z := Lib.hid (size_cons q3)
                go_wp2_with (fail)
                go_meet
                have q3zo := q3z.out
                have z0 : (⟨#[]⟩ : ByteArray).size = 0 := rfl
                exact ⟨false, rfl, Lib.hid (iff_of_false Bool.false_ne_true (fun h => (by intro h; have := h.2 hk.out; omega : ¬ _) h.2)), HX⟩
            · have q2' : (a == 0) = false := by simp [q2]
              go_wp2_with (fail)
              go_meet
              have z0 : (⟨#[]⟩ : ByteArray).size = 0 := rfl
              exact ⟨false, rfl, Lib.hid (iff_of_false Bool.false_ne_true (fun h => (by intro h; have := h.2 hk.out; omega : ¬ _) h.2)), HX⟩
          · have q1' : (k == 0) = false := by simp [q1]
            go_wp2_with (fail)
            go_meet
            have z0 : (⟨#[]⟩ : ByteArray).size = 0 := rfl
            exact ⟨false, rfl, Lib.hid (iff_of_false Bool.false_ne_true (fun h => (by intro h; have := h.2 hk.out; omega : ¬ _) h.2)), HX⟩
        · have hp' : ((page : Int) == 0) = false := by simp [hp]
          go_wp2_with (fail)
          go_meet
          have z0 : (⟨#[]⟩ : ByteArray).size = 0 := rfl
          exact ⟨false, rfl, Lib.hid (iff_of_false Bool.false_ne_true (fun h => (by intro h; have := h.2 hk.out; omega : ¬ _) h.2)), HX⟩
  case rest =>
  obtain ⟨b, rfl, hb, HX1⟩ := hcut
  clear c4
  clear c5
  clear c6
  clear c7
  clear c8
  clear c9
  clear HX
  have HX := HX1
  clear HX1
  have c9 : wc.cell? ⟨w.heap.size, 9, none⟩ = some (.int .i64 undo) := HX.out.blk.cell 9
  have c10 : wc.cell? ⟨w.heap.size, 10, none⟩ = some (.int .i64 index) := HX.out.blk.cell 10
  have c11 : wc.cell? ⟨w.heap.size, 11, none⟩ = some (.string key) := HX.out.blk.cell 11
  have c12 : wc.cell? ⟨w.heap.size, 12, none⟩ = some (.int .u32 (rp : Int)) := HX.out.blk.cell 12
  have c13 : wc.cell? ⟨w.heap.size, 13, none⟩ = some (.int .i64 rs) := HX.out.blk.cell 13
  have c14 : wc.cell? ⟨w.heap.size, 14, none⟩ = some (.bool live) := HX.out.blk.cell 14
  go_upto_if 77 with (fail)
  go_cut [6] from 78 to 126 (fun s6 wx => ∃ b, s6 = .bool b ∧ Hid (TB b (okP4 kind tx undo page k a s d index key rp rs live)) ∧ Hid (BoxAt w 63 #[.int .i64 kind, .int .i64 tx, .int .u64 (prev : Int), .int .u64 (next : Int), .int .u32 (page : Int), .int .i64 k, .int .i64 a, .string s, .string d, .int .i64 undo, .int .i64 index, .string key, .int .u32 (rp : Int), .int .i64 rs, .bool live, .slice ta txs.length tc, .slice da dirty.length dc] wx))
  case first =>
    by_cases hu : undo = 2
    · subst hu
      cases b with
      | false =>
        go_wp2_with (fail)
        go_meet
        have z0 : (⟨#[]⟩ : ByteArray).size = 0 := rfl
        exact ⟨false, rfl, Lib.hid (iff_of_false Bool.false_ne_true (fun h => Bool.false_ne_true (hb.out.2 h.1))), HX⟩
      | true =>
        exact absurd (hb.out.1 rfl) HF.out
    · have hu' : (undo == 2) = false := by simp [hu]
      cases b with
      | false =>
        go_wp2_with (fail)
        go_meet
        have z0 : (⟨#[]⟩ : ByteArray).size = 0 := rfl
        exact ⟨false, rfl, Lib.hid (iff_of_false Bool.false_ne_true (fun h => Bool.false_ne_true (hb.out.2 h.1))), HX⟩
      | true =>
        exact absurd (hb.out.1 rfl) HF.out
  case rest =>
  obtain ⟨b, rfl, hb, HX1⟩ := hcut
  clear c9
  clear c10
  clear c11
  clear c12
  clear c13
  clear c14
  clear HX
  have HX := HX1
  clear HX1
  have c0 : wc.cell? ⟨w.heap.size, 0, none⟩ = some (.int .i64 kind) := HX.out.blk.cell 0
  have c3 : wc.cell? ⟨w.heap.size, 3, none⟩ = some (.int .u64 (next : Int)) := HX.out.blk.cell 3
  have c9 : wc.cell? ⟨w.heap.size, 9, none⟩ = some (.int .i64 undo) := HX.out.blk.cell 9
  go_upto_region 10 with (fail)
  go_cut [6] from 127 to 145 (fun s6 wx => ∃ b, s6 = .bool b ∧ Hid (TB b (okP5 kind tx undo page k a s d index key rp rs live next)) ∧ Hid (BoxAt w 63 #[.int .i64 kind, .int .i64 tx, .int .u64 (prev : Int), .int .u64 (next : Int), .int .u32 (page : Int), .int .i64 k, .int .i64 a, .string s, .string d, .int .i64 undo, .int .i64 index, .string key, .int .u32 (rp : Int), .int .i64 rs, .bool live, .slice ta txs.length tc, .slice da dirty.length dc] wx))
  case first =>
    cases b with
    | false =>
      go_wp2_with (fail)
      go_meet
      have z0 : (⟨#[]⟩ : ByteArray).size = 0 := rfl
      exact ⟨false, rfl, Lib.hid (iff_of_false Bool.false_ne_true (fun h => Bool.false_ne_true (hb.out.2 h.1))), HX⟩
    | true =>
      exact absurd ((hb.out.1 rfl).1) HF.out
  case rest =>
  obtain ⟨b, rfl, hb, HX1⟩ := hcut
  clear c0
  clear c3
  clear c9
  clear HX
  have HX := HX1
  clear HX1
  have c15 : wc.cell? ⟨w.heap.size, 15, none⟩ = some (.slice ta txs.length tc) := HX.out.blk.cell 15
  have c16 : wc.cell? ⟨w.heap.size, 16, none⟩ = some (.slice da dirty.length dc) := HX.out.blk.cell 16
  go_upto_region 11 with (fail)
  go_cut [6] from 146 to 173 (fun s6 wx => ∃ b, s6 = .bool b ∧ Hid (TB b (okP6 kind tx undo page k a s d index key rp rs live next txs dirty)) ∧ Hid (BoxAt w 63 #[.int .i64 kind, .int .i64 tx, .int .u64 (prev : Int), .int .u64 (next : Int), .int .u32 (page : Int), .int .i64 k, .int .i64 a, .string s, .string d, .int .i64 undo, .int .i64 index, .string key, .int .u32 (rp : Int), .int .i64 rs, .bool live, .slice ta txs.length tc, .slice da dirty.length dc] wx))
  case first =>
    cases b with
    | false =>
      go_wp2_with (fail)
      go_meet
      have z0 : (⟨#[]⟩ : ByteArray).size = 0 := rfl
      exact ⟨false, rfl, Lib.hid (iff_of_false Bool.false_ne_true (fun h => Bool.false_ne_true (hb.out.2 h.1))), HX⟩
    | true =>
      exact absurd (((hb.out.1 rfl).1).1) HF.out
  case rest =>
  obtain ⟨b, rfl, hb, HX1⟩ := hcut
  clear c15
  clear c16
  clear HX
  have HX := HX1
  clear HX1
  have c15 : wc.cell? ⟨w.heap.size, 15, none⟩ = some (.slice ta txs.length tc) := HX.out.blk.cell 15
  have HX0 := HX
  go_wp2_with (fail)
  have HB := hb
  have HBF := Lib.hid (show ¬ b = true from fun h => HF.out ((hb.out.1 h).1.1.1))
  clear hb
  go_loopw [6, 177] (fun s6 s177 wx => ∃ (b1 : Bool) (j : Nat), s6 = .bool b1 ∧ s177 = .int .i64 (j : Int) ∧ j ≤ txs.length ∧ Hid (TB b1 (okL b txs j)) ∧ Hid (BoxAt w 63 #[.int .i64 kind, .int .i64 tx, .int .u64 (prev : Int), .int .u64 (next : Int), .int .u32 (page : Int), .int .i64 k, .int .i64 a, .string s, .string d, .int .i64 undo, .int .i64 index, .string key, .int .u32 (rp : Int), .int .i64 rs, .bool live, .slice ta txs.length tc, .slice da dirty.length dc] wx)) (fun _ s177 _ => txs.length - (intOf s177).toNat)
  case atStart => exact ⟨b, 0, rfl, rfl, Nat.zero_le _, Lib.hid ⟨fun h => ⟨h, fun t ht => by simp at ht⟩, fun h => h.1⟩, HX⟩
  case round =>
    clear c15 HX HX0
    obtain ⟨b1, j, rfl, rfl, hj, hb1, HX⟩ := hrel
    by_cases hjl : j < txs.length
    · obtain ⟨t, ht⟩ : ∃ t, txs[j]? = some t := ⟨_, List.getElem?_eq_getElem hjl⟩
      obtain ⟨tb, off, rfl, _, h1, h2, hbl, hc⟩ := HT.out.at_ ht
      have hHS := HX.out.base
      have d : ∀ (i : Nat) (u : Value), (tsC t)[i]? = some u → wr.cell? ⟨tb, off + j * 4 + i, none⟩ = some u := fun i u hu => (hHS.cell (p := ⟨tb, off + j * 4 + i, none⟩) hbl).trans (hc i u hu)
      have d0 : wr.cell? ⟨tb, off + j * 4, none⟩ = some (.int .i64 t.tx) := d 0 _ rfl
      have d1 : wr.cell? ⟨tb, off + j * 4 + 1, none⟩ = some (.int .i64 t.state) := d 1 _ rfl
      have d2 : wr.cell? ⟨tb, off + j * 4 + 2, none⟩ = some (.int .u64 (t.last : Int)) := d 2 _ rfl
      have d3 : wr.cell? ⟨tb, off + j * 4 + 3, none⟩ = some (.int .u64 (t.next : Int)) := d 3 _ rfl
      have HTK : Hid (txs.take (j + 1) = txs.take j ++ [t]) := by show _ = _; rw [List.take_add_one, ht]; rfl
      have HLEN : txs.length ≤ 9223372036854775807 := by have := HLT.out; simp only [maxLen] at this; omega
      have HJ1 := Lib.hid (show j + 1 ≤ txs.length from hjl)
      clear hc d hHS ht
      cases b1 with
      | true => exact absurd (hb1.out.1 rfl).1 HBF.out
      | false =>
        go_wp2_with (fail)
        go_roundw
        case rel => exact ⟨false, j + 1, rfl, by go_num, HJ1.out, Lib.hid (iff_of_false Bool.false_ne_true (fun h => Bool.false_ne_true (hb1.out.2 ⟨h.1, fun x hx => h.2 x (by rw [HTK.out]; exact List.mem_append_left _ hx)⟩))), Lib.hid (HX.out.below ((Below.refl _ _).alloc (Nat.le_refl _) _))⟩
        case measure => have := HJ1.out; simp [intOf]; omega
    · obtain rfl : j = txs.length := by omega
      have hb2 := hb1.out
      unfold okL at hb2
      rw [List.take_length] at hb2
      have hb1 := Lib.hid hb2
      clear hb2
      have HR := Lib.hid (@rec_ok_iff kind tx prev next page k a s d undo index key rp rs live txs dirty)
      cases b1 with
      | true =>
        go_wp2_with (fail)
        go_ret
        exact ⟨by rw [HRR.out, if_pos (HR.out.2 ⟨HB.out.1 (hb1.out.1 rfl).1, (hb1.out.1 rfl).2⟩)]; rfl, HX.out.base⟩
      | false =>
        go_wp2_with (fail)
        go_ret
        exact ⟨by rw [HRR.out, if_neg (fun h => Bool.false_ne_true (hb1.out.2 ⟨HB.out.2 (HR.out.1 h).1, (HR.out.1 h).2⟩))]; rfl, HX.out.base⟩
set_option maxRecDepth 100000 in
set_option maxHeartbeats 8000000 in
theorem recCheck_B (hmode : (okP3 kind tx undo page k a s d) ∧ ¬ (okP5 kind tx undo page k a s d index key rp rs live next)) (ta da : Option Addr) (tc dc : Nat) (w : World) (hT : RdC 4 tsC w (.slice ta txs.length tc) txs) (hlt : txs.length ≤ maxLen) (hld : dirty.length ≤ maxLen) :
    Calls Tryz.prog 74 #[.agg #[.int .i64 kind, .int .i64 tx, .int .u64 (prev : Int), .int .u64 (next : Int), .int .u32 (page : Int), .int .i64 k, .int .i64 a, .string s, .string d, .int .i64 undo, .int .i64 index, .string key, .int .u32 (rp : Int), .int .i64 rs, .bool live, .slice ta txs.length tc, .slice da dirty.length dc]] w fun e w' => e = .returned (.int .i64 (if (⟨kind, tx, prev, next, page, ⟨k, a, s, d⟩, undo, index, ⟨key, rp, rs⟩, live, txs, dirty⟩ : Rc).ok then 0 else 40)) ∧ Below w.heap.size w w' := by
  have HF := Lib.hid hmode.2
  have HQ3 := Lib.hid hmode.1
  have HQ2 := Lib.hid hmode.1.1
  have HQ1 := Lib.hid hmode.1.1.1
  clear hmode
  obtain ⟨R, hR⟩ : ∃ x : Int, x = if (⟨kind, tx, prev, next, page, ⟨k, a, s, d⟩, undo, index, ⟨key, rp, rs⟩, live, txs, dirty⟩ : Rc).ok then 0 else 40 := ⟨_, rfl⟩
  rw [← hR]
  have HRR := Lib.hid hR
  clear hR
  have HX := Lib.hid (BoxAt.new w 63 #[.int .i64 kind, .int .i64 tx, .int .u64 (prev : Int), .int .u64 (next : Int), .int .u32 (page : Int), .int .i64 k, .int .i64 a, .string s, .string d, .int .i64 undo, .int .i64 index, .string key, .int .u32 (rp : Int), .int .i64 rs, .bool live, .slice ta txs.length tc, .slice da dirty.length dc])
  have HT := Lib.hid hT
  have HLT := Lib.hid hlt
  have HLD := Lib.hid hld
  clear hT hlt hld
  obtain ⟨bc, hbc⟩ : ∃ x, x = decide (kind = 1 ∨ kind = 2) := ⟨_, rfl⟩
  obtain ⟨bn, hbn⟩ : ∃ x, x = decide (kind = 2 ∨ kind = 3) := ⟨_, rfl⟩
  obtain ⟨bt, hbt⟩ : ∃ x, x = decide (kind = 8) := ⟨_, rfl⟩
  have HN : ∀ W, Hid (Calls Tryz.prog 88 #[.int .i64 kind] W fun e w' => e = .returned (.tuple #[.bool bc, .bool bn, .bool bt]) ∧ w' = W) := fun W => by
    rw [hbc, hbn, hbt]
    exact recNamed_c kind W
  have HBC := Lib.hid hbc
  have HBN := Lib.hid hbn
  have HBT := Lib.hid hbt
  clear hbc hbn hbt
  go_enter Tryz.func74, Tryz.ntmps74
  go_wp2_with (fail)
  refine (HN _).out.mono ?_
  rintro e w' ⟨rfl, rfl⟩
  clear HN
  go_upto_region 2 with (fail)
  go_cut [6] from 16 to 33 (fun s6 wx => ∃ b, s6 = .bool b ∧ Hid (TB b (okP1 kind tx)) ∧ Hid (BoxAt w 63 #[.int .i64 kind, .int .i64 tx, .int .u64 (prev : Int), .int .u64 (next : Int), .int .u32 (page : Int), .int .i64 k, .int .i64 a, .string s, .string d, .int .i64 undo, .int .i64 index, .string key, .int .u32 (rp : Int), .int .i64 rs, .bool live, .slice ta txs.length tc, .slice da dirty.length dc] wx))
  case first =>
    by_cases h1 : 1 ≤ kind
    · skip
      by_cases h2 : kind ≤ 8
      · skip
        by_cases h3 : 0 ≤ tx
        · skip
          by_cases h4 : tx < 2147483648
          · skip
            go_wp2_with (fail)
            go_meet
            exact ⟨true, rfl, Lib.hid (iff_of_true rfl (by unfold okP1; omega)), HX⟩
          · skip
            exfalso
            have h := HQ1.out
            unfold okP1 at h
            omega
        · skip
          exfalso
          have h := HQ1.out
          unfold okP1 at h
          omega
      · skip
        exfalso
        have h := HQ1.out
        unfold okP1 at h
        omega
    · skip
      exfalso
      have h := HQ1.out
      unfold okP1 at h
      omega
  case rest =>
  obtain ⟨b, rfl, hb, HX1⟩ := hcut
  clear HX
  have HX := HX1
  clear HX1
  have c9 : wc.cell? ⟨w.heap.size, 9, none⟩ = some (.int .i64 undo) := HX.out.blk.cell 9
  go_upto_region 3 with (fail)
  go_cut [6] from 34 to 44 (fun s6 wx => ∃ b, s6 = .bool b ∧ Hid (TB b (okP2 kind tx undo)) ∧ Hid (BoxAt w 63 #[.int .i64 kind, .int .i64 tx, .int .u64 (prev : Int), .int .u64 (next : Int), .int .u32 (page : Int), .int .i64 k, .int .i64 a, .string s, .string d, .int .i64 undo, .int .i64 index, .string key, .int .u32 (rp : Int), .int .i64 rs, .bool live, .slice ta txs.length tc, .slice da dirty.length dc] wx))
  case first =>
    cases b with
    | false =>
      exact absurd (hb.out.2 HQ1.out) Bool.false_ne_true
    | true =>
      by_cases h1 : 0 ≤ undo
      · skip
        by_cases h2 : undo ≤ 2
        · skip
          go_wp2_with (fail)
          go_meet
          have z0 : (⟨#[]⟩ : ByteArray).size = 0 := rfl
          exact ⟨true, rfl, Lib.hid (iff_of_true rfl ⟨hb.out.1 rfl, (by omega)⟩), HX⟩
        · skip
          have z0 : (⟨#[]⟩ : ByteArray).size = 0 := rfl
          exact absurd HQ2.out.2 (by omega)
      · skip
        have z0 : (⟨#[]⟩ : ByteArray).size = 0 := rfl
        exact absurd HQ2.out.2 (by omega)
  case rest =>
  obtain ⟨b, rfl, hb, HX1⟩ := hcut
  clear c9
  clear HX
  have HX := HX1
  clear HX1
  have c4 : wc.cell? ⟨w.heap.size, 4, none⟩ = some (.int .u32 (page : Int)) := HX.out.blk.cell 4
  have c5 : wc.cell? ⟨w.heap.size, 5, none⟩ = some (.int .i64 k) := HX.out.blk.cell 5
  have c6 : wc.cell? ⟨w.heap.size, 6, none⟩ = some (.int .i64 a) := HX.out.blk.cell 6
  have c7 : wc.cell? ⟨w.heap.size, 7, none⟩ = some (.string s) := HX.out.blk.cell 7
  have c8 : wc.cell? ⟨w.heap.size, 8, none⟩ = some (.string d) := HX.out.blk.cell 8
  have c9 : wc.cell? ⟨w.heap.size, 9, none⟩ = some (.int .i64 undo) := HX.out.blk.cell 9
  go_upto_if 45 with (fail)
  go_cut [6] from 46 to 74 (fun s6 wx => ∃ b, s6 = .bool b ∧ Hid (TB b (okP3 kind tx undo page k a s d)) ∧ Hid (BoxAt w 63 #[.int .i64 kind, .int .i64 tx, .int .u64 (prev : Int), .int .u64 (next : Int), .int .u32 (page : Int), .int .i64 k, .int .i64 a, .string s, .string d, .int .i64 undo, .int .i64 index, .string key, .int .u32 (rp : Int), .int .i64 rs, .bool live, .slice ta txs.length tc, .slice da dirty.length dc] wx))
  case first =>
    cases bc with
    | true =>
      have hk := Lib.hid (of_decide_eq_true HBC.out.symm)
      by_cases hok : PgOp.ok ⟨k, a, s, d⟩
      · have HC : ∀ W, Hid (Calls Tryz.prog 152 #[.agg #[.int .i64 k, .int .i64 a, .string s, .string d]] W fun e w' => e = .returned (.int .i64 0) ∧ Below W.heap.size W w') := fun W => by have := pcheck_c ⟨k, a, s, d⟩ W; rw [if_pos hok] at this; exact this
        have HOK := Lib.hid hok
        clear hok
        cases b with
        | false =>
          exact absurd (hb.out.2 HQ2.out) Bool.false_ne_true
        | true =>
          by_cases hp : page = 0
          · subst hp
            exact absurd rfl (HQ3.out.2.1 hk.out).1
          · have hp' : ((page : Int) == 0) = false := by simp [hp]
            have hp'' : ((page : Int) != 0) = true := by simp [hp]
            go_wp2_with (fail)
            refine (HC _).out.mono ?_
            rintro e w' ⟨rfl, hbel⟩
            have HBL := Lib.hid (HX.out.below hbel)
            clear hbel
            go_wp2_with (fail)
            go_meet
            exact ⟨true, rfl, Lib.hid (iff_of_true rfl ⟨hb.out.1 rfl, fun _ => ⟨hp, HOK.out⟩, fun h => absurd hk.out h⟩), HBL⟩
      · have HC : ∀ W, Hid (Calls Tryz.prog 152 #[.agg #[.int .i64 k, .int .i64 a, .string s, .string d]] W fun e w' => e = .returned (.int .i64 33) ∧ Below W.heap.size W w') := fun W => by have := pcheck_c ⟨k, a, s, d⟩ W; rw [if_neg hok] at this; exact this
        have HOK := Lib.hid hok
        clear hok
        cases b with
        | false =>
          exact absurd (hb.out.2 HQ2.out) Bool.false_ne_true
        | true =>
          exact absurd (HQ3.out.2.1 hk.out).2 HOK.out
    | false =>
      have hk := Lib.hid (of_decide_eq_false HBC.out.symm)
      cases b with
      | false =>
        exact absurd (hb.out.2 HQ2.out) Bool.false_ne_true
      | true =>
        by_cases hp : page = 0
        · subst hp
          by_cases q1 : k = 0
          · subst q1
            by_cases q2 : a = 0
            · subst q2
              rcases empty_or s with rfl | ⟨q3x, q3l, q3⟩
              · skip
                rcases empty_or d with rfl | ⟨q4x, q4l, q4⟩
                · skip
                  by_cases q5 : undo = 0
                  · subst q5
                    go_wp2_with (fail)
                    go_meet
                    have z0 : (⟨#[]⟩ : ByteArray).size = 0 := rfl
                    exact ⟨true, rfl, Lib.hid (iff_of_true rfl ⟨hb.out.1 rfl, fun h => absurd h hk.out, fun _ => ⟨rfl, ⟨rfl, rfl, rfl, rfl⟩, rfl⟩⟩), HX⟩
                  · have q5' : (undo == 0) = false := by simp [q5]
                    have z0 : (⟨#[]⟩ : ByteArray).size = 0 := rfl
                    exact absurd HQ3.out.2 (by intro h; have := h.2 hk.out; omega)
                · have q4z := Lib.hid (size_cons q4)
                  have q4zo := q4z.out
                  have z0 : (⟨#[]⟩ : ByteArray).size = 0 := rfl
                  exact absurd HQ3.out.2 (by intro h; have := h.2 hk.out; omega)
              · have q3z := Lib.hid (size_cons q3)
                have q3zo := q3z.out
                have z0 : (⟨#[]⟩ : ByteArray).size = 0 := rfl
                exact absurd HQ3.out.2 (by intro h; have := h.2 hk.out; omega)
            · have q2' : (a == 0) = false := by simp [q2]
              have z0 : (⟨#[]⟩ : ByteArray).size = 0 := rfl
              exact absurd HQ3.out.2 (by intro h; have := h.2 hk.out; omega)
          · have q1' : (k == 0) = false := by simp [q1]
            have z0 : (⟨#[]⟩ : ByteArray).size = 0 := rfl
            exact absurd HQ3.out.2 (by intro h; have := h.2 hk.out; omega)
        · have hp' : ((page : Int) == 0) = false := by simp [hp]
          have z0 : (⟨#[]⟩ : ByteArray).size = 0 := rfl
          exact absurd HQ3.out.2 (by intro h; have := h.2 hk.out; omega)
  case rest =>
  obtain ⟨b, rfl, hb, HX1⟩ := hcut
  clear c4
  clear c5
  clear c6
  clear c7
  clear c8
  clear c9
  clear HX
  have HX := HX1
  clear HX1
  have c9 : wc.cell? ⟨w.heap.size, 9, none⟩ = some (.int .i64 undo) := HX.out.blk.cell 9
  have c10 : wc.cell? ⟨w.heap.size, 10, none⟩ = some (.int .i64 index) := HX.out.blk.cell 10
  have c11 : wc.cell? ⟨w.heap.size, 11, none⟩ = some (.string key) := HX.out.blk.cell 11
  have c12 : wc.cell? ⟨w.heap.size, 12, none⟩ = some (.int .u32 (rp : Int)) := HX.out.blk.cell 12
  have c13 : wc.cell? ⟨w.heap.size, 13, none⟩ = some (.int .i64 rs) := HX.out.blk.cell 13
  have c14 : wc.cell? ⟨w.heap.size, 14, none⟩ = some (.bool live) := HX.out.blk.cell 14
  go_upto_if 77 with (fail)
  go_cut [6] from 78 to 126 (fun s6 wx => ∃ b, s6 = .bool b ∧ Hid (TB b (okP4 kind tx undo page k a s d index key rp rs live)) ∧ Hid (BoxAt w 63 #[.int .i64 kind, .int .i64 tx, .int .u64 (prev : Int), .int .u64 (next : Int), .int .u32 (page : Int), .int .i64 k, .int .i64 a, .string s, .string d, .int .i64 undo, .int .i64 index, .string key, .int .u32 (rp : Int), .int .i64 rs, .bool live, .slice ta txs.length tc, .slice da dirty.length dc] wx))
  case first =>
    by_cases hu : undo = 2
    · subst hu
      cases b with
      | false =>
        go_wp2_with (fail)
        go_meet
        have z0 : (⟨#[]⟩ : ByteArray).size = 0 := rfl
        exact ⟨false, rfl, Lib.hid (iff_of_false Bool.false_ne_true (fun h => Bool.false_ne_true (hb.out.2 h.1))), HX⟩
      | true =>
        by_cases h1 : 0 ≤ index
        · skip
          by_cases h2 : index < 65536
          · skip
            by_cases h3 : (key.size : Int) ≤ 64
            · skip
              by_cases h4 : 0 ≤ rs
              · skip
                by_cases h5 : rs < 65536
                · skip
                  go_wp2_with (fail)
                  go_meet
                  have z0 : (⟨#[]⟩ : ByteArray).size = 0 := rfl
                  exact ⟨true, rfl, Lib.hid (iff_of_true rfl ⟨hb.out.1 rfl, fun _ => ⟨h1, h2, by omega, h4, h5⟩, fun h => absurd rfl h⟩), HX⟩
                · skip
                  go_wp2_with (fail)
                  go_meet
                  have z0 : (⟨#[]⟩ : ByteArray).size = 0 := rfl
                  exact ⟨false, rfl, Lib.hid (iff_of_false Bool.false_ne_true (fun h => (by intro h; have := h.1 rfl; omega : ¬ _) h.2)), HX⟩
              · skip
                go_wp2_with (fail)
                go_meet
                have z0 : (⟨#[]⟩ : ByteArray).size = 0 := rfl
                exact ⟨false, rfl, Lib.hid (iff_of_false Bool.false_ne_true (fun h => (by intro h; have := h.1 rfl; omega : ¬ _) h.2)), HX⟩
            · skip
              go_wp2_with (fail)
              go_meet
              have z0 : (⟨#[]⟩ : ByteArray).size = 0 := rfl
              exact ⟨false, rfl, Lib.hid (iff_of_false Bool.false_ne_true (fun h => (by intro h; have := h.1 rfl; omega : ¬ _) h.2)), HX⟩
          · skip
            go_wp2_with (fail)
            go_meet
            have z0 : (⟨#[]⟩ : ByteArray).size = 0 := rfl
            exact ⟨false, rfl, Lib.hid (iff_of_false Bool.false_ne_true (fun h => (by intro h; have := h.1 rfl; omega : ¬ _) h.2)), HX⟩
        · skip
          go_wp2_with (fail)
          go_meet
          have z0 : (⟨#[]⟩ : ByteArray).size = 0 := rfl
          exact ⟨false, rfl, Lib.hid (iff_of_false Bool.false_ne_true (fun h => (by intro h; have := h.1 rfl; omega : ¬ _) h.2)), HX⟩
    · have hu' : (undo == 2) = false := by simp [hu]
      cases b with
      | false =>
        go_wp2_with (fail)
        go_meet
        have z0 : (⟨#[]⟩ : ByteArray).size = 0 := rfl
        exact ⟨false, rfl, Lib.hid (iff_of_false Bool.false_ne_true (fun h => Bool.false_ne_true (hb.out.2 h.1))), HX⟩
      | true =>
        by_cases q1 : index = 0
        · subst q1
          rcases empty_or key with rfl | ⟨q2x, q2l, q2⟩
          · skip
            by_cases q3 : rp = 0
            · subst q3
              by_cases q4 : rs = 0
              · subst q4
                cases live with
                | true =>
                  go_wp2_with (fail)
                  go_meet
                  have z0 : (⟨#[]⟩ : ByteArray).size = 0 := rfl
                  exact ⟨false, rfl, Lib.hid (iff_of_false Bool.false_ne_true (fun h => (by intro h; have := h.2 hu; first | (simp at this; done) | omega | (simp at this; omega) : ¬ _) h.2)), HX⟩
                | false =>
                  go_wp2_with (fail)
                  go_meet
                  have z0 : (⟨#[]⟩ : ByteArray).size = 0 := rfl
                  exact ⟨true, rfl, Lib.hid (iff_of_true rfl ⟨hb.out.1 rfl, fun h => absurd h hu, fun _ => ⟨rfl, ⟨rfl, rfl, rfl⟩, rfl⟩⟩), HX⟩
              · have q4' : (rs == 0) = false := by simp [q4]
                go_wp2_with (fail)
                go_meet
                have z0 : (⟨#[]⟩ : ByteArray).size = 0 := rfl
                exact ⟨false, rfl, Lib.hid (iff_of_false Bool.false_ne_true (fun h => (by intro h; have := h.2 hu; first | (simp at this; done) | omega | (simp at this; omega) : ¬ _) h.2)), HX⟩
            · have q3' : ((rp : Int) == 0) = false := by simp [q3]
              go_wp2_with (fail)
              go_meet
              have z0 : (⟨#[]⟩ : ByteArray).size = 0 := rfl
              exact ⟨false, rfl, Lib.hid (iff_of_false Bool.false_ne_true (fun h => (by intro h; have := h.2 hu; first | (simp at this; done) | omega | (simp at this; omega) : ¬ _) h.2)), HX⟩
          · have q2z := Lib.hid (size_cons q2)
            go_wp2_with (fail)
            go_meet
            have q2zo := q2z.out
            have z0 : (⟨#[]⟩ : ByteArray).size = 0 := rfl
            exact ⟨false, rfl, Lib.hid (iff_of_false Bool.false_ne_true (fun h => (by intro h; have := h.2 hu; first | (simp at this; done) | omega | (simp at this; omega) : ¬ _) h.2)), HX⟩
        · have q1' : (index == 0) = false := by simp [q1]
          go_wp2_with (fail)
          go_meet
          have z0 : (⟨#[]⟩ : ByteArray).size = 0 := rfl
          exact ⟨false, rfl, Lib.hid (iff_of_false Bool.false_ne_true (fun h => (by intro h; have := h.2 hu; first | (simp at this; done) | omega | (simp at this; omega) : ¬ _) h.2)), HX⟩
  case rest =>
  obtain ⟨b, rfl, hb, HX1⟩ := hcut
  clear c9
  clear c10
  clear c11
  clear c12
  clear c13
  clear c14
  clear HX
  have HX := HX1
  clear HX1
  have c0 : wc.cell? ⟨w.heap.size, 0, none⟩ = some (.int .i64 kind) := HX.out.blk.cell 0
  have c3 : wc.cell? ⟨w.heap.size, 3, none⟩ = some (.int .u64 (next : Int)) := HX.out.blk.cell 3
  have c9 : wc.cell? ⟨w.heap.size, 9, none⟩ = some (.int .i64 undo) := HX.out.blk.cell 9
  go_upto_region 10 with (fail)
  go_cut [6] from 127 to 145 (fun s6 wx => ∃ b, s6 = .bool b ∧ Hid (TB b (okP5 kind tx undo page k a s d index key rp rs live next)) ∧ Hid (BoxAt w 63 #[.int .i64 kind, .int .i64 tx, .int .u64 (prev : Int), .int .u64 (next : Int), .int .u32 (page : Int), .int .i64 k, .int .i64 a, .string s, .string d, .int .i64 undo, .int .i64 index, .string key, .int .u32 (rp : Int), .int .i64 rs, .bool live, .slice ta txs.length tc, .slice da dirty.length dc] wx))
  case first =>
    cases b with
    | false =>
      go_wp2_with (fail)
      go_meet
      have z0 : (⟨#[]⟩ : ByteArray).size = 0 := rfl
      exact ⟨false, rfl, Lib.hid (iff_of_false Bool.false_ne_true (fun h => Bool.false_ne_true (hb.out.2 h.1))), HX⟩
    | true =>
      cases bn with
      | true =>
        have hn := Lib.hid (of_decide_eq_true HBN.out.symm)
        by_cases q1 : kind = 1
        · subst q1
          go_wp2_with (fail)
          go_meet
          have z0 : (⟨#[]⟩ : ByteArray).size = 0 := rfl
          exact ⟨true, rfl, Lib.hid (iff_of_true rfl ⟨hb.out.1 rfl, .inl hn.out, .inl rfl⟩), HX⟩
        · have q1' : (kind == 1) = false := by simp [q1]
          by_cases q2 : undo = 0
          · subst q2
            go_wp2_with (fail)
            go_meet
            have z0 : (⟨#[]⟩ : ByteArray).size = 0 := rfl
            exact ⟨true, rfl, Lib.hid (iff_of_true rfl ⟨hb.out.1 rfl, .inl hn.out, .inr rfl⟩), HX⟩
          · have q2' : (undo == 0) = false := by simp [q2]
            go_wp2_with (fail)
            go_meet
            have z0 : (⟨#[]⟩ : ByteArray).size = 0 := rfl
            exact ⟨false, rfl, Lib.hid (iff_of_false Bool.false_ne_true (fun h => (fun h => h.2.elim q1 q2 : ¬ _) h.2)), HX⟩
      | false =>
        have hn := Lib.hid (of_decide_eq_false HBN.out.symm)
        by_cases q0 : next = 0
        · subst q0
          by_cases q1 : kind = 1
          · subst q1
            go_wp2_with (fail)
            go_meet
            have z0 : (⟨#[]⟩ : ByteArray).size = 0 := rfl
            exact ⟨true, rfl, Lib.hid (iff_of_true rfl ⟨hb.out.1 rfl, .inr rfl, .inl rfl⟩), HX⟩
          · have q1' : (kind == 1) = false := by simp [q1]
            by_cases q2 : undo = 0
            · subst q2
              go_wp2_with (fail)
              go_meet
              have z0 : (⟨#[]⟩ : ByteArray).size = 0 := rfl
              exact ⟨true, rfl, Lib.hid (iff_of_true rfl ⟨hb.out.1 rfl, .inr rfl, .inr rfl⟩), HX⟩
            · have q2' : (undo == 0) = false := by simp [q2]
              go_wp2_with (fail)
              go_meet
              have z0 : (⟨#[]⟩ : ByteArray).size = 0 := rfl
              exact ⟨false, rfl, Lib.hid (iff_of_false Bool.false_ne_true (fun h => (fun h => h.2.elim q1 q2 : ¬ _) h.2)), HX⟩
        · have q0' : ((next : Int) == 0) = false := by simp [q0]
          go_wp2_with (fail)
          go_meet
          have z0 : (⟨#[]⟩ : ByteArray).size = 0 := rfl
          exact ⟨false, rfl, Lib.hid (iff_of_false Bool.false_ne_true (fun h => (fun h => h.1.elim hn.out q0 : ¬ _) h.2)), HX⟩
  case rest =>
  obtain ⟨b, rfl, hb, HX1⟩ := hcut
  clear c0
  clear c3
  clear c9
  clear HX
  have HX := HX1
  clear HX1
  have c15 : wc.cell? ⟨w.heap.size, 15, none⟩ = some (.slice ta txs.length tc) := HX.out.blk.cell 15
  have c16 : wc.cell? ⟨w.heap.size, 16, none⟩ = some (.slice da dirty.length dc) := HX.out.blk.cell 16
  go_upto_region 11 with (fail)
  go_cut [6] from 146 to 173 (fun s6 wx => ∃ b, s6 = .bool b ∧ Hid (TB b (okP6 kind tx undo page k a s d index key rp rs live next txs dirty)) ∧ Hid (BoxAt w 63 #[.int .i64 kind, .int .i64 tx, .int .u64 (prev : Int), .int .u64 (next : Int), .int .u32 (page : Int), .int .i64 k, .int .i64 a, .string s, .string d, .int .i64 undo, .int .i64 index, .string key, .int .u32 (rp : Int), .int .i64 rs, .bool live, .slice ta txs.length tc, .slice da dirty.length dc] wx))
  case first =>
    cases b with
    | false =>
      go_wp2_with (fail)
      go_meet
      have z0 : (⟨#[]⟩ : ByteArray).size = 0 := rfl
      exact ⟨false, rfl, Lib.hid (iff_of_false Bool.false_ne_true (fun h => Bool.false_ne_true (hb.out.2 h.1))), HX⟩
    | true =>
      exact absurd (hb.out.1 rfl) HF.out
  case rest =>
  obtain ⟨b, rfl, hb, HX1⟩ := hcut
  clear c15
  clear c16
  clear HX
  have HX := HX1
  clear HX1
  have c15 : wc.cell? ⟨w.heap.size, 15, none⟩ = some (.slice ta txs.length tc) := HX.out.blk.cell 15
  have HX0 := HX
  go_wp2_with (fail)
  have HB := hb
  have HBF := Lib.hid (show ¬ b = true from fun h => HF.out ((hb.out.1 h).1))
  clear hb
  go_loopw [6, 177] (fun s6 s177 wx => ∃ (b1 : Bool) (j : Nat), s6 = .bool b1 ∧ s177 = .int .i64 (j : Int) ∧ j ≤ txs.length ∧ Hid (TB b1 (okL b txs j)) ∧ Hid (BoxAt w 63 #[.int .i64 kind, .int .i64 tx, .int .u64 (prev : Int), .int .u64 (next : Int), .int .u32 (page : Int), .int .i64 k, .int .i64 a, .string s, .string d, .int .i64 undo, .int .i64 index, .string key, .int .u32 (rp : Int), .int .i64 rs, .bool live, .slice ta txs.length tc, .slice da dirty.length dc] wx)) (fun _ s177 _ => txs.length - (intOf s177).toNat)
  case atStart => exact ⟨b, 0, rfl, rfl, Nat.zero_le _, Lib.hid ⟨fun h => ⟨h, fun t ht => by simp at ht⟩, fun h => h.1⟩, HX⟩
  case round =>
    clear c15 HX HX0
    obtain ⟨b1, j, rfl, rfl, hj, hb1, HX⟩ := hrel
    by_cases hjl : j < txs.length
    · obtain ⟨t, ht⟩ : ∃ t, txs[j]? = some t := ⟨_, List.getElem?_eq_getElem hjl⟩
      obtain ⟨tb, off, rfl, _, h1, h2, hbl, hc⟩ := HT.out.at_ ht
      have hHS := HX.out.base
      have d : ∀ (i : Nat) (u : Value), (tsC t)[i]? = some u → wr.cell? ⟨tb, off + j * 4 + i, none⟩ = some u := fun i u hu => (hHS.cell (p := ⟨tb, off + j * 4 + i, none⟩) hbl).trans (hc i u hu)
      have d0 : wr.cell? ⟨tb, off + j * 4, none⟩ = some (.int .i64 t.tx) := d 0 _ rfl
      have d1 : wr.cell? ⟨tb, off + j * 4 + 1, none⟩ = some (.int .i64 t.state) := d 1 _ rfl
      have d2 : wr.cell? ⟨tb, off + j * 4 + 2, none⟩ = some (.int .u64 (t.last : Int)) := d 2 _ rfl
      have d3 : wr.cell? ⟨tb, off + j * 4 + 3, none⟩ = some (.int .u64 (t.next : Int)) := d 3 _ rfl
      have HTK : Hid (txs.take (j + 1) = txs.take j ++ [t]) := by show _ = _; rw [List.take_add_one, ht]; rfl
      have HLEN : txs.length ≤ 9223372036854775807 := by have := HLT.out; simp only [maxLen] at this; omega
      have HJ1 := Lib.hid (show j + 1 ≤ txs.length from hjl)
      clear hc d hHS ht
      cases b1 with
      | true => exact absurd (hb1.out.1 rfl).1 HBF.out
      | false =>
        go_wp2_with (fail)
        go_roundw
        case rel => exact ⟨false, j + 1, rfl, by go_num, HJ1.out, Lib.hid (iff_of_false Bool.false_ne_true (fun h => Bool.false_ne_true (hb1.out.2 ⟨h.1, fun x hx => h.2 x (by rw [HTK.out]; exact List.mem_append_left _ hx)⟩))), Lib.hid (HX.out.below ((Below.refl _ _).alloc (Nat.le_refl _) _))⟩
        case measure => have := HJ1.out; simp [intOf]; omega
    · obtain rfl : j = txs.length := by omega
      have hb2 := hb1.out
      unfold okL at hb2
      rw [List.take_length] at hb2
      have hb1 := Lib.hid hb2
      clear hb2
      have HR := Lib.hid (@rec_ok_iff kind tx prev next page k a s d undo index key rp rs live txs dirty)
      cases b1 with
      | true =>
        go_wp2_with (fail)
        go_ret
        exact ⟨by rw [HRR.out, if_pos (HR.out.2 ⟨HB.out.1 (hb1.out.1 rfl).1, (hb1.out.1 rfl).2⟩)]; rfl, HX.out.base⟩
      | false =>
        go_wp2_with (fail)
        go_ret
        exact ⟨by rw [HRR.out, if_neg (fun h => Bool.false_ne_true (hb1.out.2 ⟨HB.out.2 (HR.out.1 h).1, (HR.out.1 h).2⟩))]; rfl, HX.out.base⟩
set_option maxRecDepth 100000 in
set_option maxHeartbeats 8000000 in
theorem recCheck_C (hmode : (okP5 kind tx undo page k a s d index key rp rs live next)) (ta da : Option Addr) (tc dc : Nat) (w : World) (hT : RdC 4 tsC w (.slice ta txs.length tc) txs) (hlt : txs.length ≤ maxLen) (hld : dirty.length ≤ maxLen) :
    Calls Tryz.prog 74 #[.agg #[.int .i64 kind, .int .i64 tx, .int .u64 (prev : Int), .int .u64 (next : Int), .int .u32 (page : Int), .int .i64 k, .int .i64 a, .string s, .string d, .int .i64 undo, .int .i64 index, .string key, .int .u32 (rp : Int), .int .i64 rs, .bool live, .slice ta txs.length tc, .slice da dirty.length dc]] w fun e w' => e = .returned (.int .i64 (if (⟨kind, tx, prev, next, page, ⟨k, a, s, d⟩, undo, index, ⟨key, rp, rs⟩, live, txs, dirty⟩ : Rc).ok then 0 else 40)) ∧ Below w.heap.size w w' := by
  have HQ5 := Lib.hid hmode
  have HQ4 := Lib.hid hmode.1
  have HQ3 := Lib.hid hmode.1.1
  have HQ2 := Lib.hid hmode.1.1.1
  have HQ1 := Lib.hid hmode.1.1.1.1
  clear hmode
  obtain ⟨R, hR⟩ : ∃ x : Int, x = if (⟨kind, tx, prev, next, page, ⟨k, a, s, d⟩, undo, index, ⟨key, rp, rs⟩, live, txs, dirty⟩ : Rc).ok then 0 else 40 := ⟨_, rfl⟩
  rw [← hR]
  have HRR := Lib.hid hR
  clear hR
  have HX := Lib.hid (BoxAt.new w 63 #[.int .i64 kind, .int .i64 tx, .int .u64 (prev : Int), .int .u64 (next : Int), .int .u32 (page : Int), .int .i64 k, .int .i64 a, .string s, .string d, .int .i64 undo, .int .i64 index, .string key, .int .u32 (rp : Int), .int .i64 rs, .bool live, .slice ta txs.length tc, .slice da dirty.length dc])
  have HT := Lib.hid hT
  have HLT := Lib.hid hlt
  have HLD := Lib.hid hld
  clear hT hlt hld
  obtain ⟨bc, hbc⟩ : ∃ x, x = decide (kind = 1 ∨ kind = 2) := ⟨_, rfl⟩
  obtain ⟨bn, hbn⟩ : ∃ x, x = decide (kind = 2 ∨ kind = 3) := ⟨_, rfl⟩
  obtain ⟨bt, hbt⟩ : ∃ x, x = decide (kind = 8) := ⟨_, rfl⟩
  have HN : ∀ W, Hid (Calls Tryz.prog 88 #[.int .i64 kind] W fun e w' => e = .returned (.tuple #[.bool bc, .bool bn, .bool bt]) ∧ w' = W) := fun W => by
    rw [hbc, hbn, hbt]
    exact recNamed_c kind W
  have HBC := Lib.hid hbc
  have HBN := Lib.hid hbn
  have HBT := Lib.hid hbt
  clear hbc hbn hbt
  go_enter Tryz.func74, Tryz.ntmps74
  go_wp2_with (fail)
  refine (HN _).out.mono ?_
  rintro e w' ⟨rfl, rfl⟩
  clear HN
  go_upto_region 2 with (fail)
  go_cut [6] from 16 to 33 (fun s6 wx => ∃ b, s6 = .bool b ∧ Hid (TB b (okP1 kind tx)) ∧ Hid (BoxAt w 63 #[.int .i64 kind, .int .i64 tx, .int .u64 (prev : Int), .int .u64 (next : Int), .int .u32 (page : Int), .int .i64 k, .int .i64 a, .string s, .string d, .int .i64 undo, .int .i64 index, .string key, .int .u32 (rp : Int), .int .i64 rs, .bool live, .slice ta txs.length tc, .slice da dirty.length dc] wx))
  case first =>
    by_cases h1 : 1 ≤ kind
    · skip
      by_cases h2 : kind ≤ 8
      · skip
        by_cases h3 : 0 ≤ tx
        · skip
          by_cases h4 : tx < 2147483648
          · skip
            go_wp2_with (fail)
            go_meet
            exact ⟨true, rfl, Lib.hid (iff_of_true rfl (by unfold okP1; omega)), HX⟩
          · skip
            exfalso
            have h := HQ1.out
            unfold okP1 at h
            omega
        · skip
          exfalso
          have h := HQ1.out
          unfold okP1 at h
          omega
      · skip
        exfalso
        have h := HQ1.out
        unfold okP1 at h
        omega
    · skip
      exfalso
      have h := HQ1.out
      unfold okP1 at h
      omega
  case rest =>
  obtain ⟨b, rfl, hb, HX1⟩ := hcut
  clear HX
  have HX := HX1
  clear HX1
  have c9 : wc.cell? ⟨w.heap.size, 9, none⟩ = some (.int .i64 undo) := HX.out.blk.cell 9
  go_upto_region 3 with (fail)
  go_cut [6] from 34 to 44 (fun s6 wx => ∃ b, s6 = .bool b ∧ Hid (TB b (okP2 kind tx undo)) ∧ Hid (BoxAt w 63 #[.int .i64 kind, .int .i64 tx, .int .u64 (prev : Int), .int .u64 (next : Int), .int .u32 (page : Int), .int .i64 k, .int .i64 a, .string s, .string d, .int .i64 undo, .int .i64 index, .string key, .int .u32 (rp : Int), .int .i64 rs, .bool live, .slice ta txs.length tc, .slice da dirty.length dc] wx))
  case first =>
    cases b with
    | false =>
      exact absurd (hb.out.2 HQ1.out) Bool.false_ne_true
    | true =>
      by_cases h1 : 0 ≤ undo
      · skip
        by_cases h2 : undo ≤ 2
        · skip
          go_wp2_with (fail)
          go_meet
          have z0 : (⟨#[]⟩ : ByteArray).size = 0 := rfl
          exact ⟨true, rfl, Lib.hid (iff_of_true rfl ⟨hb.out.1 rfl, (by omega)⟩), HX⟩
        · skip
          have z0 : (⟨#[]⟩ : ByteArray).size = 0 := rfl
          exact absurd HQ2.out.2 (by omega)
      · skip
        have z0 : (⟨#[]⟩ : ByteArray).size = 0 := rfl
        exact absurd HQ2.out.2 (by omega)
  case rest =>
  obtain ⟨b, rfl, hb, HX1⟩ := hcut
  clear c9
  clear HX
  have HX := HX1
  clear HX1
  have c4 : wc.cell? ⟨w.heap.size, 4, none⟩ = some (.int .u32 (page : Int)) := HX.out.blk.cell 4
  have c5 : wc.cell? ⟨w.heap.size, 5, none⟩ = some (.int .i64 k) := HX.out.blk.cell 5
  have c6 : wc.cell? ⟨w.heap.size, 6, none⟩ = some (.int .i64 a) := HX.out.blk.cell 6
  have c7 : wc.cell? ⟨w.heap.size, 7, none⟩ = some (.string s) := HX.out.blk.cell 7
  have c8 : wc.cell? ⟨w.heap.size, 8, none⟩ = some (.string d) := HX.out.blk.cell 8
  have c9 : wc.cell? ⟨w.heap.size, 9, none⟩ = some (.int .i64 undo) := HX.out.blk.cell 9
  go_upto_if 45 with (fail)
  go_cut [6] from 46 to 74 (fun s6 wx => ∃ b, s6 = .bool b ∧ Hid (TB b (okP3 kind tx undo page k a s d)) ∧ Hid (BoxAt w 63 #[.int .i64 kind, .int .i64 tx, .int .u64 (prev : Int), .int .u64 (next : Int), .int .u32 (page : Int), .int .i64 k, .int .i64 a, .string s, .string d, .int .i64 undo, .int .i64 index, .string key, .int .u32 (rp : Int), .int .i64 rs, .bool live, .slice ta txs.length tc, .slice da dirty.length dc] wx))
  case first =>
    cases bc with
    | true =>
      have hk := Lib.hid (of_decide_eq_true HBC.out.symm)
      by_cases hok : PgOp.ok ⟨k, a, s, d⟩
      · have HC : ∀ W, Hid (Calls Tryz.prog 152 #[.agg #[.int .i64 k, .int .i64 a, .string s, .string d]] W fun e w' => e = .returned (.int .i64 0) ∧ Below W.heap.size W w') := fun W => by have := pcheck_c ⟨k, a, s, d⟩ W; rw [if_pos hok] at this; exact this
        have HOK := Lib.hid hok
        clear hok
        cases b with
        | false =>
          exact absurd (hb.out.2 HQ2.out) Bool.false_ne_true
        | true =>
          by_cases hp : page = 0
          · subst hp
            exact absurd rfl (HQ3.out.2.1 hk.out).1
          · have hp' : ((page : Int) == 0) = false := by simp [hp]
            have hp'' : ((page : Int) != 0) = true := by simp [hp]
            go_wp2_with (fail)
            refine (HC _).out.mono ?_
            rintro e w' ⟨rfl, hbel⟩
            have HBL := Lib.hid (HX.out.below hbel)
            clear hbel
            go_wp2_with (fail)
            go_meet
            exact ⟨true, rfl, Lib.hid (iff_of_true rfl ⟨hb.out.1 rfl, fun _ => ⟨hp, HOK.out⟩, fun h => absurd hk.out h⟩), HBL⟩
      · have HC : ∀ W, Hid (Calls Tryz.prog 152 #[.agg #[.int .i64 k, .int .i64 a, .string s, .string d]] W fun e w' => e = .returned (.int .i64 33) ∧ Below W.heap.size W w') := fun W => by have := pcheck_c ⟨k, a, s, d⟩ W; rw [if_neg hok] at this; exact this
        have HOK := Lib.hid hok
        clear hok
        cases b with
        | false =>
          exact absurd (hb.out.2 HQ2.out) Bool.false_ne_true
        | true =>
          exact absurd (HQ3.out.2.1 hk.out).2 HOK.out
    | false =>
      have hk := Lib.hid (of_decide_eq_false HBC.out.symm)
      cases b with
      | false =>
        exact absurd (hb.out.2 HQ2.out) Bool.false_ne_true
      | true =>
        by_cases hp : page = 0
        · subst hp
          by_cases q1 : k = 0
          · subst q1
            by_cases q2 : a = 0
            · subst q2
              rcases empty_or s with rfl | ⟨q3x, q3l, q3⟩
              · skip
                rcases empty_or d with rfl | ⟨q4x, q4l, q4⟩
                · skip
                  by_cases q5 : undo = 0
                  · subst q5
                    go_wp2_with (fail)
                    go_meet
                    have z0 : (⟨#[]⟩ : ByteArray).size = 0 := rfl
                    exact ⟨true, rfl, Lib.hid (iff_of_true rfl ⟨hb.out.1 rfl, fun h => absurd h hk.out, fun _ => ⟨rfl, ⟨rfl, rfl, rfl, rfl⟩, rfl⟩⟩), HX⟩
                  · have q5' : (undo == 0) = false := by simp [q5]
                    have z0 : (⟨#[]⟩ : ByteArray).size = 0 := rfl
                    exact absurd HQ3.out.2 (by intro h; have := h.2 hk.out; omega)
                · have q4z := Lib.hid (size_cons q4)
                  have q4zo := q4z.out
                  have z0 : (⟨#[]⟩ : ByteArray).size = 0 := rfl
                  exact absurd HQ3.out.2 (by intro h; have := h.2 hk.out; omega)
              · have q3z := Lib.hid (size_cons q3)
                have q3zo := q3z.out
                have z0 : (⟨#[]⟩ : ByteArray).size = 0 := rfl
                exact absurd HQ3.out.2 (by intro h; have := h.2 hk.out; omega)
            · have q2' : (a == 0) = false := by simp [q2]
              have z0 : (⟨#[]⟩ : ByteArray).size = 0 := rfl
              exact absurd HQ3.out.2 (by intro h; have := h.2 hk.out; omega)
          · have q1' : (k == 0) = false := by simp [q1]
            have z0 : (⟨#[]⟩ : ByteArray).size = 0 := rfl
            exact absurd HQ3.out.2 (by intro h; have := h.2 hk.out; omega)
        · have hp' : ((page : Int) == 0) = false := by simp [hp]
          have z0 : (⟨#[]⟩ : ByteArray).size = 0 := rfl
          exact absurd HQ3.out.2 (by intro h; have := h.2 hk.out; omega)
  case rest =>
  obtain ⟨b, rfl, hb, HX1⟩ := hcut
  clear c4
  clear c5
  clear c6
  clear c7
  clear c8
  clear c9
  clear HX
  have HX := HX1
  clear HX1
  have c9 : wc.cell? ⟨w.heap.size, 9, none⟩ = some (.int .i64 undo) := HX.out.blk.cell 9
  have c10 : wc.cell? ⟨w.heap.size, 10, none⟩ = some (.int .i64 index) := HX.out.blk.cell 10
  have c11 : wc.cell? ⟨w.heap.size, 11, none⟩ = some (.string key) := HX.out.blk.cell 11
  have c12 : wc.cell? ⟨w.heap.size, 12, none⟩ = some (.int .u32 (rp : Int)) := HX.out.blk.cell 12
  have c13 : wc.cell? ⟨w.heap.size, 13, none⟩ = some (.int .i64 rs) := HX.out.blk.cell 13
  have c14 : wc.cell? ⟨w.heap.size, 14, none⟩ = some (.bool live) := HX.out.blk.cell 14
  go_upto_if 77 with (fail)
  go_cut [6] from 78 to 126 (fun s6 wx => ∃ b, s6 = .bool b ∧ Hid (TB b (okP4 kind tx undo page k a s d index key rp rs live)) ∧ Hid (BoxAt w 63 #[.int .i64 kind, .int .i64 tx, .int .u64 (prev : Int), .int .u64 (next : Int), .int .u32 (page : Int), .int .i64 k, .int .i64 a, .string s, .string d, .int .i64 undo, .int .i64 index, .string key, .int .u32 (rp : Int), .int .i64 rs, .bool live, .slice ta txs.length tc, .slice da dirty.length dc] wx))
  case first =>
    by_cases hu : undo = 2
    · subst hu
      cases b with
      | false =>
        exact absurd (hb.out.2 HQ3.out) Bool.false_ne_true
      | true =>
        by_cases h1 : 0 ≤ index
        · skip
          by_cases h2 : index < 65536
          · skip
            by_cases h3 : (key.size : Int) ≤ 64
            · skip
              by_cases h4 : 0 ≤ rs
              · skip
                by_cases h5 : rs < 65536
                · skip
                  go_wp2_with (fail)
                  go_meet
                  have z0 : (⟨#[]⟩ : ByteArray).size = 0 := rfl
                  exact ⟨true, rfl, Lib.hid (iff_of_true rfl ⟨hb.out.1 rfl, fun _ => ⟨h1, h2, by omega, h4, h5⟩, fun h => absurd rfl h⟩), HX⟩
                · skip
                  have z0 : (⟨#[]⟩ : ByteArray).size = 0 := rfl
                  exact absurd HQ4.out.2 (by intro h; have := h.1 rfl; omega)
              · skip
                have z0 : (⟨#[]⟩ : ByteArray).size = 0 := rfl
                exact absurd HQ4.out.2 (by intro h; have := h.1 rfl; omega)
            · skip
              have z0 : (⟨#[]⟩ : ByteArray).size = 0 := rfl
              exact absurd HQ4.out.2 (by intro h; have := h.1 rfl; omega)
          · skip
            have z0 : (⟨#[]⟩ : ByteArray).size = 0 := rfl
            exact absurd HQ4.out.2 (by intro h; have := h.1 rfl; omega)
        · skip
          have z0 : (⟨#[]⟩ : ByteArray).size = 0 := rfl
          exact absurd HQ4.out.2 (by intro h; have := h.1 rfl; omega)
    · have hu' : (undo == 2) = false := by simp [hu]
      cases b with
      | false =>
        exact absurd (hb.out.2 HQ3.out) Bool.false_ne_true
      | true =>
        by_cases q1 : index = 0
        · subst q1
          rcases empty_or key with rfl | ⟨q2x, q2l, q2⟩
          · skip
            by_cases q3 : rp = 0
            · subst q3
              by_cases q4 : rs = 0
              · subst q4
                cases live with
                | true =>
                  have z0 : (⟨#[]⟩ : ByteArray).size = 0 := rfl
                  exact absurd HQ4.out.2 (by intro h; have := h.2 hu; first | (simp at this; done) | omega | (simp at this; omega))
                | false =>
                  go_wp2_with (fail)
                  go_meet
                  have z0 : (⟨#[]⟩ : ByteArray).size = 0 := rfl
                  exact ⟨true, rfl, Lib.hid (iff_of_true rfl ⟨hb.out.1 rfl, fun h => absurd h hu, fun _ => ⟨rfl, ⟨rfl, rfl, rfl⟩, rfl⟩⟩), HX⟩
              · have q4' : (rs == 0) = false := by simp [q4]
                have z0 : (⟨#[]⟩ : ByteArray).size = 0 := rfl
                exact absurd HQ4.out.2 (by intro h; have := h.2 hu; first | (simp at this; done) | omega | (simp at this; omega))
            · have q3' : ((rp : Int) == 0) = false := by simp [q3]
              have z0 : (⟨#[]⟩ : ByteArray).size = 0 := rfl
              exact absurd HQ4.out.2 (by intro h; have := h.2 hu; first | (simp at this; done) | omega | (simp at this; omega))
          · have q2z := Lib.hid (size_cons q2)
            have q2zo := q2z.out
            have z0 : (⟨#[]⟩ : ByteArray).size = 0 := rfl
            exact absurd HQ4.out.2 (by intro h; have := h.2 hu; first | (simp at this; done) | omega | (simp at this; omega))
        · have q1' : (index == 0) = false := by simp [q1]
          have z0 : (⟨#[]⟩ : ByteArray).size = 0 := rfl
          exact absurd HQ4.out.2 (by intro h; have := h.2 hu; first | (simp at this; done) | omega | (simp at this; omega))
  case rest =>
  obtain ⟨b, rfl, hb, HX1⟩ := hcut
  clear c9
  clear c10
  clear c11
  clear c12
  clear c13
  clear c14
  clear HX
  have HX := HX1
  clear HX1
  have c0 : wc.cell? ⟨w.heap.size, 0, none⟩ = some (.int .i64 kind) := HX.out.blk.cell 0
  have c3 : wc.cell? ⟨w.heap.size, 3, none⟩ = some (.int .u64 (next : Int)) := HX.out.blk.cell 3
  have c9 : wc.cell? ⟨w.heap.size, 9, none⟩ = some (.int .i64 undo) := HX.out.blk.cell 9
  go_upto_region 10 with (fail)
  go_cut [6] from 127 to 145 (fun s6 wx => ∃ b, s6 = .bool b ∧ Hid (TB b (okP5 kind tx undo page k a s d index key rp rs live next)) ∧ Hid (BoxAt w 63 #[.int .i64 kind, .int .i64 tx, .int .u64 (prev : Int), .int .u64 (next : Int), .int .u32 (page : Int), .int .i64 k, .int .i64 a, .string s, .string d, .int .i64 undo, .int .i64 index, .string key, .int .u32 (rp : Int), .int .i64 rs, .bool live, .slice ta txs.length tc, .slice da dirty.length dc] wx))
  case first =>
    cases b with
    | false =>
      exact absurd (hb.out.2 HQ4.out) Bool.false_ne_true
    | true =>
      cases bn with
      | true =>
        have hn := Lib.hid (of_decide_eq_true HBN.out.symm)
        by_cases q1 : kind = 1
        · subst q1
          go_wp2_with (fail)
          go_meet
          have z0 : (⟨#[]⟩ : ByteArray).size = 0 := rfl
          exact ⟨true, rfl, Lib.hid (iff_of_true rfl ⟨hb.out.1 rfl, .inl hn.out, .inl rfl⟩), HX⟩
        · have q1' : (kind == 1) = false := by simp [q1]
          by_cases q2 : undo = 0
          · subst q2
            go_wp2_with (fail)
            go_meet
            have z0 : (⟨#[]⟩ : ByteArray).size = 0 := rfl
            exact ⟨true, rfl, Lib.hid (iff_of_true rfl ⟨hb.out.1 rfl, .inl hn.out, .inr rfl⟩), HX⟩
          · have q2' : (undo == 0) = false := by simp [q2]
            have z0 : (⟨#[]⟩ : ByteArray).size = 0 := rfl
            exact absurd HQ5.out.2 (fun h => h.2.elim q1 q2)
      | false =>
        have hn := Lib.hid (of_decide_eq_false HBN.out.symm)
        by_cases q0 : next = 0
        · subst q0
          by_cases q1 : kind = 1
          · subst q1
            go_wp2_with (fail)
            go_meet
            have z0 : (⟨#[]⟩ : ByteArray).size = 0 := rfl
            exact ⟨true, rfl, Lib.hid (iff_of_true rfl ⟨hb.out.1 rfl, .inr rfl, .inl rfl⟩), HX⟩
          · have q1' : (kind == 1) = false := by simp [q1]
            by_cases q2 : undo = 0
            · subst q2
              go_wp2_with (fail)
              go_meet
              have z0 : (⟨#[]⟩ : ByteArray).size = 0 := rfl
              exact ⟨true, rfl, Lib.hid (iff_of_true rfl ⟨hb.out.1 rfl, .inr rfl, .inr rfl⟩), HX⟩
            · have q2' : (undo == 0) = false := by simp [q2]
              have z0 : (⟨#[]⟩ : ByteArray).size = 0 := rfl
              exact absurd HQ5.out.2 (fun h => h.2.elim q1 q2)
        · have q0' : ((next : Int) == 0) = false := by simp [q0]
          have z0 : (⟨#[]⟩ : ByteArray).size = 0 := rfl
          exact absurd HQ5.out.2 (fun h => h.1.elim hn.out q0)
  case rest =>
  obtain ⟨b, rfl, hb, HX1⟩ := hcut
  clear c0
  clear c3
  clear c9
  clear HX
  have HX := HX1
  clear HX1
  have c15 : wc.cell? ⟨w.heap.size, 15, none⟩ = some (.slice ta txs.length tc) := HX.out.blk.cell 15
  have c16 : wc.cell? ⟨w.heap.size, 16, none⟩ = some (.slice da dirty.length dc) := HX.out.blk.cell 16
  go_upto_region 11 with (fail)
  go_cut [6] from 146 to 173 (fun s6 wx => ∃ b, s6 = .bool b ∧ Hid (TB b (okP6 kind tx undo page k a s d index key rp rs live next txs dirty)) ∧ Hid (BoxAt w 63 #[.int .i64 kind, .int .i64 tx, .int .u64 (prev : Int), .int .u64 (next : Int), .int .u32 (page : Int), .int .i64 k, .int .i64 a, .string s, .string d, .int .i64 undo, .int .i64 index, .string key, .int .u32 (rp : Int), .int .i64 rs, .bool live, .slice ta txs.length tc, .slice da dirty.length dc] wx))
  case first =>
    cases b with
    | false =>
      go_wp2_with (fail)
      go_meet
      have z0 : (⟨#[]⟩ : ByteArray).size = 0 := rfl
      exact ⟨false, rfl, Lib.hid (iff_of_false Bool.false_ne_true (fun h => Bool.false_ne_true (hb.out.2 h.1))), HX⟩
    | true =>
      cases bt with
      | true =>
        have Q6a := Lib.hid (show kind = 8 ∨ (txs.length = 0 ∧ dirty.length = 0) from .inl (of_decide_eq_true HBT.out.symm))
        clear HBT HBN HBC
        by_cases h1 : (txs.length : Int) ≤ 64
        · skip
          by_cases h2 : (dirty.length : Int) ≤ 256
          · skip
            go_wp2_with (fail)
            go_meet
            have z0 : (⟨#[]⟩ : ByteArray).size = 0 := rfl
            exact ⟨true, rfl, Lib.hid (iff_of_true rfl ⟨hb.out.1 rfl, Q6a.out, by omega, by omega⟩), HX⟩
          · skip
            go_wp2_with (fail)
            go_meet
            have z0 : (⟨#[]⟩ : ByteArray).size = 0 := rfl
            exact ⟨false, rfl, Lib.hid (iff_of_false Bool.false_ne_true (fun h => (by intro h; have := h.2; omega : ¬ _) h.2)), HX⟩
        · skip
          go_wp2_with (fail)
          go_meet
          have z0 : (⟨#[]⟩ : ByteArray).size = 0 := rfl
          exact ⟨false, rfl, Lib.hid (iff_of_false Bool.false_ne_true (fun h => (by intro h; have := h.2; omega : ¬ _) h.2)), HX⟩
      | false =>
        have hn := Lib.hid (of_decide_eq_false HBT.out.symm)
        by_cases q0 : txs.length = 0
        · have q0' : ((txs.length : Int) == 0) = true := by simp [q0]
          have q0h := Lib.hid q0
          clear q0
          by_cases q1 : dirty.length = 0
          · have q1' : ((dirty.length : Int) == 0) = true := by simp [q1]
            have Q6a := Lib.hid (show kind = 8 ∨ (txs.length = 0 ∧ dirty.length = 0) from .inr ⟨q0h.out, q1⟩)
            have q1h := Lib.hid q1
            clear q1
            have h1 : (txs.length : Int) ≤ 64 := by have := q0h.out; omega
            have h2 : (dirty.length : Int) ≤ 256 := by have := q1h.out; omega
            go_wp2_with (fail)
            go_meet
            have z0 : (⟨#[]⟩ : ByteArray).size = 0 := rfl
            exact ⟨true, rfl, Lib.hid (iff_of_true rfl ⟨hb.out.1 rfl, Q6a.out, by omega, by omega⟩), HX⟩
          · have q1' : ((dirty.length : Int) == 0) = false := by simp [q1]
            go_wp2_with (fail)
            go_meet
            have z0 : (⟨#[]⟩ : ByteArray).size = 0 := rfl
            exact ⟨false, rfl, Lib.hid (iff_of_false Bool.false_ne_true (fun h => (fun h => h.1.elim hn.out (fun h => q1 h.2) : ¬ _) h.2)), HX⟩
        · have q0' : ((txs.length : Int) == 0) = false := by simp [q0]
          go_wp2_with (fail)
          go_meet
          have z0 : (⟨#[]⟩ : ByteArray).size = 0 := rfl
          exact ⟨false, rfl, Lib.hid (iff_of_false Bool.false_ne_true (fun h => (fun h => h.1.elim hn.out (fun h => q0 h.1) : ¬ _) h.2)), HX⟩
  case rest =>
  obtain ⟨b, rfl, hb, HX1⟩ := hcut
  clear c15
  clear c16
  clear HX
  have HX := HX1
  clear HX1
  have c15 : wc.cell? ⟨w.heap.size, 15, none⟩ = some (.slice ta txs.length tc) := HX.out.blk.cell 15
  have HX0 := HX
  go_wp2_with (fail)
  have HB := hb
  clear hb
  go_loopw [6, 177] (fun s6 s177 wx => ∃ (b1 : Bool) (j : Nat), s6 = .bool b1 ∧ s177 = .int .i64 (j : Int) ∧ j ≤ txs.length ∧ Hid (TB b1 (okL b txs j)) ∧ Hid (BoxAt w 63 #[.int .i64 kind, .int .i64 tx, .int .u64 (prev : Int), .int .u64 (next : Int), .int .u32 (page : Int), .int .i64 k, .int .i64 a, .string s, .string d, .int .i64 undo, .int .i64 index, .string key, .int .u32 (rp : Int), .int .i64 rs, .bool live, .slice ta txs.length tc, .slice da dirty.length dc] wx)) (fun _ s177 _ => txs.length - (intOf s177).toNat)
  case atStart => exact ⟨b, 0, rfl, rfl, Nat.zero_le _, Lib.hid ⟨fun h => ⟨h, fun t ht => by simp at ht⟩, fun h => h.1⟩, HX⟩
  case round =>
    clear c15 HX HX0
    obtain ⟨b1, j, rfl, rfl, hj, hb1, HX⟩ := hrel
    by_cases hjl : j < txs.length
    · obtain ⟨t, ht⟩ : ∃ t, txs[j]? = some t := ⟨_, List.getElem?_eq_getElem hjl⟩
      obtain ⟨tb, off, rfl, _, h1, h2, hbl, hc⟩ := HT.out.at_ ht
      have hHS := HX.out.base
      have d : ∀ (i : Nat) (u : Value), (tsC t)[i]? = some u → wr.cell? ⟨tb, off + j * 4 + i, none⟩ = some u := fun i u hu => (hHS.cell (p := ⟨tb, off + j * 4 + i, none⟩) hbl).trans (hc i u hu)
      have d0 : wr.cell? ⟨tb, off + j * 4, none⟩ = some (.int .i64 t.tx) := d 0 _ rfl
      have d1 : wr.cell? ⟨tb, off + j * 4 + 1, none⟩ = some (.int .i64 t.state) := d 1 _ rfl
      have d2 : wr.cell? ⟨tb, off + j * 4 + 2, none⟩ = some (.int .u64 (t.last : Int)) := d 2 _ rfl
      have d3 : wr.cell? ⟨tb, off + j * 4 + 3, none⟩ = some (.int .u64 (t.next : Int)) := d 3 _ rfl
      have HTK : Hid (txs.take (j + 1) = txs.take j ++ [t]) := by show _ = _; rw [List.take_add_one, ht]; rfl
      have HLEN : txs.length ≤ 9223372036854775807 := by have := HLT.out; simp only [maxLen] at this; omega
      have HJ1 := Lib.hid (show j + 1 ≤ txs.length from hjl)
      clear hc d hHS ht
      cases b1 with
      | false =>
        go_wp2_with (fail)
        go_roundw
        case rel => exact ⟨false, j + 1, rfl, by go_num, HJ1.out, Lib.hid (iff_of_false Bool.false_ne_true (fun h => Bool.false_ne_true (hb1.out.2 ⟨h.1, fun x hx => h.2 x (by rw [HTK.out]; exact List.mem_append_left _ hx)⟩))), Lib.hid (HX.out.below ((Below.refl _ _).alloc (Nat.le_refl _) _))⟩
        case measure => have := HJ1.out; simp [intOf]; omega
      | true =>
        by_cases h4 : 0 ≤ t.tx
        · skip
          by_cases h5 : t.tx < 2147483648
          · skip
            by_cases h6 : 1 ≤ t.state
            · skip
              by_cases h7 : t.state ≤ 3
              · skip
                go_wp2_with (fail)
                go_roundw
                case rel => exact ⟨true, j + 1, rfl, by go_num, HJ1.out, Lib.hid (iff_of_true rfl ⟨(hb1.out.1 rfl).1, fun x hx => by rw [HTK.out] at hx; rcases List.mem_append.1 hx with hx | hx; exact (hb1.out.1 rfl).2 x hx; rw [List.mem_singleton.1 hx]; exact ⟨h4, h5, h6, h7⟩⟩), Lib.hid (HX.out.below ((Below.refl _ _).alloc (Nat.le_refl _) _))⟩
                case measure => have := HJ1.out; simp [intOf]; omega
              · skip
                go_wp2_with (fail)
                go_roundw
                case rel => exact ⟨false, j + 1, rfl, by go_num, HJ1.out, Lib.hid (iff_of_false Bool.false_ne_true (fun h => by have := h.2 t (by rw [HTK.out]; simp); unfold Ts.ok at this; omega)), Lib.hid (HX.out.below ((Below.refl _ _).alloc (Nat.le_refl _) _))⟩
                case measure => have := HJ1.out; simp [intOf]; omega
            · skip
              go_wp2_with (fail)
              go_roundw
              case rel => exact ⟨false, j + 1, rfl, by go_num, HJ1.out, Lib.hid (iff_of_false Bool.false_ne_true (fun h => by have := h.2 t (by rw [HTK.out]; simp); unfold Ts.ok at this; omega)), Lib.hid (HX.out.below ((Below.refl _ _).alloc (Nat.le_refl _) _))⟩
              case measure => have := HJ1.out; simp [intOf]; omega
          · skip
            go_wp2_with (fail)
            go_roundw
            case rel => exact ⟨false, j + 1, rfl, by go_num, HJ1.out, Lib.hid (iff_of_false Bool.false_ne_true (fun h => by have := h.2 t (by rw [HTK.out]; simp); unfold Ts.ok at this; omega)), Lib.hid (HX.out.below ((Below.refl _ _).alloc (Nat.le_refl _) _))⟩
            case measure => have := HJ1.out; simp [intOf]; omega
        · skip
          go_wp2_with (fail)
          go_roundw
          case rel => exact ⟨false, j + 1, rfl, by go_num, HJ1.out, Lib.hid (iff_of_false Bool.false_ne_true (fun h => by have := h.2 t (by rw [HTK.out]; simp); unfold Ts.ok at this; omega)), Lib.hid (HX.out.below ((Below.refl _ _).alloc (Nat.le_refl _) _))⟩
          case measure => have := HJ1.out; simp [intOf]; omega
    · obtain rfl : j = txs.length := by omega
      have hb2 := hb1.out
      unfold okL at hb2
      rw [List.take_length] at hb2
      have hb1 := Lib.hid hb2
      clear hb2
      have HR := Lib.hid (@rec_ok_iff kind tx prev next page k a s d undo index key rp rs live txs dirty)
      cases b1 with
      | true =>
        go_wp2_with (fail)
        go_ret
        exact ⟨by rw [HRR.out, if_pos (HR.out.2 ⟨HB.out.1 (hb1.out.1 rfl).1, (hb1.out.1 rfl).2⟩)]; rfl, HX.out.base⟩
      | false =>
        go_wp2_with (fail)
        go_ret
        exact ⟨by rw [HRR.out, if_neg (fun h => Bool.false_ne_true (hb1.out.2 ⟨HB.out.2 (HR.out.1 h).1, (HR.out.1 h).2⟩))]; rfl, HX.out.base⟩
theorem recCheck_w (ta da : Option Addr) (tc dc : Nat) (w : World) (hT : RdC 4 tsC w (.slice ta txs.length tc) txs) (hlt : txs.length ≤ maxLen) (hld : dirty.length ≤ maxLen) :
    Calls Tryz.prog 74 #[.agg #[.int .i64 kind, .int .i64 tx, .int .u64 (prev : Int), .int .u64 (next : Int), .int .u32 (page : Int), .int .i64 k, .int .i64 a, .string s, .string d, .int .i64 undo, .int .i64 index, .string key, .int .u32 (rp : Int), .int .i64 rs, .bool live, .slice ta txs.length tc, .slice da dirty.length dc]] w fun e w' => e = .returned (.int .i64 (if (⟨kind, tx, prev, next, page, ⟨k, a, s, d⟩, undo, index, ⟨key, rp, rs⟩, live, txs, dirty⟩ : Rc).ok then 0 else 40)) ∧ Below w.heap.size w w' := by
  by_cases h3 : (okP3 kind tx undo page k a s d)
  · by_cases h5 : (okP5 kind tx undo page k a s d index key rp rs live next)
    · exact recCheck_C h5 ta da tc dc w hT hlt hld
    · exact recCheck_B ⟨h3, h5⟩ ta da tc dc w hT hlt hld
  · exact recCheck_A h3 ta da tc dc w hT hlt hld
end
end Go.Proofs.YtpnndlahfllbhaaGreat
