/-
  The walks of page.kindOf, page.Check and rec.named. Printed by n1.py.
-/
import Derived.Test.YtpnndlahfllbhaaGreatUN5
import Derived.Test.YtpnndlahfllbhaaGreatUR0
import Derived.Deep.QuietTactic
import Derived.BigQuiet
import Derived.Deep.DeepCutAuto
namespace Go.Proofs.YtpnndlahfllbhaaGreat
open Go.RowKit
attribute [local go_sem ↓] Go.wp_at_zero Go.wp_at_succ

theorem empty_or (s : ByteArray) : s = ⟨#[]⟩ ∨ ∃ x l, s.toList = x :: l := by
  cases hl : s.toList with
  | nil =>
    refine .inl ?_
    rw [ByteArray.toList_eq] at hl
    apply ByteArray.ext
    exact Array.toList_inj.1 hl
  | cons x l => exact .inr ⟨x, l, rfl⟩
theorem size_cons {s : ByteArray} {x : UInt8} {l : List UInt8} (h : s.toList = x :: l) : 1 ≤ s.size := by
  rw [ByteArray.toList_eq] at h
  rw [ba_size, h]
  simp
/-- a boxed argument -/
structure BoxAt (w : World) (t : TypeId) (cs : Array Value) (wx : World) : Prop where
  blk : Blk wx w.heap.size t cs
  base : Below w.heap.size w wx
theorem BoxAt.new (w : World) (t : TypeId) (cs : Array Value) : BoxAt w t cs (w.alloc (.cells cs t)) := ⟨Blk.new w _ _, (Below.refl _ _).alloc (Nat.le_refl _) _⟩
theorem below_drewN' {B : Nat} {w w' : World} (h : Below B w w') (n : Nat) : Below B w (w'.drewN n) := ⟨h.os, h.tape, h.output, h.size, h.block⟩
theorem BoxAt.drewN {w : World} {t : TypeId} {cs : Array Value} {wx : World} (h : BoxAt w t cs wx) (n : Nat) : BoxAt w t cs (wx.drewN n) := ⟨h.blk, below_drewN' h.base n⟩
theorem BoxAt.below {w : World} {t : TypeId} {cs : Array Value} {wx wy : World} (h : BoxAt w t cs wx) (hb : Below wx.heap.size wx wy) : BoxAt w t cs wy := ⟨h.blk.same (hb.block _ h.blk.lt), h.base.trans (hb.mono h.base.size)⟩

/-- a change as an argument -/
def OpV (o : PgOp) : Value := .agg #[.int .i64 o.kind, .int .i64 o.at_, .string o.s, .string o.old]
set_option maxRecDepth 100000 in
theorem pkindOf_c (s : ByteArray) (w : World) : Calls Tryz.prog 210 #[.string s] w fun e w' => e = .returned (.bool (decide (1 ≤ s.size ∧ s.size ≤ 33))) ∧ w' = w := by
  obtain ⟨R, hR⟩ : ∃ x, x = decide (1 ≤ s.size ∧ s.size ≤ 33) := ⟨_, rfl⟩
  rw [← hR]
  have HR := Lib.hid hR
  clear hR
  by_cases h1 : (1 : Int) ≤ (s.size : Int)
  · by_cases h2 : (s.size : Int) ≤ 33
    · go_enter Tryz.func210, Tryz.ntmps210
      go_wp2_with (fail)
      go_ret
      exact ⟨by rw [HR.out, decide_eq_true (by omega)]; rfl, rfl⟩
    · go_enter Tryz.func210, Tryz.ntmps210
      go_wp2_with (fail)
      go_ret
      exact ⟨by rw [HR.out, decide_eq_false (by omega)]; rfl, rfl⟩
  · go_enter Tryz.func210, Tryz.ntmps210
    go_wp2_with (fail)
    go_ret
    exact ⟨by rw [HR.out, decide_eq_false (by omega)]; rfl, rfl⟩
set_option maxRecDepth 100000 in
theorem recNamed_c (k : Int) (w : World) : Calls Tryz.prog 88 #[.int .i64 k] w fun e w' => e = .returned (.tuple #[.bool (decide (k = 1 ∨ k = 2)), .bool (decide (k = 2 ∨ k = 3)), .bool (decide (k = 8))]) ∧ w' = w := by
  obtain ⟨x1, hx1⟩ : ∃ x, x = decide (k = 1 ∨ k = 2) := ⟨_, rfl⟩
  obtain ⟨x2, hx2⟩ : ∃ x, x = decide (k = 2 ∨ k = 3) := ⟨_, rfl⟩
  obtain ⟨x3, hx3⟩ : ∃ x, x = decide (k = 8) := ⟨_, rfl⟩
  rw [← hx1, ← hx2, ← hx3]
  have H1 := Lib.hid hx1
  have H2 := Lib.hid hx2
  have H3 := Lib.hid hx3
  clear hx1 hx2 hx3
  by_cases h1 : k = 1
  · subst h1
    go_enter Tryz.func88, Tryz.ntmps88
    go_wp2_with (fail)
    refine bodyPost_ret (results_tmp3 rfl _ _ _) rfl ?_
    exact ⟨by rw [H1.out, H2.out, H3.out]; rfl, rfl⟩
  by_cases h2 : k = 2
  · subst h2
    clear h1
    go_enter Tryz.func88, Tryz.ntmps88
    go_wp2_with (fail)
    refine bodyPost_ret (results_tmp3 rfl _ _ _) rfl ?_
    exact ⟨by rw [H1.out, H2.out, H3.out]; rfl, rfl⟩
  by_cases h3 : k = 3
  · subst h3
    clear h1 h2
    go_enter Tryz.func88, Tryz.ntmps88
    go_wp2_with (fail)
    refine bodyPost_ret (results_tmp3 rfl _ _ _) rfl ?_
    exact ⟨by rw [H1.out, H2.out, H3.out]; rfl, rfl⟩
  by_cases h8 : k = 8
  · subst h8
    clear h1 h2 h3
    go_enter Tryz.func88, Tryz.ntmps88
    go_wp2_with (fail)
    refine bodyPost_ret (results_tmp3 rfl _ _ _) rfl ?_
    exact ⟨by rw [H1.out, H2.out, H3.out]; rfl, rfl⟩
  have g1 : (k == 1) = false := by simp [h1]
  have g2 : (k == 2) = false := by simp [h2]
  have g3 : (k == 3) = false := by simp [h3]
  have g8 : (k == 8) = false := by simp [h8]
  have HH := Lib.hid (And.intro h1 (And.intro h2 (And.intro h3 h8)))
  clear h1 h2 h3 h8
  go_enter Tryz.func88, Tryz.ntmps88
  go_wp2_with (fail)
  refine bodyPost_ret (results_tmp3 rfl _ _ _) rfl ?_
  obtain ⟨h1, h2, h3, h8⟩ := HH.out
  exact ⟨by rw [H1.out, H2.out, H3.out, decide_eq_false (by omega), decide_eq_false (by omega), decide_eq_false (by omega)]; rfl, rfl⟩

set_option maxRecDepth 100000 in
set_option maxHeartbeats 4000000 in
theorem pcheck_c (o : PgOp) (w : World) : Calls Tryz.prog 152 #[OpV o] w fun e w' => e = .returned (.int .i64 (if o.ok then 0 else 33)) ∧ Below w.heap.size w w' := by
  obtain ⟨k, a, s, d⟩ := o
  unfold OpV
  obtain ⟨R, hR⟩ : ∃ x : Int, x = if PgOp.ok ⟨k, a, s, d⟩ then 0 else 33 := ⟨_, rfl⟩
  rw [← hR]
  have HR := Lib.hid hR
  clear hR
  have HX := Lib.hid (BoxAt.new w 57 #[.int .i64 k, .int .i64 a, .string s, .string d])
  simp only
  go_enter Tryz.func152, Tryz.ntmps152
  go_upto_region 1 with (fail)
  go_cut [3] (fun s3 wx => ∃ b0, s3 = .bool b0 ∧ Hid (b0 = true ↔ (s.size ≤ 512 ∧ d.size ≤ 512)) ∧ Hid (BoxAt w 57 #[.int .i64 k, .int .i64 a, .string s, .string d] wx))
  case first =>
    by_cases h1 : (s.size : Int) ≤ 512
    · skip
      by_cases h2 : (d.size : Int) ≤ 512
      · skip
        go_wp2_with (fail)
        go_meet
        exact ⟨true, rfl, Lib.hid (by simp; omega), HX⟩
      · skip
        go_wp2_with (fail)
        go_meet
        exact ⟨false, rfl, Lib.hid (by simp; omega), HX⟩
    · skip
      go_wp2_with (fail)
      go_meet
      exact ⟨false, rfl, Lib.hid (by simp; omega), HX⟩
  case rest =>
  obtain ⟨b0, rfl, hb0, HX1⟩ := hcut
  clear HX
  have c1 : wc.cell? ⟨w.heap.size, 1, none⟩ = some (.int .i64 a) := HX1.out.blk.cell 1
  go_upto_region 2 with (fail)
  go_cut [4] (fun s4 wx => ∃ b1, s4 = .bool b1 ∧ Hid (b1 = true ↔ (0 ≤ a ∧ a < 64)) ∧ Hid (BoxAt w 57 #[.int .i64 k, .int .i64 a, .string s, .string d] wx))
  case first =>
    by_cases h1 : 0 ≤ a
    · skip
      by_cases h2 : a < 64
      · skip
        go_wp2_with (fail)
        go_meet
        exact ⟨true, rfl, Lib.hid (by simp; omega), HX1⟩
      · skip
        go_wp2_with (fail)
        go_meet
        exact ⟨false, rfl, Lib.hid (by simp; omega), HX1⟩
    · skip
      go_wp2_with (fail)
      go_meet
      exact ⟨false, rfl, Lib.hid (by simp; omega), HX1⟩
  case rest =>
  clear c1 HX1
  obtain ⟨b1, rfl, hb1, HX1⟩ := hcut
  by_cases k1 : k = 1
  · subst k1
    have c0 : wc.cell? ⟨w.heap.size, 0, none⟩ = some (.int .i64 1) := HX1.out.blk.cell 0
    have c1 : wc.cell? ⟨w.heap.size, 1, none⟩ = some (.int .i64 a) := HX1.out.blk.cell 1
    have c2 : wc.cell? ⟨w.heap.size, 2, none⟩ = some (.string s) := HX1.out.blk.cell 2
    have c3 : wc.cell? ⟨w.heap.size, 3, none⟩ = some (.string d) := HX1.out.blk.cell 3
    cases b0 with
    | false =>
      go_wp2_with (fail)
      go_ret
      have hb0o := hb0.out
      simp at hb0o
      have z0 : (⟨#[]⟩ : ByteArray).size = 0 := rfl
      exact ⟨by rw [HR.out, if_neg (by unfold PgOp.ok; dsimp only; omega)]; rfl, HX1.out.base⟩
    | true =>
      by_cases h1 : 0 ≤ a
      · skip
        by_cases h2 : a ≤ 255
        · skip
          by_cases h3 : (s.size : Int) ≤ 32
          · skip
            rcases empty_or d with rfl | ⟨h4x, h4l, h4⟩
            · skip
              go_wp2_with (fail)
              go_ret
              have hb0o := hb0.out
              simp at hb0o
              have z0 : (⟨#[]⟩ : ByteArray).size = 0 := rfl
              exact ⟨by rw [HR.out, if_pos (by unfold PgOp.ok; dsimp only; omega)]; rfl, HX1.out.base⟩
            · have h4z := Lib.hid (size_cons h4)
              go_wp2_with (fail)
              go_ret
              have h4zo := h4z.out
              have hb0o := hb0.out
              simp at hb0o
              have z0 : (⟨#[]⟩ : ByteArray).size = 0 := rfl
              exact ⟨by rw [HR.out, if_neg (by unfold PgOp.ok; dsimp only; omega)]; rfl, HX1.out.base⟩
          · skip
            go_wp2_with (fail)
            go_ret
            have hb0o := hb0.out
            simp at hb0o
            have z0 : (⟨#[]⟩ : ByteArray).size = 0 := rfl
            exact ⟨by rw [HR.out, if_neg (by unfold PgOp.ok; dsimp only; omega)]; rfl, HX1.out.base⟩
        · skip
          go_wp2_with (fail)
          go_ret
          have hb0o := hb0.out
          simp at hb0o
          have z0 : (⟨#[]⟩ : ByteArray).size = 0 := rfl
          exact ⟨by rw [HR.out, if_neg (by unfold PgOp.ok; dsimp only; omega)]; rfl, HX1.out.base⟩
      · skip
        go_wp2_with (fail)
        go_ret
        have hb0o := hb0.out
        simp at hb0o
        have z0 : (⟨#[]⟩ : ByteArray).size = 0 := rfl
        exact ⟨by rw [HR.out, if_neg (by unfold PgOp.ok; dsimp only; omega)]; rfl, HX1.out.base⟩
  have g1 : (k == 1) = false := by simp [k1]
  by_cases k2 : k = 2
  · subst k2
    clear k1 g1
    have c0 : wc.cell? ⟨w.heap.size, 0, none⟩ = some (.int .i64 2) := HX1.out.blk.cell 0
    have c1 : wc.cell? ⟨w.heap.size, 1, none⟩ = some (.int .i64 a) := HX1.out.blk.cell 1
    have c2 : wc.cell? ⟨w.heap.size, 2, none⟩ = some (.string s) := HX1.out.blk.cell 2
    have c3 : wc.cell? ⟨w.heap.size, 3, none⟩ = some (.string d) := HX1.out.blk.cell 3
    cases b0 with
    | false =>
      go_wp2_with (fail)
      go_ret
      have hb0o := hb0.out
      simp at hb0o
      have z0 : (⟨#[]⟩ : ByteArray).size = 0 := rfl
      exact ⟨by rw [HR.out, if_neg (by unfold PgOp.ok; dsimp only; omega)]; rfl, HX1.out.base⟩
    | true =>
      cases b1 with
      | false =>
        go_wp2_with (fail)
        go_ret
        have hb0o := hb0.out
        simp at hb0o
        have hb1o := hb1.out
        simp at hb1o
        have z0 : (⟨#[]⟩ : ByteArray).size = 0 := rfl
        exact ⟨by rw [HR.out, if_neg (by unfold PgOp.ok; dsimp only; omega)]; rfl, HX1.out.base⟩
      | true =>
        rcases empty_or d with rfl | ⟨h4x, h4l, h4⟩
        · skip
          go_wp2_with (fail)
          go_ret
          have hb0o := hb0.out
          simp at hb0o
          have hb1o := hb1.out
          simp at hb1o
          have z0 : (⟨#[]⟩ : ByteArray).size = 0 := rfl
          exact ⟨by rw [HR.out, if_pos (by unfold PgOp.ok; dsimp only; omega)]; rfl, HX1.out.base⟩
        · have h4z := Lib.hid (size_cons h4)
          go_wp2_with (fail)
          go_ret
          have h4zo := h4z.out
          have hb0o := hb0.out
          simp at hb0o
          have hb1o := hb1.out
          simp at hb1o
          have z0 : (⟨#[]⟩ : ByteArray).size = 0 := rfl
          exact ⟨by rw [HR.out, if_neg (by unfold PgOp.ok; dsimp only; omega)]; rfl, HX1.out.base⟩
  have g2 : (k == 2) = false := by simp [k2]
  by_cases k3 : k = 3
  · subst k3
    clear k1 g1 k2 g2
    have c0 : wc.cell? ⟨w.heap.size, 0, none⟩ = some (.int .i64 3) := HX1.out.blk.cell 0
    have c1 : wc.cell? ⟨w.heap.size, 1, none⟩ = some (.int .i64 a) := HX1.out.blk.cell 1
    have c2 : wc.cell? ⟨w.heap.size, 2, none⟩ = some (.string s) := HX1.out.blk.cell 2
    have c3 : wc.cell? ⟨w.heap.size, 3, none⟩ = some (.string d) := HX1.out.blk.cell 3
    cases b0 with
    | false =>
      go_wp2_with (fail)
      go_ret
      have hb0o := hb0.out
      simp at hb0o
      have z0 : (⟨#[]⟩ : ByteArray).size = 0 := rfl
      exact ⟨by rw [HR.out, if_neg (by unfold PgOp.ok; dsimp only; omega)]; rfl, HX1.out.base⟩
    | true =>
      cases b1 with
      | false =>
        go_wp2_with (fail)
        go_ret
        have hb0o := hb0.out
        simp at hb0o
        have hb1o := hb1.out
        simp at hb1o
        have z0 : (⟨#[]⟩ : ByteArray).size = 0 := rfl
        exact ⟨by rw [HR.out, if_neg (by unfold PgOp.ok; dsimp only; omega)]; rfl, HX1.out.base⟩
      | true =>
        rcases empty_or s with rfl | ⟨h4x, h4l, h4⟩
        · skip
          go_wp2_with (fail)
          go_ret
          have hb0o := hb0.out
          simp at hb0o
          have hb1o := hb1.out
          simp at hb1o
          have z0 : (⟨#[]⟩ : ByteArray).size = 0 := rfl
          exact ⟨by rw [HR.out, if_pos (by unfold PgOp.ok; dsimp only; omega)]; rfl, HX1.out.base⟩
        · have h4z := Lib.hid (size_cons h4)
          go_wp2_with (fail)
          go_ret
          have h4zo := h4z.out
          have hb0o := hb0.out
          simp at hb0o
          have hb1o := hb1.out
          simp at hb1o
          have z0 : (⟨#[]⟩ : ByteArray).size = 0 := rfl
          exact ⟨by rw [HR.out, if_neg (by unfold PgOp.ok; dsimp only; omega)]; rfl, HX1.out.base⟩
  have g3 : (k == 3) = false := by simp [k3]
  by_cases k4 : k = 4
  · subst k4
    clear k1 g1 k2 g2 k3 g3
    have c0 : wc.cell? ⟨w.heap.size, 0, none⟩ = some (.int .i64 4) := HX1.out.blk.cell 0
    have c1 : wc.cell? ⟨w.heap.size, 1, none⟩ = some (.int .i64 a) := HX1.out.blk.cell 1
    have c2 : wc.cell? ⟨w.heap.size, 2, none⟩ = some (.string s) := HX1.out.blk.cell 2
    have c3 : wc.cell? ⟨w.heap.size, 3, none⟩ = some (.string d) := HX1.out.blk.cell 3
    cases b0 with
    | false =>
      go_wp2_with (fail)
      go_ret
      have hb0o := hb0.out
      simp at hb0o
      have z0 : (⟨#[]⟩ : ByteArray).size = 0 := rfl
      exact ⟨by rw [HR.out, if_neg (by unfold PgOp.ok; dsimp only; omega)]; rfl, HX1.out.base⟩
    | true =>
      cases b1 with
      | false =>
        go_wp2_with (fail)
        go_ret
        have hb0o := hb0.out
        simp at hb0o
        have hb1o := hb1.out
        simp at hb1o
        have z0 : (⟨#[]⟩ : ByteArray).size = 0 := rfl
        exact ⟨by rw [HR.out, if_neg (by unfold PgOp.ok; dsimp only; omega)]; rfl, HX1.out.base⟩
      | true =>
        go_wp2_with (fail)
        go_ret
        have hb0o := hb0.out
        simp at hb0o
        have hb1o := hb1.out
        simp at hb1o
        have z0 : (⟨#[]⟩ : ByteArray).size = 0 := rfl
        exact ⟨by rw [HR.out, if_pos (by unfold PgOp.ok; dsimp only; omega)]; rfl, HX1.out.base⟩
  have g4 : (k == 4) = false := by simp [k4]
  by_cases k5 : k = 5
  · subst k5
    clear k1 g1 k2 g2 k3 g3 k4 g4
    have c0 : wc.cell? ⟨w.heap.size, 0, none⟩ = some (.int .i64 5) := HX1.out.blk.cell 0
    have c1 : wc.cell? ⟨w.heap.size, 1, none⟩ = some (.int .i64 a) := HX1.out.blk.cell 1
    have c2 : wc.cell? ⟨w.heap.size, 2, none⟩ = some (.string s) := HX1.out.blk.cell 2
    have c3 : wc.cell? ⟨w.heap.size, 3, none⟩ = some (.string d) := HX1.out.blk.cell 3
    cases b0 with
    | false =>
      go_wp2_with (fail)
      go_ret
      have hb0o := hb0.out
      simp at hb0o
      have z0 : (⟨#[]⟩ : ByteArray).size = 0 := rfl
      exact ⟨by rw [HR.out, if_neg (by unfold PgOp.ok; dsimp only; omega)]; rfl, HX1.out.base⟩
    | true =>
      by_cases h1 : a = 0
      · subst h1
        by_cases h2 : (s.size : Int) ≤ 32
        · skip
          by_cases h3 : (d.size : Int) ≤ 32
          · skip
            go_wp2_with (fail)
            go_ret
            have hb0o := hb0.out
            simp at hb0o
            have z0 : (⟨#[]⟩ : ByteArray).size = 0 := rfl
            exact ⟨by rw [HR.out, if_pos (by unfold PgOp.ok; dsimp only; omega)]; rfl, HX1.out.base⟩
          · skip
            go_wp2_with (fail)
            go_ret
            have hb0o := hb0.out
            simp at hb0o
            have z0 : (⟨#[]⟩ : ByteArray).size = 0 := rfl
            exact ⟨by rw [HR.out, if_neg (by unfold PgOp.ok; dsimp only; omega)]; rfl, HX1.out.base⟩
        · skip
          go_wp2_with (fail)
          go_ret
          have hb0o := hb0.out
          simp at hb0o
          have z0 : (⟨#[]⟩ : ByteArray).size = 0 := rfl
          exact ⟨by rw [HR.out, if_neg (by unfold PgOp.ok; dsimp only; omega)]; rfl, HX1.out.base⟩
      · have h1' : (a == 0) = false := by simp [h1]
        go_wp2_with (fail)
        go_ret
        have hb0o := hb0.out
        simp at hb0o
        have z0 : (⟨#[]⟩ : ByteArray).size = 0 := rfl
        exact ⟨by rw [HR.out, if_neg (by unfold PgOp.ok; dsimp only; omega)]; rfl, HX1.out.base⟩
  have g5 : (k == 5) = false := by simp [k5]
  by_cases k6 : k = 6
  · subst k6
    clear k1 g1 k2 g2 k3 g3 k4 g4 k5 g5
    have c0 : wc.cell? ⟨w.heap.size, 0, none⟩ = some (.int .i64 6) := HX1.out.blk.cell 0
    have c1 : wc.cell? ⟨w.heap.size, 1, none⟩ = some (.int .i64 a) := HX1.out.blk.cell 1
    have c2 : wc.cell? ⟨w.heap.size, 2, none⟩ = some (.string s) := HX1.out.blk.cell 2
    have c3 : wc.cell? ⟨w.heap.size, 3, none⟩ = some (.string d) := HX1.out.blk.cell 3
    cases b0 with
    | false =>
      go_wp2_with (fail)
      go_ret
      have hb0o := hb0.out
      simp at hb0o
      have z0 : (⟨#[]⟩ : ByteArray).size = 0 := rfl
      exact ⟨by rw [HR.out, if_neg (by unfold PgOp.ok; dsimp only; omega)]; rfl, HX1.out.base⟩
    | true =>
      by_cases h1 : 0 ≤ a
      · skip
        by_cases h2 : a < 512
        · skip
          rcases empty_or s with rfl | ⟨h4x, h4l, h4⟩
          · rcases empty_or d with rfl | ⟨h5x, h5l, h5⟩
            · skip
              go_wp2_with (fail)
              go_ret
              have hb0o := hb0.out
              simp at hb0o
              have z0 : (⟨#[]⟩ : ByteArray).size = 0 := rfl
              exact ⟨by rw [HR.out, if_neg (by unfold PgOp.ok; dsimp only; omega)]; rfl, HX1.out.base⟩
            · have h5z := Lib.hid (size_cons h5)
              have h3' : ((0 : Int) == (d.size : Int)) = false := by have := h5z.out; simp; omega
              go_wp2_with (fail)
              go_ret
              have h5zo := h5z.out
              have hb0o := hb0.out
              simp at hb0o
              have z0 : (⟨#[]⟩ : ByteArray).size = 0 := rfl
              exact ⟨by rw [HR.out, if_neg (by unfold PgOp.ok; dsimp only; omega)]; rfl, HX1.out.base⟩
          · have h4z := Lib.hid (size_cons h4)
            by_cases h3 : s.size = d.size
            · have h3' : ((s.size : Int) == (d.size : Int)) = true := by simp [h3]
              have h3z := Lib.hid h3
              clear h3
              go_wp2_with (fail)
              go_ret
              have h4zo := h4z.out
              have h3zo := h3z.out
              have hb0o := hb0.out
              simp at hb0o
              have z0 : (⟨#[]⟩ : ByteArray).size = 0 := rfl
              exact ⟨by rw [HR.out, if_pos (by unfold PgOp.ok; dsimp only; omega)]; rfl, HX1.out.base⟩
            · have h3' : ((s.size : Int) == (d.size : Int)) = false := by simp; omega
              have h3z := Lib.hid h3
              clear h3
              go_wp2_with (fail)
              go_ret
              have h4zo := h4z.out
              have h3zo := h3z.out
              have hb0o := hb0.out
              simp at hb0o
              have z0 : (⟨#[]⟩ : ByteArray).size = 0 := rfl
              exact ⟨by rw [HR.out, if_neg (by unfold PgOp.ok; dsimp only; omega)]; rfl, HX1.out.base⟩
        · skip
          go_wp2_with (fail)
          go_ret
          have hb0o := hb0.out
          simp at hb0o
          have z0 : (⟨#[]⟩ : ByteArray).size = 0 := rfl
          exact ⟨by rw [HR.out, if_neg (by unfold PgOp.ok; dsimp only; omega)]; rfl, HX1.out.base⟩
      · skip
        go_wp2_with (fail)
        go_ret
        have hb0o := hb0.out
        simp at hb0o
        have z0 : (⟨#[]⟩ : ByteArray).size = 0 := rfl
        exact ⟨by rw [HR.out, if_neg (by unfold PgOp.ok; dsimp only; omega)]; rfl, HX1.out.base⟩
  have g6 : (k == 6) = false := by simp [k6]
  by_cases k7 : k = 7
  · subst k7
    clear k1 g1 k2 g2 k3 g3 k4 g4 k5 g5 k6 g6
    have c0 : wc.cell? ⟨w.heap.size, 0, none⟩ = some (.int .i64 7) := HX1.out.blk.cell 0
    have c1 : wc.cell? ⟨w.heap.size, 1, none⟩ = some (.int .i64 a) := HX1.out.blk.cell 1
    have c2 : wc.cell? ⟨w.heap.size, 2, none⟩ = some (.string s) := HX1.out.blk.cell 2
    have c3 : wc.cell? ⟨w.heap.size, 3, none⟩ = some (.string d) := HX1.out.blk.cell 3
    cases b0 with
    | false =>
      go_wp2_with (fail)
      go_ret
      have hb0o := hb0.out
      simp at hb0o
      have z0 : (⟨#[]⟩ : ByteArray).size = 0 := rfl
      exact ⟨by rw [HR.out, if_neg (by unfold PgOp.ok; dsimp only; omega)]; rfl, HX1.out.base⟩
    | true =>
      by_cases h1 : a = 0
      · subst h1
        generalize hqe1 : decide (1 ≤ s.size ∧ s.size ≤ 33) = e1
        generalize hqe2 : decide (1 ≤ d.size ∧ d.size ≤ 33) = e2
        have HK1 : Calls Tryz.prog 210 #[.string s] wc fun e w' => e = .returned (.bool e1) ∧ w' = wc := by rw [← hqe1]; exact pkindOf_c s _
        have HK2 : Calls Tryz.prog 210 #[.string d] wc fun e w' => e = .returned (.bool e2) ∧ w' = wc := by rw [← hqe2]; exact pkindOf_c d _
        have Hq1 := Lib.hid hqe1
        have Hq2 := Lib.hid hqe2
        have HK1h := Lib.hid HK1
        have HK2h := Lib.hid HK2
        clear hqe1 hqe2 HK1 HK2
        cases e1 with
        | false =>
          go_wp2_with (fail)
          refine HK1h.out.mono ?_
          rintro e w' ⟨rfl, rfl⟩
          go_wp2_with (fail)
          go_ret
          have q1 := Hq1.out
          have q2 := Hq2.out
          have hb0o := hb0.out
          simp at hb0o q1 q2
          exact ⟨by rw [HR.out, if_neg (by unfold PgOp.ok; dsimp only; omega)]; rfl, HX1.out.base⟩
        | true =>
          cases e2 with
          | false =>
            go_wp2_with (fail)
            refine HK1h.out.mono ?_
            rintro e w' ⟨rfl, rfl⟩
            go_wp2_with (fail)
            refine HK2h.out.mono ?_
            rintro e w' ⟨rfl, rfl⟩
            go_wp2_with (fail)
            go_ret
            have q1 := Hq1.out
            have q2 := Hq2.out
            have hb0o := hb0.out
            simp at hb0o q1 q2
            exact ⟨by rw [HR.out, if_neg (by unfold PgOp.ok; dsimp only; omega)]; rfl, HX1.out.base⟩
          | true =>
            go_wp2_with (fail)
            refine HK1h.out.mono ?_
            rintro e w' ⟨rfl, rfl⟩
            go_wp2_with (fail)
            refine HK2h.out.mono ?_
            rintro e w' ⟨rfl, rfl⟩
            go_wp2_with (fail)
            go_ret
            have q1 := Hq1.out
            have q2 := Hq2.out
            have hb0o := hb0.out
            simp at hb0o q1 q2
            exact ⟨by rw [HR.out, if_pos (by unfold PgOp.ok; dsimp only; omega)]; rfl, HX1.out.base⟩
      · have h1' : (a == 0) = false := by simp [h1]
        go_wp2_with (fail)
        go_ret
        have hb0o := hb0.out
        simp at hb0o
        have z0 : (⟨#[]⟩ : ByteArray).size = 0 := rfl
        exact ⟨by rw [HR.out, if_neg (by unfold PgOp.ok; dsimp only; omega)]; rfl, HX1.out.base⟩
  have g7 : (k == 7) = false := by simp [k7]
  have HH := Lib.hid (And.intro k1 (And.intro k2 (And.intro k3 (And.intro k4 (And.intro k5 (And.intro k6 k7))))))
  clear k1 k2 k3 k4 k5 k6 k7
  have c0 : wc.cell? ⟨w.heap.size, 0, none⟩ = some (.int .i64 k) := HX1.out.blk.cell 0
  go_wp2_with (fail)
  go_ret
  exact ⟨by rw [HR.out, if_neg (by have h := HH.out; unfold PgOp.ok; dsimp only; omega)]; rfl, HX1.out.base⟩
end Go.Proofs.YtpnndlahfllbhaaGreat
