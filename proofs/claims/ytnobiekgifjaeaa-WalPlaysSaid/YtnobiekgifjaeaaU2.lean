/-
  'one': a record more, of the room that is kept; all that may be done.
-/
import Derived.Test.YtnobiekgifjaeaaU1
namespace Go.Proofs.Ytnobiekgifjaeaa
open Go.RowKit
attribute [local go_sem ↓] Go.wp_at_zero Go.wp_at_succ
section
variable {ob : Ob} {w0 w W : World} {b lb hs : Nat} {lv : Value} {g : Lg}
set_option maxRecDepth 100000 in
set_option maxHeartbeats 4000000 in
theorem one_put1 (h : PlayAt ob w0 b lb lv g w) (a : Ac) (ha : a.ok) (hk : a.kind = 1) :
    Calls Try.prog 58 #[.pointer (some ⟨b, 0, none⟩), .pointer (some ⟨lb, 0, none⟩), modelV lv g.sure g.kept g.marks, acV a] w (OnePost ob w0 b (g.spend a.s)) := by
  have h4 := h.boxed4 a _ rfl
  obtain ⟨la, lc, rfl⟩ := (LW.reads (bx := []) h.1).form
  have h1 := h.boxed a _ rfl
  have hok := h.1.ok
  have HOB : Hid (∀ r t cs, ob = some (r, t, cs) → r < w.heap.size) := fun r t cs e => (h.1.own.2.2 r t cs e).lt
  have HF0 := Lib.hid h.2
  have hk1 := hok.kept1
  have hk2 := hok.kept2
  have hsr := hok.sure
  have hn1 := ha.n1
  have hn2 := ha.n2
  have hat1 := ha.at1
  have hat2 := ha.at2
  have HOK := Lib.hid hok
  have HA := Lib.hid ha
  clear h hok ha
  unfold modelV acV
  obtain ⟨kind, n, s, at_, fat, fke, fto, fby, flo⟩ := a
  simp only at *
  subst hk
  have hsz : s.size ≤ 9223372036854775807 := HA.out.s
  have hro := HOK.out.recsOk
  have hg := (h4.logs (bx_stable ob (.slice la g.recs.length lc) g.recs w.heap.size (oneBx4 (.slice la g.recs.length lc) g.sure g.kept g.marks ⟨1, n, s, at_, ⟨fat, fke, fto, fby, flo⟩⟩ #[.slice la g.recs.length lc, .int .i64 (g.sure : Int), .int .i64 g.kept, .int .u64 (g.marks : Int)])) (fun G hw => lspend_c hw HF0.out.tight s hsz))
  clear h1 h4
  by_cases hb : badRec s
  · skip
    simp only [addV, Lg.spend, if_pos hb] at hg
    have HG := Lib.hid hg
    have HMP : ∀ W, Reads W (.slice la g.recs.length lc) g.recs → Hid (Calls Try.prog 50 #[.agg #[(.slice la g.recs.length lc), .int .i64 (g.sure : Int), .int .i64 g.kept, .int .u64 (g.marks : Int)], .string s, .int .i64 (0)] W fun e w' => e = .returned (.tuple #[.agg #[(.slice la g.recs.length lc), .int .i64 (g.sure : Int), .int .i64 g.kept, .int .u64 (g.marks : Int)], .int .u64 0, .int .i64 51]) ∧ Below W.heap.size W w') := fun W hW => mput_bad hW hb (by omega)
    clear hg
    have HB := Lib.hid hb
    clear hb
    rw [show g.spend s = g by unfold Lg.spend; rw [if_pos HB.out]]
    go_enter Try.func58, Try.ntmps58
    go_wp2_with (fail)
    refine HG.out.mono ?_
    rintro e w3 ⟨rfl, h3⟩
    generalize hhs : w.heap.size = hs at *
    clear hhs HG
    have b6 := h3.box (bx := (oneBx4 (.slice la g.recs.length lc) g.sure g.kept g.marks ⟨1, n, s, at_, ⟨fat, fke, fto, fby, flo⟩⟩ #[.slice la g.recs.length lc, .int .i64 (g.sure : Int), .int .i64 g.kept, .int .u64 (g.marks : Int)])) (i := 0) rfl
    have b7 := h3.box (bx := (oneBx4 (.slice la g.recs.length lc) g.sure g.kept g.marks ⟨1, n, s, at_, ⟨fat, fke, fto, fby, flo⟩⟩ #[.slice la g.recs.length lc, .int .i64 (g.sure : Int), .int .i64 g.kept, .int .u64 (g.marks : Int)])) (i := 1) rfl
    have b9 := h3.box (bx := (oneBx4 (.slice la g.recs.length lc) g.sure g.kept g.marks ⟨1, n, s, at_, ⟨fat, fke, fto, fby, flo⟩⟩ #[.slice la g.recs.length lc, .int .i64 (g.sure : Int), .int .i64 g.kept, .int .u64 (g.marks : Int)])) (i := 2) rfl
    have bk := h3.box (bx := (oneBx4 (.slice la g.recs.length lc) g.sure g.kept g.marks ⟨1, n, s, at_, ⟨fat, fke, fto, fby, flo⟩⟩ #[.slice la g.recs.length lc, .int .i64 (g.sure : Int), .int .i64 g.kept, .int .u64 (g.marks : Int)])) (i := 3) rfl
    have c60 : w3.cell? ⟨hs, 0, none⟩ = some (.slice la g.recs.length lc) := b6.cell 0
    have c61 : w3.cell? ⟨hs, 1, none⟩ = some (.int .i64 (g.sure : Int)) := b6.cell 1
    have c62 : w3.cell? ⟨hs, 2, none⟩ = some (.int .i64 g.kept) := b6.cell 2
    have c63 : w3.cell? ⟨hs, 3, none⟩ = some (.int .u64 (g.marks : Int)) := b6.cell 3
    have c72 : w3.cell? ⟨hs + 1, 2, none⟩ = some (.string s) := b7.cell 2
    have c90 : w3.cell? ⟨hs + 1 + 1, 0, none⟩ = some (.slice none 0 0) := b9.cell 0
    have c91 : w3.cell? ⟨hs + 1 + 1, 1, none⟩ = some (.int .i64 0) := b9.cell 1
    have c92 : w3.cell? ⟨hs + 1 + 1, 2, none⟩ = some (.int .i64 0) := b9.cell 2
    have c93 : w3.cell? ⟨hs + 1 + 1, 3, none⟩ = some (.int .u64 0) := b9.cell 3
    have f90 : w3.frozen? ⟨hs + 1 + 1, 0, none⟩ = false := b9.frozen 0
    have f91 : w3.frozen? ⟨hs + 1 + 1, 1, none⟩ = false := b9.frozen 1
    have f92 : w3.frozen? ⟨hs + 1 + 1, 2, none⟩ = false := b9.frozen 2
    have f93 : w3.frozen? ⟨hs + 1 + 1, 3, none⟩ = false := b9.frozen 3
    have ck0 : w3.cell? ⟨hs + 1 + 1 + 1, 0, none⟩ = some (.slice la g.recs.length lc) := bk.cell 0
    have ck1 : w3.cell? ⟨hs + 1 + 1 + 1, 1, none⟩ = some (.int .i64 (g.sure : Int)) := bk.cell 1
    have ck2 : w3.cell? ⟨hs + 1 + 1 + 1, 2, none⟩ = some (.int .i64 g.kept) := bk.cell 2
    have ck3 : w3.cell? ⟨hs + 1 + 1 + 1, 3, none⟩ = some (.int .u64 (g.marks : Int)) := bk.cell 3
    have fk0 : w3.frozen? ⟨hs + 1 + 1 + 1, 0, none⟩ = false := bk.frozen 0
    have fk1 : w3.frozen? ⟨hs + 1 + 1 + 1, 1, none⟩ = false := bk.frozen 1
    have fk2 : w3.frozen? ⟨hs + 1 + 1 + 1, 2, none⟩ = false := bk.frozen 2
    have fk3 : w3.frozen? ⟨hs + 1 + 1 + 1, 3, none⟩ = false := bk.frozen 3
    have B9 := Lib.hid b9
    have BK := Lib.hid bk
    clear b6 b7 b9 bk
    have hl3 : hs + 3 < w3.heap.size := (h3.box (bx := (oneBx4 (.slice la g.recs.length lc) g.sure g.kept g.marks ⟨1, n, s, at_, ⟨fat, fke, fto, fby, flo⟩⟩ #[.slice la g.recs.length lc, .int .i64 (g.sure : Int), .int .i64 g.kept, .int .u64 (g.marks : Int)])) (i := 3) rfl).lt
    have HM := HMP w3 (LW.reads (bx := (oneBx4 (.slice la g.recs.length lc) g.sure g.kept g.marks ⟨1, n, s, at_, ⟨fat, fke, fto, fby, flo⟩⟩ #[.slice la g.recs.length lc, .int .i64 (g.sure : Int), .int .i64 g.kept, .int .u64 (g.marks : Int)])) h3)
    have H3 := Lib.hid h3
    clear h3 HMP
    go_wp2_with (fail)
    clear c60 c61 c62 c63 c72 c90 c91 c92 c93 f90 f91 f92 f93 ck0 ck1 ck2 ck3 fk0 fk1 fk2 fk3 B9 BK
    refine HM.out.mono ?_
    rintro e w4 ⟨rfl, hb4⟩
    have h4 := H3.out.below (bx_stable ob (.slice la g.recs.length lc) g.recs hs (oneBx4 (.slice la g.recs.length lc) g.sure g.kept g.marks ⟨1, n, s, at_, ⟨fat, fke, fto, fby, flo⟩⟩ #[.slice la g.recs.length lc, .int .i64 (g.sure : Int), .int .i64 g.kept, .int .u64 (g.marks : Int)])) hb4
    clear hb4
    have b6 := h4.box (bx := (oneBx4 (.slice la g.recs.length lc) g.sure g.kept g.marks ⟨1, n, s, at_, ⟨fat, fke, fto, fby, flo⟩⟩ #[.slice la g.recs.length lc, .int .i64 (g.sure : Int), .int .i64 g.kept, .int .u64 (g.marks : Int)])) (i := 0) rfl
    have b7 := h4.box (bx := (oneBx4 (.slice la g.recs.length lc) g.sure g.kept g.marks ⟨1, n, s, at_, ⟨fat, fke, fto, fby, flo⟩⟩ #[.slice la g.recs.length lc, .int .i64 (g.sure : Int), .int .i64 g.kept, .int .u64 (g.marks : Int)])) (i := 1) rfl
    have b9 := h4.box (bx := (oneBx4 (.slice la g.recs.length lc) g.sure g.kept g.marks ⟨1, n, s, at_, ⟨fat, fke, fto, fby, flo⟩⟩ #[.slice la g.recs.length lc, .int .i64 (g.sure : Int), .int .i64 g.kept, .int .u64 (g.marks : Int)])) (i := 2) rfl
    have bk := h4.box (bx := (oneBx4 (.slice la g.recs.length lc) g.sure g.kept g.marks ⟨1, n, s, at_, ⟨fat, fke, fto, fby, flo⟩⟩ #[.slice la g.recs.length lc, .int .i64 (g.sure : Int), .int .i64 g.kept, .int .u64 (g.marks : Int)])) (i := 3) rfl
    have c60 : w4.cell? ⟨hs, 0, none⟩ = some (.slice la g.recs.length lc) := b6.cell 0
    have c61 : w4.cell? ⟨hs, 1, none⟩ = some (.int .i64 (g.sure : Int)) := b6.cell 1
    have c62 : w4.cell? ⟨hs, 2, none⟩ = some (.int .i64 g.kept) := b6.cell 2
    have c63 : w4.cell? ⟨hs, 3, none⟩ = some (.int .u64 (g.marks : Int)) := b6.cell 3
    have c72 : w4.cell? ⟨hs + 1, 2, none⟩ = some (.string s) := b7.cell 2
    have c90 : w4.cell? ⟨hs + 1 + 1, 0, none⟩ = some (.slice none 0 0) := b9.cell 0
    have c91 : w4.cell? ⟨hs + 1 + 1, 1, none⟩ = some (.int .i64 0) := b9.cell 1
    have c92 : w4.cell? ⟨hs + 1 + 1, 2, none⟩ = some (.int .i64 0) := b9.cell 2
    have c93 : w4.cell? ⟨hs + 1 + 1, 3, none⟩ = some (.int .u64 0) := b9.cell 3
    have f90 : w4.frozen? ⟨hs + 1 + 1, 0, none⟩ = false := b9.frozen 0
    have f91 : w4.frozen? ⟨hs + 1 + 1, 1, none⟩ = false := b9.frozen 1
    have f92 : w4.frozen? ⟨hs + 1 + 1, 2, none⟩ = false := b9.frozen 2
    have f93 : w4.frozen? ⟨hs + 1 + 1, 3, none⟩ = false := b9.frozen 3
    have ck0 : w4.cell? ⟨hs + 1 + 1 + 1, 0, none⟩ = some (.slice la g.recs.length lc) := bk.cell 0
    have ck1 : w4.cell? ⟨hs + 1 + 1 + 1, 1, none⟩ = some (.int .i64 (g.sure : Int)) := bk.cell 1
    have ck2 : w4.cell? ⟨hs + 1 + 1 + 1, 2, none⟩ = some (.int .i64 g.kept) := bk.cell 2
    have ck3 : w4.cell? ⟨hs + 1 + 1 + 1, 3, none⟩ = some (.int .u64 (g.marks : Int)) := bk.cell 3
    have fk0 : w4.frozen? ⟨hs + 1 + 1 + 1, 0, none⟩ = false := bk.frozen 0
    have fk1 : w4.frozen? ⟨hs + 1 + 1 + 1, 1, none⟩ = false := bk.frozen 1
    have fk2 : w4.frozen? ⟨hs + 1 + 1 + 1, 2, none⟩ = false := bk.frozen 2
    have fk3 : w4.frozen? ⟨hs + 1 + 1 + 1, 3, none⟩ = false := bk.frozen 3
    have B9 := Lib.hid b9
    have BK := Lib.hid bk
    clear b6 b7 b9 bk
    have H4 := Lib.hid h4
    clear h4 H3
    go_wp2_with (fail)
    go_region
    go_wp2
    have B9' := ((B9.out.far4 (q := hs + 1 + 1 + 1) (v0 := (.slice la g.recs.length lc)) (v1 := .int .i64 (g.sure : Int)) (v2 := .int .i64 g.kept) (v3 := .int .u64 (g.marks : Int)) (by omega)).set4 (v0 := (.slice la g.recs.length lc)) (v1 := .int .i64 (g.sure : Int)) (v2 := .int .i64 (g.kept)) (v3 := .int .u64 (g.marks : Int)))
    have r0 := B9'.cell 0
    have r1 := B9'.cell 1
    have r2 := B9'.cell 2
    have r3 := B9'.cell 3
    simp at r0 r1 r2 r3
    (try simp only [Exit.inBlock, Exit.then])
    refine bodyPost_ret (by simp [results, Try.results58, go_sem, r0, r1, r2, r3]; try rfl) rfl ?_
    exact ⟨lb, (.slice la g.recs.length lc), rfl, LW.leave (bx := (oneBx4 (.slice la g.recs.length lc) g.sure g.kept g.marks ⟨1, n, s, at_, ⟨fat, fke, fto, fby, flo⟩⟩ #[.slice la g.recs.length lc, .int .i64 (g.sure : Int), .int .i64 g.kept, .int .u64 (g.marks : Int)])) H4.out HOB.out ((((Step.refl _ w4).set4 (r := hs + 1 + 1 + 1) ⟨by omega, by show hs + 1 + 1 + 1 < hs + 4; omega⟩).set4 (r := hs + 1 + 1) ⟨by omega, by show hs + 1 + 1 < hs + 4; omega⟩).drew) (one_bx4_ok (by simp) (by simp)), HF0.out⟩
  · have hs8 : s.size ≤ 8192 := by unfold badRec at hb; omega
    by_cases hf : addFull g s 0
    · skip
      have HB : Hid (¬ badRec s ∧ addFull g s (0)) := ⟨hb, hf⟩
      simp only [addV, Lg.spend, if_neg hb, if_pos hf] at hg
      have HG := Lib.hid hg
      have HMP : ∀ W, Reads W (.slice la g.recs.length lc) g.recs → Hid (Calls Try.prog 50 #[.agg #[(.slice la g.recs.length lc), .int .i64 (g.sure : Int), .int .i64 g.kept, .int .u64 (g.marks : Int)], .string s, .int .i64 (0)] W fun e w' => e = .returned (.tuple #[.agg #[(.slice la g.recs.length lc), .int .i64 (g.sure : Int), .int .i64 g.kept, .int .u64 (g.marks : Int)], .int .u64 0, .int .i64 50]) ∧ Below W.heap.size W w') := fun W hW => mput_full hW hro hb (by omega) hf
      clear hg hb hf
      rw [show g.spend s = g by unfold Lg.spend; rw [if_neg HB.out.1, if_pos HB.out.2]]
      go_enter Try.func58, Try.ntmps58
      go_wp2_with (fail)
      refine HG.out.mono ?_
      rintro e w3 ⟨rfl, h3⟩
      generalize hhs : w.heap.size = hs at *
      clear hhs HG
      have b6 := h3.box (bx := (oneBx4 (.slice la g.recs.length lc) g.sure g.kept g.marks ⟨1, n, s, at_, ⟨fat, fke, fto, fby, flo⟩⟩ #[.slice la g.recs.length lc, .int .i64 (g.sure : Int), .int .i64 g.kept, .int .u64 (g.marks : Int)])) (i := 0) rfl
      have b7 := h3.box (bx := (oneBx4 (.slice la g.recs.length lc) g.sure g.kept g.marks ⟨1, n, s, at_, ⟨fat, fke, fto, fby, flo⟩⟩ #[.slice la g.recs.length lc, .int .i64 (g.sure : Int), .int .i64 g.kept, .int .u64 (g.marks : Int)])) (i := 1) rfl
      have b9 := h3.box (bx := (oneBx4 (.slice la g.recs.length lc) g.sure g.kept g.marks ⟨1, n, s, at_, ⟨fat, fke, fto, fby, flo⟩⟩ #[.slice la g.recs.length lc, .int .i64 (g.sure : Int), .int .i64 g.kept, .int .u64 (g.marks : Int)])) (i := 2) rfl
      have bk := h3.box (bx := (oneBx4 (.slice la g.recs.length lc) g.sure g.kept g.marks ⟨1, n, s, at_, ⟨fat, fke, fto, fby, flo⟩⟩ #[.slice la g.recs.length lc, .int .i64 (g.sure : Int), .int .i64 g.kept, .int .u64 (g.marks : Int)])) (i := 3) rfl
      have c60 : w3.cell? ⟨hs, 0, none⟩ = some (.slice la g.recs.length lc) := b6.cell 0
      have c61 : w3.cell? ⟨hs, 1, none⟩ = some (.int .i64 (g.sure : Int)) := b6.cell 1
      have c62 : w3.cell? ⟨hs, 2, none⟩ = some (.int .i64 g.kept) := b6.cell 2
      have c63 : w3.cell? ⟨hs, 3, none⟩ = some (.int .u64 (g.marks : Int)) := b6.cell 3
      have c72 : w3.cell? ⟨hs + 1, 2, none⟩ = some (.string s) := b7.cell 2
      have c90 : w3.cell? ⟨hs + 1 + 1, 0, none⟩ = some (.slice none 0 0) := b9.cell 0
      have c91 : w3.cell? ⟨hs + 1 + 1, 1, none⟩ = some (.int .i64 0) := b9.cell 1
      have c92 : w3.cell? ⟨hs + 1 + 1, 2, none⟩ = some (.int .i64 0) := b9.cell 2
      have c93 : w3.cell? ⟨hs + 1 + 1, 3, none⟩ = some (.int .u64 0) := b9.cell 3
      have f90 : w3.frozen? ⟨hs + 1 + 1, 0, none⟩ = false := b9.frozen 0
      have f91 : w3.frozen? ⟨hs + 1 + 1, 1, none⟩ = false := b9.frozen 1
      have f92 : w3.frozen? ⟨hs + 1 + 1, 2, none⟩ = false := b9.frozen 2
      have f93 : w3.frozen? ⟨hs + 1 + 1, 3, none⟩ = false := b9.frozen 3
      have ck0 : w3.cell? ⟨hs + 1 + 1 + 1, 0, none⟩ = some (.slice la g.recs.length lc) := bk.cell 0
      have ck1 : w3.cell? ⟨hs + 1 + 1 + 1, 1, none⟩ = some (.int .i64 (g.sure : Int)) := bk.cell 1
      have ck2 : w3.cell? ⟨hs + 1 + 1 + 1, 2, none⟩ = some (.int .i64 g.kept) := bk.cell 2
      have ck3 : w3.cell? ⟨hs + 1 + 1 + 1, 3, none⟩ = some (.int .u64 (g.marks : Int)) := bk.cell 3
      have fk0 : w3.frozen? ⟨hs + 1 + 1 + 1, 0, none⟩ = false := bk.frozen 0
      have fk1 : w3.frozen? ⟨hs + 1 + 1 + 1, 1, none⟩ = false := bk.frozen 1
      have fk2 : w3.frozen? ⟨hs + 1 + 1 + 1, 2, none⟩ = false := bk.frozen 2
      have fk3 : w3.frozen? ⟨hs + 1 + 1 + 1, 3, none⟩ = false := bk.frozen 3
      have B9 := Lib.hid b9
      have BK := Lib.hid bk
      clear b6 b7 b9 bk
      have hl3 : hs + 3 < w3.heap.size := (h3.box (bx := (oneBx4 (.slice la g.recs.length lc) g.sure g.kept g.marks ⟨1, n, s, at_, ⟨fat, fke, fto, fby, flo⟩⟩ #[.slice la g.recs.length lc, .int .i64 (g.sure : Int), .int .i64 g.kept, .int .u64 (g.marks : Int)])) (i := 3) rfl).lt
      have HM := HMP w3 (LW.reads (bx := (oneBx4 (.slice la g.recs.length lc) g.sure g.kept g.marks ⟨1, n, s, at_, ⟨fat, fke, fto, fby, flo⟩⟩ #[.slice la g.recs.length lc, .int .i64 (g.sure : Int), .int .i64 g.kept, .int .u64 (g.marks : Int)])) h3)
      have H3 := Lib.hid h3
      clear h3 HMP
      go_wp2_with (fail)
      clear c60 c61 c62 c63 c72 c90 c91 c92 c93 f90 f91 f92 f93 ck0 ck1 ck2 ck3 fk0 fk1 fk2 fk3 B9 BK
      refine HM.out.mono ?_
      rintro e w4 ⟨rfl, hb4⟩
      have h4 := H3.out.below (bx_stable ob (.slice la g.recs.length lc) g.recs hs (oneBx4 (.slice la g.recs.length lc) g.sure g.kept g.marks ⟨1, n, s, at_, ⟨fat, fke, fto, fby, flo⟩⟩ #[.slice la g.recs.length lc, .int .i64 (g.sure : Int), .int .i64 g.kept, .int .u64 (g.marks : Int)])) hb4
      clear hb4
      have b6 := h4.box (bx := (oneBx4 (.slice la g.recs.length lc) g.sure g.kept g.marks ⟨1, n, s, at_, ⟨fat, fke, fto, fby, flo⟩⟩ #[.slice la g.recs.length lc, .int .i64 (g.sure : Int), .int .i64 g.kept, .int .u64 (g.marks : Int)])) (i := 0) rfl
      have b7 := h4.box (bx := (oneBx4 (.slice la g.recs.length lc) g.sure g.kept g.marks ⟨1, n, s, at_, ⟨fat, fke, fto, fby, flo⟩⟩ #[.slice la g.recs.length lc, .int .i64 (g.sure : Int), .int .i64 g.kept, .int .u64 (g.marks : Int)])) (i := 1) rfl
      have b9 := h4.box (bx := (oneBx4 (.slice la g.recs.length lc) g.sure g.kept g.marks ⟨1, n, s, at_, ⟨fat, fke, fto, fby, flo⟩⟩ #[.slice la g.recs.length lc, .int .i64 (g.sure : Int), .int .i64 g.kept, .int .u64 (g.marks : Int)])) (i := 2) rfl
      have bk := h4.box (bx := (oneBx4 (.slice la g.recs.length lc) g.sure g.kept g.marks ⟨1, n, s, at_, ⟨fat, fke, fto, fby, flo⟩⟩ #[.slice la g.recs.length lc, .int .i64 (g.sure : Int), .int .i64 g.kept, .int .u64 (g.marks : Int)])) (i := 3) rfl
      have c60 : w4.cell? ⟨hs, 0, none⟩ = some (.slice la g.recs.length lc) := b6.cell 0
      have c61 : w4.cell? ⟨hs, 1, none⟩ = some (.int .i64 (g.sure : Int)) := b6.cell 1
      have c62 : w4.cell? ⟨hs, 2, none⟩ = some (.int .i64 g.kept) := b6.cell 2
      have c63 : w4.cell? ⟨hs, 3, none⟩ = some (.int .u64 (g.marks : Int)) := b6.cell 3
      have c72 : w4.cell? ⟨hs + 1, 2, none⟩ = some (.string s) := b7.cell 2
      have c90 : w4.cell? ⟨hs + 1 + 1, 0, none⟩ = some (.slice none 0 0) := b9.cell 0
      have c91 : w4.cell? ⟨hs + 1 + 1, 1, none⟩ = some (.int .i64 0) := b9.cell 1
      have c92 : w4.cell? ⟨hs + 1 + 1, 2, none⟩ = some (.int .i64 0) := b9.cell 2
      have c93 : w4.cell? ⟨hs + 1 + 1, 3, none⟩ = some (.int .u64 0) := b9.cell 3
      have f90 : w4.frozen? ⟨hs + 1 + 1, 0, none⟩ = false := b9.frozen 0
      have f91 : w4.frozen? ⟨hs + 1 + 1, 1, none⟩ = false := b9.frozen 1
      have f92 : w4.frozen? ⟨hs + 1 + 1, 2, none⟩ = false := b9.frozen 2
      have f93 : w4.frozen? ⟨hs + 1 + 1, 3, none⟩ = false := b9.frozen 3
      have ck0 : w4.cell? ⟨hs + 1 + 1 + 1, 0, none⟩ = some (.slice la g.recs.length lc) := bk.cell 0
      have ck1 : w4.cell? ⟨hs + 1 + 1 + 1, 1, none⟩ = some (.int .i64 (g.sure : Int)) := bk.cell 1
      have ck2 : w4.cell? ⟨hs + 1 + 1 + 1, 2, none⟩ = some (.int .i64 g.kept) := bk.cell 2
      have ck3 : w4.cell? ⟨hs + 1 + 1 + 1, 3, none⟩ = some (.int .u64 (g.marks : Int)) := bk.cell 3
      have fk0 : w4.frozen? ⟨hs + 1 + 1 + 1, 0, none⟩ = false := bk.frozen 0
      have fk1 : w4.frozen? ⟨hs + 1 + 1 + 1, 1, none⟩ = false := bk.frozen 1
      have fk2 : w4.frozen? ⟨hs + 1 + 1 + 1, 2, none⟩ = false := bk.frozen 2
      have fk3 : w4.frozen? ⟨hs + 1 + 1 + 1, 3, none⟩ = false := bk.frozen 3
      have B9 := Lib.hid b9
      have BK := Lib.hid bk
      clear b6 b7 b9 bk
      have H4 := Lib.hid h4
      clear h4 H3
      go_wp2_with (fail)
      go_region
      go_wp2
      have B9' := ((B9.out.far4 (q := hs + 1 + 1 + 1) (v0 := (.slice la g.recs.length lc)) (v1 := .int .i64 (g.sure : Int)) (v2 := .int .i64 g.kept) (v3 := .int .u64 (g.marks : Int)) (by omega)).set4 (v0 := (.slice la g.recs.length lc)) (v1 := .int .i64 (g.sure : Int)) (v2 := .int .i64 (g.kept)) (v3 := .int .u64 (g.marks : Int)))
      have r0 := B9'.cell 0
      have r1 := B9'.cell 1
      have r2 := B9'.cell 2
      have r3 := B9'.cell 3
      simp at r0 r1 r2 r3
      (try simp only [Exit.inBlock, Exit.then])
      refine bodyPost_ret (by simp [results, Try.results58, go_sem, r0, r1, r2, r3]; try rfl) rfl ?_
      exact ⟨lb, (.slice la g.recs.length lc), rfl, LW.leave (bx := (oneBx4 (.slice la g.recs.length lc) g.sure g.kept g.marks ⟨1, n, s, at_, ⟨fat, fke, fto, fby, flo⟩⟩ #[.slice la g.recs.length lc, .int .i64 (g.sure : Int), .int .i64 g.kept, .int .u64 (g.marks : Int)])) H4.out HOB.out ((((Step.refl _ w4).set4 (r := hs + 1 + 1 + 1) ⟨by omega, by show hs + 1 + 1 + 1 < hs + 4; omega⟩).set4 (r := hs + 1 + 1) ⟨by omega, by show hs + 1 + 1 < hs + 4; omega⟩).drew) (one_bx4_ok (by simp) (by simp)), HF0.out⟩
    · skip
      have hls := lessOf_bounds (n := (s.size : Int) + 12) hk1
      have HB : Hid (¬ badRec s ∧ ¬ addFull g s (0)) := ⟨hb, hf⟩
      simp only [addV, Lg.spend, if_neg hb, if_neg hf] at hg
      have HG := Lib.hid hg
      have HMP : ∀ W, Reads W (.slice la g.recs.length lc) g.recs → Hid (Calls Try.prog 50 #[.agg #[(.slice la g.recs.length lc), .int .i64 (g.sure : Int), .int .i64 g.kept, .int .u64 (g.marks : Int)], .string s, .int .i64 (0)] W fun e w' => ∃ lv', e = .returned (.tuple #[.agg #[lv', .int .i64 (g.sure : Int), .int .i64 g.kept, .int .u64 (g.marks : Int)], .int .u64 (g.end_ : Int), .int .i64 0]) ∧ w'.ownsRow W.heap.size 9 1 lv' (g.recs.length + 1) ((g.recs ++ [s]).map Value.string) ∧ Below W.heap.size W w') := fun W hW => mput_ok hW hro hb (by omega) hf
      clear hg hb hf
      rw [show g.spend s = { g.add s with kept := lessOf g.kept ((s.size : Int) + 12) } by unfold Lg.spend; rw [if_neg HB.out.1, if_neg HB.out.2]]
      go_enter Try.func58, Try.ntmps58
      go_wp2_with (fail)
      refine HG.out.mono ?_
      rintro e w3 ⟨rfl, h3⟩
      generalize hhs : w.heap.size = hs at *
      clear hhs HG
      have b6 := h3.box (bx := (oneBx4 (.slice la g.recs.length lc) g.sure g.kept g.marks ⟨1, n, s, at_, ⟨fat, fke, fto, fby, flo⟩⟩ #[.slice la g.recs.length lc, .int .i64 (g.sure : Int), .int .i64 g.kept, .int .u64 (g.marks : Int)])) (i := 0) rfl
      have b7 := h3.box (bx := (oneBx4 (.slice la g.recs.length lc) g.sure g.kept g.marks ⟨1, n, s, at_, ⟨fat, fke, fto, fby, flo⟩⟩ #[.slice la g.recs.length lc, .int .i64 (g.sure : Int), .int .i64 g.kept, .int .u64 (g.marks : Int)])) (i := 1) rfl
      have b9 := h3.box (bx := (oneBx4 (.slice la g.recs.length lc) g.sure g.kept g.marks ⟨1, n, s, at_, ⟨fat, fke, fto, fby, flo⟩⟩ #[.slice la g.recs.length lc, .int .i64 (g.sure : Int), .int .i64 g.kept, .int .u64 (g.marks : Int)])) (i := 2) rfl
      have bk := h3.box (bx := (oneBx4 (.slice la g.recs.length lc) g.sure g.kept g.marks ⟨1, n, s, at_, ⟨fat, fke, fto, fby, flo⟩⟩ #[.slice la g.recs.length lc, .int .i64 (g.sure : Int), .int .i64 g.kept, .int .u64 (g.marks : Int)])) (i := 3) rfl
      have c60 : w3.cell? ⟨hs, 0, none⟩ = some (.slice la g.recs.length lc) := b6.cell 0
      have c61 : w3.cell? ⟨hs, 1, none⟩ = some (.int .i64 (g.sure : Int)) := b6.cell 1
      have c62 : w3.cell? ⟨hs, 2, none⟩ = some (.int .i64 g.kept) := b6.cell 2
      have c63 : w3.cell? ⟨hs, 3, none⟩ = some (.int .u64 (g.marks : Int)) := b6.cell 3
      have c72 : w3.cell? ⟨hs + 1, 2, none⟩ = some (.string s) := b7.cell 2
      have c90 : w3.cell? ⟨hs + 1 + 1, 0, none⟩ = some (.slice none 0 0) := b9.cell 0
      have c91 : w3.cell? ⟨hs + 1 + 1, 1, none⟩ = some (.int .i64 0) := b9.cell 1
      have c92 : w3.cell? ⟨hs + 1 + 1, 2, none⟩ = some (.int .i64 0) := b9.cell 2
      have c93 : w3.cell? ⟨hs + 1 + 1, 3, none⟩ = some (.int .u64 0) := b9.cell 3
      have f90 : w3.frozen? ⟨hs + 1 + 1, 0, none⟩ = false := b9.frozen 0
      have f91 : w3.frozen? ⟨hs + 1 + 1, 1, none⟩ = false := b9.frozen 1
      have f92 : w3.frozen? ⟨hs + 1 + 1, 2, none⟩ = false := b9.frozen 2
      have f93 : w3.frozen? ⟨hs + 1 + 1, 3, none⟩ = false := b9.frozen 3
      have ck0 : w3.cell? ⟨hs + 1 + 1 + 1, 0, none⟩ = some (.slice la g.recs.length lc) := bk.cell 0
      have ck1 : w3.cell? ⟨hs + 1 + 1 + 1, 1, none⟩ = some (.int .i64 (g.sure : Int)) := bk.cell 1
      have ck2 : w3.cell? ⟨hs + 1 + 1 + 1, 2, none⟩ = some (.int .i64 g.kept) := bk.cell 2
      have ck3 : w3.cell? ⟨hs + 1 + 1 + 1, 3, none⟩ = some (.int .u64 (g.marks : Int)) := bk.cell 3
      have fk0 : w3.frozen? ⟨hs + 1 + 1 + 1, 0, none⟩ = false := bk.frozen 0
      have fk1 : w3.frozen? ⟨hs + 1 + 1 + 1, 1, none⟩ = false := bk.frozen 1
      have fk2 : w3.frozen? ⟨hs + 1 + 1 + 1, 2, none⟩ = false := bk.frozen 2
      have fk3 : w3.frozen? ⟨hs + 1 + 1 + 1, 3, none⟩ = false := bk.frozen 3
      have B9 := Lib.hid b9
      have BK := Lib.hid bk
      clear b6 b7 b9 bk
      have hl3 : hs + 3 < w3.heap.size := (h3.box (bx := (oneBx4 (.slice la g.recs.length lc) g.sure g.kept g.marks ⟨1, n, s, at_, ⟨fat, fke, fto, fby, flo⟩⟩ #[.slice la g.recs.length lc, .int .i64 (g.sure : Int), .int .i64 g.kept, .int .u64 (g.marks : Int)])) (i := 3) rfl).lt
      have HM := HMP w3 (LW.reads (bx := (oneBx4 (.slice la g.recs.length lc) g.sure g.kept g.marks ⟨1, n, s, at_, ⟨fat, fke, fto, fby, flo⟩⟩ #[.slice la g.recs.length lc, .int .i64 (g.sure : Int), .int .i64 g.kept, .int .u64 (g.marks : Int)])) h3)
      have H3 := Lib.hid h3
      clear h3 HMP
      go_wp2_with (fail)
      clear c60 c61 c62 c63 c72 c90 c91 c92 c93 f90 f91 f92 f93 ck0 ck1 ck2 ck3 fk0 fk1 fk2 fk3 B9 BK
      refine HM.out.mono ?_
      rintro e w4 ⟨lv2, rfl, ho4, hb4⟩
      obtain ⟨a4, c4, rfl⟩ := own_form ho4
      have HB4 := Lib.hid hb4
      have HO4 := Lib.hid ho4
      have h4 := H3.out.below (bx_stable ob (.slice la g.recs.length lc) g.recs hs (oneBx4 (.slice la g.recs.length lc) g.sure g.kept g.marks ⟨1, n, s, at_, ⟨fat, fke, fto, fby, flo⟩⟩ #[.slice la g.recs.length lc, .int .i64 (g.sure : Int), .int .i64 g.kept, .int .u64 (g.marks : Int)])) hb4
      clear hb4 ho4
      have b6 := h4.box (bx := (oneBx4 (.slice la g.recs.length lc) g.sure g.kept g.marks ⟨1, n, s, at_, ⟨fat, fke, fto, fby, flo⟩⟩ #[.slice la g.recs.length lc, .int .i64 (g.sure : Int), .int .i64 g.kept, .int .u64 (g.marks : Int)])) (i := 0) rfl
      have b7 := h4.box (bx := (oneBx4 (.slice la g.recs.length lc) g.sure g.kept g.marks ⟨1, n, s, at_, ⟨fat, fke, fto, fby, flo⟩⟩ #[.slice la g.recs.length lc, .int .i64 (g.sure : Int), .int .i64 g.kept, .int .u64 (g.marks : Int)])) (i := 1) rfl
      have b9 := h4.box (bx := (oneBx4 (.slice la g.recs.length lc) g.sure g.kept g.marks ⟨1, n, s, at_, ⟨fat, fke, fto, fby, flo⟩⟩ #[.slice la g.recs.length lc, .int .i64 (g.sure : Int), .int .i64 g.kept, .int .u64 (g.marks : Int)])) (i := 2) rfl
      have bk := h4.box (bx := (oneBx4 (.slice la g.recs.length lc) g.sure g.kept g.marks ⟨1, n, s, at_, ⟨fat, fke, fto, fby, flo⟩⟩ #[.slice la g.recs.length lc, .int .i64 (g.sure : Int), .int .i64 g.kept, .int .u64 (g.marks : Int)])) (i := 3) rfl
      have c60 : w4.cell? ⟨hs, 0, none⟩ = some (.slice la g.recs.length lc) := b6.cell 0
      have c61 : w4.cell? ⟨hs, 1, none⟩ = some (.int .i64 (g.sure : Int)) := b6.cell 1
      have c62 : w4.cell? ⟨hs, 2, none⟩ = some (.int .i64 g.kept) := b6.cell 2
      have c63 : w4.cell? ⟨hs, 3, none⟩ = some (.int .u64 (g.marks : Int)) := b6.cell 3
      have c72 : w4.cell? ⟨hs + 1, 2, none⟩ = some (.string s) := b7.cell 2
      have c90 : w4.cell? ⟨hs + 1 + 1, 0, none⟩ = some (.slice none 0 0) := b9.cell 0
      have c91 : w4.cell? ⟨hs + 1 + 1, 1, none⟩ = some (.int .i64 0) := b9.cell 1
      have c92 : w4.cell? ⟨hs + 1 + 1, 2, none⟩ = some (.int .i64 0) := b9.cell 2
      have c93 : w4.cell? ⟨hs + 1 + 1, 3, none⟩ = some (.int .u64 0) := b9.cell 3
      have f90 : w4.frozen? ⟨hs + 1 + 1, 0, none⟩ = false := b9.frozen 0
      have f91 : w4.frozen? ⟨hs + 1 + 1, 1, none⟩ = false := b9.frozen 1
      have f92 : w4.frozen? ⟨hs + 1 + 1, 2, none⟩ = false := b9.frozen 2
      have f93 : w4.frozen? ⟨hs + 1 + 1, 3, none⟩ = false := b9.frozen 3
      have ck0 : w4.cell? ⟨hs + 1 + 1 + 1, 0, none⟩ = some (.slice la g.recs.length lc) := bk.cell 0
      have ck1 : w4.cell? ⟨hs + 1 + 1 + 1, 1, none⟩ = some (.int .i64 (g.sure : Int)) := bk.cell 1
      have ck2 : w4.cell? ⟨hs + 1 + 1 + 1, 2, none⟩ = some (.int .i64 g.kept) := bk.cell 2
      have ck3 : w4.cell? ⟨hs + 1 + 1 + 1, 3, none⟩ = some (.int .u64 (g.marks : Int)) := bk.cell 3
      have fk0 : w4.frozen? ⟨hs + 1 + 1 + 1, 0, none⟩ = false := bk.frozen 0
      have fk1 : w4.frozen? ⟨hs + 1 + 1 + 1, 1, none⟩ = false := bk.frozen 1
      have fk2 : w4.frozen? ⟨hs + 1 + 1 + 1, 2, none⟩ = false := bk.frozen 2
      have fk3 : w4.frozen? ⟨hs + 1 + 1 + 1, 3, none⟩ = false := bk.frozen 3
      have B9 := Lib.hid b9
      have BK := Lib.hid bk
      clear b6 b7 b9 bk
      clear h4
      go_wp2_with (fail)
      refine (less5_c g.kept ((s.size : Int) + 12) (by omega) (by omega)).mono ?_
      rintro e w' ⟨rfl, rfl⟩
      go_wp2_with (fail)
      clear c60 c61 c62 c63 c72 c90 c91 c92 c93 f90 f91 f92 f93 ck0 ck1 ck2 ck3 fk0 fk1 fk2 fk3
      have bk5 : Blk (((((w4.setCell ⟨hs + 1 + 1 + 1, 0, none⟩ (.slice a4 (g.recs.length + 1) c4)).setCell ⟨hs + 1 + 1 + 1, 1, none⟩ (.int .i64 (g.sure : Int))).setCell ⟨hs + 1 + 1 + 1, 2, none⟩ (.int .i64 g.kept)).setCell ⟨hs + 1 + 1 + 1, 3, none⟩ (.int .u64 (g.marks : Int))).setCell ⟨hs + 1 + 1 + 1, 2, none⟩ (.int .i64 (lessOf g.kept ((s.size : Int) + 12)))) (hs + 1 + 1 + 1) 89 #[.slice a4 (g.recs.length + 1) c4, .int .i64 (g.sure : Int), .int .i64 (lessOf g.kept ((s.size : Int) + 12)), .int .u64 (g.marks : Int)] := by
        have := (BK.out.set4 (v0 := .slice a4 (g.recs.length + 1) c4) (v1 := .int .i64 (g.sure : Int)) (v2 := .int .i64 g.kept) (v3 := .int .u64 (g.marks : Int))).set_ 2 (.int .i64 (lessOf g.kept ((s.size : Int) + 12)))
        simpa using this
      have b95 : Blk (((((w4.setCell ⟨hs + 1 + 1 + 1, 0, none⟩ (.slice a4 (g.recs.length + 1) c4)).setCell ⟨hs + 1 + 1 + 1, 1, none⟩ (.int .i64 (g.sure : Int))).setCell ⟨hs + 1 + 1 + 1, 2, none⟩ (.int .i64 g.kept)).setCell ⟨hs + 1 + 1 + 1, 3, none⟩ (.int .u64 (g.marks : Int))).setCell ⟨hs + 1 + 1 + 1, 2, none⟩ (.int .i64 (lessOf g.kept ((s.size : Int) + 12)))) (hs + 1 + 1) 89 #[.slice none 0 0, .int .i64 0, .int .i64 0, .int .u64 0] := (B9.out.far4 (by show hs + 2 ≠ hs + 1 + 1 + 1; omega)).far (p := ⟨hs + 1 + 1 + 1, 2, none⟩) (by show hs + 1 + 1 ≠ hs + 1 + 1 + 1; omega) _
      have st5 : Step (fun r => hs ≤ r ∧ r < hs + 4) w3 (((((w4.setCell ⟨hs + 1 + 1 + 1, 0, none⟩ (.slice a4 (g.recs.length + 1) c4)).setCell ⟨hs + 1 + 1 + 1, 1, none⟩ (.int .i64 (g.sure : Int))).setCell ⟨hs + 1 + 1 + 1, 2, none⟩ (.int .i64 g.kept)).setCell ⟨hs + 1 + 1 + 1, 3, none⟩ (.int .u64 (g.marks : Int))).setCell ⟨hs + 1 + 1 + 1, 2, none⟩ (.int .i64 (lessOf g.kept ((s.size : Int) + 12)))) := ((Step.below HB4.out).set4 (r := hs + 1 + 1 + 1) ⟨by omega, by show hs + 1 + 1 + 1 < hs + 4; omega⟩).setCell (p := ⟨hs + 1 + 1 + 1, 2, none⟩) (.inl ⟨by show hs ≤ hs + 1 + 1 + 1; omega, by show hs + 1 + 1 + 1 < hs + 4; omega⟩) _
      have ow5 : ((((((w4.setCell ⟨hs + 1 + 1 + 1, 0, none⟩ (.slice a4 (g.recs.length + 1) c4)).setCell ⟨hs + 1 + 1 + 1, 1, none⟩ (.int .i64 (g.sure : Int))).setCell ⟨hs + 1 + 1 + 1, 2, none⟩ (.int .i64 g.kept)).setCell ⟨hs + 1 + 1 + 1, 3, none⟩ (.int .u64 (g.marks : Int))).setCell ⟨hs + 1 + 1 + 1, 2, none⟩ (.int .i64 (lessOf g.kept ((s.size : Int) + 12)))) : World).ownsRow w3.heap.size 9 1 (.slice a4 (g.recs.length + 1) c4) (g.recs.length + 1) ((g.recs ++ [s]).map Value.string) := own_set1 (own_set4 HO4.out (by omega)) (by omega)
      have BK5 := Lib.hid bk5
      have B95 := Lib.hid b95
      have ST5 := Lib.hid st5
      have OW5 := Lib.hid ow5
      clear bk5 b95 st5 ow5 BK B9 HB4 HO4
      generalize (((((w4.setCell ⟨hs + 1 + 1 + 1, 0, none⟩ (.slice a4 (g.recs.length + 1) c4)).setCell ⟨hs + 1 + 1 + 1, 1, none⟩ (.int .i64 (g.sure : Int))).setCell ⟨hs + 1 + 1 + 1, 2, none⟩ (.int .i64 g.kept)).setCell ⟨hs + 1 + 1 + 1, 3, none⟩ (.int .u64 (g.marks : Int))).setCell ⟨hs + 1 + 1 + 1, 2, none⟩ (.int .i64 (lessOf g.kept ((s.size : Int) + 12)))) = w5 at *
      have c90 : w5.cell? ⟨hs + 1 + 1, 0, none⟩ = some (.slice none 0 0) := B95.out.cell 0
      have c91 : w5.cell? ⟨hs + 1 + 1, 1, none⟩ = some (.int .i64 0) := B95.out.cell 1
      have c92 : w5.cell? ⟨hs + 1 + 1, 2, none⟩ = some (.int .i64 0) := B95.out.cell 2
      have c93 : w5.cell? ⟨hs + 1 + 1, 3, none⟩ = some (.int .u64 0) := B95.out.cell 3
      have f90 : w5.frozen? ⟨hs + 1 + 1, 0, none⟩ = false := B95.out.frozen 0
      have f91 : w5.frozen? ⟨hs + 1 + 1, 1, none⟩ = false := B95.out.frozen 1
      have f92 : w5.frozen? ⟨hs + 1 + 1, 2, none⟩ = false := B95.out.frozen 2
      have f93 : w5.frozen? ⟨hs + 1 + 1, 3, none⟩ = false := B95.out.frozen 3
      have ck0 : w5.cell? ⟨hs + 1 + 1 + 1, 0, none⟩ = some (.slice a4 (g.recs.length + 1) c4) := BK5.out.cell 0
      have ck1 : w5.cell? ⟨hs + 1 + 1 + 1, 1, none⟩ = some (.int .i64 (g.sure : Int)) := BK5.out.cell 1
      have ck2 : w5.cell? ⟨hs + 1 + 1 + 1, 2, none⟩ = some (.int .i64 (lessOf g.kept ((s.size : Int) + 12))) := BK5.out.cell 2
      have ck3 : w5.cell? ⟨hs + 1 + 1 + 1, 3, none⟩ = some (.int .u64 (g.marks : Int)) := BK5.out.cell 3
      go_region
      go_wp2
      have B9' := ((B95.out).set4 (v0 := .slice a4 (g.recs.length + 1) c4) (v1 := .int .i64 (g.sure : Int)) (v2 := .int .i64 (lessOf g.kept ((s.size : Int) + 12))) (v3 := .int .u64 (g.marks : Int)))
      have r0 := B9'.cell 0
      have r1 := B9'.cell 1
      have r2 := B9'.cell 2
      have r3 := B9'.cell 3
      simp at r0 r1 r2 r3
      (try simp only [Exit.inBlock, Exit.then])
      refine bodyPost_ret (by simp [results, Try.results58, go_sem, r0, r1, r2, r3]; try rfl) rfl ?_
      exact ⟨lb, .slice a4 (g.recs.length + 1) c4, rfl, one_pushed (bx := (oneBx4 (.slice la g.recs.length lc) g.sure g.kept g.marks ⟨1, n, s, at_, ⟨fat, fke, fto, fby, flo⟩⟩ #[.slice la g.recs.length lc, .int .i64 (g.sure : Int), .int .i64 g.kept, .int .u64 (g.marks : Int)])) (k2 := lessOf g.kept ((s.size : Int) + 12)) (B := w3.heap.size) HF0.out HOK.out H3.out (Nat.le_refl _) HOB.out ((ST5.out.set4 (r := hs + 1 + 1) ⟨by omega, by show hs + 1 + 1 < hs + 4; omega⟩).drew) (own_drew (own_set4 OW5.out (by omega)))⟩
/-- whatever is done -/
theorem one_any (h : PlayAt ob w0 b lb lv g w) (a : Ac) (ha : a.ok) :
    Calls Try.prog 58 #[.pointer (some ⟨b, 0, none⟩), .pointer (some ⟨lb, 0, none⟩), modelV lv g.sure g.kept g.marks, acV a] w fun e w' => ∃ g', OnePost ob w0 b g' e w' := by
  by_cases k0 : a.kind = 0
  · exact (one_put0 h a ha k0).mono fun _ _ h => ⟨_, h⟩
  by_cases k1 : a.kind = 1
  · exact (one_put1 h a ha k1).mono fun _ _ h => ⟨_, h⟩
  by_cases k2 : a.kind = 2
  · exact (one_keep h a ha k2).mono fun _ _ h => ⟨_, h⟩
  by_cases k3 : a.kind = 3
  · exact (one_give h a ha k3).mono fun _ _ h => ⟨_, h⟩
  by_cases k4 : a.kind = 4
  · exact (one_flush h a ha k4).mono fun _ _ h => ⟨_, h⟩
  by_cases k5 : a.kind = 5
  · exact one_master h a ha k5
  by_cases k6 : a.kind = 6
  · exact (one_open h a ha k6).mono fun _ _ h => ⟨_, h⟩
  exact (one_fall h a ha (by omega)).mono fun _ _ h => ⟨_, h⟩
end
end Go.Proofs.Ytnobiekgifjaeaa
