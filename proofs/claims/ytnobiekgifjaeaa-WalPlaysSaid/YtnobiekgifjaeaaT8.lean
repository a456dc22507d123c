/-
  'one': flushed, the master.
-/
import Derived.Test.YtnobiekgifjaeaaT7
namespace Go.Proofs.Ytnobiekgifjaeaa
open Go.RowKit
attribute [local go_sem ↓] Go.wp_at_zero Go.wp_at_succ
section
variable {ob : Ob} {w0 w : World} {b lb : Nat} {lv : Value} {g : Lg}
set_option maxRecDepth 100000 in
set_option maxHeartbeats 4000000 in
theorem one_flush (h : PlayAt ob w0 b lb lv g w) (a : Ac) (ha : a.ok) (hk : a.kind = 4) :
    Calls Try.prog 58 #[.pointer (some ⟨b, 0, none⟩), .pointer (some ⟨lb, 0, none⟩), modelV lv g.sure g.kept g.marks, acV a] w (OnePost ob w0 b (g.flush a.at_)) := by
  obtain ⟨la, lc, rfl⟩ := (LW.reads (bx := []) h.1).form
  have h1 := h.boxed a _ rfl
  have hok := h.1.ok
  have HOB : Hid (∀ r t cs, ob = some (r, t, cs) → r < w.heap.size) := fun r t cs e => (h.1.own.2.2 r t cs e).lt
  have HF0 := Lib.hid h.2
  have hk1 := hok.kept1
  have hk2 := hok.kept2
  have hsr := hok.sure
  have hn1 := ha.n1
  have hn2 := ha.n2
  have hat1 := ha.at1
  have hat2 := ha.at2
  have HOK := Lib.hid hok
  have HA := Lib.hid ha
  clear h hok ha
  unfold modelV acV
  obtain ⟨kind, n, s, at_, fat, fke, fto, fby, flo⟩ := a
  simp only at *
  subst hk
  obtain ⟨q1, q2, q3, q4, q5, q6⟩ := HF0.out.flush hsr at_
  have hsize := HF0.out.size
  have hend1 := HOK.out.end_le
  have hg := h1.flush (bx_stable ob (.slice la g.recs.length lc) g.recs w.heap.size (oneBx (.slice la g.recs.length lc) g.sure g.kept g.marks ⟨4, n, s, at_, ⟨fat, fke, fto, fby, flo⟩⟩)) at_ (by omega)
  rw [q6] at hg
  clear q6
  generalize g.flush at_ = g' at *
  have HG := Lib.hid hg
  have HE : ∀ W e (sn : Nat), g'.sure = sn → LW w0 (bxK ob (.slice la g.recs.length lc) 0 0) (bxP ob (.slice la g.recs.length lc) g.recs 0 []) b lb (frames 1 (g'.recs.take g'.sure)) (g.marks : Int) g' W → e = .returned (.tuple #[.pointer (some ⟨lb, 0, none⟩), .agg #[(.slice la g.recs.length lc), .int .i64 (sn : Int), .int .i64 g.kept, .int .u64 (g.marks : Int)], .bool true]) → Hid (OnePost ob w0 b g' e W) := fun W e sn hsn h he => by
    refine ⟨lb, (.slice la g.recs.length lc), by rw [he, q3, q4, hsn]; rfl, ?_, q1⟩
    rw [q4, q2]
    rw [q2] at h
    exact h
  have Q5 := Lib.hid q5
  clear h1 hsize hend1 q1 q2 q3 q4 q5 hg
  by_cases hlt : g.sure < g.recs.length
  · by_cases hge : (pl g.recs g.sure : Int) ≤ at_
    · have q5 := Q5.out
      rw [if_pos ⟨hlt, hge⟩] at q5
      have Q6 := Lib.hid q5
      clear q5 Q5
      go_enter Try.func58, Try.ntmps58
      go_wp2_with (fail)
      refine HG.out.mono ?_
      rintro e w2 ⟨rfl, h2⟩
      generalize hhs : w.heap.size = hs at *
      clear hhs
      have b6 := h2.box (bx := oneBx (.slice la g.recs.length lc) g.sure g.kept g.marks ⟨4, n, s, at_, ⟨fat, fke, fto, fby, flo⟩⟩) (i := 0) rfl
      have b7 := h2.box (bx := oneBx (.slice la g.recs.length lc) g.sure g.kept g.marks ⟨4, n, s, at_, ⟨fat, fke, fto, fby, flo⟩⟩) (i := 1) rfl
      have b9 := h2.box (bx := oneBx (.slice la g.recs.length lc) g.sure g.kept g.marks ⟨4, n, s, at_, ⟨fat, fke, fto, fby, flo⟩⟩) (i := 2) rfl
      have c60 : w2.cell? ⟨hs, 0, none⟩ = some (.slice la g.recs.length lc) := b6.cell 0
      have c61 : w2.cell? ⟨hs, 1, none⟩ = some (.int .i64 (g.sure : Int)) := b6.cell 1
      have c62 : w2.cell? ⟨hs, 2, none⟩ = some (.int .i64 g.kept) := b6.cell 2
      have c63 : w2.cell? ⟨hs, 3, none⟩ = some (.int .u64 (g.marks : Int)) := b6.cell 3
      have f60 : w2.frozen? ⟨hs, 0, none⟩ = false := b6.frozen 0
      have f61 : w2.frozen? ⟨hs, 1, none⟩ = false := b6.frozen 1
      have f62 : w2.frozen? ⟨hs, 2, none⟩ = false := b6.frozen 2
      have f63 : w2.frozen? ⟨hs, 3, none⟩ = false := b6.frozen 3
      have c71 : w2.cell? ⟨hs + 1, 1, none⟩ = some (.int .i64 n) := b7.cell 1
      have c72 : w2.cell? ⟨hs + 1, 2, none⟩ = some (.string s) := b7.cell 2
      have c73 : w2.cell? ⟨hs + 1, 3, none⟩ = some (.int .u64 at_) := b7.cell 3
      have c90 : w2.cell? ⟨hs + 1 + 1, 0, none⟩ = some (.slice none 0 0) := b9.cell 0
      have c91 : w2.cell? ⟨hs + 1 + 1, 1, none⟩ = some (.int .i64 0) := b9.cell 1
      have c92 : w2.cell? ⟨hs + 1 + 1, 2, none⟩ = some (.int .i64 0) := b9.cell 2
      have c93 : w2.cell? ⟨hs + 1 + 1, 3, none⟩ = some (.int .u64 0) := b9.cell 3
      have f90 : w2.frozen? ⟨hs + 1 + 1, 0, none⟩ = false := b9.frozen 0
      have f91 : w2.frozen? ⟨hs + 1 + 1, 1, none⟩ = false := b9.frozen 1
      have f92 : w2.frozen? ⟨hs + 1 + 1, 2, none⟩ = false := b9.frozen 2
      have f93 : w2.frozen? ⟨hs + 1 + 1, 3, none⟩ = false := b9.frozen 3
      have B9 := Lib.hid b9
      clear b6 b7 b9
      have HMA : ∀ W, Below w2.heap.size w2 W → Hid (Calls Try.prog 52 #[.agg #[(.slice la g.recs.length lc), .int .i64 (g.sure : Int), .int .i64 g.kept, .int .u64 (g.marks : Int)]] W (AtPost W g.recs)) := fun W hW =>
        mat_c W _ g.recs _ _ _ ((LW.reads (bx := oneBx (.slice la g.recs.length lc) g.sure g.kept g.marks ⟨4, n, s, at_, ⟨fat, fke, fto, fby, flo⟩⟩) h2).below hW) HOK.out.recsOk.len HOK.out.recsOk.end_ HOK.out.recsOk.sizes
      have hlen := HOK.out.length
      have hB6 := h2.box (bx := oneBx (.slice la g.recs.length lc) g.sure g.kept g.marks ⟨4, n, s, at_, ⟨fat, fke, fto, fby, flo⟩⟩) (i := 0) rfl
      have hB7 := h2.box (bx := oneBx (.slice la g.recs.length lc) g.sure g.kept g.marks ⟨4, n, s, at_, ⟨fat, fke, fto, fby, flo⟩⟩) (i := 1) rfl
      have hl6 : hs < w2.heap.size := hB6.lt
      have hl7 : hs + 1 < w2.heap.size := hB7.lt
      have H2 := Lib.hid h2
      have HB6 := Lib.hid hB6
      have HB7 := Lib.hid hB7
      clear h2 HG hB6 hB7
      go_wp2_with (fail)
      refine wp_region_late (S := Below w2.heap.size w2) (late := []) (by kernel_rfl) (below_drewN w2 1) (fun hHeld => ?_)
      refine wpAnyL_move (i := 0) (v := ?_) (by rfl) (by kernel_rfl) (by kernel_rfl) (by kernel_rfl) (by rfl) (by exact fun _ _ _ h => h) (Or.inl ⟨by rfl, ?_⟩) (by assumption) ?_; rotate_left; · (intro w0; go_simp; try with_reducible rfl)
      try simp only [Act.put, List.setIfInBounds_toArray, List.set_cons_zero, List.set_cons_succ]
      refine wpAnyL_load (i := 1) (v := ?_) (by rfl) (by kernel_rfl) (by kernel_rfl) (by kernel_rfl) (by rfl) (by kernel_rfl) (by exact fun _ _ _ h => h) (Or.inl ⟨by rfl, ?_⟩) (by assumption) ?_; rotate_left; · (intro w0 hS0; have k60 : w0.cell? ⟨hs, 0, none⟩ = some (.slice la g.recs.length lc) := (hS0.cell (p := ⟨hs, 0, none⟩) hl6).trans (HB6.out.cell 0); have k61 : w0.cell? ⟨hs, 1, none⟩ = some (.int .i64 (g.sure : Int)) := (hS0.cell (p := ⟨hs, 1, none⟩) hl6).trans (HB6.out.cell 1); have k62 : w0.cell? ⟨hs, 2, none⟩ = some (.int .i64 g.kept) := (hS0.cell (p := ⟨hs, 2, none⟩) hl6).trans (HB6.out.cell 2); have k63 : w0.cell? ⟨hs, 3, none⟩ = some (.int .u64 (g.marks : Int)) := (hS0.cell (p := ⟨hs, 3, none⟩) hl6).trans (HB6.out.cell 3); have k73 : w0.cell? ⟨hs + 1, 3, none⟩ = some (.int .u64 at_) := (hS0.cell (p := ⟨hs + 1, 3, none⟩) hl7).trans (HB7.out.cell 3); go_simp; try with_reducible rfl)
      try simp only [Act.put, List.setIfInBounds_toArray, List.set_cons_zero, List.set_cons_succ]
      refine wpAnyL_move (i := 2) (v := ?_) (by rfl) (by kernel_rfl) (by kernel_rfl) (by kernel_rfl) (by rfl) (by exact fun _ _ _ h => h) (Or.inl ⟨by rfl, ?_⟩) (by assumption) ?_; rotate_left; · (intro w0; go_simp; try with_reducible rfl)
      try simp only [Act.put, List.setIfInBounds_toArray, List.set_cons_zero, List.set_cons_succ]
      refine wpAnyL_load (i := 3) (v := ?_) (by rfl) (by kernel_rfl) (by kernel_rfl) (by kernel_rfl) (by rfl) (by kernel_rfl) (by exact fun _ _ _ h => h) (Or.inl ⟨by rfl, ?_⟩) (by assumption) ?_; rotate_left; · (intro w0 hS0; have k60 : w0.cell? ⟨hs, 0, none⟩ = some (.slice la g.recs.length lc) := (hS0.cell (p := ⟨hs, 0, none⟩) hl6).trans (HB6.out.cell 0); have k61 : w0.cell? ⟨hs, 1, none⟩ = some (.int .i64 (g.sure : Int)) := (hS0.cell (p := ⟨hs, 1, none⟩) hl6).trans (HB6.out.cell 1); have k62 : w0.cell? ⟨hs, 2, none⟩ = some (.int .i64 g.kept) := (hS0.cell (p := ⟨hs, 2, none⟩) hl6).trans (HB6.out.cell 2); have k63 : w0.cell? ⟨hs, 3, none⟩ = some (.int .u64 (g.marks : Int)) := (hS0.cell (p := ⟨hs, 3, none⟩) hl6).trans (HB6.out.cell 3); have k73 : w0.cell? ⟨hs + 1, 3, none⟩ = some (.int .u64 at_) := (hS0.cell (p := ⟨hs + 1, 3, none⟩) hl7).trans (HB7.out.cell 3); go_simp; try with_reducible rfl)
      try simp only [Act.put, List.setIfInBounds_toArray, List.set_cons_zero, List.set_cons_succ]
      refine wpAnyL_move (i := 4) (v := ?_) (by rfl) (by kernel_rfl) (by kernel_rfl) (by kernel_rfl) (by rfl) (by exact fun _ _ _ h => h) (Or.inl ⟨by rfl, ?_⟩) (by assumption) ?_; rotate_left; · (intro w0; go_simp; try with_reducible rfl)
      try simp only [Act.put, List.setIfInBounds_toArray, List.set_cons_zero, List.set_cons_succ]
      refine wpAnyL_move (i := 5) (v := ?_) (by rfl) (by kernel_rfl) (by kernel_rfl) (by kernel_rfl) (by rfl) (by exact fun _ _ _ h => h) (Or.inl ⟨by rfl, ?_⟩) (by assumption) ?_; rotate_left; · (intro w0; go_simp; try with_reducible rfl)
      try simp only [Act.put, List.setIfInBounds_toArray, List.set_cons_zero, List.set_cons_succ]
      refine wpAnyL_move (i := 6) (v := ?_) (by rfl) (by kernel_rfl) (by kernel_rfl) (by kernel_rfl) (by rfl) (by exact fun _ _ _ h => h) (Or.inl ⟨by rfl, ?_⟩) (by assumption) ?_; rotate_left; · (intro w0; go_simp; try with_reducible rfl)
      try simp only [Act.put, List.setIfInBounds_toArray, List.set_cons_zero, List.set_cons_succ]
      refine wpAnyL_move (i := 7) (v := ?_) (by rfl) (by kernel_rfl) (by kernel_rfl) (by kernel_rfl) (by rfl) (by exact fun _ _ _ h => h) (Or.inl ⟨by rfl, ?_⟩) (by assumption) ?_; rotate_left; · (intro w0; go_simp; try with_reducible rfl)
      try simp only [Act.put, List.setIfInBounds_toArray, List.set_cons_zero, List.set_cons_succ]
      refine wpAnyL_load (i := 8) (v := ?_) (by rfl) (by kernel_rfl) (by kernel_rfl) (by kernel_rfl) (by rfl) (by kernel_rfl) (by exact fun _ _ _ h => h) (Or.inl ⟨by rfl, ?_⟩) (by assumption) ?_; rotate_left; · (intro w0 hS0; have k60 : w0.cell? ⟨hs, 0, none⟩ = some (.slice la g.recs.length lc) := (hS0.cell (p := ⟨hs, 0, none⟩) hl6).trans (HB6.out.cell 0); have k61 : w0.cell? ⟨hs, 1, none⟩ = some (.int .i64 (g.sure : Int)) := (hS0.cell (p := ⟨hs, 1, none⟩) hl6).trans (HB6.out.cell 1); have k62 : w0.cell? ⟨hs, 2, none⟩ = some (.int .i64 g.kept) := (hS0.cell (p := ⟨hs, 2, none⟩) hl6).trans (HB6.out.cell 2); have k63 : w0.cell? ⟨hs, 3, none⟩ = some (.int .u64 (g.marks : Int)) := (hS0.cell (p := ⟨hs, 3, none⟩) hl6).trans (HB6.out.cell 3); have k73 : w0.cell? ⟨hs + 1, 3, none⟩ = some (.int .u64 at_) := (hS0.cell (p := ⟨hs + 1, 3, none⟩) hl7).trans (HB7.out.cell 3); go_simp; try with_reducible rfl)
      try simp only [Act.put, List.setIfInBounds_toArray, List.set_cons_zero, List.set_cons_succ]
      refine wpAnyL_load (i := 9) (v := ?_) (by rfl) (by kernel_rfl) (by kernel_rfl) (by kernel_rfl) (by rfl) (by kernel_rfl) (by exact fun _ _ _ h => h) (Or.inl ⟨by rfl, ?_⟩) (by assumption) ?_; rotate_left; · (intro w0 hS0; have k60 : w0.cell? ⟨hs, 0, none⟩ = some (.slice la g.recs.length lc) := (hS0.cell (p := ⟨hs, 0, none⟩) hl6).trans (HB6.out.cell 0); have k61 : w0.cell? ⟨hs, 1, none⟩ = some (.int .i64 (g.sure : Int)) := (hS0.cell (p := ⟨hs, 1, none⟩) hl6).trans (HB6.out.cell 1); have k62 : w0.cell? ⟨hs, 2, none⟩ = some (.int .i64 g.kept) := (hS0.cell (p := ⟨hs, 2, none⟩) hl6).trans (HB6.out.cell 2); have k63 : w0.cell? ⟨hs, 3, none⟩ = some (.int .u64 (g.marks : Int)) := (hS0.cell (p := ⟨hs, 3, none⟩) hl6).trans (HB6.out.cell 3); have k73 : w0.cell? ⟨hs + 1, 3, none⟩ = some (.int .u64 at_) := (hS0.cell (p := ⟨hs + 1, 3, none⟩) hl7).trans (HB7.out.cell 3); go_simp; try with_reducible rfl)
      try simp only [Act.put, List.setIfInBounds_toArray, List.set_cons_zero, List.set_cons_succ]
      refine wpAnyL_move (i := 11) (v := ?_) (by rfl) (by kernel_rfl) (by kernel_rfl) (by kernel_rfl) (by rfl) (by exact fun _ _ _ h => h) (Or.inl ⟨by rfl, ?_⟩) (by assumption) ?_; rotate_left; · (intro w0; go_simp; try with_reducible rfl)
      try simp only [Act.put, List.setIfInBounds_toArray, List.set_cons_zero, List.set_cons_succ]
      refine wpAnyL_load (i := 12) (v := ?_) (by rfl) (by kernel_rfl) (by kernel_rfl) (by kernel_rfl) (by rfl) (by kernel_rfl) (by exact fun _ _ _ h => h) (Or.inl ⟨by rfl, ?_⟩) (by assumption) ?_; rotate_left; · (intro w0 hS0; have k60 : w0.cell? ⟨hs, 0, none⟩ = some (.slice la g.recs.length lc) := (hS0.cell (p := ⟨hs, 0, none⟩) hl6).trans (HB6.out.cell 0); have k61 : w0.cell? ⟨hs, 1, none⟩ = some (.int .i64 (g.sure : Int)) := (hS0.cell (p := ⟨hs, 1, none⟩) hl6).trans (HB6.out.cell 1); have k62 : w0.cell? ⟨hs, 2, none⟩ = some (.int .i64 g.kept) := (hS0.cell (p := ⟨hs, 2, none⟩) hl6).trans (HB6.out.cell 2); have k63 : w0.cell? ⟨hs, 3, none⟩ = some (.int .u64 (g.marks : Int)) := (hS0.cell (p := ⟨hs, 3, none⟩) hl6).trans (HB6.out.cell 3); have k73 : w0.cell? ⟨hs + 1, 3, none⟩ = some (.int .u64 at_) := (hS0.cell (p := ⟨hs + 1, 3, none⟩) hl7).trans (HB7.out.cell 3); go_simp; try with_reducible rfl)
      try simp only [Act.put, List.setIfInBounds_toArray, List.set_cons_zero, List.set_cons_succ]
      refine wpAnyL_each (rs := [10]) (by kernel_rfl) (by simp) ?_
      refine EachL.cons (by rfl) (by rfl) (fun K hK => ?_) EachL.nil
      go_simp
      refine (HMA _ hHeld).out.mono ?_
      rintro e w3 ⟨ag, agc, rfl, ho, hb3⟩
      have ce : w3.cell? ⟨ag, g.sure, none⟩ = some (.int .u64 (pl g.recs g.sure : Int)) := by
        rw [ho.cellAt g.sure (by omega), plRow_get g.recs (by omega)]
        rfl
      have hgc : g.recs.length + 1 ≤ agc ∧ agc ≤ maxLen := by
        rcases ho.2 with ⟨e, _⟩ | ⟨g', c', cur, e, _, _, h1, h2, _⟩
        · cases e
        · cases e
          exact ⟨h1, h2⟩
      obtain ⟨hgc1, hgc2⟩ := hgc
      have hll : (g.sure : Int) < (g.recs.length : Int) + 1 := by omega
      dsimp only
      refine hK.out _ _ (hHeld.trans (hb3.mono hHeld.size)) (fun hHeld => ?_)
      clear hK K
      try simp only [Act.put, List.setIfInBounds_toArray, List.set_cons_zero, List.set_cons_succ]
      refine wpAnyL_move (i := 13) (v := ?_) (by rfl) (by kernel_rfl) (by kernel_rfl) (by kernel_rfl) (by rfl) (by exact fun _ _ _ h => h) (Or.inl ⟨by rfl, ?_⟩) (by assumption) ?_; rotate_left; · (intro w0; go_simp; try with_reducible rfl)
      try simp only [Act.put, List.setIfInBounds_toArray, List.set_cons_zero, List.set_cons_succ]
      refine wpAnyL_each (rs := [14]) (by kernel_rfl) (by simp) ?_
      refine EachL.cons (by rfl) (by rfl) (fun K hK => ?_) EachL.nil
      go_simp
      refine hK.out _ _ hHeld (fun hHeld => ?_)
      clear hK K
      try simp only [Act.put, List.setIfInBounds_toArray, List.set_cons_zero, List.set_cons_succ]
      refine wpAnyL_move (i := 15) (v := ?_) (by rfl) (by kernel_rfl) (by kernel_rfl) (by kernel_rfl) (by rfl) (by exact fun _ _ _ h => h) (Or.inl ⟨by rfl, ?_⟩) (by assumption) ?_; rotate_left; · (intro w0; go_simp; try with_reducible rfl)
      try simp only [Act.put, List.setIfInBounds_toArray, List.set_cons_zero, List.set_cons_succ]
      refine wpAnyL_move (i := 16) (v := ?_) (by rfl) (by kernel_rfl) (by kernel_rfl) (by kernel_rfl) (by rfl) (by exact fun _ _ _ h => h) (Or.inl ⟨by rfl, ?_⟩) (by assumption) ?_; rotate_left; · (intro w0; go_simp; try with_reducible rfl)
      try simp only [Act.put, List.setIfInBounds_toArray, List.set_cons_zero, List.set_cons_succ]
      refine wpAnyL_done (by kernel_rfl) ?_ _
      have h3 := H2.out.below (bx_stable ob (.slice la g.recs.length lc) g.recs hs (oneBx (.slice la g.recs.length lc) g.sure g.kept g.marks ⟨4, n, s, at_, ⟨fat, fke, fto, fby, flo⟩⟩)) hHeld
      clear hHeld hb3 H2 HMA HB6 HB7 ho ce
      have b6 := h3.box (bx := oneBx (.slice la g.recs.length lc) g.sure g.kept g.marks ⟨4, n, s, at_, ⟨fat, fke, fto, fby, flo⟩⟩) (i := 0) rfl
      have b7 := h3.box (bx := oneBx (.slice la g.recs.length lc) g.sure g.kept g.marks ⟨4, n, s, at_, ⟨fat, fke, fto, fby, flo⟩⟩) (i := 1) rfl
      have b9 := h3.box (bx := oneBx (.slice la g.recs.length lc) g.sure g.kept g.marks ⟨4, n, s, at_, ⟨fat, fke, fto, fby, flo⟩⟩) (i := 2) rfl
      have c60 : w3.cell? ⟨hs, 0, none⟩ = some (.slice la g.recs.length lc) := b6.cell 0
      have c61 : w3.cell? ⟨hs, 1, none⟩ = some (.int .i64 (g.sure : Int)) := b6.cell 1
      have c62 : w3.cell? ⟨hs, 2, none⟩ = some (.int .i64 g.kept) := b6.cell 2
      have c63 : w3.cell? ⟨hs, 3, none⟩ = some (.int .u64 (g.marks : Int)) := b6.cell 3
      have f60 : w3.frozen? ⟨hs, 0, none⟩ = false := b6.frozen 0
      have f61 : w3.frozen? ⟨hs, 1, none⟩ = false := b6.frozen 1
      have f62 : w3.frozen? ⟨hs, 2, none⟩ = false := b6.frozen 2
      have f63 : w3.frozen? ⟨hs, 3, none⟩ = false := b6.frozen 3
      have c71 : w3.cell? ⟨hs + 1, 1, none⟩ = some (.int .i64 n) := b7.cell 1
      have c72 : w3.cell? ⟨hs + 1, 2, none⟩ = some (.string s) := b7.cell 2
      have c73 : w3.cell? ⟨hs + 1, 3, none⟩ = some (.int .u64 at_) := b7.cell 3
      have c90 : w3.cell? ⟨hs + 1 + 1, 0, none⟩ = some (.slice none 0 0) := b9.cell 0
      have c91 : w3.cell? ⟨hs + 1 + 1, 1, none⟩ = some (.int .i64 0) := b9.cell 1
      have c92 : w3.cell? ⟨hs + 1 + 1, 2, none⟩ = some (.int .i64 0) := b9.cell 2
      have c93 : w3.cell? ⟨hs + 1 + 1, 3, none⟩ = some (.int .u64 0) := b9.cell 3
      have f90 : w3.frozen? ⟨hs + 1 + 1, 0, none⟩ = false := b9.frozen 0
      have f91 : w3.frozen? ⟨hs + 1 + 1, 1, none⟩ = false := b9.frozen 1
      have f92 : w3.frozen? ⟨hs + 1 + 1, 2, none⟩ = false := b9.frozen 2
      have f93 : w3.frozen? ⟨hs + 1 + 1, 3, none⟩ = false := b9.frozen 3
      have B9 := Lib.hid b9
      clear b6 b7 b9
      have H3 := Lib.hid h3
      clear h3
      go_wp2_with (fail)
      go_region
      go_wp2
      have B9' := ((B9.out.far (p := ⟨hs, 1, none⟩) (by show hs + 2 ≠ hs; omega) (.int .i64 (g.recs.length : Int))).set4 (v0 := .slice la g.recs.length lc) (v1 := .int .i64 ((g.recs.length : Int))) (v2 := .int .i64 (g.kept)) (v3 := .int .u64 ((g.marks : Int))))
      have r0 := B9'.cell 0
      have r1 := B9'.cell 1
      have r2 := B9'.cell 2
      have r3 := B9'.cell 3
      simp at r0 r1 r2 r3
      (try simp only [Exit.inBlock, Exit.then])
      refine bodyPost_ret (by simp [results, Try.results58, go_sem, r0, r1, r2, r3]; try rfl) rfl ?_
      exact (HE _ _ _ Q6.out (LW.leave (bx := oneBx (.slice la g.recs.length lc) g.sure g.kept g.marks ⟨4, n, s, at_, ⟨fat, fke, fto, fby, flo⟩⟩) H3.out HOB.out ((((Step.refl _ w3).setCell (p := ⟨hs, 1, none⟩) (.inl ⟨Nat.le_refl _, by show hs < hs + 3; omega⟩) _).set4 (r := hs + 1 + 1) ⟨by omega, by show hs + 1 + 1 < hs + 3; omega⟩).drew) (one_bx_ok (by simp))) rfl).out
    · have q5 := Q5.out
      rw [if_neg (fun h => hge h.2)] at q5
      have Q6 := Lib.hid q5
      clear q5 Q5
      go_enter Try.func58, Try.ntmps58
      go_wp2_with (fail)
      refine HG.out.mono ?_
      rintro e w2 ⟨rfl, h2⟩
      generalize hhs : w.heap.size = hs at *
      clear hhs
      have b6 := h2.box (bx := oneBx (.slice la g.recs.length lc) g.sure g.kept g.marks ⟨4, n, s, at_, ⟨fat, fke, fto, fby, flo⟩⟩) (i := 0) rfl
      have b7 := h2.box (bx := oneBx (.slice la g.recs.length lc) g.sure g.kept g.marks ⟨4, n, s, at_, ⟨fat, fke, fto, fby, flo⟩⟩) (i := 1) rfl
      have b9 := h2.box (bx := oneBx (.slice la g.recs.length lc) g.sure g.kept g.marks ⟨4, n, s, at_, ⟨fat, fke, fto, fby, flo⟩⟩) (i := 2) rfl
      have c60 : w2.cell? ⟨hs, 0, none⟩ = some (.slice la g.recs.length lc) := b6.cell 0
      have c61 : w2.cell? ⟨hs, 1, none⟩ = some (.int .i64 (g.sure : Int)) := b6.cell 1
      have c62 : w2.cell? ⟨hs, 2, none⟩ = some (.int .i64 g.kept) := b6.cell 2
      have c63 : w2.cell? ⟨hs, 3, none⟩ = some (.int .u64 (g.marks : Int)) := b6.cell 3
      have f60 : w2.frozen? ⟨hs, 0, none⟩ = false := b6.frozen 0
      have f61 : w2.frozen? ⟨hs, 1, none⟩ = false := b6.frozen 1
      have f62 : w2.frozen? ⟨hs, 2, none⟩ = false := b6.frozen 2
      have f63 : w2.frozen? ⟨hs, 3, none⟩ = false := b6.frozen 3
      have c71 : w2.cell? ⟨hs + 1, 1, none⟩ = some (.int .i64 n) := b7.cell 1
      have c72 : w2.cell? ⟨hs + 1, 2, none⟩ = some (.string s) := b7.cell 2
      have c73 : w2.cell? ⟨hs + 1, 3, none⟩ = some (.int .u64 at_) := b7.cell 3
      have c90 : w2.cell? ⟨hs + 1 + 1, 0, none⟩ = some (.slice none 0 0) := b9.cell 0
      have c91 : w2.cell? ⟨hs + 1 + 1, 1, none⟩ = some (.int .i64 0) := b9.cell 1
      have c92 : w2.cell? ⟨hs + 1 + 1, 2, none⟩ = some (.int .i64 0) := b9.cell 2
      have c93 : w2.cell? ⟨hs + 1 + 1, 3, none⟩ = some (.int .u64 0) := b9.cell 3
      have f90 : w2.frozen? ⟨hs + 1 + 1, 0, none⟩ = false := b9.frozen 0
      have f91 : w2.frozen? ⟨hs + 1 + 1, 1, none⟩ = false := b9.frozen 1
      have f92 : w2.frozen? ⟨hs + 1 + 1, 2, none⟩ = false := b9.frozen 2
      have f93 : w2.frozen? ⟨hs + 1 + 1, 3, none⟩ = false := b9.frozen 3
      have B9 := Lib.hid b9
      clear b6 b7 b9
      have HMA : ∀ W, Below w2.heap.size w2 W → Hid (Calls Try.prog 52 #[.agg #[(.slice la g.recs.length lc), .int .i64 (g.sure : Int), .int .i64 g.kept, .int .u64 (g.marks : Int)]] W (AtPost W g.recs)) := fun W hW =>
        mat_c W _ g.recs _ _ _ ((LW.reads (bx := oneBx (.slice la g.recs.length lc) g.sure g.kept g.marks ⟨4, n, s, at_, ⟨fat, fke, fto, fby, flo⟩⟩) h2).below hW) HOK.out.recsOk.len HOK.out.recsOk.end_ HOK.out.recsOk.sizes
      have hlen := HOK.out.length
      have hB6 := h2.box (bx := oneBx (.slice la g.recs.length lc) g.sure g.kept g.marks ⟨4, n, s, at_, ⟨fat, fke, fto, fby, flo⟩⟩) (i := 0) rfl
      have hB7 := h2.box (bx := oneBx (.slice la g.recs.length lc) g.sure g.kept g.marks ⟨4, n, s, at_, ⟨fat, fke, fto, fby, flo⟩⟩) (i := 1) rfl
      have hl6 : hs < w2.heap.size := hB6.lt
      have hl7 : hs + 1 < w2.heap.size := hB7.lt
      have H2 := Lib.hid h2
      have HB6 := Lib.hid hB6
      have HB7 := Lib.hid hB7
      clear h2 HG hB6 hB7
      go_wp2_with (fail)
      refine wp_region_late (S := Below w2.heap.size w2) (late := []) (by kernel_rfl) (below_drewN w2 1) (fun hHeld => ?_)
      refine wpAnyL_move (i := 0) (v := ?_) (by rfl) (by kernel_rfl) (by kernel_rfl) (by kernel_rfl) (by rfl) (by exact fun _ _ _ h => h) (Or.inl ⟨by rfl, ?_⟩) (by assumption) ?_; rotate_left; · (intro w0; go_simp; try with_reducible rfl)
      try simp only [Act.put, List.setIfInBounds_toArray, List.set_cons_zero, List.set_cons_succ]
      refine wpAnyL_load (i := 1) (v := ?_) (by rfl) (by kernel_rfl) (by kernel_rfl) (by kernel_rfl) (by rfl) (by kernel_rfl) (by exact fun _ _ _ h => h) (Or.inl ⟨by rfl, ?_⟩) (by assumption) ?_; rotate_left; · (intro w0 hS0; have k60 : w0.cell? ⟨hs, 0, none⟩ = some (.slice la g.recs.length lc) := (hS0.cell (p := ⟨hs, 0, none⟩) hl6).trans (HB6.out.cell 0); have k61 : w0.cell? ⟨hs, 1, none⟩ = some (.int .i64 (g.sure : Int)) := (hS0.cell (p := ⟨hs, 1, none⟩) hl6).trans (HB6.out.cell 1); have k62 : w0.cell? ⟨hs, 2, none⟩ = some (.int .i64 g.kept) := (hS0.cell (p := ⟨hs, 2, none⟩) hl6).trans (HB6.out.cell 2); have k63 : w0.cell? ⟨hs, 3, none⟩ = some (.int .u64 (g.marks : Int)) := (hS0.cell (p := ⟨hs, 3, none⟩) hl6).trans (HB6.out.cell 3); have k73 : w0.cell? ⟨hs + 1, 3, none⟩ = some (.int .u64 at_) := (hS0.cell (p := ⟨hs + 1, 3, none⟩) hl7).trans (HB7.out.cell 3); go_simp; try with_reducible rfl)
      try simp only [Act.put, List.setIfInBounds_toArray, List.set_cons_zero, List.set_cons_succ]
      refine wpAnyL_move (i := 2) (v := ?_) (by rfl) (by kernel_rfl) (by kernel_rfl) (by kernel_rfl) (by rfl) (by exact fun _ _ _ h => h) (Or.inl ⟨by rfl, ?_⟩) (by assumption) ?_; rotate_left; · (intro w0; go_simp; try with_reducible rfl)
      try simp only [Act.put, List.setIfInBounds_toArray, List.set_cons_zero, List.set_cons_succ]
      refine wpAnyL_load (i := 3) (v := ?_) (by rfl) (by kernel_rfl) (by kernel_rfl) (by kernel_rfl) (by rfl) (by kernel_rfl) (by exact fun _ _ _ h => h) (Or.inl ⟨by rfl, ?_⟩) (by assumption) ?_; rotate_left; · (intro w0 hS0; have k60 : w0.cell? ⟨hs, 0, none⟩ = some (.slice la g.recs.length lc) := (hS0.cell (p := ⟨hs, 0, none⟩) hl6).trans (HB6.out.cell 0); have k61 : w0.cell? ⟨hs, 1, none⟩ = some (.int .i64 (g.sure : Int)) := (hS0.cell (p := ⟨hs, 1, none⟩) hl6).trans (HB6.out.cell 1); have k62 : w0.cell? ⟨hs, 2, none⟩ = some (.int .i64 g.kept) := (hS0.cell (p := ⟨hs, 2, none⟩) hl6).trans (HB6.out.cell 2); have k63 : w0.cell? ⟨hs, 3, none⟩ = some (.int .u64 (g.marks : Int)) := (hS0.cell (p := ⟨hs, 3, none⟩) hl6).trans (HB6.out.cell 3); have k73 : w0.cell? ⟨hs + 1, 3, none⟩ = some (.int .u64 at_) := (hS0.cell (p := ⟨hs + 1, 3, none⟩) hl7).trans (HB7.out.cell 3); go_simp; try with_reducible rfl)
      try simp only [Act.put, List.setIfInBounds_toArray, List.set_cons_zero, List.set_cons_succ]
      refine wpAnyL_move (i := 4) (v := ?_) (by rfl) (by kernel_rfl) (by kernel_rfl) (by kernel_rfl) (by rfl) (by exact fun _ _ _ h => h) (Or.inl ⟨by rfl, ?_⟩) (by assumption) ?_; rotate_left; · (intro w0; go_simp; try with_reducible rfl)
      try simp only [Act.put, List.setIfInBounds_toArray, List.set_cons_zero, List.set_cons_succ]
      refine wpAnyL_move (i := 5) (v := ?_) (by rfl) (by kernel_rfl) (by kernel_rfl) (by kernel_rfl) (by rfl) (by exact fun _ _ _ h => h) (Or.inl ⟨by rfl, ?_⟩) (by assumption) ?_; rotate_left; · (intro w0; go_simp; try with_reducible rfl)
      try simp only [Act.put, List.setIfInBounds_toArray, List.set_cons_zero, List.set_cons_succ]
      refine wpAnyL_move (i := 6) (v := ?_) (by rfl) (by kernel_rfl) (by kernel_rfl) (by kernel_rfl) (by rfl) (by exact fun _ _ _ h => h) (Or.inl ⟨by rfl, ?_⟩) (by assumption) ?_; rotate_left; · (intro w0; go_simp; try with_reducible rfl)
      try simp only [Act.put, List.setIfInBounds_toArray, List.set_cons_zero, List.set_cons_succ]
      refine wpAnyL_move (i := 7) (v := ?_) (by rfl) (by kernel_rfl) (by kernel_rfl) (by kernel_rfl) (by rfl) (by exact fun _ _ _ h => h) (Or.inl ⟨by rfl, ?_⟩) (by assumption) ?_; rotate_left; · (intro w0; go_simp; try with_reducible rfl)
      try simp only [Act.put, List.setIfInBounds_toArray, List.set_cons_zero, List.set_cons_succ]
      refine wpAnyL_load (i := 8) (v := ?_) (by rfl) (by kernel_rfl) (by kernel_rfl) (by kernel_rfl) (by rfl) (by kernel_rfl) (by exact fun _ _ _ h => h) (Or.inl ⟨by rfl, ?_⟩) (by assumption) ?_; rotate_left; · (intro w0 hS0; have k60 : w0.cell? ⟨hs, 0, none⟩ = some (.slice la g.recs.length lc) := (hS0.cell (p := ⟨hs, 0, none⟩) hl6).trans (HB6.out.cell 0); have k61 : w0.cell? ⟨hs, 1, none⟩ = some (.int .i64 (g.sure : Int)) := (hS0.cell (p := ⟨hs, 1, none⟩) hl6).trans (HB6.out.cell 1); have k62 : w0.cell? ⟨hs, 2, none⟩ = some (.int .i64 g.kept) := (hS0.cell (p := ⟨hs, 2, none⟩) hl6).trans (HB6.out.cell 2); have k63 : w0.cell? ⟨hs, 3, none⟩ = some (.int .u64 (g.marks : Int)) := (hS0.cell (p := ⟨hs, 3, none⟩) hl6).trans (HB6.out.cell 3); have k73 : w0.cell? ⟨hs + 1, 3, none⟩ = some (.int .u64 at_) := (hS0.cell (p := ⟨hs + 1, 3, none⟩) hl7).trans (HB7.out.cell 3); go_simp; try with_reducible rfl)
      try simp only [Act.put, List.setIfInBounds_toArray, List.set_cons_zero, List.set_cons_succ]
      refine wpAnyL_load (i := 9) (v := ?_) (by rfl) (by kernel_rfl) (by kernel_rfl) (by kernel_rfl) (by rfl) (by kernel_rfl) (by exact fun _ _ _ h => h) (Or.inl ⟨by rfl, ?_⟩) (by assumption) ?_; rotate_left; · (intro w0 hS0; have k60 : w0.cell? ⟨hs, 0, none⟩ = some (.slice la g.recs.length lc) := (hS0.cell (p := ⟨hs, 0, none⟩) hl6).trans (HB6.out.cell 0); have k61 : w0.cell? ⟨hs, 1, none⟩ = some (.int .i64 (g.sure : Int)) := (hS0.cell (p := ⟨hs, 1, none⟩) hl6).trans (HB6.out.cell 1); have k62 : w0.cell? ⟨hs, 2, none⟩ = some (.int .i64 g.kept) := (hS0.cell (p := ⟨hs, 2, none⟩) hl6).trans (HB6.out.cell 2); have k63 : w0.cell? ⟨hs, 3, none⟩ = some (.int .u64 (g.marks : Int)) := (hS0.cell (p := ⟨hs, 3, none⟩) hl6).trans (HB6.out.cell 3); have k73 : w0.cell? ⟨hs + 1, 3, none⟩ = some (.int .u64 at_) := (hS0.cell (p := ⟨hs + 1, 3, none⟩) hl7).trans (HB7.out.cell 3); go_simp; try with_reducible rfl)
      try simp only [Act.put, List.setIfInBounds_toArray, List.set_cons_zero, List.set_cons_succ]
      refine wpAnyL_move (i := 11) (v := ?_) (by rfl) (by kernel_rfl) (by kernel_rfl) (by kernel_rfl) (by rfl) (by exact fun _ _ _ h => h) (Or.inl ⟨by rfl, ?_⟩) (by assumption) ?_; rotate_left; · (intro w0; go_simp; try with_reducible rfl)
      try simp only [Act.put, List.setIfInBounds_toArray, List.set_cons_zero, List.set_cons_succ]
      refine wpAnyL_load (i := 12) (v := ?_) (by rfl) (by kernel_rfl) (by kernel_rfl) (by kernel_rfl) (by rfl) (by kernel_rfl) (by exact fun _ _ _ h => h) (Or.inl ⟨by rfl, ?_⟩) (by assumption) ?_; rotate_left; · (intro w0 hS0; have k60 : w0.cell? ⟨hs, 0, none⟩ = some (.slice la g.recs.length lc) := (hS0.cell (p := ⟨hs, 0, none⟩) hl6).trans (HB6.out.cell 0); have k61 : w0.cell? ⟨hs, 1, none⟩ = some (.int .i64 (g.sure : Int)) := (hS0.cell (p := ⟨hs, 1, none⟩) hl6).trans (HB6.out.cell 1); have k62 : w0.cell? ⟨hs, 2, none⟩ = some (.int .i64 g.kept) := (hS0.cell (p := ⟨hs, 2, none⟩) hl6).trans (HB6.out.cell 2); have k63 : w0.cell? ⟨hs, 3, none⟩ = some (.int .u64 (g.marks : Int)) := (hS0.cell (p := ⟨hs, 3, none⟩) hl6).trans (HB6.out.cell 3); have k73 : w0.cell? ⟨hs + 1, 3, none⟩ = some (.int .u64 at_) := (hS0.cell (p := ⟨hs + 1, 3, none⟩) hl7).trans (HB7.out.cell 3); go_simp; try with_reducible rfl)
      try simp only [Act.put, List.setIfInBounds_toArray, List.set_cons_zero, List.set_cons_succ]
      refine wpAnyL_each (rs := [10]) (by kernel_rfl) (by simp) ?_
      refine EachL.cons (by rfl) (by rfl) (fun K hK => ?_) EachL.nil
      go_simp
      refine (HMA _ hHeld).out.mono ?_
      rintro e w3 ⟨ag, agc, rfl, ho, hb3⟩
      have ce : w3.cell? ⟨ag, g.sure, none⟩ = some (.int .u64 (pl g.recs g.sure : Int)) := by
        rw [ho.cellAt g.sure (by omega), plRow_get g.recs (by omega)]
        rfl
      have hgc : g.recs.length + 1 ≤ agc ∧ agc ≤ maxLen := by
        rcases ho.2 with ⟨e, _⟩ | ⟨g', c', cur, e, _, _, h1, h2, _⟩
        · cases e
        · cases e
          exact ⟨h1, h2⟩
      obtain ⟨hgc1, hgc2⟩ := hgc
      have hll : (g.sure : Int) < (g.recs.length : Int) + 1 := by omega
      dsimp only
      refine hK.out _ _ (hHeld.trans (hb3.mono hHeld.size)) (fun hHeld => ?_)
      clear hK K
      try simp only [Act.put, List.setIfInBounds_toArray, List.set_cons_zero, List.set_cons_succ]
      refine wpAnyL_move (i := 13) (v := ?_) (by rfl) (by kernel_rfl) (by kernel_rfl) (by kernel_rfl) (by rfl) (by exact fun _ _ _ h => h) (Or.inl ⟨by rfl, ?_⟩) (by assumption) ?_; rotate_left; · (intro w0; go_simp; try with_reducible rfl)
      try simp only [Act.put, List.setIfInBounds_toArray, List.set_cons_zero, List.set_cons_succ]
      refine wpAnyL_each (rs := [14]) (by kernel_rfl) (by simp) ?_
      refine EachL.cons (by rfl) (by rfl) (fun K hK => ?_) EachL.nil
      go_simp
      refine hK.out _ _ hHeld (fun hHeld => ?_)
      clear hK K
      try simp only [Act.put, List.setIfInBounds_toArray, List.set_cons_zero, List.set_cons_succ]
      refine wpAnyL_move (i := 15) (v := ?_) (by rfl) (by kernel_rfl) (by kernel_rfl) (by kernel_rfl) (by rfl) (by exact fun _ _ _ h => h) (Or.inl ⟨by rfl, ?_⟩) (by assumption) ?_; rotate_left; · (intro w0; go_simp; try with_reducible rfl)
      try simp only [Act.put, List.setIfInBounds_toArray, List.set_cons_zero, List.set_cons_succ]
      refine wpAnyL_move (i := 16) (v := ?_) (by rfl) (by kernel_rfl) (by kernel_rfl) (by kernel_rfl) (by rfl) (by exact fun _ _ _ h => h) (Or.inl ⟨by rfl, ?_⟩) (by assumption) ?_; rotate_left; · (intro w0; go_simp; try with_reducible rfl)
      try simp only [Act.put, List.setIfInBounds_toArray, List.set_cons_zero, List.set_cons_succ]
      refine wpAnyL_done (by kernel_rfl) ?_ _
      have h3 := H2.out.below (bx_stable ob (.slice la g.recs.length lc) g.recs hs (oneBx (.slice la g.recs.length lc) g.sure g.kept g.marks ⟨4, n, s, at_, ⟨fat, fke, fto, fby, flo⟩⟩)) hHeld
      clear hHeld hb3 H2 HMA HB6 HB7 ho ce
      have b6 := h3.box (bx := oneBx (.slice la g.recs.length lc) g.sure g.kept g.marks ⟨4, n, s, at_, ⟨fat, fke, fto, fby, flo⟩⟩) (i := 0) rfl
      have b7 := h3.box (bx := oneBx (.slice la g.recs.length lc) g.sure g.kept g.marks ⟨4, n, s, at_, ⟨fat, fke, fto, fby, flo⟩⟩) (i := 1) rfl
      have b9 := h3.box (bx := oneBx (.slice la g.recs.length lc) g.sure g.kept g.marks ⟨4, n, s, at_, ⟨fat, fke, fto, fby, flo⟩⟩) (i := 2) rfl
      have c60 : w3.cell? ⟨hs, 0, none⟩ = some (.slice la g.recs.length lc) := b6.cell 0
      have c61 : w3.cell? ⟨hs, 1, none⟩ = some (.int .i64 (g.sure : Int)) := b6.cell 1
      have c62 : w3.cell? ⟨hs, 2, none⟩ = some (.int .i64 g.kept) := b6.cell 2
      have c63 : w3.cell? ⟨hs, 3, none⟩ = some (.int .u64 (g.marks : Int)) := b6.cell 3
      have f60 : w3.frozen? ⟨hs, 0, none⟩ = false := b6.frozen 0
      have f61 : w3.frozen? ⟨hs, 1, none⟩ = false := b6.frozen 1
      have f62 : w3.frozen? ⟨hs, 2, none⟩ = false := b6.frozen 2
      have f63 : w3.frozen? ⟨hs, 3, none⟩ = false := b6.frozen 3
      have c71 : w3.cell? ⟨hs + 1, 1, none⟩ = some (.int .i64 n) := b7.cell 1
      have c72 : w3.cell? ⟨hs + 1, 2, none⟩ = some (.string s) := b7.cell 2
      have c73 : w3.cell? ⟨hs + 1, 3, none⟩ = some (.int .u64 at_) := b7.cell 3
      have c90 : w3.cell? ⟨hs + 1 + 1, 0, none⟩ = some (.slice none 0 0) := b9.cell 0
      have c91 : w3.cell? ⟨hs + 1 + 1, 1, none⟩ = some (.int .i64 0) := b9.cell 1
      have c92 : w3.cell? ⟨hs + 1 + 1, 2, none⟩ = some (.int .i64 0) := b9.cell 2
      have c93 : w3.cell? ⟨hs + 1 + 1, 3, none⟩ = some (.int .u64 0) := b9.cell 3
      have f90 : w3.frozen? ⟨hs + 1 + 1, 0, none⟩ = false := b9.frozen 0
      have f91 : w3.frozen? ⟨hs + 1 + 1, 1, none⟩ = false := b9.frozen 1
      have f92 : w3.frozen? ⟨hs + 1 + 1, 2, none⟩ = false := b9.frozen 2
      have f93 : w3.frozen? ⟨hs + 1 + 1, 3, none⟩ = false := b9.frozen 3
      have B9 := Lib.hid b9
      clear b6 b7 b9
      have H3 := Lib.hid h3
      clear h3
      go_wp2_with (fail)
      go_region
      go_wp2
      have B9' := ((B9.out).set4 (v0 := .slice la g.recs.length lc) (v1 := .int .i64 ((g.sure : Int))) (v2 := .int .i64 (g.kept)) (v3 := .int .u64 ((g.marks : Int))))
      have r0 := B9'.cell 0
      have r1 := B9'.cell 1
      have r2 := B9'.cell 2
      have r3 := B9'.cell 3
      simp at r0 r1 r2 r3
      (try simp only [Exit.inBlock, Exit.then])
      refine bodyPost_ret (by simp [results, Try.results58, go_sem, r0, r1, r2, r3]; try rfl) rfl ?_
      exact (HE _ _ _ Q6.out (LW.leave (bx := oneBx (.slice la g.recs.length lc) g.sure g.kept g.marks ⟨4, n, s, at_, ⟨fat, fke, fto, fby, flo⟩⟩) H3.out HOB.out (((Step.refl _ w3).set4 (r := hs + 1 + 1) ⟨by omega, by show hs + 1 + 1 < hs + 3; omega⟩).drew) (one_bx_ok (by simp))) rfl).out
  · have q5 := Q5.out
    rw [if_neg (fun h => hlt h.1)] at q5
    have Q6 := Lib.hid q5
    clear q5 Q5
    go_enter Try.func58, Try.ntmps58
    go_wp2_with (fail)
    refine HG.out.mono ?_
    rintro e w2 ⟨rfl, h2⟩
    generalize hhs : w.heap.size = hs at *
    clear hhs
    have b6 := h2.box (bx := oneBx (.slice la g.recs.length lc) g.sure g.kept g.marks ⟨4, n, s, at_, ⟨fat, fke, fto, fby, flo⟩⟩) (i := 0) rfl
    have b7 := h2.box (bx := oneBx (.slice la g.recs.length lc) g.sure g.kept g.marks ⟨4, n, s, at_, ⟨fat, fke, fto, fby, flo⟩⟩) (i := 1) rfl
    have b9 := h2.box (bx := oneBx (.slice la g.recs.length lc) g.sure g.kept g.marks ⟨4, n, s, at_, ⟨fat, fke, fto, fby, flo⟩⟩) (i := 2) rfl
    have c60 : w2.cell? ⟨hs, 0, none⟩ = some (.slice la g.recs.length lc) := b6.cell 0
    have c61 : w2.cell? ⟨hs, 1, none⟩ = some (.int .i64 (g.sure : Int)) := b6.cell 1
    have c62 : w2.cell? ⟨hs, 2, none⟩ = some (.int .i64 g.kept) := b6.cell 2
    have c63 : w2.cell? ⟨hs, 3, none⟩ = some (.int .u64 (g.marks : Int)) := b6.cell 3
    have f60 : w2.frozen? ⟨hs, 0, none⟩ = false := b6.frozen 0
    have f61 : w2.frozen? ⟨hs, 1, none⟩ = false := b6.frozen 1
    have f62 : w2.frozen? ⟨hs, 2, none⟩ = false := b6.frozen 2
    have f63 : w2.frozen? ⟨hs, 3, none⟩ = false := b6.frozen 3
    have c71 : w2.cell? ⟨hs + 1, 1, none⟩ = some (.int .i64 n) := b7.cell 1
    have c72 : w2.cell? ⟨hs + 1, 2, none⟩ = some (.string s) := b7.cell 2
    have c73 : w2.cell? ⟨hs + 1, 3, none⟩ = some (.int .u64 at_) := b7.cell 3
    have c90 : w2.cell? ⟨hs + 1 + 1, 0, none⟩ = some (.slice none 0 0) := b9.cell 0
    have c91 : w2.cell? ⟨hs + 1 + 1, 1, none⟩ = some (.int .i64 0) := b9.cell 1
    have c92 : w2.cell? ⟨hs + 1 + 1, 2, none⟩ = some (.int .i64 0) := b9.cell 2
    have c93 : w2.cell? ⟨hs + 1 + 1, 3, none⟩ = some (.int .u64 0) := b9.cell 3
    have f90 : w2.frozen? ⟨hs + 1 + 1, 0, none⟩ = false := b9.frozen 0
    have f91 : w2.frozen? ⟨hs + 1 + 1, 1, none⟩ = false := b9.frozen 1
    have f92 : w2.frozen? ⟨hs + 1 + 1, 2, none⟩ = false := b9.frozen 2
    have f93 : w2.frozen? ⟨hs + 1 + 1, 3, none⟩ = false := b9.frozen 3
    have B9 := Lib.hid b9
    clear b6 b7 b9
    have HMA : ∀ W, Below w2.heap.size w2 W → Hid (Calls Try.prog 52 #[.agg #[(.slice la g.recs.length lc), .int .i64 (g.sure : Int), .int .i64 g.kept, .int .u64 (g.marks : Int)]] W (AtPost W g.recs)) := fun W hW =>
      mat_c W _ g.recs _ _ _ ((LW.reads (bx := oneBx (.slice la g.recs.length lc) g.sure g.kept g.marks ⟨4, n, s, at_, ⟨fat, fke, fto, fby, flo⟩⟩) h2).below hW) HOK.out.recsOk.len HOK.out.recsOk.end_ HOK.out.recsOk.sizes
    have hlen := HOK.out.length
    have hB6 := h2.box (bx := oneBx (.slice la g.recs.length lc) g.sure g.kept g.marks ⟨4, n, s, at_, ⟨fat, fke, fto, fby, flo⟩⟩) (i := 0) rfl
    have hB7 := h2.box (bx := oneBx (.slice la g.recs.length lc) g.sure g.kept g.marks ⟨4, n, s, at_, ⟨fat, fke, fto, fby, flo⟩⟩) (i := 1) rfl
    have hl6 : hs < w2.heap.size := hB6.lt
    have hl7 : hs + 1 < w2.heap.size := hB7.lt
    have H2 := Lib.hid h2
    have HB6 := Lib.hid hB6
    have HB7 := Lib.hid hB7
    clear h2 HG hB6 hB7
    go_wp2_with (fail)
    refine wp_region_late (S := Below w2.heap.size w2) (late := []) (by kernel_rfl) (below_drewN w2 1) (fun hHeld => ?_)
    refine wpAnyL_move (i := 0) (v := ?_) (by rfl) (by kernel_rfl) (by kernel_rfl) (by kernel_rfl) (by rfl) (by exact fun _ _ _ h => h) (Or.inl ⟨by rfl, ?_⟩) (by assumption) ?_; rotate_left; · (intro w0; go_simp; try with_reducible rfl)
    try simp only [Act.put, List.setIfInBounds_toArray, List.set_cons_zero, List.set_cons_succ]
    refine wpAnyL_load (i := 1) (v := ?_) (by rfl) (by kernel_rfl) (by kernel_rfl) (by kernel_rfl) (by rfl) (by kernel_rfl) (by exact fun _ _ _ h => h) (Or.inl ⟨by rfl, ?_⟩) (by assumption) ?_; rotate_left; · (intro w0 hS0; have k60 : w0.cell? ⟨hs, 0, none⟩ = some (.slice la g.recs.length lc) := (hS0.cell (p := ⟨hs, 0, none⟩) hl6).trans (HB6.out.cell 0); have k61 : w0.cell? ⟨hs, 1, none⟩ = some (.int .i64 (g.sure : Int)) := (hS0.cell (p := ⟨hs, 1, none⟩) hl6).trans (HB6.out.cell 1); go_simp; try with_reducible rfl)
    try simp only [Act.put, List.setIfInBounds_toArray, List.set_cons_zero, List.set_cons_succ]
    refine wpAnyL_move (i := 2) (v := ?_) (by rfl) (by kernel_rfl) (by kernel_rfl) (by kernel_rfl) (by rfl) (by exact fun _ _ _ h => h) (Or.inl ⟨by rfl, ?_⟩) (by assumption) ?_; rotate_left; · (intro w0; go_simp; try with_reducible rfl)
    try simp only [Act.put, List.setIfInBounds_toArray, List.set_cons_zero, List.set_cons_succ]
    refine wpAnyL_load (i := 3) (v := ?_) (by rfl) (by kernel_rfl) (by kernel_rfl) (by kernel_rfl) (by rfl) (by kernel_rfl) (by exact fun _ _ _ h => h) (Or.inl ⟨by rfl, ?_⟩) (by assumption) ?_; rotate_left; · (intro w0 hS0; have k60 : w0.cell? ⟨hs, 0, none⟩ = some (.slice la g.recs.length lc) := (hS0.cell (p := ⟨hs, 0, none⟩) hl6).trans (HB6.out.cell 0); have k61 : w0.cell? ⟨hs, 1, none⟩ = some (.int .i64 (g.sure : Int)) := (hS0.cell (p := ⟨hs, 1, none⟩) hl6).trans (HB6.out.cell 1); go_simp; try with_reducible rfl)
    try simp only [Act.put, List.setIfInBounds_toArray, List.set_cons_zero, List.set_cons_succ]
    refine wpAnyL_move (i := 4) (v := ?_) (by rfl) (by kernel_rfl) (by kernel_rfl) (by kernel_rfl) (by rfl) (by exact fun _ _ _ h => h) (Or.inl ⟨by rfl, ?_⟩) (by assumption) ?_; rotate_left; · (intro w0; go_simp; try with_reducible rfl)
    try simp only [Act.put, List.setIfInBounds_toArray, List.set_cons_zero, List.set_cons_succ]
    refine wpAnyL_move (i := 5) (v := ?_) (by rfl) (by kernel_rfl) (by kernel_rfl) (by kernel_rfl) (by rfl) (by exact fun _ _ _ h => h) (Or.inl ⟨by rfl, ?_⟩) (by assumption) ?_; rotate_left; · (intro w0; go_simp; try with_reducible rfl)
    try simp only [Act.put, List.setIfInBounds_toArray, List.set_cons_zero, List.set_cons_succ]
    refine wpAnyL_move (i := 6) (v := ?_) (by rfl) (by kernel_rfl) (by kernel_rfl) (by kernel_rfl) (by rfl) (by exact fun _ _ _ h => h) (Or.inl ⟨by rfl, ?_⟩) (by assumption) ?_; rotate_left; · (intro w0; go_simp; try with_reducible rfl)
    try simp only [Act.put, List.setIfInBounds_toArray, List.set_cons_zero, List.set_cons_succ]
    refine wpAnyL_move (i := 7) (v := undef) (by rfl) (by kernel_rfl) (by kernel_rfl) (by kernel_rfl) (by rfl) (by exact fun _ _ _ h => h) (Or.inr ⟨by rfl, rfl⟩) (by assumption) ?_
    try simp only [Act.put, List.setIfInBounds_toArray, List.set_cons_zero, List.set_cons_succ]
    refine wpAnyL_move (i := 8) (v := undef) (by rfl) (by kernel_rfl) (by kernel_rfl) (by kernel_rfl) (by rfl) (by exact fun _ _ _ h => h) (Or.inr ⟨by rfl, rfl⟩) (by assumption) ?_
    try simp only [Act.put, List.setIfInBounds_toArray, List.set_cons_zero, List.set_cons_succ]
    refine wpAnyL_move (i := 9) (v := undef) (by rfl) (by kernel_rfl) (by kernel_rfl) (by kernel_rfl) (by rfl) (by exact fun _ _ _ h => h) (Or.inr ⟨by rfl, rfl⟩) (by assumption) ?_
    try simp only [Act.put, List.setIfInBounds_toArray, List.set_cons_zero, List.set_cons_succ]
    refine wpAnyL_move (i := 10) (v := undef) (by rfl) (by kernel_rfl) (by kernel_rfl) (by kernel_rfl) (by rfl) (by exact fun _ _ _ h => h) (Or.inr ⟨by rfl, rfl⟩) (by assumption) ?_
    try simp only [Act.put, List.setIfInBounds_toArray, List.set_cons_zero, List.set_cons_succ]
    refine wpAnyL_move (i := 11) (v := undef) (by rfl) (by kernel_rfl) (by kernel_rfl) (by kernel_rfl) (by rfl) (by exact fun _ _ _ h => h) (Or.inr ⟨by rfl, rfl⟩) (by assumption) ?_
    try simp only [Act.put, List.setIfInBounds_toArray, List.set_cons_zero, List.set_cons_succ]
    refine wpAnyL_move (i := 12) (v := undef) (by rfl) (by kernel_rfl) (by kernel_rfl) (by kernel_rfl) (by rfl) (by exact fun _ _ _ h => h) (Or.inr ⟨by rfl, rfl⟩) (by assumption) ?_
    try simp only [Act.put, List.setIfInBounds_toArray, List.set_cons_zero, List.set_cons_succ]
    refine wpAnyL_move (i := 13) (v := undef) (by rfl) (by kernel_rfl) (by kernel_rfl) (by kernel_rfl) (by rfl) (by exact fun _ _ _ h => h) (Or.inr ⟨by rfl, rfl⟩) (by assumption) ?_
    try simp only [Act.put, List.setIfInBounds_toArray, List.set_cons_zero, List.set_cons_succ]
    refine wpAnyL_move (i := 14) (v := undef) (by rfl) (by kernel_rfl) (by kernel_rfl) (by kernel_rfl) (by rfl) (by exact fun _ _ _ h => h) (Or.inr ⟨by rfl, rfl⟩) (by assumption) ?_
    try simp only [Act.put, List.setIfInBounds_toArray, List.set_cons_zero, List.set_cons_succ]
    refine wpAnyL_move (i := 15) (v := undef) (by rfl) (by kernel_rfl) (by kernel_rfl) (by kernel_rfl) (by rfl) (by exact fun _ _ _ h => h) (Or.inr ⟨by rfl, rfl⟩) (by assumption) ?_
    try simp only [Act.put, List.setIfInBounds_toArray, List.set_cons_zero, List.set_cons_succ]
    refine wpAnyL_move (i := 16) (v := ?_) (by rfl) (by kernel_rfl) (by kernel_rfl) (by kernel_rfl) (by rfl) (by exact fun _ _ _ h => h) (Or.inl ⟨by rfl, ?_⟩) (by assumption) ?_; rotate_left; · (intro w0; go_simp; try with_reducible rfl)
    try simp only [Act.put, List.setIfInBounds_toArray, List.set_cons_zero, List.set_cons_succ]
    refine wpAnyL_done (by kernel_rfl) ?_ _
    have h3 := H2.out.below (bx_stable ob (.slice la g.recs.length lc) g.recs hs (oneBx (.slice la g.recs.length lc) g.sure g.kept g.marks ⟨4, n, s, at_, ⟨fat, fke, fto, fby, flo⟩⟩)) hHeld
    clear hHeld H2 HMA HB6 HB7
    generalize w2.drew = w3 at *
    have b6 := h3.box (bx := oneBx (.slice la g.recs.length lc) g.sure g.kept g.marks ⟨4, n, s, at_, ⟨fat, fke, fto, fby, flo⟩⟩) (i := 0) rfl
    have b7 := h3.box (bx := oneBx (.slice la g.recs.length lc) g.sure g.kept g.marks ⟨4, n, s, at_, ⟨fat, fke, fto, fby, flo⟩⟩) (i := 1) rfl
    have b9 := h3.box (bx := oneBx (.slice la g.recs.length lc) g.sure g.kept g.marks ⟨4, n, s, at_, ⟨fat, fke, fto, fby, flo⟩⟩) (i := 2) rfl
    have c60 : w3.cell? ⟨hs, 0, none⟩ = some (.slice la g.recs.length lc) := b6.cell 0
    have c61 : w3.cell? ⟨hs, 1, none⟩ = some (.int .i64 (g.sure : Int)) := b6.cell 1
    have c62 : w3.cell? ⟨hs, 2, none⟩ = some (.int .i64 g.kept) := b6.cell 2
    have c63 : w3.cell? ⟨hs, 3, none⟩ = some (.int .u64 (g.marks : Int)) := b6.cell 3
    have f60 : w3.frozen? ⟨hs, 0, none⟩ = false := b6.frozen 0
    have f61 : w3.frozen? ⟨hs, 1, none⟩ = false := b6.frozen 1
    have f62 : w3.frozen? ⟨hs, 2, none⟩ = false := b6.frozen 2
    have f63 : w3.frozen? ⟨hs, 3, none⟩ = false := b6.frozen 3
    have c71 : w3.cell? ⟨hs + 1, 1, none⟩ = some (.int .i64 n) := b7.cell 1
    have c72 : w3.cell? ⟨hs + 1, 2, none⟩ = some (.string s) := b7.cell 2
    have c73 : w3.cell? ⟨hs + 1, 3, none⟩ = some (.int .u64 at_) := b7.cell 3
    have c90 : w3.cell? ⟨hs + 1 + 1, 0, none⟩ = some (.slice none 0 0) := b9.cell 0
    have c91 : w3.cell? ⟨hs + 1 + 1, 1, none⟩ = some (.int .i64 0) := b9.cell 1
    have c92 : w3.cell? ⟨hs + 1 + 1, 2, none⟩ = some (.int .i64 0) := b9.cell 2
    have c93 : w3.cell? ⟨hs + 1 + 1, 3, none⟩ = some (.int .u64 0) := b9.cell 3
    have f90 : w3.frozen? ⟨hs + 1 + 1, 0, none⟩ = false := b9.frozen 0
    have f91 : w3.frozen? ⟨hs + 1 + 1, 1, none⟩ = false := b9.frozen 1
    have f92 : w3.frozen? ⟨hs + 1 + 1, 2, none⟩ = false := b9.frozen 2
    have f93 : w3.frozen? ⟨hs + 1 + 1, 3, none⟩ = false := b9.frozen 3
    have B9 := Lib.hid b9
    clear b6 b7 b9
    have H3 := Lib.hid h3
    clear h3
    go_wp2_with (fail)
    go_region
    go_wp2
    have B9' := ((B9.out).set4 (v0 := .slice la g.recs.length lc) (v1 := .int .i64 ((g.sure : Int))) (v2 := .int .i64 (g.kept)) (v3 := .int .u64 ((g.marks : Int))))
    have r0 := B9'.cell 0
    have r1 := B9'.cell 1
    have r2 := B9'.cell 2
    have r3 := B9'.cell 3
    simp at r0 r1 r2 r3
    (try simp only [Exit.inBlock, Exit.then])
    refine bodyPost_ret (by simp [results, Try.results58, go_sem, r0, r1, r2, r3]; try rfl) rfl ?_
    exact (HE _ _ _ Q6.out (LW.leave (bx := oneBx (.slice la g.recs.length lc) g.sure g.kept g.marks ⟨4, n, s, at_, ⟨fat, fke, fto, fby, flo⟩⟩) H3.out HOB.out (((Step.refl _ w3).set4 (r := hs + 1 + 1) ⟨by omega, by show hs + 1 + 1 < hs + 3; omega⟩).drew) (one_bx_ok (by simp))) rfl).out
end
end Go.Proofs.Ytnobiekgifjaeaa
