/-
  'one': the master.
-/
import Derived.Test.YtnobiekgifjaeaaT8
namespace Go.Proofs.Ytnobiekgifjaeaa
open Go.RowKit
attribute [local go_sem ↓] Go.wp_at_zero Go.wp_at_succ
section
variable {ob : Ob} {w0 w w' : World} {K : Nat → Prop} {P : World → Prop} {b lb : Nat} {lg : ByteArray} {mk : Int} {g : Lg}
theorem LW.master (hst : Stable K P) (h : LW w0 K P b lb lg mk g w) (x : Nat) (hx : x < 18446744073709551616) (hh : g.has x = true) (hf : ¬ g.flushed ≤ x) :
    Calls Try.prog 57 #[.pointer (some ⟨lb, 0, none⟩), .int .u64 (x : Int)] w fun e w' => e = .returned (.int .i64 0) ∧ LW w0 K P b lb lg (x : Int) { g with marks := x } w' := by
  obtain ⟨c, h⟩ := h
  have e1 : (dk c lg mk).setMark x = (0, { dk c lg mk with calls := wrapI (c + 1), loose := [⟨0, ⟨#[]⟩, x⟩] }) := by
    unfold Dk.setMark
    rw [if_neg (show ¬ (dk c lg mk).dead = true from Bool.false_ne_true), Dk.strikes_plan rfl]
    rfl
  have e2 : ({ dk c lg mk with calls := wrapI (c + 1), loose := [⟨0, ⟨#[]⟩, x⟩] } : Dk).sync = (0, dk (wrapI (wrapI (c + 1) + 1)) lg x) := by
    unfold Dk.sync
    rw [if_neg (show ¬ ({ dk c lg mk with calls := wrapI (c + 1), loose := [⟨0, ⟨#[]⟩, x⟩] } : Dk).dead = true from Bool.false_ne_true), Dk.strikes_plan rfl]
    rfl
  refine (h.calls (m' := dk (wrapI (wrapI (c + 1) + 1)) lg x) (g' := { g with marks := x }) (v := .returned (.int .i64 0)) hst fun F G h1 => ?_).mono fun e w' ⟨he, hp⟩ => ⟨he, _, hp⟩
  have := lsetMaster_hit h1 x hx hh hf (strikes_plan rfl) (Nat.zero_le _) (by rw [e1]) (by rw [e1]; exact strikes_plan rfl) (by rw [e1]; show (1 : Nat) ≤ _; omega) (by rw [e1, e2])
  rw [e1, e2] at this
  exact this
theorem LW.masterNo (hst : Stable K P) (h : LW w0 K P b lb lg mk g w) (x : Nat) (hh : g.has x = false ∨ g.flushed ≤ x) :
    Calls Try.prog 57 #[.pointer (some ⟨lb, 0, none⟩), .int .u64 (x : Int)] w fun e w' => e = .returned (.int .i64 52) ∧ LW w0 K P b lb lg mk g w' := by
  obtain ⟨c, h⟩ := h
  obtain ⟨G, h1⟩ := h.wal
  exact (lsetMaster_miss h1 x hh).mono fun e w' ⟨he, hb⟩ => ⟨he, c, h.below hst hb⟩
end
section
variable {ob : Ob} {w0 w : World} {b lb : Nat} {lv : Value} {g : Lg}
theorem pl_inj {l : List ByteArray} {i j : Nat} (hi : i ≤ l.length) (hj : j ≤ l.length) (h : pl l i = pl l j) : i = j := by
  rcases Nat.lt_trichotomy i j with hlt | rfl | hlt
  · have := pl_lt hlt hj; omega
  · rfl
  · have := pl_lt hlt hi; omega
def Marks (g : Lg) (x : Int) : Prop := ∃ j, j < g.sure ∧ (pl g.recs j : Int) = x
theorem marks_yes {x : Nat} (ho : g.sure ≤ g.recs.length) (h : Marks g x) : g.has x = true ∧ ¬ g.flushed ≤ x := by
  obtain ⟨j, hj, e⟩ := h
  refine ⟨(has_iff g _).2 ⟨j, by omega, e⟩, ?_⟩
  rw [Lg.flushed_pl ho]
  have := pl_lt hj ho
  omega
theorem marks_no {x : Nat} (ho : g.sure ≤ g.recs.length) (h : ¬ Marks g x) : g.has x = false ∨ g.flushed ≤ x := by
  rw [Lg.flushed_pl ho]
  cases hb : g.has x with
  | false => exact .inl rfl
  | true =>
    obtain ⟨j, hj, e⟩ := (has_iff g _).1 hb
    right
    rcases Nat.lt_or_ge j g.sure with h1 | h1
    · exact absurd ⟨j, h1, e⟩ h
    · have := pl_le h1 (Nat.le_of_lt hj)
      omega
theorem marks_find {x r : Int} (ho : g.sure ≤ g.recs.length) (hr : (∃ j, j < g.recs.length ∧ (pl g.recs j : Int) = x ∧ r = (j : Int)) ∨ ((∀ j, j < g.recs.length → (pl g.recs j : Int) ≠ x) ∧ r = -1)) :
    (Marks g x → 0 ≤ r ∧ r < (g.sure : Int)) ∧ (¬ Marks g x → r < 0 ∨ (0 ≤ r ∧ (g.sure : Int) ≤ r)) := by
  rcases hr with ⟨j, hj, e, rfl⟩ | ⟨h, rfl⟩
  · refine ⟨fun ⟨i, hi, e'⟩ => ?_, fun hn => ?_⟩
    · have := pl_inj (l := g.recs) (i := i) (j := j) (by omega) (by omega) (by omega)
      omega
    · right
      refine ⟨by omega, ?_⟩
      rcases Nat.lt_or_ge j g.sure with h1 | h1
      · exact absurd ⟨j, h1, e⟩ hn
      · omega
  · refine ⟨fun ⟨i, hi, e'⟩ => absurd e' (h i (by omega)), fun _ => .inl (by omega)⟩
set_option maxRecDepth 100000 in
set_option maxHeartbeats 4000000 in
theorem one_master (h : PlayAt ob w0 b lb lv g w) (a : Ac) (ha : a.ok) (hk : a.kind = 5) :
    Calls Try.prog 58 #[.pointer (some ⟨b, 0, none⟩), .pointer (some ⟨lb, 0, none⟩), modelV lv g.sure g.kept g.marks, acV a] w fun e w' => ∃ g', OnePost ob w0 b g' e w' := by
  obtain ⟨la, lc, rfl⟩ := (LW.reads (bx := []) h.1).form
  have h1 := h.boxed a _ rfl
  have hok := h.1.ok
  have HOB : Hid (∀ r t cs, ob = some (r, t, cs) → r < w.heap.size) := fun r t cs e => (h.1.own.2.2 r t cs e).lt
  have HF0 := Lib.hid h.2
  have hk1 := hok.kept1
  have hk2 := hok.kept2
  have hsr := hok.sure
  have hn1 := ha.n1
  have hn2 := ha.n2
  have hat1 := ha.at1
  have hat2 := ha.at2
  have HOK := Lib.hid hok
  have HA := Lib.hid ha
  clear h hok ha
  unfold modelV acV
  obtain ⟨kind, n, s, at_, fat, fke, fto, fby, flo⟩ := a
  simp only at *
  subst hk
  obtain ⟨x, rfl⟩ : ∃ x : Nat, at_ = (x : Int) := ⟨at_.toNat, by omega⟩
  by_cases hm : Marks g x
  · have hy := marks_yes hsr hm
    have hg := h1.master (bx_stable ob (.slice la g.recs.length lc) g.recs w.heap.size (oneBx (.slice la g.recs.length lc) g.sure g.kept g.marks ⟨5, n, s, (x : Int), ⟨fat, fke, fto, fby, flo⟩⟩)) x (by omega) hy.1 hy.2
    have HG := Lib.hid hg
    have HM := Lib.hid hm
    clear h1 hy hg hm
    go_enter Try.func58, Try.ntmps58
    go_wp2_with (fail)
    refine HG.out.mono ?_
    rintro e w2 ⟨rfl, h2⟩
    generalize hhs : w.heap.size = hs at *
    clear hhs
    have b6 := h2.box (bx := oneBx (.slice la g.recs.length lc) g.sure g.kept g.marks ⟨5, n, s, (x : Int), ⟨fat, fke, fto, fby, flo⟩⟩) (i := 0) rfl
    have b7 := h2.box (bx := oneBx (.slice la g.recs.length lc) g.sure g.kept g.marks ⟨5, n, s, (x : Int), ⟨fat, fke, fto, fby, flo⟩⟩) (i := 1) rfl
    have b9 := h2.box (bx := oneBx (.slice la g.recs.length lc) g.sure g.kept g.marks ⟨5, n, s, (x : Int), ⟨fat, fke, fto, fby, flo⟩⟩) (i := 2) rfl
    have c60 : w2.cell? ⟨hs, 0, none⟩ = some (.slice la g.recs.length lc) := b6.cell 0
    have c61 : w2.cell? ⟨hs, 1, none⟩ = some (.int .i64 (g.sure : Int)) := b6.cell 1
    have c62 : w2.cell? ⟨hs, 2, none⟩ = some (.int .i64 g.kept) := b6.cell 2
    have c63 : w2.cell? ⟨hs, 3, none⟩ = some (.int .u64 (g.marks : Int)) := b6.cell 3
    have f60 : w2.frozen? ⟨hs, 0, none⟩ = false := b6.frozen 0
    have f61 : w2.frozen? ⟨hs, 1, none⟩ = false := b6.frozen 1
    have f62 : w2.frozen? ⟨hs, 2, none⟩ = false := b6.frozen 2
    have f63 : w2.frozen? ⟨hs, 3, none⟩ = false := b6.frozen 3
    have c71 : w2.cell? ⟨hs + 1, 1, none⟩ = some (.int .i64 n) := b7.cell 1
    have c72 : w2.cell? ⟨hs + 1, 2, none⟩ = some (.string s) := b7.cell 2
    have c73 : w2.cell? ⟨hs + 1, 3, none⟩ = some (.int .u64 (x : Int)) := b7.cell 3
    have c90 : w2.cell? ⟨hs + 1 + 1, 0, none⟩ = some (.slice none 0 0) := b9.cell 0
    have c91 : w2.cell? ⟨hs + 1 + 1, 1, none⟩ = some (.int .i64 0) := b9.cell 1
    have c92 : w2.cell? ⟨hs + 1 + 1, 2, none⟩ = some (.int .i64 0) := b9.cell 2
    have c93 : w2.cell? ⟨hs + 1 + 1, 3, none⟩ = some (.int .u64 0) := b9.cell 3
    have f90 : w2.frozen? ⟨hs + 1 + 1, 0, none⟩ = false := b9.frozen 0
    have f91 : w2.frozen? ⟨hs + 1 + 1, 1, none⟩ = false := b9.frozen 1
    have f92 : w2.frozen? ⟨hs + 1 + 1, 2, none⟩ = false := b9.frozen 2
    have f93 : w2.frozen? ⟨hs + 1 + 1, 3, none⟩ = false := b9.frozen 3
    have B9 := Lib.hid b9
    clear b6 b7 b9
    have HFI : Hid (Calls Try.prog 76 #[.agg #[(.slice la g.recs.length lc), .int .i64 (g.sure : Int), .int .i64 g.kept, .int .u64 (g.marks : Int)], .int .u64 (x : Int)] w2 (FindPost w2 g.recs (x : Int))) := mfind_c w2 _ g.recs _ _ _ (x : Int) (LW.reads (bx := oneBx (.slice la g.recs.length lc) g.sure g.kept g.marks ⟨5, n, s, (x : Int), ⟨fat, fke, fto, fby, flo⟩⟩) h2) HOK.out.recsOk rfl rfl rfl
    have H2 := Lib.hid h2
    clear h2 HG
    go_wp2_with (fail)
    refine HFI.out.mono ?_
    rintro e w3 ⟨r, rfl, hr, hb3⟩
    have h3 := H2.out.below (bx_stable ob (.slice la g.recs.length lc) g.recs hs (oneBx (.slice la g.recs.length lc) g.sure g.kept g.marks ⟨5, n, s, (x : Int), ⟨fat, fke, fto, fby, flo⟩⟩)) hb3
    have hx := marks_find hsr hr
    clear H2 HFI hr hb3
    have b6 := h3.box (bx := oneBx (.slice la g.recs.length lc) g.sure g.kept g.marks ⟨5, n, s, (x : Int), ⟨fat, fke, fto, fby, flo⟩⟩) (i := 0) rfl
    have b7 := h3.box (bx := oneBx (.slice la g.recs.length lc) g.sure g.kept g.marks ⟨5, n, s, (x : Int), ⟨fat, fke, fto, fby, flo⟩⟩) (i := 1) rfl
    have b9 := h3.box (bx := oneBx (.slice la g.recs.length lc) g.sure g.kept g.marks ⟨5, n, s, (x : Int), ⟨fat, fke, fto, fby, flo⟩⟩) (i := 2) rfl
    have c60 : w3.cell? ⟨hs, 0, none⟩ = some (.slice la g.recs.length lc) := b6.cell 0
    have c61 : w3.cell? ⟨hs, 1, none⟩ = some (.int .i64 (g.sure : Int)) := b6.cell 1
    have c62 : w3.cell? ⟨hs, 2, none⟩ = some (.int .i64 g.kept) := b6.cell 2
    have c63 : w3.cell? ⟨hs, 3, none⟩ = some (.int .u64 (g.marks : Int)) := b6.cell 3
    have f60 : w3.frozen? ⟨hs, 0, none⟩ = false := b6.frozen 0
    have f61 : w3.frozen? ⟨hs, 1, none⟩ = false := b6.frozen 1
    have f62 : w3.frozen? ⟨hs, 2, none⟩ = false := b6.frozen 2
    have f63 : w3.frozen? ⟨hs, 3, none⟩ = false := b6.frozen 3
    have c71 : w3.cell? ⟨hs + 1, 1, none⟩ = some (.int .i64 n) := b7.cell 1
    have c72 : w3.cell? ⟨hs + 1, 2, none⟩ = some (.string s) := b7.cell 2
    have c73 : w3.cell? ⟨hs + 1, 3, none⟩ = some (.int .u64 (x : Int)) := b7.cell 3
    have c90 : w3.cell? ⟨hs + 1 + 1, 0, none⟩ = some (.slice none 0 0) := b9.cell 0
    have c91 : w3.cell? ⟨hs + 1 + 1, 1, none⟩ = some (.int .i64 0) := b9.cell 1
    have c92 : w3.cell? ⟨hs + 1 + 1, 2, none⟩ = some (.int .i64 0) := b9.cell 2
    have c93 : w3.cell? ⟨hs + 1 + 1, 3, none⟩ = some (.int .u64 0) := b9.cell 3
    have f90 : w3.frozen? ⟨hs + 1 + 1, 0, none⟩ = false := b9.frozen 0
    have f91 : w3.frozen? ⟨hs + 1 + 1, 1, none⟩ = false := b9.frozen 1
    have f92 : w3.frozen? ⟨hs + 1 + 1, 2, none⟩ = false := b9.frozen 2
    have f93 : w3.frozen? ⟨hs + 1 + 1, 3, none⟩ = false := b9.frozen 3
    have B9 := Lib.hid b9
    clear b6 b7 b9
    have H3 := Lib.hid h3
    clear h3
    obtain ⟨hr1, hr2⟩ := hx.1 HM.out
    clear hx
    go_wp2_with (fail)
    go_region
    go_wp2
    have B9' := ((B9.out.far (p := ⟨hs, 3, none⟩) (by show hs + 2 ≠ hs; omega) (.int .u64 (x : Int))).set4 (v0 := .slice la g.recs.length lc) (v1 := .int .i64 ((g.sure : Int))) (v2 := .int .i64 (g.kept)) (v3 := .int .u64 ((x : Int))))
    have r0 := B9'.cell 0
    have r1 := B9'.cell 1
    have r2 := B9'.cell 2
    have r3 := B9'.cell 3
    simp at r0 r1 r2 r3
    (try simp only [Exit.inBlock, Exit.then])
    refine bodyPost_ret (by simp [results, Try.results58, go_sem, r0, r1, r2, r3]; try rfl) rfl ?_
    exact ⟨{ g with marks := x }, lb, (.slice la g.recs.length lc), rfl, LW.leave (bx := oneBx (.slice la g.recs.length lc) g.sure g.kept g.marks ⟨5, n, s, (x : Int), ⟨fat, fke, fto, fby, flo⟩⟩) H3.out HOB.out ((((Step.refl _ w3).setCell (p := ⟨hs, 3, none⟩) (.inl ⟨Nat.le_refl _, by show hs < hs + 3; omega⟩) _).set4 (r := hs + 1 + 1) ⟨by omega, by show hs + 1 + 1 < hs + 3; omega⟩).drew) (one_bx_ok (by simp)), fits_marks HF0.out (by obtain ⟨j, h1, h2⟩ := HM.out; exact ⟨j, h1, by omega⟩)⟩
  · have hy := marks_no hsr hm
    have hg := h1.masterNo (bx_stable ob (.slice la g.recs.length lc) g.recs w.heap.size (oneBx (.slice la g.recs.length lc) g.sure g.kept g.marks ⟨5, n, s, (x : Int), ⟨fat, fke, fto, fby, flo⟩⟩)) x hy
    have HG := Lib.hid hg
    have HM := Lib.hid hm
    clear h1 hy hg hm
    go_enter Try.func58, Try.ntmps58
    go_wp2_with (fail)
    refine HG.out.mono ?_
    rintro e w2 ⟨rfl, h2⟩
    generalize hhs : w.heap.size = hs at *
    clear hhs
    have b6 := h2.box (bx := oneBx (.slice la g.recs.length lc) g.sure g.kept g.marks ⟨5, n, s, (x : Int), ⟨fat, fke, fto, fby, flo⟩⟩) (i := 0) rfl
    have b7 := h2.box (bx := oneBx (.slice la g.recs.length lc) g.sure g.kept g.marks ⟨5, n, s, (x : Int), ⟨fat, fke, fto, fby, flo⟩⟩) (i := 1) rfl
    have b9 := h2.box (bx := oneBx (.slice la g.recs.length lc) g.sure g.kept g.marks ⟨5, n, s, (x : Int), ⟨fat, fke, fto, fby, flo⟩⟩) (i := 2) rfl
    have c60 : w2.cell? ⟨hs, 0, none⟩ = some (.slice la g.recs.length lc) := b6.cell 0
    have c61 : w2.cell? ⟨hs, 1, none⟩ = some (.int .i64 (g.sure : Int)) := b6.cell 1
    have c62 : w2.cell? ⟨hs, 2, none⟩ = some (.int .i64 g.kept) := b6.cell 2
    have c63 : w2.cell? ⟨hs, 3, none⟩ = some (.int .u64 (g.marks : Int)) := b6.cell 3
    have f60 : w2.frozen? ⟨hs, 0, none⟩ = false := b6.frozen 0
    have f61 : w2.frozen? ⟨hs, 1, none⟩ = false := b6.frozen 1
    have f62 : w2.frozen? ⟨hs, 2, none⟩ = false := b6.frozen 2
    have f63 : w2.frozen? ⟨hs, 3, none⟩ = false := b6.frozen 3
    have c71 : w2.cell? ⟨hs + 1, 1, none⟩ = some (.int .i64 n) := b7.cell 1
    have c72 : w2.cell? ⟨hs + 1, 2, none⟩ = some (.string s) := b7.cell 2
    have c73 : w2.cell? ⟨hs + 1, 3, none⟩ = some (.int .u64 (x : Int)) := b7.cell 3
    have c90 : w2.cell? ⟨hs + 1 + 1, 0, none⟩ = some (.slice none 0 0) := b9.cell 0
    have c91 : w2.cell? ⟨hs + 1 + 1, 1, none⟩ = some (.int .i64 0) := b9.cell 1
    have c92 : w2.cell? ⟨hs + 1 + 1, 2, none⟩ = some (.int .i64 0) := b9.cell 2
    have c93 : w2.cell? ⟨hs + 1 + 1, 3, none⟩ = some (.int .u64 0) := b9.cell 3
    have f90 : w2.frozen? ⟨hs + 1 + 1, 0, none⟩ = false := b9.frozen 0
    have f91 : w2.frozen? ⟨hs + 1 + 1, 1, none⟩ = false := b9.frozen 1
    have f92 : w2.frozen? ⟨hs + 1 + 1, 2, none⟩ = false := b9.frozen 2
    have f93 : w2.frozen? ⟨hs + 1 + 1, 3, none⟩ = false := b9.frozen 3
    have B9 := Lib.hid b9
    clear b6 b7 b9
    have HFI : Hid (Calls Try.prog 76 #[.agg #[(.slice la g.recs.length lc), .int .i64 (g.sure : Int), .int .i64 g.kept, .int .u64 (g.marks : Int)], .int .u64 (x : Int)] w2 (FindPost w2 g.recs (x : Int))) := mfind_c w2 _ g.recs _ _ _ (x : Int) (LW.reads (bx := oneBx (.slice la g.recs.length lc) g.sure g.kept g.marks ⟨5, n, s, (x : Int), ⟨fat, fke, fto, fby, flo⟩⟩) h2) HOK.out.recsOk rfl rfl rfl
    have H2 := Lib.hid h2
    clear h2 HG
    go_wp2_with (fail)
    refine HFI.out.mono ?_
    rintro e w3 ⟨r, rfl, hr, hb3⟩
    have h3 := H2.out.below (bx_stable ob (.slice la g.recs.length lc) g.recs hs (oneBx (.slice la g.recs.length lc) g.sure g.kept g.marks ⟨5, n, s, (x : Int), ⟨fat, fke, fto, fby, flo⟩⟩)) hb3
    have hx := marks_find hsr hr
    clear H2 HFI hr hb3
    have b6 := h3.box (bx := oneBx (.slice la g.recs.length lc) g.sure g.kept g.marks ⟨5, n, s, (x : Int), ⟨fat, fke, fto, fby, flo⟩⟩) (i := 0) rfl
    have b7 := h3.box (bx := oneBx (.slice la g.recs.length lc) g.sure g.kept g.marks ⟨5, n, s, (x : Int), ⟨fat, fke, fto, fby, flo⟩⟩) (i := 1) rfl
    have b9 := h3.box (bx := oneBx (.slice la g.recs.length lc) g.sure g.kept g.marks ⟨5, n, s, (x : Int), ⟨fat, fke, fto, fby, flo⟩⟩) (i := 2) rfl
    have c60 : w3.cell? ⟨hs, 0, none⟩ = some (.slice la g.recs.length lc) := b6.cell 0
    have c61 : w3.cell? ⟨hs, 1, none⟩ = some (.int .i64 (g.sure : Int)) := b6.cell 1
    have c62 : w3.cell? ⟨hs, 2, none⟩ = some (.int .i64 g.kept) := b6.cell 2
    have c63 : w3.cell? ⟨hs, 3, none⟩ = some (.int .u64 (g.marks : Int)) := b6.cell 3
    have f60 : w3.frozen? ⟨hs, 0, none⟩ = false := b6.frozen 0
    have f61 : w3.frozen? ⟨hs, 1, none⟩ = false := b6.frozen 1
    have f62 : w3.frozen? ⟨hs, 2, none⟩ = false := b6.frozen 2
    have f63 : w3.frozen? ⟨hs, 3, none⟩ = false := b6.frozen 3
    have c71 : w3.cell? ⟨hs + 1, 1, none⟩ = some (.int .i64 n) := b7.cell 1
    have c72 : w3.cell? ⟨hs + 1, 2, none⟩ = some (.string s) := b7.cell 2
    have c73 : w3.cell? ⟨hs + 1, 3, none⟩ = some (.int .u64 (x : Int)) := b7.cell 3
    have c90 : w3.cell? ⟨hs + 1 + 1, 0, none⟩ = some (.slice none 0 0) := b9.cell 0
    have c91 : w3.cell? ⟨hs + 1 + 1, 1, none⟩ = some (.int .i64 0) := b9.cell 1
    have c92 : w3.cell? ⟨hs + 1 + 1, 2, none⟩ = some (.int .i64 0) := b9.cell 2
    have c93 : w3.cell? ⟨hs + 1 + 1, 3, none⟩ = some (.int .u64 0) := b9.cell 3
    have f90 : w3.frozen? ⟨hs + 1 + 1, 0, none⟩ = false := b9.frozen 0
    have f91 : w3.frozen? ⟨hs + 1 + 1, 1, none⟩ = false := b9.frozen 1
    have f92 : w3.frozen? ⟨hs + 1 + 1, 2, none⟩ = false := b9.frozen 2
    have f93 : w3.frozen? ⟨hs + 1 + 1, 3, none⟩ = false := b9.frozen 3
    have B9 := Lib.hid b9
    clear b6 b7 b9
    have H3 := Lib.hid h3
    clear h3
    obtain hr1 | ⟨hr1, hr2⟩ := hx.2 HM.out
    all_goals
      clear hx
      go_wp2_with (fail)
      go_region
      go_wp2
      have B9' := ((B9.out).set4 (v0 := .slice la g.recs.length lc) (v1 := .int .i64 ((g.sure : Int))) (v2 := .int .i64 (g.kept)) (v3 := .int .u64 ((g.marks : Int))))
      have r0 := B9'.cell 0
      have r1 := B9'.cell 1
      have r2 := B9'.cell 2
      have r3 := B9'.cell 3
      simp at r0 r1 r2 r3
      (try simp only [Exit.inBlock, Exit.then])
      refine bodyPost_ret (by simp [results, Try.results58, go_sem, r0, r1, r2, r3]; try rfl) rfl ?_
      exact ⟨g, lb, (.slice la g.recs.length lc), rfl, LW.leave (bx := oneBx (.slice la g.recs.length lc) g.sure g.kept g.marks ⟨5, n, s, (x : Int), ⟨fat, fke, fto, fby, flo⟩⟩) H3.out HOB.out (((Step.refl _ w3).set4 (r := hs + 1 + 1) ⟨by omega, by show hs + 1 + 1 < hs + 3; omega⟩).drew) (one_bx_ok (by simp)), HF0.out⟩
end
end Go.Proofs.Ytnobiekgifjaeaa
