/-
  'one': opened anew, and behind a fall.
-/
import Derived.Test.YtnobiekgifjaeaaT9
namespace Go.Proofs.Ytnobiekgifjaeaa
open Go.RowKit
attribute [local go_sem ↓] Go.wp_at_zero Go.wp_at_succ
section
variable {ob : Ob} {w0 w W : World} {b lb : Nat} {lv : Value} {g : Lg}
theorem Reads.take {la : Option Addr} {n lc k : Nat} {l : List ByteArray} (h : Reads w (.slice la n lc) l) (hk : k ≤ l.length) (hz : k ≤ maxLen) : Reads w (.slice la k k) (l.take k) := by
  have hl : (l.take k).length = k := by rw [List.length_take]; omega
  rcases h with ⟨e, hl⟩ | ⟨g, cap, e, h1, h2, h3, h4⟩
  · cases e
    subst hl
    have : k = 0 := by simpa using hk
    subst this
    exact .inl ⟨rfl, rfl⟩
  · cases e
    refine .inr ⟨g, k, by rw [hl], by omega, hz, h3, fun i s hi => h4 i s ?_⟩
    rw [List.getElem?_take] at hi
    split at hi
    · exact hi
    · cases hi
theorem Reads.cap {la : Option Addr} {n lc : Nat} {l : List ByteArray} (h : Reads w (.slice la n lc) l) : n ≤ lc ∧ lc ≤ maxLen := by
  rcases h with ⟨e, hl⟩ | ⟨g, cap, e, h1, h2, h3, h4⟩
  · cases e; exact ⟨Nat.le_refl _, Nat.zero_le _⟩
  · cases e; exact ⟨h1, h2⟩
theorem own_slice {la : Option Addr} {n c n' c' k : Nat} (h : (Value.slice la n c).ownBlock = some k) : (Value.slice la n' c').ownBlock = some k := by
  cases la with
  | none => simp [Value.ownBlock] at h
  | some x => simpa [Value.ownBlock] using h
/-- what is left of the model behind a fall -/
theorem one_opened {la : Option Addr} {lc hs lb2 : Nat} {a : Ac} {w3 : World} (hf : g.fits) (ho : g.ok)
    (h : LW w0 (bxK ob (.slice la g.recs.length lc) hs 3) (bxP ob (.slice la g.recs.length lc) g.recs hs (oneBx (.slice la g.recs.length lc) g.sure g.kept g.marks a)) b lb2 (frames 1 (g.recs.take g.sure)) (g.marks : Int) (openG (g.recs.take g.sure) (g.marks : Int)) w3)
    (hob : ∀ r t cs, ob = some (r, t, cs) → r < hs) (hst : Step (fun r => hs ≤ r ∧ r < hs + 3) w3 W) : PlayAt ob w0 b lb2 (.slice la g.sure g.sure) (openG (g.recs.take g.sure) (g.marks : Int)) W := by
  obtain ⟨f1, f2, f3⟩ := fits_open hf ho.sure
  have hr := LW.reads (bx := oneBx (.slice la g.recs.length lc) g.sure g.kept g.marks a) h
  have hl := LW.leave (bx := oneBx (.slice la g.recs.length lc) g.sure g.kept g.marks a) h hob hst (one_bx_ok (by simp))
  have hr2 : Reads W (.slice la g.recs.length lc) g.recs := LW.reads (bx := []) hl
  have hlen := ho.length
  have hsr := ho.sure
  have hz : g.sure ≤ maxLen := by have := hr2.cap; omega
  refine ⟨?_, f1⟩
  rw [f2]
  have e : (openG (g.recs.take g.sure) (g.marks : Int)).recs.take (openG (g.recs.take g.sure) (g.marks : Int)).sure = g.recs.take g.sure := by
    show (g.recs.take g.sure).take (g.recs.take g.sure).length = _
    rw [List.take_length]
  rw [e]
  exact LW.unbox (bx := []) hl (Step.refl _ _) (hr2.take hsr hz) (fun k hk => .inl (own_slice hk)) hl.own.2.2
set_option maxRecDepth 100000 in
set_option maxHeartbeats 4000000 in
theorem one_open (h : PlayAt ob w0 b lb lv g w) (a : Ac) (ha : a.ok) (hk : a.kind = 6) :
    Calls Try.prog 58 #[.pointer (some ⟨b, 0, none⟩), .pointer (some ⟨lb, 0, none⟩), modelV lv g.sure g.kept g.marks, acV a] w (OnePost ob w0 b (openG (g.recs.take g.sure) (g.marks : Int))) := by
  obtain ⟨la, lc, rfl⟩ := (LW.reads (bx := []) h.1).form
  have h1 := h.boxed a _ rfl
  have hok := h.1.ok
  have HOB : Hid (∀ r t cs, ob = some (r, t, cs) → r < w.heap.size) := fun r t cs e => (h.1.own.2.2 r t cs e).lt
  have HF0 := Lib.hid h.2
  have hk1 := hok.kept1
  have hk2 := hok.kept2
  have hsr := hok.sure
  have hn1 := ha.n1
  have hn2 := ha.n2
  have hat1 := ha.at1
  have hat2 := ha.at2
  have HOK := Lib.hid hok
  have HA := Lib.hid ha
  clear h hok ha
  unfold modelV acV
  obtain ⟨kind, n, s, at_, fat, fke, fto, fby, flo⟩ := a
  simp only at *
  subst hk
  have hmk := HOK.out.marks
  have hg := h1.disk.open_ (bx_stable ob (.slice la g.recs.length lc) g.recs w.heap.size (oneBx (.slice la g.recs.length lc) g.sure g.kept g.marks ⟨6, n, s, at_, ⟨fat, fke, fto, fby, flo⟩⟩)) (by omega) (g.recs.take g.sure) ⟨#[]⟩ (bytes_nil _).symm (fun x hx => HOK.out.recs x (List.mem_of_mem_take hx)) (takenOk_short (by decide) _)
  have HG := Lib.hid hg
  clear h1 hg hmk
  go_enter Try.func58, Try.ntmps58
  go_wp2_with (fail)
  refine HG.out.mono ?_
  rintro e w3 ⟨lb2, rfl, h3⟩
  generalize hhs : w.heap.size = hs at *
  clear hhs HG
  have b6 := h3.box (bx := oneBx (.slice la g.recs.length lc) g.sure g.kept g.marks ⟨6, n, s, at_, ⟨fat, fke, fto, fby, flo⟩⟩) (i := 0) rfl
  have b7 := h3.box (bx := oneBx (.slice la g.recs.length lc) g.sure g.kept g.marks ⟨6, n, s, at_, ⟨fat, fke, fto, fby, flo⟩⟩) (i := 1) rfl
  have b9 := h3.box (bx := oneBx (.slice la g.recs.length lc) g.sure g.kept g.marks ⟨6, n, s, at_, ⟨fat, fke, fto, fby, flo⟩⟩) (i := 2) rfl
  have c60 : w3.cell? ⟨hs, 0, none⟩ = some (.slice la g.recs.length lc) := b6.cell 0
  have c61 : w3.cell? ⟨hs, 1, none⟩ = some (.int .i64 (g.sure : Int)) := b6.cell 1
  have c62 : w3.cell? ⟨hs, 2, none⟩ = some (.int .i64 g.kept) := b6.cell 2
  have c63 : w3.cell? ⟨hs, 3, none⟩ = some (.int .u64 (g.marks : Int)) := b6.cell 3
  have f60 : w3.frozen? ⟨hs, 0, none⟩ = false := b6.frozen 0
  have f61 : w3.frozen? ⟨hs, 1, none⟩ = false := b6.frozen 1
  have f62 : w3.frozen? ⟨hs, 2, none⟩ = false := b6.frozen 2
  have f63 : w3.frozen? ⟨hs, 3, none⟩ = false := b6.frozen 3
  have c71 : w3.cell? ⟨hs + 1, 1, none⟩ = some (.int .i64 n) := b7.cell 1
  have c72 : w3.cell? ⟨hs + 1, 2, none⟩ = some (.string s) := b7.cell 2
  have c73 : w3.cell? ⟨hs + 1, 3, none⟩ = some (.int .u64 at_) := b7.cell 3
  have c90 : w3.cell? ⟨hs + 1 + 1, 0, none⟩ = some (.slice none 0 0) := b9.cell 0
  have c91 : w3.cell? ⟨hs + 1 + 1, 1, none⟩ = some (.int .i64 0) := b9.cell 1
  have c92 : w3.cell? ⟨hs + 1 + 1, 2, none⟩ = some (.int .i64 0) := b9.cell 2
  have c93 : w3.cell? ⟨hs + 1 + 1, 3, none⟩ = some (.int .u64 0) := b9.cell 3
  have f90 : w3.frozen? ⟨hs + 1 + 1, 0, none⟩ = false := b9.frozen 0
  have f91 : w3.frozen? ⟨hs + 1 + 1, 1, none⟩ = false := b9.frozen 1
  have f92 : w3.frozen? ⟨hs + 1 + 1, 2, none⟩ = false := b9.frozen 2
  have f93 : w3.frozen? ⟨hs + 1 + 1, 3, none⟩ = false := b9.frozen 3
  have B9 := Lib.hid b9
  clear b6 b7 b9
  have H3 := Lib.hid h3
  have hcap := (LW.reads (bx := oneBx (.slice la g.recs.length lc) g.sure g.kept g.marks ⟨6, n, s, at_, ⟨fat, fke, fto, fby, flo⟩⟩) h3).cap
  obtain ⟨hcap1, hcap2⟩ := hcap
  have hsc : g.sure ≤ lc := by omega
  clear h3
  go_wp2_with (fail)
  go_region
  go_wp2
  have B9' := (((B9.out.far (p := ⟨hs, 0, none⟩) (by show hs + 2 ≠ hs; omega) (.slice la g.sure g.sure)).far (p := ⟨hs, 2, none⟩) (by show hs + 2 ≠ hs; omega) (.int .i64 0)).set4 (v0 := .slice la g.sure g.sure) (v1 := .int .i64 (g.sure : Int)) (v2 := .int .i64 0) (v3 := .int .u64 (g.marks : Int)))
  have r0 := B9'.cell 0
  have r1 := B9'.cell 1
  have r2 := B9'.cell 2
  have r3 := B9'.cell 3
  simp at r0 r1 r2 r3
  (try simp only [Exit.inBlock, Exit.then])
  refine bodyPost_ret (by simp [results, Try.results58, go_sem, r0, r1, r2, r3]; try rfl) rfl ?_
  obtain ⟨f1, f2, f3⟩ := fits_open HF0.out hsr
  exact ⟨lb2, .slice la g.sure g.sure, by unfold modelV; rw [f2, f3]; rfl, one_opened HF0.out HOK.out H3.out HOB.out (((((Step.refl _ w3).setCell (p := ⟨hs, 0, none⟩) (.inl ⟨Nat.le_refl _, by show hs < hs + 3; omega⟩) _).setCell (p := ⟨hs, 2, none⟩) (.inl ⟨Nat.le_refl _, by show hs < hs + 3; omega⟩) _).set4 (r := hs + 1 + 1) ⟨by omega, by show hs + 1 + 1 < hs + 3; omega⟩).drew)⟩
set_option maxRecDepth 100000 in
set_option maxHeartbeats 4000000 in
theorem one_fall (h : PlayAt ob w0 b lb lv g w) (a : Ac) (ha : a.ok) (hk : a.kind < 0 ∨ 6 < a.kind) :
    Calls Try.prog 58 #[.pointer (some ⟨b, 0, none⟩), .pointer (some ⟨lb, 0, none⟩), modelV lv g.sure g.kept g.marks, acV a] w (OnePost ob w0 b (openG (g.recs.take g.sure) (g.marks : Int))) := by
  obtain ⟨la, lc, rfl⟩ := (LW.reads (bx := []) h.1).form
  have h1 := h.boxed a _ rfl
  have hok := h.1.ok
  have HOB : Hid (∀ r t cs, ob = some (r, t, cs) → r < w.heap.size) := fun r t cs e => (h.1.own.2.2 r t cs e).lt
  have HF0 := Lib.hid h.2
  have hk1 := hok.kept1
  have hk2 := hok.kept2
  have hsr := hok.sure
  have hn1 := ha.n1
  have hn2 := ha.n2
  have hat1 := ha.at1
  have hat2 := ha.at2
  have HOK := Lib.hid hok
  have HA := Lib.hid ha
  clear h hok ha
  unfold modelV acV
  obtain ⟨kind, n, s, at_, fat, fke, fto, fby, flo⟩ := a
  simp only at *
  have k0 : ¬ kind = 0 := by omega
  have k1 : ¬ kind = 1 := by omega
  have k2 : ¬ kind = 2 := by omega
  have k3 : ¬ kind = 3 := by omega
  have k4 : ¬ kind = 4 := by omega
  have k5 : ¬ kind = 5 := by omega
  have k6 : ¬ kind = 6 := by omega
  clear hk
  have hmk := HOK.out.marks
  have hg := h1.disk.crash (bx_stable ob (.slice la g.recs.length lc) g.recs w.heap.size (oneBx (.slice la g.recs.length lc) g.sure g.kept g.marks ⟨kind, n, s, at_, ⟨fat, fke, fto, fby, flo⟩⟩)) ⟨fat, fke, fto, fby, flo⟩ HA.out.fall
  have HG := Lib.hid hg
  clear h1 hg
  go_enter Try.func58, Try.ntmps58
  go_wp2_with (fail)
  refine HG.out.mono ?_
  rintro e w4 ⟨rfl, c4, h4⟩
  have HU := Lib.hid (h4.up (bx_stable ob (.slice la g.recs.length lc) g.recs w.heap.size (oneBx (.slice la g.recs.length lc) g.sure g.kept g.marks ⟨kind, n, s, at_, ⟨fat, fke, fto, fby, flo⟩⟩)))
  clear h4 HG
  go_wp2_with (fail)
  refine HU.out.mono ?_
  rintro e w5 ⟨rfl, h5⟩
  have HO := Lib.hid (h5.open_ (bx_stable ob (.slice la g.recs.length lc) g.recs w.heap.size (oneBx (.slice la g.recs.length lc) g.sure g.kept g.marks ⟨kind, n, s, at_, ⟨fat, fke, fto, fby, flo⟩⟩)) (by omega) (g.recs.take g.sure) ⟨#[]⟩ (bytes_nil _).symm (fun x hx => HOK.out.recs x (List.mem_of_mem_take hx)) (takenOk_short (by decide) _))
  clear h5 HU hmk
  go_wp2_with (fail)
  refine HO.out.mono ?_
  rintro e w3 ⟨lb2, rfl, h3⟩
  generalize hhs : w.heap.size = hs at *
  clear hhs HO
  have b6 := h3.box (bx := oneBx (.slice la g.recs.length lc) g.sure g.kept g.marks ⟨kind, n, s, at_, ⟨fat, fke, fto, fby, flo⟩⟩) (i := 0) rfl
  have b7 := h3.box (bx := oneBx (.slice la g.recs.length lc) g.sure g.kept g.marks ⟨kind, n, s, at_, ⟨fat, fke, fto, fby, flo⟩⟩) (i := 1) rfl
  have b9 := h3.box (bx := oneBx (.slice la g.recs.length lc) g.sure g.kept g.marks ⟨kind, n, s, at_, ⟨fat, fke, fto, fby, flo⟩⟩) (i := 2) rfl
  have c60 : w3.cell? ⟨hs, 0, none⟩ = some (.slice la g.recs.length lc) := b6.cell 0
  have c61 : w3.cell? ⟨hs, 1, none⟩ = some (.int .i64 (g.sure : Int)) := b6.cell 1
  have c62 : w3.cell? ⟨hs, 2, none⟩ = some (.int .i64 g.kept) := b6.cell 2
  have c63 : w3.cell? ⟨hs, 3, none⟩ = some (.int .u64 (g.marks : Int)) := b6.cell 3
  have f60 : w3.frozen? ⟨hs, 0, none⟩ = false := b6.frozen 0
  have f61 : w3.frozen? ⟨hs, 1, none⟩ = false := b6.frozen 1
  have f62 : w3.frozen? ⟨hs, 2, none⟩ = false := b6.frozen 2
  have f63 : w3.frozen? ⟨hs, 3, none⟩ = false := b6.frozen 3
  have c71 : w3.cell? ⟨hs + 1, 1, none⟩ = some (.int .i64 n) := b7.cell 1
  have c72 : w3.cell? ⟨hs + 1, 2, none⟩ = some (.string s) := b7.cell 2
  have c73 : w3.cell? ⟨hs + 1, 3, none⟩ = some (.int .u64 at_) := b7.cell 3
  have c90 : w3.cell? ⟨hs + 1 + 1, 0, none⟩ = some (.slice none 0 0) := b9.cell 0
  have c91 : w3.cell? ⟨hs + 1 + 1, 1, none⟩ = some (.int .i64 0) := b9.cell 1
  have c92 : w3.cell? ⟨hs + 1 + 1, 2, none⟩ = some (.int .i64 0) := b9.cell 2
  have c93 : w3.cell? ⟨hs + 1 + 1, 3, none⟩ = some (.int .u64 0) := b9.cell 3
  have f90 : w3.frozen? ⟨hs + 1 + 1, 0, none⟩ = false := b9.frozen 0
  have f91 : w3.frozen? ⟨hs + 1 + 1, 1, none⟩ = false := b9.frozen 1
  have f92 : w3.frozen? ⟨hs + 1 + 1, 2, none⟩ = false := b9.frozen 2
  have f93 : w3.frozen? ⟨hs + 1 + 1, 3, none⟩ = false := b9.frozen 3
  have B9 := Lib.hid b9
  clear b6 b7 b9
  have H3 := Lib.hid h3
  have hcap := (LW.reads (bx := oneBx (.slice la g.recs.length lc) g.sure g.kept g.marks ⟨kind, n, s, at_, ⟨fat, fke, fto, fby, flo⟩⟩) h3).cap
  obtain ⟨hcap1, hcap2⟩ := hcap
  have hsc : g.sure ≤ lc := by omega
  clear h3
  go_wp2_with (fail)
  go_region
  go_wp2
  have B9' := (((B9.out.far (p := ⟨hs, 0, none⟩) (by show hs + 2 ≠ hs; omega) (.slice la g.sure g.sure)).far (p := ⟨hs, 2, none⟩) (by show hs + 2 ≠ hs; omega) (.int .i64 0)).set4 (v0 := .slice la g.sure g.sure) (v1 := .int .i64 (g.sure : Int)) (v2 := .int .i64 0) (v3 := .int .u64 (g.marks : Int)))
  have r0 := B9'.cell 0
  have r1 := B9'.cell 1
  have r2 := B9'.cell 2
  have r3 := B9'.cell 3
  simp at r0 r1 r2 r3
  (try simp only [Exit.inBlock, Exit.then])
  refine bodyPost_ret (by simp [results, Try.results58, go_sem, r0, r1, r2, r3]; try rfl) rfl ?_
  obtain ⟨f1, f2, f3⟩ := fits_open HF0.out hsr
  exact ⟨lb2, .slice la g.sure g.sure, by unfold modelV; rw [f2, f3]; rfl, one_opened HF0.out HOK.out H3.out HOB.out (((((Step.refl _ w3).setCell (p := ⟨hs, 0, none⟩) (.inl ⟨Nat.le_refl _, by show hs < hs + 3; omega⟩) _).setCell (p := ⟨hs, 2, none⟩) (.inl ⟨Nat.le_refl _, by show hs < hs + 3; omega⟩) _).set4 (r := hs + 1 + 1) ⟨by omega, by show hs + 1 + 1 < hs + 3; omega⟩).drew)⟩
end
end Go.Proofs.Ytnobiekgifjaeaa
