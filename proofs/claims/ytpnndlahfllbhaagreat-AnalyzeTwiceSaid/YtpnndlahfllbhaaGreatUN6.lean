/-
  The walk of rec.takeChange. Printed by n6.py.
-/
import Derived.Test.YtpnndlahfllbhaaGreatUN5
import Derived.Test.YtpnndlahfllbhaaGreatUN2
namespace Go.Proofs.YtpnndlahfllbhaaGreat
open Go.RowKit
attribute [local go_sem ↓] Go.wp_at_zero Go.wp_at_succ

/-- while a change is read: the reader, and the record's block -/
structure TakeSt (w : World) (rb pb : Nat) (r : Rd) (cs : Array Value) (W : World) : Prop where
  rd : RdAt W rb r
  box : Blk W pb 63 cs
  step : Step (fun k => k = rb ∨ k = pb) w W
section
variable {w W W' : World} {rb pb : Nat} {r r' : Rd} {cs : Array Value}
theorem TakeSt.next (h : TakeSt w rb pb r cs W) (hp : RdPost W rb r' W') : TakeSt w rb pb r' cs W' := by
  refine ⟨hp.1, h.box.same (hp.2.block _ h.box.lt (fun e => h.box.ne_ h.rd.blk (by decide) e)), h.step.trans (fun k hk => .inl (.inl hk)) hp.2⟩
theorem TakeSt.number (h : TakeSt w rb pb r cs W) (k : Nat) (hk : k ≤ 8) : Calls Tryz.prog 87 #[.pointer (some ⟨rb, 0, none⟩), .int .i64 (k : Int)] W fun e w' => e = .returned (.int .u64 ((r.number k).1 : Int)) ∧ TakeSt w rb pb (r.number k).2 cs w' :=
  (rnumber_c h.rd k hk).mono fun _ _ ⟨he, hp⟩ => ⟨he, h.next hp⟩
theorem TakeSt.text (h : TakeSt w rb pb r cs W) (m : Nat) (hm : m ≤ 1000000) : Calls Tryz.prog 170 #[.pointer (some ⟨rb, 0, none⟩), .int .i64 (m : Int)] W fun e w' => e = .returned (.string (r.text m).1) ∧ TakeSt w rb pb (r.text m).2 cs w' :=
  (rtext_c h.rd m hm).mono fun _ _ ⟨he, hp⟩ => ⟨he, h.next hp⟩
theorem TakeSt.bool (h : TakeSt w rb pb r cs W) : Calls Tryz.prog 171 #[.pointer (some ⟨rb, 0, none⟩)] W fun e w' => e = .returned (.bool r.bool.1) ∧ TakeSt w rb pb r.bool.2 cs w' :=
  (rbool_c h.rd).mono fun _ _ ⟨he, hp⟩ => ⟨he, h.next hp⟩
theorem TakeSt.set (h : TakeSt w rb pb r cs W) (i : Nat) (v : Value) : TakeSt w rb pb r (cs.setIfInBounds i v) (W.setCell ⟨pb, i, none⟩ v) :=
  ⟨h.rd.same (Below.heap_setCell _ _ _ _ (fun e => h.box.ne_ h.rd.blk (by decide) e.symm)), h.box.set_ i v, h.step.setCell (.inl (.inr rfl)) v⟩
end
section
variable {w : World} {rb pb : Nat} {r : Rd} {kind tx : Int} {prev next page k0 a0 : Nat} {undo index rs : Int} {rp : Nat} {s d key : ByteArray} {live : Bool} {tv dv y4 y5 y6 y7 y8 y9 : Value}
set_option maxRecDepth 100000 in
set_option maxHeartbeats 4000000 in
theorem recTake_w (hr : RdAt w rb r) (hb : Blk w pb 63 #[.int .i64 kind, .int .i64 tx, .int .u64 (prev : Int), .int .u64 (next : Int), y4, y5, y6, y7, y8, y9, .int .i64 index, .string key, .int .u32 (rp : Int), .int .i64 rs, .bool live, tv, dv]) : Calls Tryz.prog 89 #[.pointer (some ⟨rb, 0, none⟩), .pointer (some ⟨pb, 0, none⟩)] w fun e w' => e = .returned (.tuple #[]) ∧
    TakeSt w rb pb (r.chgOf ⟨kind, tx, prev, next, 0, .none, 0, index, ⟨key, rp, rs⟩, live, [], []⟩).2 (recC (r.chgOf ⟨kind, tx, prev, next, 0, .none, 0, index, ⟨key, rp, rs⟩, live, [], []⟩).1 tv dv).toArray w' := by
  have H0 : Hid (TakeSt w rb pb r #[.int .i64 kind, .int .i64 tx, .int .u64 (prev : Int), .int .u64 (next : Int), y4, y5, y6, y7, y8, y9, .int .i64 index, .string key, .int .u32 (rp : Int), .int .i64 rs, .bool live, tv, dv] w) := ⟨hr, hb, Step.refl _ _⟩
  generalize hR : r.chgOf ⟨kind, tx, prev, next, 0, .none, 0, index, ⟨key, rp, rs⟩, live, [], []⟩ = R
  have HR := Lib.hid hR
  clear hR hr hb
  go_enter Tryz.func89, Tryz.ntmps89
  obtain ⟨⟨pg, r1⟩, hq1⟩ : ∃ q, q = r.number 4 := ⟨_, rfl⟩
  have hb1 := r.number_lt 4
  have HC := Lib.hid (H0.out.number 4 (by decide))
  rw [← hq1] at HC hb1
  have HQ1 := Lib.hid hq1
  clear hq1
  simp only at HC hb1
  have ew1 : IntKind.u32.wrap (pg : Int) = (pg : Int) := IntWalk.u32_in _ (by omega)
  go_wp2_with (fail)
  refine HC.out.mono ?_
  rintro e w1 ⟨rfl, hp⟩
  have HX1 := Lib.hid hp
  clear hp HC
  have c4 : w1.cell? ⟨pb, 4, none⟩ = some (y4) := HX1.out.box.cell 4
  have z4 : w1.frozen? ⟨pb, 4, none⟩ = false := HX1.out.box.frozen 4
  have HS1 : Hid (TakeSt w rb pb r1 #[.int .i64 kind, .int .i64 tx, .int .u64 (prev : Int), .int .u64 (next : Int), .int .u32 (pg : Int), y5, y6, y7, y8, y9, .int .i64 index, .string key, .int .u32 (rp : Int), .int .i64 rs, .bool live, tv, dv] (w1.setCell ⟨pb, 4, none⟩ (.int .u32 (pg : Int)))) := Lib.hid (by
    have := (HX1.out.set 4 (.int .u32 (pg : Int)))
    simpa using this)
  obtain ⟨⟨ok, r2⟩, hq2⟩ : ∃ q, q = r1.number 1 := ⟨_, rfl⟩
  have hb2 := r1.number_lt 1
  have HC := Lib.hid (HS1.out.number 1 (by decide))
  rw [← hq2] at HC hb2
  have HQ2 := Lib.hid hq2
  clear hq2
  simp only at HC hb2
  have ew2 : IntKind.i64.wrap (ok : Int) = (ok : Int) := IntWalk.i64_in _ (by omega)
  go_wp2_with (fail)
  refine HC.out.mono ?_
  rintro e w2 ⟨rfl, hp⟩
  have HX2 := Lib.hid hp
  clear hp HC
  clear c4 z4
  obtain ⟨⟨oa, r3⟩, hq3⟩ : ∃ q, q = r2.number 2 := ⟨_, rfl⟩
  have hb3 := r2.number_lt 2
  have HC := Lib.hid (HX2.out.number 2 (by decide))
  rw [← hq3] at HC hb3
  have HQ3 := Lib.hid hq3
  clear hq3
  simp only at HC hb3
  have ew3 : IntKind.i64.wrap (oa : Int) = (oa : Int) := IntWalk.i64_in _ (by omega)
  go_wp2_with (fail)
  refine HC.out.mono ?_
  rintro e w3 ⟨rfl, hp⟩
  have HX3 := Lib.hid hp
  clear hp HC
  have c5 : w3.cell? ⟨pb, 5, none⟩ = some (y5) := HX3.out.box.cell 5
  have z5 : w3.frozen? ⟨pb, 5, none⟩ = false := HX3.out.box.frozen 5
  have c6 : w3.cell? ⟨pb, 6, none⟩ = some (y6) := HX3.out.box.cell 6
  have z6 : w3.frozen? ⟨pb, 6, none⟩ = false := HX3.out.box.frozen 6
  have c7 : w3.cell? ⟨pb, 7, none⟩ = some (y7) := HX3.out.box.cell 7
  have z7 : w3.frozen? ⟨pb, 7, none⟩ = false := HX3.out.box.frozen 7
  have c8 : w3.cell? ⟨pb, 8, none⟩ = some (y8) := HX3.out.box.cell 8
  have z8 : w3.frozen? ⟨pb, 8, none⟩ = false := HX3.out.box.frozen 8
  have HS2 : Hid (TakeSt w rb pb r3 #[.int .i64 kind, .int .i64 tx, .int .u64 (prev : Int), .int .u64 (next : Int), .int .u32 (pg : Int), .int .i64 (ok : Int), .int .i64 (oa : Int), .string ⟨#[]⟩, .string ⟨#[]⟩, y9, .int .i64 index, .string key, .int .u32 (rp : Int), .int .i64 rs, .bool live, tv, dv] ((((w3.setCell ⟨pb, 5, none⟩ (.int .i64 (ok : Int))).setCell ⟨pb, 6, none⟩ (.int .i64 (oa : Int))).setCell ⟨pb, 7, none⟩ (.string ⟨#[]⟩)).setCell ⟨pb, 8, none⟩ (.string ⟨#[]⟩))) := Lib.hid (by
    have := ((((HX3.out.set 5 (.int .i64 (ok : Int))).set 6 (.int .i64 (oa : Int))).set 7 (.string ⟨#[]⟩)).set 8 (.string ⟨#[]⟩))
    simpa using this)
  obtain ⟨⟨os, r4⟩, hq4⟩ : ∃ q, q = r3.text 512 := ⟨_, rfl⟩
  have HC := Lib.hid (HS2.out.text 512 (by decide))
  rw [← hq4] at HC
  have HQ4 := Lib.hid hq4
  clear hq4
  simp only at HC
  go_wp2_with (fail)
  refine HC.out.mono ?_
  rintro e w4 ⟨rfl, hp⟩
  have HX4 := Lib.hid hp
  clear hp HC
  clear c5 z5 c6 z6 c7 z7 c8 z8
  have c7 : w4.cell? ⟨pb, 7, none⟩ = some (.string ⟨#[]⟩) := HX4.out.box.cell 7
  have z7 : w4.frozen? ⟨pb, 7, none⟩ = false := HX4.out.box.frozen 7
  have HS3 : Hid (TakeSt w rb pb r4 #[.int .i64 kind, .int .i64 tx, .int .u64 (prev : Int), .int .u64 (next : Int), .int .u32 (pg : Int), .int .i64 (ok : Int), .int .i64 (oa : Int), .string os, .string ⟨#[]⟩, y9, .int .i64 index, .string key, .int .u32 (rp : Int), .int .i64 rs, .bool live, tv, dv] (w4.setCell ⟨pb, 7, none⟩ (.string os))) := Lib.hid (by
    have := (HX4.out.set 7 (.string os))
    simpa using this)
  obtain ⟨⟨od, r5⟩, hq5⟩ : ∃ q, q = r4.text 512 := ⟨_, rfl⟩
  have HC := Lib.hid (HS3.out.text 512 (by decide))
  rw [← hq5] at HC
  have HQ5 := Lib.hid hq5
  clear hq5
  simp only at HC
  go_wp2_with (fail)
  refine HC.out.mono ?_
  rintro e w5 ⟨rfl, hp⟩
  have HX5 := Lib.hid hp
  clear hp HC
  clear c7 z7
  have c8 : w5.cell? ⟨pb, 8, none⟩ = some (.string ⟨#[]⟩) := HX5.out.box.cell 8
  have z8 : w5.frozen? ⟨pb, 8, none⟩ = false := HX5.out.box.frozen 8
  have HS4 : Hid (TakeSt w rb pb r5 #[.int .i64 kind, .int .i64 tx, .int .u64 (prev : Int), .int .u64 (next : Int), .int .u32 (pg : Int), .int .i64 (ok : Int), .int .i64 (oa : Int), .string os, .string od, y9, .int .i64 index, .string key, .int .u32 (rp : Int), .int .i64 rs, .bool live, tv, dv] (w5.setCell ⟨pb, 8, none⟩ (.string od))) := Lib.hid (by
    have := (HX5.out.set 8 (.string od))
    simpa using this)
  obtain ⟨⟨un, r6⟩, hq6⟩ : ∃ q, q = r5.number 1 := ⟨_, rfl⟩
  have hb6 := r5.number_lt 1
  have HC := Lib.hid (HS4.out.number 1 (by decide))
  rw [← hq6] at HC hb6
  have HQ6 := Lib.hid hq6
  clear hq6
  simp only at HC hb6
  have ew6 : IntKind.i64.wrap (un : Int) = (un : Int) := IntWalk.i64_in _ (by omega)
  go_wp2_with (fail)
  refine HC.out.mono ?_
  rintro e w6 ⟨rfl, hp⟩
  have HX6 := Lib.hid hp
  clear hp HC
  clear c8 z8
  have c9 : w6.cell? ⟨pb, 9, none⟩ = some (y9) := HX6.out.box.cell 9
  have z9 : w6.frozen? ⟨pb, 9, none⟩ = false := HX6.out.box.frozen 9
  have HS5 : Hid (TakeSt w rb pb r6 #[.int .i64 kind, .int .i64 tx, .int .u64 (prev : Int), .int .u64 (next : Int), .int .u32 (pg : Int), .int .i64 (ok : Int), .int .i64 (oa : Int), .string os, .string od, .int .i64 (un : Int), .int .i64 index, .string key, .int .u32 (rp : Int), .int .i64 rs, .bool live, tv, dv] (w6.setCell ⟨pb, 9, none⟩ (.int .i64 (un : Int)))) := Lib.hid (by
    have := (HX6.out.set 9 (.int .i64 (un : Int)))
    simpa using this)
  by_cases hu : un = 2
  · have hu' : ((un : Int) == 2) = true := by rw [hu]; rfl
    have HU := Lib.hid hu
    clear hu
    obtain ⟨⟨ix, r7⟩, hq7⟩ : ∃ q, q = r6.number 2 := ⟨_, rfl⟩
    have hb7 := r6.number_lt 2
    have HC := Lib.hid (HS5.out.number 2 (by decide))
    rw [← hq7] at HC hb7
    have HQ7 := Lib.hid hq7
    clear hq7
    simp only at HC hb7
    have ew7 : IntKind.i64.wrap (ix : Int) = (ix : Int) := IntWalk.i64_in _ (by omega)
    go_wp2_with (fail)
    refine HC.out.mono ?_
    rintro e w7 ⟨rfl, hp⟩
    have HX7 := Lib.hid hp
    clear hp HC
    clear c9 z9
    have c10 : w7.cell? ⟨pb, 10, none⟩ = some (.int .i64 index) := HX7.out.box.cell 10
    have z10 : w7.frozen? ⟨pb, 10, none⟩ = false := HX7.out.box.frozen 10
    have HS6 : Hid (TakeSt w rb pb r7 #[.int .i64 kind, .int .i64 tx, .int .u64 (prev : Int), .int .u64 (next : Int), .int .u32 (pg : Int), .int .i64 (ok : Int), .int .i64 (oa : Int), .string os, .string od, .int .i64 (un : Int), .int .i64 (ix : Int), .string key, .int .u32 (rp : Int), .int .i64 rs, .bool live, tv, dv] (w7.setCell ⟨pb, 10, none⟩ (.int .i64 (ix : Int)))) := Lib.hid (by
      have := (HX7.out.set 10 (.int .i64 (ix : Int)))
      simpa using this)
    obtain ⟨⟨ky, r8⟩, hq8⟩ : ∃ q, q = r7.text 64 := ⟨_, rfl⟩
    have HC := Lib.hid (HS6.out.text 64 (by decide))
    rw [← hq8] at HC
    have HQ8 := Lib.hid hq8
    clear hq8
    simp only at HC
    go_wp2_with (fail)
    refine HC.out.mono ?_
    rintro e w8 ⟨rfl, hp⟩
    have HX8 := Lib.hid hp
    clear hp HC
    clear c10 z10
    have c11 : w8.cell? ⟨pb, 11, none⟩ = some (.string key) := HX8.out.box.cell 11
    have z11 : w8.frozen? ⟨pb, 11, none⟩ = false := HX8.out.box.frozen 11
    have HS7 : Hid (TakeSt w rb pb r8 #[.int .i64 kind, .int .i64 tx, .int .u64 (prev : Int), .int .u64 (next : Int), .int .u32 (pg : Int), .int .i64 (ok : Int), .int .i64 (oa : Int), .string os, .string od, .int .i64 (un : Int), .int .i64 (ix : Int), .string ky, .int .u32 (rp : Int), .int .i64 rs, .bool live, tv, dv] (w8.setCell ⟨pb, 11, none⟩ (.string ky))) := Lib.hid (by
      have := (HX8.out.set 11 (.string ky))
      simpa using this)
    obtain ⟨⟨rpn, r9⟩, hq9⟩ : ∃ q, q = r8.number 4 := ⟨_, rfl⟩
    have hb9 := r8.number_lt 4
    have HC := Lib.hid (HS7.out.number 4 (by decide))
    rw [← hq9] at HC hb9
    have HQ9 := Lib.hid hq9
    clear hq9
    simp only at HC hb9
    have ew9 : IntKind.u32.wrap (rpn : Int) = (rpn : Int) := IntWalk.u32_in _ (by omega)
    go_wp2_with (fail)
    refine HC.out.mono ?_
    rintro e w9 ⟨rfl, hp⟩
    have HX9 := Lib.hid hp
    clear hp HC
    clear c11 z11
    obtain ⟨⟨rsn, r10⟩, hq10⟩ : ∃ q, q = r9.number 2 := ⟨_, rfl⟩
    have hb10 := r9.number_lt 2
    have HC := Lib.hid (HX9.out.number 2 (by decide))
    rw [← hq10] at HC hb10
    have HQ10 := Lib.hid hq10
    clear hq10
    simp only at HC hb10
    have ew10 : IntKind.i64.wrap (rsn : Int) = (rsn : Int) := IntWalk.i64_in _ (by omega)
    go_wp2_with (fail)
    refine HC.out.mono ?_
    rintro e w10 ⟨rfl, hp⟩
    have HX10 := Lib.hid hp
    clear hp HC
    have c12 : w10.cell? ⟨pb, 12, none⟩ = some (.int .u32 (rp : Int)) := HX10.out.box.cell 12
    have z12 : w10.frozen? ⟨pb, 12, none⟩ = false := HX10.out.box.frozen 12
    have c13 : w10.cell? ⟨pb, 13, none⟩ = some (.int .i64 rs) := HX10.out.box.cell 13
    have z13 : w10.frozen? ⟨pb, 13, none⟩ = false := HX10.out.box.frozen 13
    have HS8 : Hid (TakeSt w rb pb r10 #[.int .i64 kind, .int .i64 tx, .int .u64 (prev : Int), .int .u64 (next : Int), .int .u32 (pg : Int), .int .i64 (ok : Int), .int .i64 (oa : Int), .string os, .string od, .int .i64 (un : Int), .int .i64 (ix : Int), .string ky, .int .u32 (rpn : Int), .int .i64 (rsn : Int), .bool live, tv, dv] ((w10.setCell ⟨pb, 12, none⟩ (.int .u32 (rpn : Int))).setCell ⟨pb, 13, none⟩ (.int .i64 (rsn : Int)))) := Lib.hid (by
      have := ((HX10.out.set 12 (.int .u32 (rpn : Int))).set 13 (.int .i64 (rsn : Int)))
      simpa using this)
    obtain ⟨⟨lv, r11⟩, hq11⟩ : ∃ q, q = r10.bool := ⟨_, rfl⟩
    have HC := Lib.hid (HS8.out.bool)
    rw [← hq11] at HC
    have HQ11 := Lib.hid hq11
    clear hq11
    simp only at HC
    go_wp2_with (fail)
    refine HC.out.mono ?_
    rintro e w11 ⟨rfl, hp⟩
    have HX11 := Lib.hid hp
    clear hp HC
    clear c12 z12 c13 z13
    have c14 : w11.cell? ⟨pb, 14, none⟩ = some (.bool live) := HX11.out.box.cell 14
    have z14 : w11.frozen? ⟨pb, 14, none⟩ = false := HX11.out.box.frozen 14
    have HS9 : Hid (TakeSt w rb pb r11 #[.int .i64 kind, .int .i64 tx, .int .u64 (prev : Int), .int .u64 (next : Int), .int .u32 (pg : Int), .int .i64 (ok : Int), .int .i64 (oa : Int), .string os, .string od, .int .i64 (un : Int), .int .i64 (ix : Int), .string ky, .int .u32 (rpn : Int), .int .i64 (rsn : Int), .bool lv, tv, dv] (w11.setCell ⟨pb, 14, none⟩ (.bool lv))) := Lib.hid (by
      have := (HX11.out.set 14 (.bool lv))
      simpa using this)
    go_wp2_with (fail)
    go_end0
    refine ⟨rfl, ?_⟩
    rw [← HR.out]
    unfold Rd.chgOf Rd.keyOf
    simp only [← HQ1.out, ← HQ2.out, ← HQ3.out, ← HQ4.out, ← HQ5.out, ← HQ6.out, ← HQ7.out, ← HQ8.out, ← HQ9.out, ← HQ10.out, ← HQ11.out, if_pos HU.out]
    exact HS9.out
  · have hu' : ((un : Int) == 2) = false := by simp; omega
    have HU := Lib.hid hu
    clear hu
    go_wp2_with (fail)
    go_end0
    refine ⟨rfl, ?_⟩
    rw [← HR.out]
    unfold Rd.chgOf
    simp only [← HQ1.out, ← HQ2.out, ← HQ3.out, ← HQ4.out, ← HQ5.out, ← HQ6.out, if_neg HU.out]
    exact HS5.out
end
end Go.Proofs.YtpnndlahfllbhaaGreat
