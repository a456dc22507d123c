/-
  The walk of 'PoolFalls'.
-/
import Derived.Test.YtnghgkaoopcglaaGreatFX
import Derived.Test.YtnghgkaoopcglaaGreatD2
import Derived.Test.YtnghgkaoopcglaaGreatKF
namespace Go.Proofs.YtnghgkaoopcglaaGreat
open Go.RowKit
attribute [local go_sem ↓] Go.wp_at_zero Go.wp_at_succ

theorem fls_new (W : World) (f : Fl) : FlsAt (W.alloc (.cells (fallCells f).toArray 78)) (.slice (some ⟨W.heap.size, 0, none⟩) 1 1) [f] := by
  refine ⟨⟨_, 1, rfl, Nat.le_refl _⟩, fun k f' hk => ?_⟩
  have hB2 := Blk.new W 78 (fallCells f).toArray
  cases k with
  | zero =>
    cases hk
    refine ⟨W.heap.size, 0, 1, rfl, hB2.lt, fun j hj => ?_⟩
    rw [hB2.cell, List.getElem?_toArray, show 0 + 0 * 5 + j = j by omega]
    rfl
  | succ k => simp at hk
theorem wrap_bounds (z : Int) : -9223372036854775808 ≤ IntKind.i64.wrap z ∧ IntKind.i64.wrap z ≤ 9223372036854775807 := by
  have e2 : IntKind.i64.wrap z = if (true && decide (z % 18446744073709551616 ≥ 9223372036854775808)) then z % 18446744073709551616 - 18446744073709551616 else z % 18446744073709551616 := rfl
  rw [e2]
  by_cases h : z % 18446744073709551616 ≥ 9223372036854775808
  · rw [decide_eq_true h]
    simp
    omega
  · rw [decide_eq_false h]
    simp
    omega
/-- at the loop's head -/
structure FP7 (f : Fl) (wb : World) (b lb pb k : Nat) (v : Option (Nat × ByteArray)) (m : Dk) (g : Lg) (q : Po) (pg : Int → Option ByteArray) (W : World) : Prop where
  pl : PL wb b lb pb m g q W
  al : Al7 f m k pg
  g : g = falG (R6 k) k
  two : Two7 pg v
  vok : vOk k v
  picks : q.picks = []
  most : q.most = 4
  frames : q.frames = [] ∨ ∃ fr, q.frames = [(2, fr)]
section
variable {f : Fl} {wb W W' : World} {b lb pb k : Nat} {v : Option (Nat × ByteArray)} {m : Dk} {g : Lg} {q : Po} {pg : Int → Option ByteArray}
theorem PL.plan1 (h : PL wb b lb pb m g q W) (f1 : Fl) : Calls Tryz.prog 29 #[.pointer (some ⟨b, 0, none⟩), .slice (some ⟨W.heap.size, 0, none⟩) 1 1] (W.alloc (.cells (fallCells f1).toArray 78)) fun e w' => e = .returned (.tuple #[]) ∧ PL wb b lb pb { m with plan := [f1] } g q w' :=
  (h.below (below_one _ _)).dsk fun F hF => plan_c hF [f1] (some ⟨W.heap.size, 0, none⟩) 1 1 (cloneFall_some _ W.heap.size 0 1 1 [f1] (fls_new W f1) (by simp) (Nat.le_of_lt (by decide : (1 : Nat) < 1000000000000)))
theorem PL.calls0 (h : PL wb b lb pb m g q W) : Calls Tryz.prog 28 #[.pointer (some ⟨b, 0, none⟩)] W fun e w' => e = .returned (.int .i64 m.calls) ∧ W = w' := by
  obtain ⟨F, G, H, mb, pk, vs, h1, _⟩ := h.parts
  exact calls_c h1.dsk
theorem FP7.planOk (h : FP7 f wb b lb pb k v m g q pg W) (hf : f.ok) : PlanOk m := by
  rcases h.al.plan with e | e
  · exact .inl e
  · exact .inr ⟨f, e, hf⟩
theorem FP7.loose (h : FP7 f wb b lb pb k v m g q pg W) : m.loose.length ≤ 1000000 := by rw [h.al.loose]; exact Nat.zero_le _
theorem FP7.end_ (h : FP7 f wb b lb pb k v m g q pg W) (hk : k ≤ 12) (next : ByteArray) : End7 f wb b (vT v) next W := ⟨m, pg, h.pl.dx, .inl ⟨k, hk, h.al⟩, good_same (by omega) h.vok h.two.place h.two.twin next⟩
theorem FP7.append (h : FP7 f wb b lb pb k v m g q pg W) (hk : k < 12) :
    Calls Tryz.prog 15 #[.pointer (some ⟨lb, 0, none⟩), .string ⟨#[114, 101, 99, 111, 114, 100]⟩] W fun e w' => e = .returned (.tuple #[.int .u64 ((1 + 18 * k : Nat) : Int), .int .i64 0]) ∧ PL wb b lb pb m (falG (R6 (k + 1)) k) q w' := by
  have := h.pl.append (by rw [h.g]; exact falG_tight _ _) rec6 (by rw [rec6_size]; omega)
  have he : (falG (R6 k) k).end_ = 1 + 18 * k := R6_end k
  have hb : ¬ badRec rec6 := by unfold badRec; rw [rec6_size]; omega
  have hfl : ¬ addFull (falG (R6 k) k) rec6 (falG (R6 k) k).kept := by
    unfold addFull
    rw [he, rec6_size]
    show ¬ 4194305 - ((1 + 18 * k : Nat) : Int) < _ + _ + (0 : Int)
    omega
  have e1 : addV g rec6 g.kept = .tuple #[.int .u64 ((1 + 18 * k : Nat) : Int), .int .i64 0] := by rw [h.g]; unfold addV; rw [if_neg hb, if_neg hfl, he]
  have e2 : g.tryAdd rec6 g.kept = falG (R6 (k + 1)) k := by rw [h.g]; unfold Lg.tryAdd; rw [if_neg hb, if_neg hfl, falG_add (by rw [R6_len]; exact Nat.le_refl _), R6_snoc]
  rw [e1, e2] at this
  exact this
theorem put7 (g : Lg) (hm : q.most = 4) (hq : q.frames = [] ∨ ∃ fr, q.frames = [(2, fr)]) {s : ByteArray} (hk : k ≤ 13) (hs : s.size ≤ 300) :
    ∃ d, d ≠ 0 ∧ ∃ q', putQ m g q (y7 k s) = (0, m, g, q') ∧ q'.picks = q.picks ∧ q'.most = 4 ∧ q'.frames = [(2, ⟨y7 k s, d⟩)] := by
  unfold putQ
  rw [if_neg (by show ¬ (2 < 1 ∨ 2048 < 2); omega), (y7_fit hk hs).encE]
  simp only [ne_eq, not_true_eq_false, if_false]
  rcases hq with hq | ⟨fr, hq⟩
  · have hr : roomQ m g q = (0, m, g, q) := by unfold roomQ; rw [if_pos (by rw [hq, hm]; decide)]
    refine ⟨max (y7 k s).lsn 1, by omega, q.put (y7 k s) 0, ?_, rfl, hm, ?_⟩
    · rw [hq]
      show (if (roomQ m g q).1 ≠ 0 then _ else _ : Int × Dk × Lg × Po) = _
      rw [hr, if_neg (fun h => h rfl)]
    · show putL 2 _ q.frames = _
      rw [hq]
      rfl
  · refine ⟨if fr.dirty = 0 then max (y7 k s).lsn 1 else fr.dirty, by split <;> omega, q.put (y7 k s) fr.dirty, ?_, rfl, hm, ?_⟩
    · rw [hq]
      rfl
    · show putL 2 _ q.frames = _
      rw [hq]
      rfl
theorem FP7.put (h : FP7 f wb b lb pb k v m g q pg W) (hk : k < 12) (hf : f.ok) {W1 W2 : World} (h1 : PL wb b lb pb m (falG (R6 (k + 1)) k) q W1) (hb : Below W1.heap.size W1 W2) {s : ByteArray} (hs : s.size ≤ 300) {r : Nat} (hr : Reads W2 (.slice (some ⟨r, 0, none⟩) 1 1) [s]) (hrn : W1.heap.size ≤ r) :
    Calls Tryz.prog 22 #[.pointer (some ⟨pb, 0, none⟩), .agg #[.int .u32 2, .int .u64 ((1 + 18 * k : Nat) : Int), .int .i64 2, .string ⟨#[]⟩, .slice (some ⟨r, 0, none⟩) 1 1]] W2 fun e w' => e = .returned (.int .i64 0) ∧ ∃ d q', d ≠ 0 ∧ PL wb b lb pb m (falG (R6 (k + 1)) k) q' w' ∧ q'.picks = [] ∧ q'.most = 4 ∧ q'.frames = [(2, ⟨y7 k s, d⟩)] := by
  have hfi := y7_fit (k := k) (s := s) (by omega) hs
  obtain ⟨d, hd, q', e, k1, k2, k3⟩ := put7 (m := m) (falG (R6 (k + 1)) k) h.most h.frames (k := k) (by omega) hs
  have h12 : q.frames.length ≤ 12 := by
    rcases h.frames with e | ⟨fr, e⟩
    · rw [e]; exact Nat.zero_le _
    · rw [e]; exact (by decide : (1 : Nat) ≤ 12)
  have := h1.put hb (h.planOk hf) h.loose h.picks h12 (y7 k s) (.slice (some ⟨r, 0, none⟩) 1 1) hr (fun k hk => by simp [Value.ownBlock] at hk; omega) (Sh.mild_of hfi.encE (by show 2 < _; omega) (by show 1 + 18 * k < _; omega))
  rw [e] at this
  exact this.mono fun e w' ⟨he, hp⟩ => ⟨he, d, q', hd, hp, k1.trans h.picks, k2, k3⟩
theorem FP7.write (h : FP7 f wb b lb pb k v m g q pg W) (hk : k < 12) (hf : f.ok) {d : Nat} {q' : Po} {s : ByteArray} (hd : d ≠ 0) (h1 : PL wb b lb pb m (falG (R6 (k + 1)) k) q' W') (hp : q'.picks = []) (hm : q'.most = 4) (hfr : q'.frames = [(2, ⟨y7 k s, d⟩)]) (hs : s.size ≤ 300) :
    Calls Tryz.prog 23 #[.pointer (some ⟨pb, 0, none⟩), .int .u32 2] W' fun e w' => (e = .returned (.int .i64 0) ∧ ∃ m g q pg, FP7 f wb b lb pb (k + 1) (some (k, s)) m g q pg w') ∨ (e = .returned (.int .i64 7) ∧ End7 f wb b (vT v) s w') := by
  have hw : writeQ m (falG (R6 (k + 1)) k) q' 2 = writeF m (falG (R6 (k + 1)) k) q' 2 ⟨y7 k s, d⟩ := by
    unfold writeQ
    rw [hfr]
    show (if d = 0 then _ else _ : Int × Dk × Lg × Po) = _
    rw [if_neg hd]
  refine (h1.write (h.planOk hf) h.loose 2 (by omega)).mono ?_
  rintro e w' ⟨he, hpl⟩
  rw [hw] at he hpl
  rcases round7 (q := q') h.al hk h.vok h.two hs d with ⟨m', pg', e1, a1, t1⟩ | ⟨m', g', pg', e1, a1, t1⟩
  · rw [e1] at he hpl
    refine .inl ⟨he, m', _, _, pg', hpl, a1, rfl, t1, fun x hx => by cases hx; exact ⟨by show k < k + 1; omega, hs⟩, hp, hm, .inr ⟨{ (⟨y7 k s, d⟩ : Fr) with dirty := 0 }, ?_⟩⟩
    show putL 2 _ q'.frames = _
    rw [hfr]
    rfl
  · rw [e1] at he hpl
    exact .inr ⟨he, m', pg', hpl.dx, .inr a1, t1⟩
end
set_option maxRecDepth 100000 in
set_option maxHeartbeats 4000000 in
theorem poolFalls_w (a : Option Addr) (len cap : Nat) (ss : List ByteArray) (f : Fl) (hf : f.ok) (w : World) (h : IsStrs w a len cap ss) :
    Calls Tryz.prog 7 #[.slice a len cap, .agg #[.int .i64 f.at_, .int .u64 f.keep, .int .i64 f.torn, .int .i64 f.bytes, .int .i64 f.log]] w fun e w' => e = .returned (.bool true) ∧ Below w.heap.size w w' := by
  have hlen := h.len
  have HH := Lib.hid h
  have HFO := Lib.hid hf
  have HN := fun W => Lib.hid (begun6_c W 8 4 (by omega) (by omega) (by omega) (by omega))
  have HW : ∀ W, Hid (Calls Tryz.prog 21 #[] W fun e w' => e = .returned (.bool true) ∧ Below W.heap.size W w') := fun W => awake6_c W
  obtain ⟨fat, fke, fto, fby, flo⟩ := f
  have hat1 := hf.at1
  have hat2 := hf.at2
  simp only at hat1 hat2 ⊢
  clear h hf
  go_enter Tryz.func7, Tryz.ntmps7
  go_wp2_with (fail)
  generalize hfb : w.heap.size = fb at *
  have HN0 := HN (w.alloc (.cells #[.int .i64 fat, .int .u64 fke, .int .i64 fto, .int .i64 fby, .int .i64 flo] 78))
  refine HN0.out.mono ?_; rintro e w1 ⟨b, lb, pb, rfl, l1⟩
  have hBW : Below w.heap.size w (w.alloc (.cells #[.int .i64 fat, .int .u64 fke, .int .i64 fto, .int .i64 fby, .int .i64 flo] 78)) := below_one _ _
  have hBk := Blk.new w 78 #[.int .i64 fat, .int .u64 fke, .int .i64 fto, .int .i64 fby, .int .i64 flo]
  have hlt : fb < (w.alloc (.cells #[.int .i64 fat, .int .u64 fke, .int .i64 fto, .int .i64 fby, .int .i64 flo] 78)).heap.size := by simp [hfb]
  rw [hfb] at hBW hBk
  generalize w.alloc (.cells #[.int .i64 fat, .int .u64 fke, .int .i64 fto, .int .i64 fby, .int .i64 flo] 78) = wa at *
  have L1 := Lib.hid l1
  have HBW := Lib.hid hBW
  have HBK := Lib.hid hBk
  have HLT := Lib.hid hlt
  clear l1 HN0 HN hBW hBk hlt
  go_wp2_with (fail)
  refine (HW _).out.mono ?_; rintro e w2 ⟨rfl, hb2⟩
  have L2 := Lib.hid (L1.out.below hb2)
  have k0 : Blk w2 fb 78 #[.int .i64 fat, .int .u64 fke, .int .i64 fto, .int .i64 fby, .int .i64 flo] := HBK.out.same (L2.out.base.block fb HLT.out)
  have q0 : w2.cell? ⟨fb, 0, none⟩ = some (.int .i64 fat) := k0.cell 0
  have q1 : w2.cell? ⟨fb, 1, none⟩ = some (.int .u64 fke) := k0.cell 1
  have q2 : w2.cell? ⟨fb, 2, none⟩ = some (.int .i64 fto) := k0.cell 2
  have q3 : w2.cell? ⟨fb, 3, none⟩ = some (.int .i64 fby) := k0.cell 3
  have q4 : w2.cell? ⟨fb, 4, none⟩ = some (.int .i64 flo) := k0.cell 4
  have z0 := k0.frozen 0
  clear L1 HW hb2 k0
  by_cases hneg : fat < 0
  · go_wp2_with (fail)
    have L5 := Lib.hid (L2.out.setBase (p := ⟨fb, 0, none⟩) HLT.out (.int .i64 0))
    have BK5 := Lib.hid (HBK.out.set_ 0 (.int .i64 0))
    have HLT5 : Hid (fb < (wa.setCell ⟨fb, 0, none⟩ (.int .i64 0)).heap.size) := by
      have := HLT.out
      show _ < _
      simpa [World.setCell] using this
    have HBW5 : Hid (Below fb w (wa.setCell ⟨fb, 0, none⟩ (.int .i64 0))) := HBW.out.setCell (p := ⟨fb, 0, none⟩) (Nat.le_refl _) _
    clear L2 HBK HLT HBW q0 q1 q2 q3 q4 z0
    generalize w2.setCell ⟨fb, 0, none⟩ (.int .i64 0) = w5 at *
    generalize wa.setCell ⟨fb, 0, none⟩ (.int .i64 0) = wa5 at *
    clear hneg
    have HCA : Hid (Calls Tryz.prog 28 #[.pointer (some ⟨b, 0, none⟩)] (w5.drewN 1) fun e w' => e = .returned (.int .i64 0) ∧ w5.drewN 1 = w') := (L5.out.below (below_drewN w5 1)).calls0
    have C5 : Hid (w5.cell? ⟨fb, 0, none⟩ = some (.int .i64 0)) := (BK5.out.same (L5.out.base.block fb HLT5.out)).cell 0
    have Z5 := (BK5.out.same (L5.out.base.block fb HLT5.out)).frozen 0
    refine wp_region_late (S := (fun W => ∃ n, W = w5.drewN n)) (late := [7]) (by kernel_rfl) ⟨1, rfl⟩ (fun hHeld => ?_)
    refine wpAnyL_move (i := 0) (v := ?_) (by rfl) (by kernel_rfl) (by kernel_rfl) (by kernel_rfl) (by rfl) (by exact fun _ _ _ h => h) (Or.inl ⟨by rfl, ?_⟩) (by assumption) ?_; rotate_left; · (intro w0; go_simp; try with_reducible rfl)
    try simp only [Act.put, List.setIfInBounds_toArray, List.set_cons_zero, List.set_cons_succ]
    refine wpAnyL_move (i := 2) (v := ?_) (by rfl) (by kernel_rfl) (by kernel_rfl) (by kernel_rfl) (by rfl) (by exact fun _ _ _ h => h) (Or.inl ⟨by rfl, ?_⟩) (by assumption) ?_; rotate_left; · (intro w0; go_simp; try with_reducible rfl)
    try simp only [Act.put, List.setIfInBounds_toArray, List.set_cons_zero, List.set_cons_succ]
    refine wpAnyL_load (i := 3) (v := ?_) (by rfl) (by kernel_rfl) (by kernel_rfl) (by kernel_rfl) (by rfl) (by kernel_rfl) (by exact fun _ _ _ h => h) (Or.inl ⟨by rfl, ?_⟩) (by assumption) ?_; rotate_left; · (intro w0 hS0; obtain ⟨n, rfl⟩ := hS0; have m0 : (w5.drewN n).cell? ⟨fb, 0, none⟩ = some (.int .i64 0) := C5.out; go_simp; try with_reducible rfl)
    try simp only [Act.put, List.setIfInBounds_toArray, List.set_cons_zero, List.set_cons_succ]
    refine wpAnyL_move (i := 4) (v := ?_) (by rfl) (by kernel_rfl) (by kernel_rfl) (by kernel_rfl) (by rfl) (by exact fun _ _ _ h => h) (Or.inl ⟨by rfl, ?_⟩) (by assumption) ?_; rotate_left; · (intro w0; go_simp; try with_reducible rfl)
    try simp only [Act.put, List.setIfInBounds_toArray, List.set_cons_zero, List.set_cons_succ]
    refine wpAnyL_each (rs := [1]) (by kernel_rfl) (by simp) ?_
    refine EachL.cons (by rfl) (by rfl) (fun K hK => ?_) EachL.nil
    go_simp
    refine HCA.out.mono ?_
    rintro e w4 ⟨rfl, rfl⟩
    dsimp only
    refine hK.out _ _ ⟨1, rfl⟩ (fun hHeld => ?_)
    clear hK K
    try simp only [Act.put, List.setIfInBounds_toArray, List.set_cons_zero, List.set_cons_succ]
    refine wpAnyL_move (i := 5) (v := ?_) (by rfl) (by kernel_rfl) (by kernel_rfl) (by kernel_rfl) (by rfl) (by exact fun _ _ _ h => h) (Or.inl ⟨by rfl, ?_⟩) (by assumption) ?_; rotate_left; · (intro w0; go_simp; try with_reducible rfl)
    try simp only [Act.put, List.setIfInBounds_toArray, List.set_cons_zero, List.set_cons_succ]
    refine wpAnyL_move (i := 6) (v := ?_) (by rfl) (by kernel_rfl) (by kernel_rfl) (by kernel_rfl) (by rfl) (by exact fun _ _ _ h => h) (Or.inl ⟨by rfl, ?_⟩) (by assumption) ?_; rotate_left; · (intro w0; go_simp; try with_reducible rfl)
    try simp only [Act.put, List.setIfInBounds_toArray, List.set_cons_zero, List.set_cons_succ]
    have c5 := C5.out
    refine wpAnyL_late (i := 7) (by kernel_rfl) (by rfl) (by rfl) (fun K hK => ?_)
    go_simp
    refine hK.out _ _ ?_
    clear hK K
    try simp only [Act.put, List.setIfInBounds_toArray, List.set_cons_zero, List.set_cons_succ]
    refine wpAny_done (by kernel_rfl) ?_ _
    have HAT := wrap_bounds 0
    generalize IntKind.i64.wrap 0 = ta at *
    obtain ⟨f1, hf1e, hf1o⟩ : ∃ f1 : Fl, f1 = ⟨ta, fke, fto, fby, flo⟩ ∧ f1.ok := ⟨_, rfl, ⟨HAT.1, HAT.2, HFO.out.keep1, HFO.out.keep2, HFO.out.torn1, HFO.out.torn2, HFO.out.bytes1, HFO.out.bytes2, HFO.out.log1, HFO.out.log2⟩⟩
    have hez : (fallCells f1).toArray = #[.int .i64 ta, .int .u64 fke, .int .i64 fto, .int .i64 fby, .int .i64 flo] := by rw [hf1e]; rfl
    have L6 := Lib.hid ((L5.out.below (below_drewN w5 1)).setBase (p := ⟨fb, 0, none⟩) HLT5.out (.int .i64 ta))
    have BK6 := Lib.hid (BK5.out.set_ 0 (.int .i64 ta))
    have HLT6 : Hid (fb < (wa5.setCell ⟨fb, 0, none⟩ (.int .i64 ta)).heap.size) := by
      have := HLT5.out
      show _ < _
      simpa [World.setCell] using this
    have HBW6 : Hid (Below fb w (wa5.setCell ⟨fb, 0, none⟩ (.int .i64 ta))) := HBW5.out.setCell (p := ⟨fb, 0, none⟩) (Nat.le_refl _) _
    clear HCA C5 Z5 c5 L5 BK5 HLT5 HBW5 hHeld HAT
    generalize wa5.setCell ⟨fb, 0, none⟩ (.int .i64 ta) = wb at *
    generalize (w5.drewN 1).setCell ⟨fb, 0, none⟩ (.int .i64 ta) = w6 at *
    have K6 : Blk wb fb 78 #[.int .i64 ta, .int .u64 fke, .int .i64 fto, .int .i64 fby, .int .i64 flo] := BK6.out
    have HK6 := Lib.hid K6
    have k6 := K6.same (L6.out.base.block fb HLT6.out)
    have q0 : w6.cell? ⟨fb, 0, none⟩ = some (.int .i64 ta) := k6.cell 0
    have q1 : w6.cell? ⟨fb, 1, none⟩ = some (.int .u64 fke) := k6.cell 1
    have q2 : w6.cell? ⟨fb, 2, none⟩ = some (.int .i64 fto) := k6.cell 2
    have q3 : w6.cell? ⟨fb, 3, none⟩ = some (.int .i64 fby) := k6.cell 3
    have q4 : w6.cell? ⟨fb, 4, none⟩ = some (.int .i64 flo) := k6.cell 4
    have HPl := L6.out.plan1 f1
    rw [hez] at HPl
    have HPL := Lib.hid HPl
    have HF1 := Lib.hid hf1o
    clear HPl K6 BK6 k6 hez hf1o
    go_wp2_with (fail)
    refine HPL.out.mono ?_
    rintro e w7 ⟨rfl, l7⟩
    have H7 : Hid (∃ m g q pg, FP7 f1 wb b lb pb 0 none m g q pg w7) := ⟨_, _, _, fun _ => none, l7, ⟨rfl, rfl, rfl, .inr rfl, rfl, rfl, rfl, rfl⟩, rfl, ⟨rfl, rfl⟩, (fun x hx => by cases hx), rfl, rfl, .inl rfl⟩
    clear l7 HPL L6 q0 q1 q2 q3 q4
    go_wp2_with (fail)
    go_loopw [8, 9, 10] (fun s8 s9 s10 wr => ∃ (k : Nat) (last next : ByteArray), k ≤ len ∧ k ≤ 12 ∧ s8 = .string last ∧ s9 = .string next ∧ s10 = .int .i64 (k : Int) ∧ Hid (∃ v, last = vT v ∧ ∃ m g q pg, FP7 f1 wb b lb pb k v m g q pg wr)) (fun _ _ i _ => 12 - (intOf i).toNat)
    case atStart => exact ⟨0, ⟨#[]⟩, ⟨#[]⟩, Nat.zero_le _, Nat.zero_le _, rfl, rfl, rfl, none, rfl, H7.out⟩
    case round =>
      obtain ⟨k, last, next, hk1, hk2, rfl, rfl, rfl, hR⟩ := hrel
      clear H7
      by_cases hgo : k < len ∧ k < 12
      · obtain ⟨hg1, hg2⟩ := hgo
        obtain ⟨v, hv, m, g, q, pg, hP⟩ := hR.out
        have hB0 : Below w.heap.size w wr := by rw [hfb]; exact HBW6.out.trans (hP.pl.base.mono (Nat.le_of_lt HLT6.out))
        obtain ⟨ab, off, s, rfl, hse, hss, hsc⟩ := HH.out.at_ hB0 hg1
        clear hse
        have HV := Lib.hid hv
        have hPP : FP7 f1 wb b lb pb k v m g q pg (wr.alloc (.cells #[.int .u8 (k : Int)] 5)) := ⟨hP.pl.below (below_one _ _), hP.al, hP.g, hP.two, hP.vok, hP.picks, hP.most, hP.frames⟩
        clear hP hR hB0 hv
        obtain ⟨yb, hyb, hys⟩ : ∃ y : ByteArray, (convert 94 9 (.slice (some ⟨wr.heap.size, 0, none⟩) 1 1)).run Tryz.prog (wr.alloc (.cells #[.int .u8 (k : Int)] 5)) = .ok (.string y) (wr.alloc (.cells #[.int .u8 (k : Int)] 5)) ∧ Hid (y.size = 1) := by
          have := one_string wr k
          rw [show ((k : Int) % 256) = (k : Int) by omega] at this
          exact ⟨_, this, rfl⟩
        by_cases hbig : 200 < s.size
        · skip
          have hy1 : yb.size = 1 := hys.out
          have hUz : (s.extract 0 200 : ByteArray).size ≤ 200 := by
            rw [ByteArray.size_extract]; omega
          have HT : Hid ((s.extract 0 200 ++ yb : ByteArray).size ≤ 300) := by
            show _ ≤ _
            rw [ByteArray.size_append]
            omega
          have hcat : (s.extract 0 200 : ByteArray).size + yb.size ≤ 9223372036854775807 := by omega
          clear hy1 hUz
          have HA := Lib.hid (hPP.append hg2)
          go_wp2_with (fail)
          generalize (s.extract 0 200 ++ yb : ByteArray) = t at *
          clear hyb hys hbig hss hsc hcat
          refine HA.out.mono ?_
          rintro e w4 ⟨rfl, l4⟩
          have HPU := Lib.hid (hPP.put hg2 HF1.out l4 (below_one w4 (.cells #[.string t] 9)) HT.out (reads_one w4 t 9) (Nat.le_refl _))
          clear HA l4
          go_wp2_with (fail)
          refine HPU.out.mono ?_
          rintro e w5 ⟨rfl, d, q5, hd, l5, p1, p2, p3⟩
          have HWR := Lib.hid (hPP.write hg2 HF1.out hd l5 p1 p2 p3 HT.out)
          clear HPU l5 hd p1 p2 p3
          go_wp2_with (fail)
          refine HWR.out.mono ?_
          rintro e w6 (⟨rfl, h6⟩ | ⟨rfl, h6⟩)
          · have H6 := Lib.hid h6
            clear h6 HWR hPP
            go_wp2_with (fail)
            go_roundw
            case rel => exact ⟨k + 1, t, t, by omega, by omega, rfl, rfl, by go_num, some (k, t), rfl, H6.out⟩
            case measure => simp [intOf]; omega
          · have HZ : Hid (End7 f1 wb b last t w6) := by rw [HV.out]; exact h6
            clear h6 HWR hPP
            go_wp2_with (fail)
            have HE7 := Lib.hid HZ.out.plan
            clear HZ
            refine HE7.out.mono ?_
            rintro e w10 ⟨rfl, h10⟩
            have HCR := Lib.hid (h10.crash ⟨0, fke, fto, fby, 0⟩ ⟨by show (-9223372036854775808 : Int) ≤ 0; decide, by show (0 : Int) ≤ 9223372036854775807; decide, HFO.out.keep1, HFO.out.keep2, HFO.out.torn1, HFO.out.torn2, HFO.out.bytes1, HFO.out.bytes2, by show (-9223372036854775808 : Int) ≤ 0; decide, by show (0 : Int) ≤ 9223372036854775807; decide⟩)
            have k10 := HK6.out.same (h10.base.block fb HLT6.out)
            have r1 : w10.cell? ⟨fb, 1, none⟩ = some (.int .u64 fke) := k10.cell 1
            have r2 : w10.cell? ⟨fb, 2, none⟩ = some (.int .i64 fto) := k10.cell 2
            have r3 : w10.cell? ⟨fb, 3, none⟩ = some (.int .i64 fby) := k10.cell 3
            clear h10 k10 HE7
            go_wp2_with (fail)
            refine HCR.out.mono ?_
            rintro e w11 ⟨rfl, h11⟩
            have HUP := Lib.hid h11.up
            clear h11 HCR r1 r2 r3
            go_wp2_with (fail)
            refine HUP.out.mono ?_
            rintro e w12 ⟨rfl, h12⟩
            have HOP := Lib.hid h12.open_
            clear h12 HUP
            go_wp2_with (fail)
            refine HOP.out.mono ?_
            rintro e w13 ⟨lb2, n13, rfl, h13⟩
            have HNW := Lib.hid h13.new
            clear h13 HOP
            go_wp2_with (fail)
            refine HNW.out.mono ?_
            rintro e w14 ⟨pb2, rfl, h14⟩
            have HGE := Lib.hid h14.get
            clear h14 HNW
            go_wp2_with (fail)
            refine HGE.out.mono ?_
            rintro e w15 ⟨x, sv, rfl, hrd, hx, hb⟩
            obtain ⟨xn, xl, xk, xh, xs⟩ := x
            unfold ShV
            simp only at hrd hx ⊢
            have HB : ∀ o : Obj, Hid (Below w.heap.size w (w15.alloc o)) := fun o => by
              have h1 : Below fb w w15 := HBW6.out.trans (hb.mono (Nat.le_of_lt HLT6.out))
              rw [hfb]
              exact h1.alloc (Nat.le_trans (by rw [← hfb]; exact Nat.le_refl _) h1.size) o
            clear HGE hb
            rcases hx with ⟨hx, hl⟩ | hx | hx
            · subst hx
              subst hl
              obtain ⟨sa, sc, rfl⟩ := hrd.form
              clear hrd
              go_wp2_with (fail)
              go_ret
              exact ⟨rfl, (HB _).out⟩
            · subst hx
              rcases hrd with ⟨_, h0⟩ | ⟨rb, cp, hsv, h1, h2, h3, h4⟩
              · exact absurd h0 (by simp)
              · replace hsv : sv = .slice (some ⟨rb, 0, none⟩) 1 cp := hsv
                subst hsv
                have hc : w15.cell? ⟨rb, 0, none⟩ = some (.string last) := h4 0 last rfl
                have heq := beq_toList last
                replace h1 : 1 ≤ cp := h1
                clear h4
                go_wp2_with (fail)
                go_ret
                exact ⟨rfl, (HB _).out⟩
            · subst hx
              rcases hrd with ⟨_, h0⟩ | ⟨rb, cp, hsv, h1, h2, h3, h4⟩
              · exact absurd h0 (by simp)
              · replace hsv : sv = .slice (some ⟨rb, 0, none⟩) 1 cp := hsv
                subst hsv
                have hc : w15.cell? ⟨rb, 0, none⟩ = some (.string t) := h4 0 t rfl
                have heq := beq_toList t
                replace h1 : 1 ≤ cp := h1
                clear h4
                go_wp2_with (fail)
                all_goals (go_ret; exact ⟨rfl, (HB _).out⟩)
        · skip
          have hy1 : yb.size = 1 := hys.out
          have hUz : (s : ByteArray).size ≤ 200 := by
            omega
          have HT : Hid ((s ++ yb : ByteArray).size ≤ 300) := by
            show _ ≤ _
            rw [ByteArray.size_append]
            omega
          have hcat : (s : ByteArray).size + yb.size ≤ 9223372036854775807 := by omega
          clear hy1 hUz
          have HA := Lib.hid (hPP.append hg2)
          go_wp2_with (fail)
          generalize (s ++ yb : ByteArray) = t at *
          clear hyb hys hbig hss hsc hcat
          refine HA.out.mono ?_
          rintro e w4 ⟨rfl, l4⟩
          have HPU := Lib.hid (hPP.put hg2 HF1.out l4 (below_one w4 (.cells #[.string t] 9)) HT.out (reads_one w4 t 9) (Nat.le_refl _))
          clear HA l4
          go_wp2_with (fail)
          refine HPU.out.mono ?_
          rintro e w5 ⟨rfl, d, q5, hd, l5, p1, p2, p3⟩
          have HWR := Lib.hid (hPP.write hg2 HF1.out hd l5 p1 p2 p3 HT.out)
          clear HPU l5 hd p1 p2 p3
          go_wp2_with (fail)
          refine HWR.out.mono ?_
          rintro e w6 (⟨rfl, h6⟩ | ⟨rfl, h6⟩)
          · have H6 := Lib.hid h6
            clear h6 HWR hPP
            go_wp2_with (fail)
            go_roundw
            case rel => exact ⟨k + 1, t, t, by omega, by omega, rfl, rfl, by go_num, some (k, t), rfl, H6.out⟩
            case measure => simp [intOf]; omega
          · have HZ : Hid (End7 f1 wb b last t w6) := by rw [HV.out]; exact h6
            clear h6 HWR hPP
            go_wp2_with (fail)
            have HE7 := Lib.hid HZ.out.plan
            clear HZ
            refine HE7.out.mono ?_
            rintro e w10 ⟨rfl, h10⟩
            have HCR := Lib.hid (h10.crash ⟨0, fke, fto, fby, 0⟩ ⟨by show (-9223372036854775808 : Int) ≤ 0; decide, by show (0 : Int) ≤ 9223372036854775807; decide, HFO.out.keep1, HFO.out.keep2, HFO.out.torn1, HFO.out.torn2, HFO.out.bytes1, HFO.out.bytes2, by show (-9223372036854775808 : Int) ≤ 0; decide, by show (0 : Int) ≤ 9223372036854775807; decide⟩)
            have k10 := HK6.out.same (h10.base.block fb HLT6.out)
            have r1 : w10.cell? ⟨fb, 1, none⟩ = some (.int .u64 fke) := k10.cell 1
            have r2 : w10.cell? ⟨fb, 2, none⟩ = some (.int .i64 fto) := k10.cell 2
            have r3 : w10.cell? ⟨fb, 3, none⟩ = some (.int .i64 fby) := k10.cell 3
            clear h10 k10 HE7
            go_wp2_with (fail)
            refine HCR.out.mono ?_
            rintro e w11 ⟨rfl, h11⟩
            have HUP := Lib.hid h11.up
            clear h11 HCR r1 r2 r3
            go_wp2_with (fail)
            refine HUP.out.mono ?_
            rintro e w12 ⟨rfl, h12⟩
            have HOP := Lib.hid h12.open_
            clear h12 HUP
            go_wp2_with (fail)
            refine HOP.out.mono ?_
            rintro e w13 ⟨lb2, n13, rfl, h13⟩
            have HNW := Lib.hid h13.new
            clear h13 HOP
            go_wp2_with (fail)
            refine HNW.out.mono ?_
            rintro e w14 ⟨pb2, rfl, h14⟩
            have HGE := Lib.hid h14.get
            clear h14 HNW
            go_wp2_with (fail)
            refine HGE.out.mono ?_
            rintro e w15 ⟨x, sv, rfl, hrd, hx, hb⟩
            obtain ⟨xn, xl, xk, xh, xs⟩ := x
            unfold ShV
            simp only at hrd hx ⊢
            have HB : ∀ o : Obj, Hid (Below w.heap.size w (w15.alloc o)) := fun o => by
              have h1 : Below fb w w15 := HBW6.out.trans (hb.mono (Nat.le_of_lt HLT6.out))
              rw [hfb]
              exact h1.alloc (Nat.le_trans (by rw [← hfb]; exact Nat.le_refl _) h1.size) o
            clear HGE hb
            rcases hx with ⟨hx, hl⟩ | hx | hx
            · subst hx
              subst hl
              obtain ⟨sa, sc, rfl⟩ := hrd.form
              clear hrd
              go_wp2_with (fail)
              go_ret
              exact ⟨rfl, (HB _).out⟩
            · subst hx
              rcases hrd with ⟨_, h0⟩ | ⟨rb, cp, hsv, h1, h2, h3, h4⟩
              · exact absurd h0 (by simp)
              · replace hsv : sv = .slice (some ⟨rb, 0, none⟩) 1 cp := hsv
                subst hsv
                have hc : w15.cell? ⟨rb, 0, none⟩ = some (.string last) := h4 0 last rfl
                have heq := beq_toList last
                replace h1 : 1 ≤ cp := h1
                clear h4
                go_wp2_with (fail)
                go_ret
                exact ⟨rfl, (HB _).out⟩
            · subst hx
              rcases hrd with ⟨_, h0⟩ | ⟨rb, cp, hsv, h1, h2, h3, h4⟩
              · exact absurd h0 (by simp)
              · replace hsv : sv = .slice (some ⟨rb, 0, none⟩) 1 cp := hsv
                subst hsv
                have hc : w15.cell? ⟨rb, 0, none⟩ = some (.string t) := h4 0 t rfl
                have heq := beq_toList t
                replace h1 : 1 ≤ cp := h1
                clear h4
                go_wp2_with (fail)
                all_goals (go_ret; exact ⟨rfl, (HB _).out⟩)
      · have HZ : Hid (End7 f1 wb b last next wr) := by
          obtain ⟨v, hv, m, g, q, pg, hP⟩ := hR.out
          rw [hv]
          exact hP.end_ hk2 next
        have hng : k < len → ¬ k < 12 := fun h1 h2 => hgo ⟨h1, h2⟩
        clear hR hgo
        by_cases hl : k < len
        · have h12 : k = 12 := by have := hng hl; omega
          clear hng
          subst h12
          go_wp2_with (fail)
          have HE7 := Lib.hid HZ.out.plan
          clear HZ
          refine HE7.out.mono ?_
          rintro e w10 ⟨rfl, h10⟩
          have HCR := Lib.hid (h10.crash ⟨0, fke, fto, fby, 0⟩ ⟨by show (-9223372036854775808 : Int) ≤ 0; decide, by show (0 : Int) ≤ 9223372036854775807; decide, HFO.out.keep1, HFO.out.keep2, HFO.out.torn1, HFO.out.torn2, HFO.out.bytes1, HFO.out.bytes2, by show (-9223372036854775808 : Int) ≤ 0; decide, by show (0 : Int) ≤ 9223372036854775807; decide⟩)
          have k10 := HK6.out.same (h10.base.block fb HLT6.out)
          have r1 : w10.cell? ⟨fb, 1, none⟩ = some (.int .u64 fke) := k10.cell 1
          have r2 : w10.cell? ⟨fb, 2, none⟩ = some (.int .i64 fto) := k10.cell 2
          have r3 : w10.cell? ⟨fb, 3, none⟩ = some (.int .i64 fby) := k10.cell 3
          clear h10 k10 HE7
          go_wp2_with (fail)
          refine HCR.out.mono ?_
          rintro e w11 ⟨rfl, h11⟩
          have HUP := Lib.hid h11.up
          clear h11 HCR r1 r2 r3
          go_wp2_with (fail)
          refine HUP.out.mono ?_
          rintro e w12 ⟨rfl, h12⟩
          have HOP := Lib.hid h12.open_
          clear h12 HUP
          go_wp2_with (fail)
          refine HOP.out.mono ?_
          rintro e w13 ⟨lb2, n13, rfl, h13⟩
          have HNW := Lib.hid h13.new
          clear h13 HOP
          go_wp2_with (fail)
          refine HNW.out.mono ?_
          rintro e w14 ⟨pb2, rfl, h14⟩
          have HGE := Lib.hid h14.get
          clear h14 HNW
          go_wp2_with (fail)
          refine HGE.out.mono ?_
          rintro e w15 ⟨x, sv, rfl, hrd, hx, hb⟩
          obtain ⟨xn, xl, xk, xh, xs⟩ := x
          unfold ShV
          simp only at hrd hx ⊢
          have HB : ∀ o : Obj, Hid (Below w.heap.size w (w15.alloc o)) := fun o => by
            have h1 : Below fb w w15 := HBW6.out.trans (hb.mono (Nat.le_of_lt HLT6.out))
            rw [hfb]
            exact h1.alloc (Nat.le_trans (by rw [← hfb]; exact Nat.le_refl _) h1.size) o
          clear HGE hb
          rcases hx with ⟨hx, hl⟩ | hx | hx
          · subst hx
            subst hl
            obtain ⟨sa, sc, rfl⟩ := hrd.form
            clear hrd
            go_wp2_with (fail)
            go_ret
            exact ⟨rfl, (HB _).out⟩
          · subst hx
            rcases hrd with ⟨_, h0⟩ | ⟨rb, cp, hsv, h1, h2, h3, h4⟩
            · exact absurd h0 (by simp)
            · replace hsv : sv = .slice (some ⟨rb, 0, none⟩) 1 cp := hsv
              subst hsv
              have hc : w15.cell? ⟨rb, 0, none⟩ = some (.string last) := h4 0 last rfl
              have heq := beq_toList last
              replace h1 : 1 ≤ cp := h1
              clear h4
              go_wp2_with (fail)
              go_ret
              exact ⟨rfl, (HB _).out⟩
          · subst hx
            rcases hrd with ⟨_, h0⟩ | ⟨rb, cp, hsv, h1, h2, h3, h4⟩
            · exact absurd h0 (by simp)
            · replace hsv : sv = .slice (some ⟨rb, 0, none⟩) 1 cp := hsv
              subst hsv
              have hc : w15.cell? ⟨rb, 0, none⟩ = some (.string next) := h4 0 next rfl
              have heq := beq_toList next
              replace h1 : 1 ≤ cp := h1
              clear h4
              go_wp2_with (fail)
              all_goals (go_ret; exact ⟨rfl, (HB _).out⟩)
        · clear hng
          go_wp2_with (fail)
          have HE7 := Lib.hid HZ.out.plan
          clear HZ
          refine HE7.out.mono ?_
          rintro e w10 ⟨rfl, h10⟩
          have HCR := Lib.hid (h10.crash ⟨0, fke, fto, fby, 0⟩ ⟨by show (-9223372036854775808 : Int) ≤ 0; decide, by show (0 : Int) ≤ 9223372036854775807; decide, HFO.out.keep1, HFO.out.keep2, HFO.out.torn1, HFO.out.torn2, HFO.out.bytes1, HFO.out.bytes2, by show (-9223372036854775808 : Int) ≤ 0; decide, by show (0 : Int) ≤ 9223372036854775807; decide⟩)
          have k10 := HK6.out.same (h10.base.block fb HLT6.out)
          have r1 : w10.cell? ⟨fb, 1, none⟩ = some (.int .u64 fke) := k10.cell 1
          have r2 : w10.cell? ⟨fb, 2, none⟩ = some (.int .i64 fto) := k10.cell 2
          have r3 : w10.cell? ⟨fb, 3, none⟩ = some (.int .i64 fby) := k10.cell 3
          clear h10 k10 HE7
          go_wp2_with (fail)
          refine HCR.out.mono ?_
          rintro e w11 ⟨rfl, h11⟩
          have HUP := Lib.hid h11.up
          clear h11 HCR r1 r2 r3
          go_wp2_with (fail)
          refine HUP.out.mono ?_
          rintro e w12 ⟨rfl, h12⟩
          have HOP := Lib.hid h12.open_
          clear h12 HUP
          go_wp2_with (fail)
          refine HOP.out.mono ?_
          rintro e w13 ⟨lb2, n13, rfl, h13⟩
          have HNW := Lib.hid h13.new
          clear h13 HOP
          go_wp2_with (fail)
          refine HNW.out.mono ?_
          rintro e w14 ⟨pb2, rfl, h14⟩
          have HGE := Lib.hid h14.get
          clear h14 HNW
          go_wp2_with (fail)
          refine HGE.out.mono ?_
          rintro e w15 ⟨x, sv, rfl, hrd, hx, hb⟩
          obtain ⟨xn, xl, xk, xh, xs⟩ := x
          unfold ShV
          simp only at hrd hx ⊢
          have HB : ∀ o : Obj, Hid (Below w.heap.size w (w15.alloc o)) := fun o => by
            have h1 : Below fb w w15 := HBW6.out.trans (hb.mono (Nat.le_of_lt HLT6.out))
            rw [hfb]
            exact h1.alloc (Nat.le_trans (by rw [← hfb]; exact Nat.le_refl _) h1.size) o
          clear HGE hb
          rcases hx with ⟨hx, hl⟩ | hx | hx
          · subst hx
            subst hl
            obtain ⟨sa, sc, rfl⟩ := hrd.form
            clear hrd
            go_wp2_with (fail)
            go_ret
            exact ⟨rfl, (HB _).out⟩
          · subst hx
            rcases hrd with ⟨_, h0⟩ | ⟨rb, cp, hsv, h1, h2, h3, h4⟩
            · exact absurd h0 (by simp)
            · replace hsv : sv = .slice (some ⟨rb, 0, none⟩) 1 cp := hsv
              subst hsv
              have hc : w15.cell? ⟨rb, 0, none⟩ = some (.string last) := h4 0 last rfl
              have heq := beq_toList last
              replace h1 : 1 ≤ cp := h1
              clear h4
              go_wp2_with (fail)
              go_ret
              exact ⟨rfl, (HB _).out⟩
          · subst hx
            rcases hrd with ⟨_, h0⟩ | ⟨rb, cp, hsv, h1, h2, h3, h4⟩
            · exact absurd h0 (by simp)
            · replace hsv : sv = .slice (some ⟨rb, 0, none⟩) 1 cp := hsv
              subst hsv
              have hc : w15.cell? ⟨rb, 0, none⟩ = some (.string next) := h4 0 next rfl
              have heq := beq_toList next
              replace h1 : 1 ≤ cp := h1
              clear h4
              go_wp2_with (fail)
              all_goals (go_ret; exact ⟨rfl, (HB _).out⟩)
  · go_wp2_with (fail)
    have L5 := L2
    have BK5 := HBK
    have HLT5 := HLT
    have HBW5 := HBW
    clear L2 HBK HLT HBW q0 q1 q2 q3 q4 z0
    generalize w2 = w5 at *
    generalize wa = wa5 at *
    clear hneg
    have HCA : Hid (Calls Tryz.prog 28 #[.pointer (some ⟨b, 0, none⟩)] (w5.drewN 1) fun e w' => e = .returned (.int .i64 0) ∧ w5.drewN 1 = w') := (L5.out.below (below_drewN w5 1)).calls0
    have C5 : Hid (w5.cell? ⟨fb, 0, none⟩ = some (.int .i64 fat)) := (BK5.out.same (L5.out.base.block fb HLT5.out)).cell 0
    have Z5 := (BK5.out.same (L5.out.base.block fb HLT5.out)).frozen 0
    refine wp_region_late (S := (fun W => ∃ n, W = w5.drewN n)) (late := [7]) (by kernel_rfl) ⟨1, rfl⟩ (fun hHeld => ?_)
    refine wpAnyL_move (i := 0) (v := ?_) (by rfl) (by kernel_rfl) (by kernel_rfl) (by kernel_rfl) (by rfl) (by exact fun _ _ _ h => h) (Or.inl ⟨by rfl, ?_⟩) (by assumption) ?_; rotate_left; · (intro w0; go_simp; try with_reducible rfl)
    try simp only [Act.put, List.setIfInBounds_toArray, List.set_cons_zero, List.set_cons_succ]
    refine wpAnyL_move (i := 2) (v := ?_) (by rfl) (by kernel_rfl) (by kernel_rfl) (by kernel_rfl) (by rfl) (by exact fun _ _ _ h => h) (Or.inl ⟨by rfl, ?_⟩) (by assumption) ?_; rotate_left; · (intro w0; go_simp; try with_reducible rfl)
    try simp only [Act.put, List.setIfInBounds_toArray, List.set_cons_zero, List.set_cons_succ]
    refine wpAnyL_load (i := 3) (v := ?_) (by rfl) (by kernel_rfl) (by kernel_rfl) (by kernel_rfl) (by rfl) (by kernel_rfl) (by exact fun _ _ _ h => h) (Or.inl ⟨by rfl, ?_⟩) (by assumption) ?_; rotate_left; · (intro w0 hS0; obtain ⟨n, rfl⟩ := hS0; have m0 : (w5.drewN n).cell? ⟨fb, 0, none⟩ = some (.int .i64 fat) := C5.out; go_simp; try with_reducible rfl)
    try simp only [Act.put, List.setIfInBounds_toArray, List.set_cons_zero, List.set_cons_succ]
    refine wpAnyL_move (i := 4) (v := ?_) (by rfl) (by kernel_rfl) (by kernel_rfl) (by kernel_rfl) (by rfl) (by exact fun _ _ _ h => h) (Or.inl ⟨by rfl, ?_⟩) (by assumption) ?_; rotate_left; · (intro w0; go_simp; try with_reducible rfl)
    try simp only [Act.put, List.setIfInBounds_toArray, List.set_cons_zero, List.set_cons_succ]
    refine wpAnyL_each (rs := [1]) (by kernel_rfl) (by simp) ?_
    refine EachL.cons (by rfl) (by rfl) (fun K hK => ?_) EachL.nil
    go_simp
    refine HCA.out.mono ?_
    rintro e w4 ⟨rfl, rfl⟩
    dsimp only
    refine hK.out _ _ ⟨1, rfl⟩ (fun hHeld => ?_)
    clear hK K
    try simp only [Act.put, List.setIfInBounds_toArray, List.set_cons_zero, List.set_cons_succ]
    refine wpAnyL_move (i := 5) (v := ?_) (by rfl) (by kernel_rfl) (by kernel_rfl) (by kernel_rfl) (by rfl) (by exact fun _ _ _ h => h) (Or.inl ⟨by rfl, ?_⟩) (by assumption) ?_; rotate_left; · (intro w0; go_simp; try with_reducible rfl)
    try simp only [Act.put, List.setIfInBounds_toArray, List.set_cons_zero, List.set_cons_succ]
    refine wpAnyL_move (i := 6) (v := ?_) (by rfl) (by kernel_rfl) (by kernel_rfl) (by kernel_rfl) (by rfl) (by exact fun _ _ _ h => h) (Or.inl ⟨by rfl, ?_⟩) (by assumption) ?_; rotate_left; · (intro w0; go_simp; try with_reducible rfl)
    try simp only [Act.put, List.setIfInBounds_toArray, List.set_cons_zero, List.set_cons_succ]
    have c5 := C5.out
    refine wpAnyL_late (i := 7) (by kernel_rfl) (by rfl) (by rfl) (fun K hK => ?_)
    go_simp
    refine hK.out _ _ ?_
    clear hK K
    try simp only [Act.put, List.setIfInBounds_toArray, List.set_cons_zero, List.set_cons_succ]
    refine wpAny_done (by kernel_rfl) ?_ _
    have HAT := wrap_bounds (fat.tmod 40)
    generalize IntKind.i64.wrap (fat.tmod 40) = ta at *
    obtain ⟨f1, hf1e, hf1o⟩ : ∃ f1 : Fl, f1 = ⟨ta, fke, fto, fby, flo⟩ ∧ f1.ok := ⟨_, rfl, ⟨HAT.1, HAT.2, HFO.out.keep1, HFO.out.keep2, HFO.out.torn1, HFO.out.torn2, HFO.out.bytes1, HFO.out.bytes2, HFO.out.log1, HFO.out.log2⟩⟩
    have hez : (fallCells f1).toArray = #[.int .i64 ta, .int .u64 fke, .int .i64 fto, .int .i64 fby, .int .i64 flo] := by rw [hf1e]; rfl
    have L6 := Lib.hid ((L5.out.below (below_drewN w5 1)).setBase (p := ⟨fb, 0, none⟩) HLT5.out (.int .i64 ta))
    have BK6 := Lib.hid (BK5.out.set_ 0 (.int .i64 ta))
    have HLT6 : Hid (fb < (wa5.setCell ⟨fb, 0, none⟩ (.int .i64 ta)).heap.size) := by
      have := HLT5.out
      show _ < _
      simpa [World.setCell] using this
    have HBW6 : Hid (Below fb w (wa5.setCell ⟨fb, 0, none⟩ (.int .i64 ta))) := HBW5.out.setCell (p := ⟨fb, 0, none⟩) (Nat.le_refl _) _
    clear HCA C5 Z5 c5 L5 BK5 HLT5 HBW5 hHeld HAT
    generalize wa5.setCell ⟨fb, 0, none⟩ (.int .i64 ta) = wb at *
    generalize (w5.drewN 1).setCell ⟨fb, 0, none⟩ (.int .i64 ta) = w6 at *
    have K6 : Blk wb fb 78 #[.int .i64 ta, .int .u64 fke, .int .i64 fto, .int .i64 fby, .int .i64 flo] := BK6.out
    have HK6 := Lib.hid K6
    have k6 := K6.same (L6.out.base.block fb HLT6.out)
    have q0 : w6.cell? ⟨fb, 0, none⟩ = some (.int .i64 ta) := k6.cell 0
    have q1 : w6.cell? ⟨fb, 1, none⟩ = some (.int .u64 fke) := k6.cell 1
    have q2 : w6.cell? ⟨fb, 2, none⟩ = some (.int .i64 fto) := k6.cell 2
    have q3 : w6.cell? ⟨fb, 3, none⟩ = some (.int .i64 fby) := k6.cell 3
    have q4 : w6.cell? ⟨fb, 4, none⟩ = some (.int .i64 flo) := k6.cell 4
    have HPl := L6.out.plan1 f1
    rw [hez] at HPl
    have HPL := Lib.hid HPl
    have HF1 := Lib.hid hf1o
    clear HPl K6 BK6 k6 hez hf1o
    go_wp2_with (fail)
    refine HPL.out.mono ?_
    rintro e w7 ⟨rfl, l7⟩
    have H7 : Hid (∃ m g q pg, FP7 f1 wb b lb pb 0 none m g q pg w7) := ⟨_, _, _, fun _ => none, l7, ⟨rfl, rfl, rfl, .inr rfl, rfl, rfl, rfl, rfl⟩, rfl, ⟨rfl, rfl⟩, (fun x hx => by cases hx), rfl, rfl, .inl rfl⟩
    clear l7 HPL L6 q0 q1 q2 q3 q4
    go_wp2_with (fail)
    go_loopw [8, 9, 10] (fun s8 s9 s10 wr => ∃ (k : Nat) (last next : ByteArray), k ≤ len ∧ k ≤ 12 ∧ s8 = .string last ∧ s9 = .string next ∧ s10 = .int .i64 (k : Int) ∧ Hid (∃ v, last = vT v ∧ ∃ m g q pg, FP7 f1 wb b lb pb k v m g q pg wr)) (fun _ _ i _ => 12 - (intOf i).toNat)
    case atStart => exact ⟨0, ⟨#[]⟩, ⟨#[]⟩, Nat.zero_le _, Nat.zero_le _, rfl, rfl, rfl, none, rfl, H7.out⟩
    case round =>
      obtain ⟨k, last, next, hk1, hk2, rfl, rfl, rfl, hR⟩ := hrel
      clear H7
      by_cases hgo : k < len ∧ k < 12
      · obtain ⟨hg1, hg2⟩ := hgo
        obtain ⟨v, hv, m, g, q, pg, hP⟩ := hR.out
        have hB0 : Below w.heap.size w wr := by rw [hfb]; exact HBW6.out.trans (hP.pl.base.mono (Nat.le_of_lt HLT6.out))
        obtain ⟨ab, off, s, rfl, hse, hss, hsc⟩ := HH.out.at_ hB0 hg1
        clear hse
        have HV := Lib.hid hv
        have hPP : FP7 f1 wb b lb pb k v m g q pg (wr.alloc (.cells #[.int .u8 (k : Int)] 5)) := ⟨hP.pl.below (below_one _ _), hP.al, hP.g, hP.two, hP.vok, hP.picks, hP.most, hP.frames⟩
        clear hP hR hB0 hv
        obtain ⟨yb, hyb, hys⟩ : ∃ y : ByteArray, (convert 94 9 (.slice (some ⟨wr.heap.size, 0, none⟩) 1 1)).run Tryz.prog (wr.alloc (.cells #[.int .u8 (k : Int)] 5)) = .ok (.string y) (wr.alloc (.cells #[.int .u8 (k : Int)] 5)) ∧ Hid (y.size = 1) := by
          have := one_string wr k
          rw [show ((k : Int) % 256) = (k : Int) by omega] at this
          exact ⟨_, this, rfl⟩
        by_cases hbig : 200 < s.size
        · skip
          have hy1 : yb.size = 1 := hys.out
          have hUz : (s.extract 0 200 : ByteArray).size ≤ 200 := by
            rw [ByteArray.size_extract]; omega
          have HT : Hid ((s.extract 0 200 ++ yb : ByteArray).size ≤ 300) := by
            show _ ≤ _
            rw [ByteArray.size_append]
            omega
          have hcat : (s.extract 0 200 : ByteArray).size + yb.size ≤ 9223372036854775807 := by omega
          clear hy1 hUz
          have HA := Lib.hid (hPP.append hg2)
          go_wp2_with (fail)
          generalize (s.extract 0 200 ++ yb : ByteArray) = t at *
          clear hyb hys hbig hss hsc hcat
          refine HA.out.mono ?_
          rintro e w4 ⟨rfl, l4⟩
          have HPU := Lib.hid (hPP.put hg2 HF1.out l4 (below_one w4 (.cells #[.string t] 9)) HT.out (reads_one w4 t 9) (Nat.le_refl _))
          clear HA l4
          go_wp2_with (fail)
          refine HPU.out.mono ?_
          rintro e w5 ⟨rfl, d, q5, hd, l5, p1, p2, p3⟩
          have HWR := Lib.hid (hPP.write hg2 HF1.out hd l5 p1 p2 p3 HT.out)
          clear HPU l5 hd p1 p2 p3
          go_wp2_with (fail)
          refine HWR.out.mono ?_
          rintro e w6 (⟨rfl, h6⟩ | ⟨rfl, h6⟩)
          · have H6 := Lib.hid h6
            clear h6 HWR hPP
            go_wp2_with (fail)
            go_roundw
            case rel => exact ⟨k + 1, t, t, by omega, by omega, rfl, rfl, by go_num, some (k, t), rfl, H6.out⟩
            case measure => simp [intOf]; omega
          · have HZ : Hid (End7 f1 wb b last t w6) := by rw [HV.out]; exact h6
            clear h6 HWR hPP
            go_wp2_with (fail)
            have HE7 := Lib.hid HZ.out.plan
            clear HZ
            refine HE7.out.mono ?_
            rintro e w10 ⟨rfl, h10⟩
            have HCR := Lib.hid (h10.crash ⟨0, fke, fto, fby, 0⟩ ⟨by show (-9223372036854775808 : Int) ≤ 0; decide, by show (0 : Int) ≤ 9223372036854775807; decide, HFO.out.keep1, HFO.out.keep2, HFO.out.torn1, HFO.out.torn2, HFO.out.bytes1, HFO.out.bytes2, by show (-9223372036854775808 : Int) ≤ 0; decide, by show (0 : Int) ≤ 9223372036854775807; decide⟩)
            have k10 := HK6.out.same (h10.base.block fb HLT6.out)
            have r1 : w10.cell? ⟨fb, 1, none⟩ = some (.int .u64 fke) := k10.cell 1
            have r2 : w10.cell? ⟨fb, 2, none⟩ = some (.int .i64 fto) := k10.cell 2
            have r3 : w10.cell? ⟨fb, 3, none⟩ = some (.int .i64 fby) := k10.cell 3
            clear h10 k10 HE7
            go_wp2_with (fail)
            refine HCR.out.mono ?_
            rintro e w11 ⟨rfl, h11⟩
            have HUP := Lib.hid h11.up
            clear h11 HCR r1 r2 r3
            go_wp2_with (fail)
            refine HUP.out.mono ?_
            rintro e w12 ⟨rfl, h12⟩
            have HOP := Lib.hid h12.open_
            clear h12 HUP
            go_wp2_with (fail)
            refine HOP.out.mono ?_
            rintro e w13 ⟨lb2, n13, rfl, h13⟩
            have HNW := Lib.hid h13.new
            clear h13 HOP
            go_wp2_with (fail)
            refine HNW.out.mono ?_
            rintro e w14 ⟨pb2, rfl, h14⟩
            have HGE := Lib.hid h14.get
            clear h14 HNW
            go_wp2_with (fail)
            refine HGE.out.mono ?_
            rintro e w15 ⟨x, sv, rfl, hrd, hx, hb⟩
            obtain ⟨xn, xl, xk, xh, xs⟩ := x
            unfold ShV
            simp only at hrd hx ⊢
            have HB : ∀ o : Obj, Hid (Below w.heap.size w (w15.alloc o)) := fun o => by
              have h1 : Below fb w w15 := HBW6.out.trans (hb.mono (Nat.le_of_lt HLT6.out))
              rw [hfb]
              exact h1.alloc (Nat.le_trans (by rw [← hfb]; exact Nat.le_refl _) h1.size) o
            clear HGE hb
            rcases hx with ⟨hx, hl⟩ | hx | hx
            · subst hx
              subst hl
              obtain ⟨sa, sc, rfl⟩ := hrd.form
              clear hrd
              go_wp2_with (fail)
              go_ret
              exact ⟨rfl, (HB _).out⟩
            · subst hx
              rcases hrd with ⟨_, h0⟩ | ⟨rb, cp, hsv, h1, h2, h3, h4⟩
              · exact absurd h0 (by simp)
              · replace hsv : sv = .slice (some ⟨rb, 0, none⟩) 1 cp := hsv
                subst hsv
                have hc : w15.cell? ⟨rb, 0, none⟩ = some (.string last) := h4 0 last rfl
                have heq := beq_toList last
                replace h1 : 1 ≤ cp := h1
                clear h4
                go_wp2_with (fail)
                go_ret
                exact ⟨rfl, (HB _).out⟩
            · subst hx
              rcases hrd with ⟨_, h0⟩ | ⟨rb, cp, hsv, h1, h2, h3, h4⟩
              · exact absurd h0 (by simp)
              · replace hsv : sv = .slice (some ⟨rb, 0, none⟩) 1 cp := hsv
                subst hsv
                have hc : w15.cell? ⟨rb, 0, none⟩ = some (.string t) := h4 0 t rfl
                have heq := beq_toList t
                replace h1 : 1 ≤ cp := h1
                clear h4
                go_wp2_with (fail)
                all_goals (go_ret; exact ⟨rfl, (HB _).out⟩)
        · skip
          have hy1 : yb.size = 1 := hys.out
          have hUz : (s : ByteArray).size ≤ 200 := by
            omega
          have HT : Hid ((s ++ yb : ByteArray).size ≤ 300) := by
            show _ ≤ _
            rw [ByteArray.size_append]
            omega
          have hcat : (s : ByteArray).size + yb.size ≤ 9223372036854775807 := by omega
          clear hy1 hUz
          have HA := Lib.hid (hPP.append hg2)
          go_wp2_with (fail)
          generalize (s ++ yb : ByteArray) = t at *
          clear hyb hys hbig hss hsc hcat
          refine HA.out.mono ?_
          rintro e w4 ⟨rfl, l4⟩
          have HPU := Lib.hid (hPP.put hg2 HF1.out l4 (below_one w4 (.cells #[.string t] 9)) HT.out (reads_one w4 t 9) (Nat.le_refl _))
          clear HA l4
          go_wp2_with (fail)
          refine HPU.out.mono ?_
          rintro e w5 ⟨rfl, d, q5, hd, l5, p1, p2, p3⟩
          have HWR := Lib.hid (hPP.write hg2 HF1.out hd l5 p1 p2 p3 HT.out)
          clear HPU l5 hd p1 p2 p3
          go_wp2_with (fail)
          refine HWR.out.mono ?_
          rintro e w6 (⟨rfl, h6⟩ | ⟨rfl, h6⟩)
          · have H6 := Lib.hid h6
            clear h6 HWR hPP
            go_wp2_with (fail)
            go_roundw
            case rel => exact ⟨k + 1, t, t, by omega, by omega, rfl, rfl, by go_num, some (k, t), rfl, H6.out⟩
            case measure => simp [intOf]; omega
          · have HZ : Hid (End7 f1 wb b last t w6) := by rw [HV.out]; exact h6
            clear h6 HWR hPP
            go_wp2_with (fail)
            have HE7 := Lib.hid HZ.out.plan
            clear HZ
            refine HE7.out.mono ?_
            rintro e w10 ⟨rfl, h10⟩
            have HCR := Lib.hid (h10.crash ⟨0, fke, fto, fby, 0⟩ ⟨by show (-9223372036854775808 : Int) ≤ 0; decide, by show (0 : Int) ≤ 9223372036854775807; decide, HFO.out.keep1, HFO.out.keep2, HFO.out.torn1, HFO.out.torn2, HFO.out.bytes1, HFO.out.bytes2, by show (-9223372036854775808 : Int) ≤ 0; decide, by show (0 : Int) ≤ 9223372036854775807; decide⟩)
            have k10 := HK6.out.same (h10.base.block fb HLT6.out)
            have r1 : w10.cell? ⟨fb, 1, none⟩ = some (.int .u64 fke) := k10.cell 1
            have r2 : w10.cell? ⟨fb, 2, none⟩ = some (.int .i64 fto) := k10.cell 2
            have r3 : w10.cell? ⟨fb, 3, none⟩ = some (.int .i64 fby) := k10.cell 3
            clear h10 k10 HE7
            go_wp2_with (fail)
            refine HCR.out.mono ?_
            rintro e w11 ⟨rfl, h11⟩
            have HUP := Lib.hid h11.up
            clear h11 HCR r1 r2 r3
            go_wp2_with (fail)
            refine HUP.out.mono ?_
            rintro e w12 ⟨rfl, h12⟩
            have HOP := Lib.hid h12.open_
            clear h12 HUP
            go_wp2_with (fail)
            refine HOP.out.mono ?_
            rintro e w13 ⟨lb2, n13, rfl, h13⟩
            have HNW := Lib.hid h13.new
            clear h13 HOP
            go_wp2_with (fail)
            refine HNW.out.mono ?_
            rintro e w14 ⟨pb2, rfl, h14⟩
            have HGE := Lib.hid h14.get
            clear h14 HNW
            go_wp2_with (fail)
            refine HGE.out.mono ?_
            rintro e w15 ⟨x, sv, rfl, hrd, hx, hb⟩
            obtain ⟨xn, xl, xk, xh, xs⟩ := x
            unfold ShV
            simp only at hrd hx ⊢
            have HB : ∀ o : Obj, Hid (Below w.heap.size w (w15.alloc o)) := fun o => by
              have h1 : Below fb w w15 := HBW6.out.trans (hb.mono (Nat.le_of_lt HLT6.out))
              rw [hfb]
              exact h1.alloc (Nat.le_trans (by rw [← hfb]; exact Nat.le_refl _) h1.size) o
            clear HGE hb
            rcases hx with ⟨hx, hl⟩ | hx | hx
            · subst hx
              subst hl
              obtain ⟨sa, sc, rfl⟩ := hrd.form
              clear hrd
              go_wp2_with (fail)
              go_ret
              exact ⟨rfl, (HB _).out⟩
            · subst hx
              rcases hrd with ⟨_, h0⟩ | ⟨rb, cp, hsv, h1, h2, h3, h4⟩
              · exact absurd h0 (by simp)
              · replace hsv : sv = .slice (some ⟨rb, 0, none⟩) 1 cp := hsv
                subst hsv
                have hc : w15.cell? ⟨rb, 0, none⟩ = some (.string last) := h4 0 last rfl
                have heq := beq_toList last
                replace h1 : 1 ≤ cp := h1
                clear h4
                go_wp2_with (fail)
                go_ret
                exact ⟨rfl, (HB _).out⟩
            · subst hx
              rcases hrd with ⟨_, h0⟩ | ⟨rb, cp, hsv, h1, h2, h3, h4⟩
              · exact absurd h0 (by simp)
              · replace hsv : sv = .slice (some ⟨rb, 0, none⟩) 1 cp := hsv
                subst hsv
                have hc : w15.cell? ⟨rb, 0, none⟩ = some (.string t) := h4 0 t rfl
                have heq := beq_toList t
                replace h1 : 1 ≤ cp := h1
                clear h4
                go_wp2_with (fail)
                all_goals (go_ret; exact ⟨rfl, (HB _).out⟩)
      · have HZ : Hid (End7 f1 wb b last next wr) := by
          obtain ⟨v, hv, m, g, q, pg, hP⟩ := hR.out
          rw [hv]
          exact hP.end_ hk2 next
        have hng : k < len → ¬ k < 12 := fun h1 h2 => hgo ⟨h1, h2⟩
        clear hR hgo
        by_cases hl : k < len
        · have h12 : k = 12 := by have := hng hl; omega
          clear hng
          subst h12
          go_wp2_with (fail)
          have HE7 := Lib.hid HZ.out.plan
          clear HZ
          refine HE7.out.mono ?_
          rintro e w10 ⟨rfl, h10⟩
          have HCR := Lib.hid (h10.crash ⟨0, fke, fto, fby, 0⟩ ⟨by show (-9223372036854775808 : Int) ≤ 0; decide, by show (0 : Int) ≤ 9223372036854775807; decide, HFO.out.keep1, HFO.out.keep2, HFO.out.torn1, HFO.out.torn2, HFO.out.bytes1, HFO.out.bytes2, by show (-9223372036854775808 : Int) ≤ 0; decide, by show (0 : Int) ≤ 9223372036854775807; decide⟩)
          have k10 := HK6.out.same (h10.base.block fb HLT6.out)
          have r1 : w10.cell? ⟨fb, 1, none⟩ = some (.int .u64 fke) := k10.cell 1
          have r2 : w10.cell? ⟨fb, 2, none⟩ = some (.int .i64 fto) := k10.cell 2
          have r3 : w10.cell? ⟨fb, 3, none⟩ = some (.int .i64 fby) := k10.cell 3
          clear h10 k10 HE7
          go_wp2_with (fail)
          refine HCR.out.mono ?_
          rintro e w11 ⟨rfl, h11⟩
          have HUP := Lib.hid h11.up
          clear h11 HCR r1 r2 r3
          go_wp2_with (fail)
          refine HUP.out.mono ?_
          rintro e w12 ⟨rfl, h12⟩
          have HOP := Lib.hid h12.open_
          clear h12 HUP
          go_wp2_with (fail)
          refine HOP.out.mono ?_
          rintro e w13 ⟨lb2, n13, rfl, h13⟩
          have HNW := Lib.hid h13.new
          clear h13 HOP
          go_wp2_with (fail)
          refine HNW.out.mono ?_
          rintro e w14 ⟨pb2, rfl, h14⟩
          have HGE := Lib.hid h14.get
          clear h14 HNW
          go_wp2_with (fail)
          refine HGE.out.mono ?_
          rintro e w15 ⟨x, sv, rfl, hrd, hx, hb⟩
          obtain ⟨xn, xl, xk, xh, xs⟩ := x
          unfold ShV
          simp only at hrd hx ⊢
          have HB : ∀ o : Obj, Hid (Below w.heap.size w (w15.alloc o)) := fun o => by
            have h1 : Below fb w w15 := HBW6.out.trans (hb.mono (Nat.le_of_lt HLT6.out))
            rw [hfb]
            exact h1.alloc (Nat.le_trans (by rw [← hfb]; exact Nat.le_refl _) h1.size) o
          clear HGE hb
          rcases hx with ⟨hx, hl⟩ | hx | hx
          · subst hx
            subst hl
            obtain ⟨sa, sc, rfl⟩ := hrd.form
            clear hrd
            go_wp2_with (fail)
            go_ret
            exact ⟨rfl, (HB _).out⟩
          · subst hx
            rcases hrd with ⟨_, h0⟩ | ⟨rb, cp, hsv, h1, h2, h3, h4⟩
            · exact absurd h0 (by simp)
            · replace hsv : sv = .slice (some ⟨rb, 0, none⟩) 1 cp := hsv
              subst hsv
              have hc : w15.cell? ⟨rb, 0, none⟩ = some (.string last) := h4 0 last rfl
              have heq := beq_toList last
              replace h1 : 1 ≤ cp := h1
              clear h4
              go_wp2_with (fail)
              go_ret
              exact ⟨rfl, (HB _).out⟩
          · subst hx
            rcases hrd with ⟨_, h0⟩ | ⟨rb, cp, hsv, h1, h2, h3, h4⟩
            · exact absurd h0 (by simp)
            · replace hsv : sv = .slice (some ⟨rb, 0, none⟩) 1 cp := hsv
              subst hsv
              have hc : w15.cell? ⟨rb, 0, none⟩ = some (.string next) := h4 0 next rfl
              have heq := beq_toList next
              replace h1 : 1 ≤ cp := h1
              clear h4
              go_wp2_with (fail)
              all_goals (go_ret; exact ⟨rfl, (HB _).out⟩)
        · clear hng
          go_wp2_with (fail)
          have HE7 := Lib.hid HZ.out.plan
          clear HZ
          refine HE7.out.mono ?_
          rintro e w10 ⟨rfl, h10⟩
          have HCR := Lib.hid (h10.crash ⟨0, fke, fto, fby, 0⟩ ⟨by show (-9223372036854775808 : Int) ≤ 0; decide, by show (0 : Int) ≤ 9223372036854775807; decide, HFO.out.keep1, HFO.out.keep2, HFO.out.torn1, HFO.out.torn2, HFO.out.bytes1, HFO.out.bytes2, by show (-9223372036854775808 : Int) ≤ 0; decide, by show (0 : Int) ≤ 9223372036854775807; decide⟩)
          have k10 := HK6.out.same (h10.base.block fb HLT6.out)
          have r1 : w10.cell? ⟨fb, 1, none⟩ = some (.int .u64 fke) := k10.cell 1
          have r2 : w10.cell? ⟨fb, 2, none⟩ = some (.int .i64 fto) := k10.cell 2
          have r3 : w10.cell? ⟨fb, 3, none⟩ = some (.int .i64 fby) := k10.cell 3
          clear h10 k10 HE7
          go_wp2_with (fail)
          refine HCR.out.mono ?_
          rintro e w11 ⟨rfl, h11⟩
          have HUP := Lib.hid h11.up
          clear h11 HCR r1 r2 r3
          go_wp2_with (fail)
          refine HUP.out.mono ?_
          rintro e w12 ⟨rfl, h12⟩
          have HOP := Lib.hid h12.open_
          clear h12 HUP
          go_wp2_with (fail)
          refine HOP.out.mono ?_
          rintro e w13 ⟨lb2, n13, rfl, h13⟩
          have HNW := Lib.hid h13.new
          clear h13 HOP
          go_wp2_with (fail)
          refine HNW.out.mono ?_
          rintro e w14 ⟨pb2, rfl, h14⟩
          have HGE := Lib.hid h14.get
          clear h14 HNW
          go_wp2_with (fail)
          refine HGE.out.mono ?_
          rintro e w15 ⟨x, sv, rfl, hrd, hx, hb⟩
          obtain ⟨xn, xl, xk, xh, xs⟩ := x
          unfold ShV
          simp only at hrd hx ⊢
          have HB : ∀ o : Obj, Hid (Below w.heap.size w (w15.alloc o)) := fun o => by
            have h1 : Below fb w w15 := HBW6.out.trans (hb.mono (Nat.le_of_lt HLT6.out))
            rw [hfb]
            exact h1.alloc (Nat.le_trans (by rw [← hfb]; exact Nat.le_refl _) h1.size) o
          clear HGE hb
          rcases hx with ⟨hx, hl⟩ | hx | hx
          · subst hx
            subst hl
            obtain ⟨sa, sc, rfl⟩ := hrd.form
            clear hrd
            go_wp2_with (fail)
            go_ret
            exact ⟨rfl, (HB _).out⟩
          · subst hx
            rcases hrd with ⟨_, h0⟩ | ⟨rb, cp, hsv, h1, h2, h3, h4⟩
            · exact absurd h0 (by simp)
            · replace hsv : sv = .slice (some ⟨rb, 0, none⟩) 1 cp := hsv
              subst hsv
              have hc : w15.cell? ⟨rb, 0, none⟩ = some (.string last) := h4 0 last rfl
              have heq := beq_toList last
              replace h1 : 1 ≤ cp := h1
              clear h4
              go_wp2_with (fail)
              go_ret
              exact ⟨rfl, (HB _).out⟩
          · subst hx
            rcases hrd with ⟨_, h0⟩ | ⟨rb, cp, hsv, h1, h2, h3, h4⟩
            · exact absurd h0 (by simp)
            · replace hsv : sv = .slice (some ⟨rb, 0, none⟩) 1 cp := hsv
              subst hsv
              have hc : w15.cell? ⟨rb, 0, none⟩ = some (.string next) := h4 0 next rfl
              have heq := beq_toList next
              replace h1 : 1 ≤ cp := h1
              clear h4
              go_wp2_with (fail)
              all_goals (go_ret; exact ⟨rfl, (HB _).out⟩)
end Go.Proofs.YtnghgkaoopcglaaGreat
