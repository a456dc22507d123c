/-
  The walk of rec.Encode, all ways; how records come in.
-/
import Derived.Test.YtpnndlahfllbhaaGreatUN4
import Derived.Test.YtpnndlahfllbhaaGreatUN7
namespace Go.Proofs.YtpnndlahfllbhaaGreat
open Go.ChangeShapes Go.WideShapes Go.ChangeAt Go.RowKit
section
attribute [local go_sem ↓] Go.wp_at_zero Go.wp_at_succ
variable {kind tx : Int} {prev next page : Nat} {k a : Int} {s d : ByteArray} {undo index : Int} {key : ByteArray} {rp : Nat} {rs : Int} {live : Bool} {txs : List Ts} {dirty : List (Nat × Nat)}
set_option maxRecDepth 100000 in
set_option maxHeartbeats 4000000 in
theorem recEncode_no (ta da : Option Addr) (tc dc : Nat) (w : World) (hT : RdC 4 tsC w (.slice ta txs.length tc) txs) (hlt : txs.length ≤ maxLen) (hld : dirty.length ≤ maxLen) (hr : ¬ (⟨kind, tx, prev, next, page, ⟨k, a, s, d⟩, undo, index, ⟨key, rp, rs⟩, live, txs, dirty⟩ : Rc).ok) :
    Calls Tryz.prog 23 #[.agg #[.int .i64 kind, .int .i64 tx, .int .u64 (prev : Int), .int .u64 (next : Int), .int .u32 (page : Int), .int .i64 k, .int .i64 a, .string s, .string d, .int .i64 undo, .int .i64 index, .string key, .int .u32 (rp : Int), .int .i64 rs, .bool live, .slice ta txs.length tc, .slice da dirty.length dc]] w fun e w' => e = .returned (.tuple #[.string ⟨#[]⟩, .int .i64 40]) ∧ Below w.heap.size w w' := by
  have HCK := Lib.hid (recCheck_w (kind := kind) (tx := tx) (prev := prev) (next := next) (page := page) (k := k) (a := a) (s := s) (d := d) (undo := undo) (index := index) (key := key) (rp := rp) (rs := rs) (live := live) (txs := txs) (dirty := dirty) ta da tc dc (w.alloc (.cells #[.int .i64 kind, .int .i64 tx, .int .u64 (prev : Int), .int .u64 (next : Int), .int .u32 (page : Int), .int .i64 k, .int .i64 a, .string s, .string d, .int .i64 undo, .int .i64 index, .string key, .int .u32 (rp : Int), .int .i64 rs, .bool live, .slice ta txs.length tc, .slice da dirty.length dc] 63)) (hT.below ((Below.refl _ _).alloc (Nat.le_refl _) _)) hlt hld)
  rw [if_neg hr] at HCK
  clear hr hT hlt hld
  go_enter Tryz.func23, Tryz.ntmps23
  go_wp2_with (fail)
  refine HCK.out.mono ?_
  rintro e w2 ⟨rfl, hb2⟩
  have HB : Hid (Below w.heap.size w w2) := ((Below.refl _ _).alloc (Nat.le_refl _) _).trans (hb2.mono (by simp))
  clear hb2 HCK
  go_wp2
  refine bodyPost_ret (v := .tuple #[.string ⟨#[]⟩, .int .i64 40]) (by simp [results, Tryz.results23, go_sem]) rfl ?_
  exact ⟨rfl, HB.out⟩
end
theorem recEncode_c {r : Rc} {tv dv : Value} {w : World} (h : RecAt w r tv dv) :
    Calls Tryz.prog 23 #[RecV r tv dv] w fun e w' => e = .returned (.tuple #[.string r.encE.1, .int .i64 r.encE.2]) ∧ Below w.heap.size w w' := by
  obtain ⟨ta, tc, rfl⟩ := h.txs.form
  obtain ⟨da, dc, rfl⟩ := h.dirty.form
  obtain ⟨kind, tx, prev, next, page, ⟨k, a, s, d⟩, undo, index, ⟨key, rp, rs⟩, live, txs, dirty⟩ := r
  by_cases hr : (⟨kind, tx, prev, next, page, ⟨k, a, s, d⟩, undo, index, ⟨key, rp, rs⟩, live, txs, dirty⟩ : Rc).ok
  · have e : (⟨kind, tx, prev, next, page, ⟨k, a, s, d⟩, undo, index, ⟨key, rp, rs⟩, live, txs, dirty⟩ : Rc).encE = ((⟨kind, tx, prev, next, page, ⟨k, a, s, d⟩, undo, index, ⟨key, rp, rs⟩, live, txs, dirty⟩ : Rc).enc, 0) := by unfold Rc.encE; rw [if_pos hr]
    rw [e]
    obtain ⟨k1, k2, t1, t2⟩ := hr.a1
    simp only at k1 k2 t1 t2
    obtain ⟨kn, rfl⟩ : ∃ n : Nat, kind = (n : Int) := ⟨kind.toNat, by omega⟩
    obtain ⟨tn, rfl⟩ : ∃ n : Nat, tx = (n : Int) := ⟨tx.toNat, by omega⟩
    exact recEncode_w ta da tc dc w h.txs h.dirty hr h.mild
  · have e : (⟨kind, tx, prev, next, page, ⟨k, a, s, d⟩, undo, index, ⟨key, rp, rs⟩, live, txs, dirty⟩ : Rc).encE = (⟨#[]⟩, 40) := by unfold Rc.encE; rw [if_neg hr]
    rw [e]
    exact recEncode_no ta da tc dc w h.txs h.mild.ltxs h.mild.ldirty hr

section
variable {H : Type} {enc : TypeId × Value → H} {W : World} {base : Nat} {spare : Nat → Bool} {held : Bool}

theorem op_cells {fuel : Nat} {cs : List Value} {x : DataW H × List MemPlace} (hf : DataW.trod enc Tryz.prog W base spare held fuel 57 cs = some x) :
    ∃ o : PgOp, cs = [.int .i64 o.kind, .int .i64 o.at_, .string o.s, .string o.old] ∧ (-9223372036854775808 ≤ o.kind ∧ o.kind ≤ 9223372036854775807) ∧ (-9223372036854775808 ≤ o.at_ ∧ o.at_ ≤ 9223372036854775807) ∧ o.s.size ≤ maxLen ∧ o.old.size ≤ maxLen := by
  obtain ⟨xs, m, _, _, hcl, hxl, hx⟩ := DataW.trod_struct Tryz.underlying57 hf
  have hC : Tryz.prog.cellsOf 57 = 4 := by kernel_rfl
  rw [hC] at hcl
  obtain ⟨c0, c1, c2, c3, rfl⟩ := list4 cs hcl
  have hs0 : Tryz.prog.cellsOf 3 = 1 := by kernel_rfl
  have hs1 : Tryz.prog.cellsOf 9 = 1 := by kernel_rfl
  have hl : xs.length = 4 := hxl
  obtain ⟨y0, g0⟩ : ∃ y, xs[0]? = some y := ⟨_, List.getElem?_eq_getElem (by omega)⟩
  have h0 := hx 0 _ rfl
  rw [g0] at h0
  obtain ⟨y1, g1⟩ : ∃ y, xs[1]? = some y := ⟨_, List.getElem?_eq_getElem (by omega)⟩
  have h1 := hx 1 _ rfl
  rw [g1] at h1
  obtain ⟨y2, g2⟩ : ∃ y, xs[2]? = some y := ⟨_, List.getElem?_eq_getElem (by omega)⟩
  have h2 := hx 2 _ rfl
  rw [g2] at h2
  obtain ⟨y3, g3⟩ : ∃ y, xs[3]? = some y := ⟨_, List.getElem?_eq_getElem (by omega)⟩
  have h3 := hx 3 _ rfl
  rw [g3] at h3
  clear hx hf
  obtain ⟨x0, e0, _, w0⟩ := DataW.trod_int Tryz.underlying3 h0
  simp [hs0] at e0
  subst e0
  obtain ⟨x1, e1, _, w1⟩ := DataW.trod_int Tryz.underlying3 h1
  simp [hs0] at e1
  subst e1
  obtain ⟨x2, e2, _, w2⟩ := DataW.trod_string Tryz.underlying9 h2
  simp [hs1] at e2
  subst e2
  obtain ⟨x3, e3, _, w3⟩ := DataW.trod_string Tryz.underlying9 h3
  simp [hs1] at e3
  subst e3
  exact ⟨⟨x0, x1, x2, x3⟩, rfl, bounds_i64 w0, bounds_i64 w1, w2, w3⟩

theorem rid_cells {fuel : Nat} {cs : List Value} {x : DataW H × List MemPlace} (hf : DataW.trod enc Tryz.prog W base spare held fuel 59 cs = some x) :
    ∃ (p : Nat) (s : Int), cs = [.int .u32 (p : Int), .int .i64 s] ∧ p < 4294967296 ∧ (-9223372036854775808 ≤ s ∧ s ≤ 9223372036854775807) := by
  obtain ⟨xs, m, _, _, hcl, hxl, hx⟩ := DataW.trod_struct Tryz.underlying59 hf
  have hC : Tryz.prog.cellsOf 59 = 2 := by kernel_rfl
  rw [hC] at hcl
  obtain ⟨c0, c1, rfl⟩ := list2 cs hcl
  have hs0 : Tryz.prog.cellsOf 48 = 1 := by kernel_rfl
  have hs1 : Tryz.prog.cellsOf 3 = 1 := by kernel_rfl
  have hl : xs.length = 2 := hxl
  obtain ⟨y0, g0⟩ : ∃ y, xs[0]? = some y := ⟨_, List.getElem?_eq_getElem (by omega)⟩
  have h0 := hx 0 _ rfl
  rw [g0] at h0
  obtain ⟨y1, g1⟩ : ∃ y, xs[1]? = some y := ⟨_, List.getElem?_eq_getElem (by omega)⟩
  have h1 := hx 1 _ rfl
  rw [g1] at h1
  clear hx hf
  obtain ⟨x0, e0, _, w0⟩ := DataW.trod_int Tryz.underlying48 h0
  simp [hs0] at e0
  subst e0
  obtain ⟨x1, e1, _, w1⟩ := DataW.trod_int Tryz.underlying3 h1
  simp [hs1] at e1
  subst e1
  have b0 := bounds_u32 w0
  refine ⟨x0.toNat, x1, ?_, by omega, bounds_i64 w1⟩
  rw [Int.toNat_of_nonneg b0.1]

theorem en_cells {fuel : Nat} {cs : List Value} {x : DataW H × List MemPlace} (hf : DataW.trod enc Tryz.prog W base spare held fuel 61 cs = some x) :
    ∃ n : En, cs = [.string n.key, .int .u32 (n.page : Int), .int .i64 n.slot] ∧ n.key.size ≤ maxLen ∧ n.page < 4294967296 ∧ (-9223372036854775808 ≤ n.slot ∧ n.slot ≤ 9223372036854775807) := by
  obtain ⟨xs, m, _, _, hcl, hxl, hx⟩ := DataW.trod_struct Tryz.underlying61 hf
  have hC : Tryz.prog.cellsOf 61 = 3 := by kernel_rfl
  rw [hC] at hcl
  obtain ⟨c0, c1, c2, rfl⟩ := list3 cs hcl
  have hs0 : Tryz.prog.cellsOf 9 = 1 := by kernel_rfl
  have hs1 : Tryz.prog.cellsOf 59 = 2 := by kernel_rfl
  have hl : xs.length = 2 := hxl
  obtain ⟨y0, g0⟩ : ∃ y, xs[0]? = some y := ⟨_, List.getElem?_eq_getElem (by omega)⟩
  have h0 := hx 0 _ rfl
  rw [g0] at h0
  obtain ⟨y1, g1⟩ : ∃ y, xs[1]? = some y := ⟨_, List.getElem?_eq_getElem (by omega)⟩
  have h1 := hx 1 _ rfl
  rw [g1] at h1
  clear hx hf
  obtain ⟨x0, e0, _, w0⟩ := DataW.trod_string Tryz.underlying9 h0
  simp [hs0] at e0
  subst e0
  obtain ⟨x1, x2, e1, b1, b2⟩ := rid_cells h1
  simp [hs1] at e1
  obtain ⟨rfl, rfl⟩ := e1
  exact ⟨⟨x0, x1, x2⟩, rfl, w0, b1, b2⟩

theorem rec_cells {fuel : Nat} {cs : List Value} {x : DataW H × List MemPlace} (hf : DataW.trod enc Tryz.prog W base spare held fuel 63 cs = some x) :
    ∃ q : Rc × Value × Value, cs = recC q.1 q.2.1 q.2.2 ∧ RecAt W q.1 q.2.1 q.2.2 := by
  obtain ⟨xs, m, _, _, hcl, hxl, hx⟩ := DataW.trod_struct Tryz.underlying63 hf
  have hC : Tryz.prog.cellsOf 63 = 17 := by kernel_rfl
  rw [hC] at hcl
  obtain ⟨c0, c1, c2, c3, c4, c5, c6, c7, c8, c9, c10, c11, c12, c13, c14, c15, c16, rfl⟩ := list17 cs hcl
  have hs0 : Tryz.prog.cellsOf 3 = 1 := by kernel_rfl
  have hs1 : Tryz.prog.cellsOf 31 = 1 := by kernel_rfl
  have hs2 : Tryz.prog.cellsOf 48 = 1 := by kernel_rfl
  have hs3 : Tryz.prog.cellsOf 57 = 4 := by kernel_rfl
  have hs4 : Tryz.prog.cellsOf 61 = 3 := by kernel_rfl
  have hs5 : Tryz.prog.cellsOf 4 = 1 := by kernel_rfl
  have hs6 : Tryz.prog.cellsOf 28 = 1 := by kernel_rfl
  have hs7 : Tryz.prog.cellsOf 29 = 1 := by kernel_rfl
  have hl : xs.length = 12 := hxl
  obtain ⟨y0, g0⟩ : ∃ y, xs[0]? = some y := ⟨_, List.getElem?_eq_getElem (by omega)⟩
  have h0 := hx 0 _ rfl
  rw [g0] at h0
  obtain ⟨y1, g1⟩ : ∃ y, xs[1]? = some y := ⟨_, List.getElem?_eq_getElem (by omega)⟩
  have h1 := hx 1 _ rfl
  rw [g1] at h1
  obtain ⟨y2, g2⟩ : ∃ y, xs[2]? = some y := ⟨_, List.getElem?_eq_getElem (by omega)⟩
  have h2 := hx 2 _ rfl
  rw [g2] at h2
  obtain ⟨y3, g3⟩ : ∃ y, xs[3]? = some y := ⟨_, List.getElem?_eq_getElem (by omega)⟩
  have h3 := hx 3 _ rfl
  rw [g3] at h3
  obtain ⟨y4, g4⟩ : ∃ y, xs[4]? = some y := ⟨_, List.getElem?_eq_getElem (by omega)⟩
  have h4 := hx 4 _ rfl
  rw [g4] at h4
  obtain ⟨y5, g5⟩ : ∃ y, xs[5]? = some y := ⟨_, List.getElem?_eq_getElem (by omega)⟩
  have h5 := hx 5 _ rfl
  rw [g5] at h5
  obtain ⟨y6, g6⟩ : ∃ y, xs[6]? = some y := ⟨_, List.getElem?_eq_getElem (by omega)⟩
  have h6 := hx 6 _ rfl
  rw [g6] at h6
  obtain ⟨y7, g7⟩ : ∃ y, xs[7]? = some y := ⟨_, List.getElem?_eq_getElem (by omega)⟩
  have h7 := hx 7 _ rfl
  rw [g7] at h7
  obtain ⟨y8, g8⟩ : ∃ y, xs[8]? = some y := ⟨_, List.getElem?_eq_getElem (by omega)⟩
  have h8 := hx 8 _ rfl
  rw [g8] at h8
  obtain ⟨y9, g9⟩ : ∃ y, xs[9]? = some y := ⟨_, List.getElem?_eq_getElem (by omega)⟩
  have h9 := hx 9 _ rfl
  rw [g9] at h9
  obtain ⟨y10, g10⟩ : ∃ y, xs[10]? = some y := ⟨_, List.getElem?_eq_getElem (by omega)⟩
  have h10 := hx 10 _ rfl
  rw [g10] at h10
  obtain ⟨y11, g11⟩ : ∃ y, xs[11]? = some y := ⟨_, List.getElem?_eq_getElem (by omega)⟩
  have h11 := hx 11 _ rfl
  rw [g11] at h11
  clear hx hf
  obtain ⟨x0, e0, _, w0⟩ := DataW.trod_int Tryz.underlying3 h0
  simp [hs0] at e0
  subst e0
  obtain ⟨x1, e1, _, w1⟩ := DataW.trod_int Tryz.underlying3 h1
  simp [hs0] at e1
  subst e1
  obtain ⟨x2, e2, _, w2⟩ := DataW.trod_int Tryz.underlying31 h2
  simp [hs1] at e2
  subst e2
  obtain ⟨x3, e3, _, w3⟩ := DataW.trod_int Tryz.underlying31 h3
  simp [hs1] at e3
  subst e3
  obtain ⟨x4, e4, _, w4⟩ := DataW.trod_int Tryz.underlying48 h4
  simp [hs2] at e4
  subst e4
  obtain ⟨x5, e5, p1, p2, p3, p4⟩ := op_cells h5
  obtain ⟨x6, e6, _, w6⟩ := DataW.trod_int Tryz.underlying3 h6
  simp [hs0] at e6
  subst e6
  obtain ⟨x7, e7, _, w7⟩ := DataW.trod_int Tryz.underlying3 h7
  simp [hs0] at e7
  subst e7
  obtain ⟨x8, e8, n1, n2, n3⟩ := en_cells h8
  obtain ⟨x9, e9, _⟩ := DataW.trod_bool Tryz.underlying4 h9
  simp [hs5] at e9
  subst e9
  obtain ⟨v10, x10, e10, r10, l10, w10⟩ := rdc_of (ok := fun t : Ts => (-9223372036854775808 ≤ t.tx ∧ t.tx ≤ 9223372036854775807) ∧ (-9223372036854775808 ≤ t.state ∧ t.state ≤ 9223372036854775807) ∧ t.last < 18446744073709551616 ∧ t.next < 18446744073709551616) (f := tsC) (size := 4) (fun _ => rfl) (by decide) Tryz.underlying28 (by kernel_rfl) ts_cells h10
  obtain ⟨v11, x11, e11, r11, l11, w11⟩ := rdc_of (ok := fun t : Nat × Nat => t.1 < 4294967296 ∧ t.2 < 18446744073709551616) (f := dpC) (size := 2) (fun _ => rfl) (by decide) Tryz.underlying29 (by kernel_rfl) dp_cells h11
  simp [hs3, hs4, hs6, hs7] at e5 e8 e10 e11
  obtain ⟨rfl, rfl, rfl, rfl⟩ := e5
  obtain ⟨rfl, rfl, rfl⟩ := e8
  subst e10 e11
  have b2 := bounds_u64 w2
  have b3 := bounds_u64 w3
  have b4 := bounds_u32 w4
  refine ⟨(⟨x0, x1, x2.toNat, x3.toNat, x4.toNat, x5, x6, x7, x8, x9, x10, x11⟩, c15, c16), ?_, r10, r11, ?_⟩
  · simp only [recC, Int.toNat_of_nonneg b2.1, Int.toNat_of_nonneg b3.1, Int.toNat_of_nonneg b4.1]
  · refine ⟨bounds_i64 w0, bounds_i64 w1, by simp only; omega, by simp only; omega, by simp only; omega, p1, p2, p3, p4, bounds_i64 w6, bounds_i64 w7, n1, n2, n3, w10, w11, l10, l11⟩

/-- what a record in a slice of records holds -/
def recF (q : Rc × Value × Value) : List Value := recC q.1 q.2.1 q.2.2
def IsRecs (w : World) (v : Value) (l : List (Rc × Value × Value)) : Prop := RdC 17 recF w v l ∧ l.length ≤ maxLen ∧ ∀ q ∈ l, RecAt w q.1 q.2.1 q.2.2
theorem IsRecs.below {w w' : World} {v : Value} {l : List (Rc × Value × Value)} (h : IsRecs w v l) (hb : Below w.heap.size w w') : IsRecs w' v l := ⟨h.1.below hb, h.2.1, fun q hq => (h.2.2 q hq).below hb⟩
theorem recs_of {v : Value} {d : DataW H} {p : List MemPlace} (h : DataW.Trod enc Tryz.prog W 0 (fun _ => true) true 22 v d p) (h1 : v.cells = #[v]) : ∃ l, IsRecs W v l := by
  obtain ⟨fuel, hf⟩ := h
  obtain ⟨v', l, e, hr, hl, hok⟩ := rdc_of (f := recF) (size := 17) (ok := fun q => RecAt W q.1 q.2.1 q.2.2) (fun _ => rfl) (by decide) Tryz.underlying22 (by kernel_rfl) rec_cells hf
  rw [h1] at e
  simp at e
  subst e
  exact ⟨l, hr, hl, hok⟩
end
end Go.Proofs.YtpnndlahfllbhaaGreat
