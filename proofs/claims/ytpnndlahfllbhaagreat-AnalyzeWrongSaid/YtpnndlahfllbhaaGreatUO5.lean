/-
  The walk of analyze's work.record. Printed by a program.
-/
import Derived.Test.YtpnndlahfllbhaaGreatUO4
namespace Go.Proofs.YtpnndlahfllbhaaGreat
open Go.RowKit
attribute [local go_sem ↓] Go.wp_at_zero Go.wp_at_succ

section
variable {w : World} {wb mb db : Nat} {a : An} {r : Rc} {ta da : Option Addr} {tc dc : Nat}
set_option maxRecDepth 100000 in
set_option maxHeartbeats 8000000 in
theorem anRecord_w (h : AnIn w wb mb db a) (hok : r.ok) (hm : r.mild) (n : Nat) (hT : RdC 4 tsC w (.slice ta r.txs.length tc) r.txs) (hD : RdC 2 dpC w (.slice da r.dirty.length dc) r.dirty)
    (hnt : ∀ k, (Value.slice ta r.txs.length tc).ownBlock = some k → k ≠ wb ∧ k ≠ mb ∧ k ≠ db) (hnd : ∀ k, (Value.slice da r.dirty.length dc).ownBlock = some k → k ≠ wb ∧ k ≠ mb ∧ k ≠ db) (hlen : a.txs.length ≤ 900000000 ∧ a.dirty.length ≤ 900000000) :
    Calls Tryz.prog 78 #[.pointer (some ⟨wb, 0, none⟩), .int .u64 (n : Int), RecV r (.slice ta r.txs.length tc) (.slice da r.dirty.length dc)] w fun e w' => e = .returned (.tuple #[]) ∧ AnIn w' wb mb db (a.step n r) ∧ Step (GA wb mb db) w w' := by
  have hok1 : r.ok1 := hok.a1
  unfold Rc.ok1 at hok1
  obtain ⟨kt, hkt⟩ : ∃ k : Nat, r.tx = (k : Int) := ⟨r.tx.toNat, by omega⟩
  have hkt2 : kt < 2147483648 := by omega
  have hpg : r.page < 4294967296 := hm.page
  have HKT := Lib.hid hkt
  have HOK := Lib.hid hok
  have HMI := Lib.hid hm
  have HT := Lib.hid hT
  have HD := Lib.hid hD
  have HNT := Lib.hid hnt
  have HND := Lib.hid hnd
  have HLEN := Lib.hid hlen
  have HLT := Lib.hid h.lt
  have HBX := Lib.hid (BoxAt.new w 63 (recC r (.slice ta r.txs.length tc) (.slice da r.dirty.length dc)).toArray)
  have HC0 : Hid (CkSt w wb mb db a (recC r (.slice ta r.txs.length tc) (.slice da r.dirty.length dc)).toArray (w.alloc (.cells (recC r (.slice ta r.txs.length tc) (.slice da r.dirty.length dc)).toArray 63))) := ⟨h.below HBX.out.base, Step.below HBX.out.base, HBX.out.blk⟩
  clear h hok hm hT hD hnt hnd hlen HBX hok1
  show Calls Tryz.prog 78 #[.pointer (some ⟨wb, 0, none⟩), .int .u64 (n : Int), .agg #[.int .i64 r.kind, .int .i64 r.tx, .int .u64 (r.prev : Int), .int .u64 (r.next : Int), .int .u32 (r.page : Int), .int .i64 r.op.kind, .int .i64 r.op.at_, .string r.op.s, .string r.op.old, .int .i64 r.undo, .int .i64 r.index, .string r.entry.key, .int .u32 (r.entry.page : Int), .int .i64 r.entry.slot, .bool r.live, .slice ta r.txs.length tc, .slice da r.dirty.length dc]] w _
  generalize hw1 : w.alloc (.cells (recC r (.slice ta r.txs.length tc) (.slice da r.dirty.length dc)).toArray 63) = w1 at *
  have hw1' : w.alloc (.cells #[.int .i64 r.kind, .int .i64 r.tx, .int .u64 (r.prev : Int), .int .u64 (r.next : Int), .int .u32 (r.page : Int), .int .i64 r.op.kind, .int .i64 r.op.at_, .string r.op.s, .string r.op.old, .int .i64 r.undo, .int .i64 r.index, .string r.entry.key, .int .u32 (r.entry.page : Int), .int .i64 r.entry.slot, .bool r.live, .slice ta r.txs.length tc, .slice da r.dirty.length dc] 63) = w1 := hw1
  clear hw1
  have hmx := max_cast a.most kt
  have HS := Lib.hid ((HC0.out.drewN 1).setMost HLT.out.1 (max a.most kt))
  have HM1 : Hid (({ a with most := max a.most kt } : An) = a.most_ r) := by show _ = _; unfold An.most_; rw [HKT.out]; rfl
  rw [HM1.out] at HS
  have CS : Hid (OneC ⟨wb, 5, none⟩ (.int .i64 (a.most : Int)) w1 ∧ OneC ⟨w.heap.size, 1, none⟩ (.int .i64 (kt : Int)) w1) := ⟨HC0.out.an.wk.cell 5, by rw [← hkt]; exact HC0.out.box.cell 1⟩
  clear hkt
  go_enter Tryz.func78, Tryz.ntmps78
  go_upto_region 1 with (fail)
  clear hw1'
  go_cut [] from 8 to 19 (fun wx => Hid (CkSt w wb mb db (a.most_ r) (recC r (.slice ta r.txs.length tc) (.slice da r.dirty.length dc)).toArray wx))
  case first => as_aux_lemma =>
    refine wp_region_late (S := fun W => OneC ⟨wb, 5, none⟩ (.int .i64 (a.most : Int)) W ∧ OneC ⟨w.heap.size, 1, none⟩ (.int .i64 (kt : Int)) W) (late := [12]) (by kernel_rfl) CS.out (fun hHeld => ?_)
    refine wpAnyL_move (i := 0) (v := ?_) (by rfl) (by kernel_rfl) (by kernel_rfl) (by kernel_rfl) (by rfl) (by exact fun _ _ _ h => h) (Or.inl ⟨by rfl, ?_⟩) (by assumption) ?_; rotate_left; · (intro w0; go_simp; try with_reducible rfl)
    try simp only [Act.put, List.setIfInBounds_toArray, List.set_cons_zero, List.set_cons_succ]
    refine wpAnyL_move (i := 1) (v := ?_) (by rfl) (by kernel_rfl) (by kernel_rfl) (by kernel_rfl) (by rfl) (by exact fun _ _ _ h => h) (Or.inl ⟨by rfl, ?_⟩) (by assumption) ?_; rotate_left; · (intro w0; go_simp; try with_reducible rfl)
    try simp only [Act.put, List.setIfInBounds_toArray, List.set_cons_zero, List.set_cons_succ]
    refine wpAnyL_move (i := 2) (v := ?_) (by rfl) (by kernel_rfl) (by kernel_rfl) (by kernel_rfl) (by rfl) (by exact fun _ _ _ h => h) (Or.inl ⟨by rfl, ?_⟩) (by assumption) ?_; rotate_left; · (intro w0; go_simp; try with_reducible rfl)
    try simp only [Act.put, List.setIfInBounds_toArray, List.set_cons_zero, List.set_cons_succ]
    refine wpAnyL_move (i := 3) (v := ?_) (by rfl) (by kernel_rfl) (by kernel_rfl) (by kernel_rfl) (by rfl) (by exact fun _ _ _ h => h) (Or.inl ⟨by rfl, ?_⟩) (by assumption) ?_; rotate_left; · (intro w0; go_simp; try with_reducible rfl)
    try simp only [Act.put, List.setIfInBounds_toArray, List.set_cons_zero, List.set_cons_succ]
    refine wpAnyL_move (i := 4) (v := ?_) (by rfl) (by kernel_rfl) (by kernel_rfl) (by kernel_rfl) (by rfl) (by exact fun _ _ _ h => h) (Or.inl ⟨by rfl, ?_⟩) (by assumption) ?_; rotate_left; · (intro w0; go_simp; try with_reducible rfl)
    try simp only [Act.put, List.setIfInBounds_toArray, List.set_cons_zero, List.set_cons_succ]
    refine wpAnyL_load (i := 5) (v := ?_) (by rfl) (by kernel_rfl) (by kernel_rfl) (by kernel_rfl) (by rfl) (by kernel_rfl) (by exact fun _ _ _ h => h) (Or.inl ⟨by rfl, ?_⟩) (by assumption) ?_; rotate_left; · (intro w0 hS0; obtain ⟨hS1, hS2⟩ := hS0; unfold OneC at hS1 hS2; go_simp; try with_reducible rfl)
    try simp only [Act.put, List.setIfInBounds_toArray, List.set_cons_zero, List.set_cons_succ]
    refine wpAnyL_move (i := 6) (v := ?_) (by rfl) (by kernel_rfl) (by kernel_rfl) (by kernel_rfl) (by rfl) (by exact fun _ _ _ h => h) (Or.inl ⟨by rfl, ?_⟩) (by assumption) ?_; rotate_left; · (intro w0; go_simp; try with_reducible rfl)
    try simp only [Act.put, List.setIfInBounds_toArray, List.set_cons_zero, List.set_cons_succ]
    refine wpAnyL_load (i := 7) (v := ?_) (by rfl) (by kernel_rfl) (by kernel_rfl) (by kernel_rfl) (by rfl) (by kernel_rfl) (by exact fun _ _ _ h => h) (Or.inl ⟨by rfl, ?_⟩) (by assumption) ?_; rotate_left; · (intro w0 hS0; obtain ⟨hS1, hS2⟩ := hS0; unfold OneC at hS1 hS2; go_simp; try with_reducible rfl)
    try simp only [Act.put, List.setIfInBounds_toArray, List.set_cons_zero, List.set_cons_succ]
    refine wpAnyL_move (i := 8) (v := ?_) (by rfl) (by kernel_rfl) (by kernel_rfl) (by kernel_rfl) (by rfl) (by exact fun _ _ _ h => h) (Or.inl ⟨by rfl, ?_⟩) (by assumption) ?_; rotate_left; · (intro w0; go_simp; try with_reducible rfl)
    try simp only [Act.put, List.setIfInBounds_toArray, List.set_cons_zero, List.set_cons_succ]
    refine wpAnyL_move (i := 9) (v := ?_) (by rfl) (by kernel_rfl) (by kernel_rfl) (by kernel_rfl) (by rfl) (by exact fun _ _ _ h => h) (Or.inl ⟨by rfl, ?_⟩) (by assumption) ?_; rotate_left; · (intro w0; go_simp; try with_reducible rfl)
    try simp only [Act.put, List.setIfInBounds_toArray, List.set_cons_zero, List.set_cons_succ]
    refine wpAnyL_move (i := 10) (v := ?_) (by rfl) (by kernel_rfl) (by kernel_rfl) (by kernel_rfl) (by rfl) (by exact fun _ _ _ h => h) (Or.inl ⟨by rfl, ?_⟩) (by assumption) ?_; rotate_left; · (intro w0; go_simp; try with_reducible rfl)
    try simp only [Act.put, List.setIfInBounds_toArray, List.set_cons_zero, List.set_cons_succ]
    refine wpAnyL_move (i := 11) (v := ?_) (by rfl) (by kernel_rfl) (by kernel_rfl) (by kernel_rfl) (by rfl) (by exact fun _ _ _ h => h) (Or.inl ⟨by rfl, ?_⟩) (by assumption) ?_; rotate_left; · (intro w0; go_simp; try with_reducible rfl)
    try simp only [Act.put, List.setIfInBounds_toArray, List.set_cons_zero, List.set_cons_succ]
    have q5 : w1.drew.cell? ⟨wb, 5, none⟩ = some (.int .i64 (a.most : Int)) := HC0.out.an.wk.cell 5
    have f5 : w1.drew.frozen? ⟨wb, 5, none⟩ = false := HC0.out.an.wk.frozen 5
    refine wpAnyL_late (i := 12) (by kernel_rfl) (by rfl) (by rfl) (fun K hK => ?_)
    go_simp
    refine hK.out _ _ ?_
    clear hK K
    try simp only [Act.put, List.setIfInBounds_toArray, List.set_cons_zero, List.set_cons_succ]
    refine wpAny_done (by kernel_rfl) ?_ _
    go_wp2_with (fail)
    go_meet
    first | exact HS | (simp only [hmx]; exact HS)
  case rest => as_aux_lemma =>
  clear HS CS hmx HC0
  have HC := hcut
  clear hcut
  have HL : Hid ((a.most_ r).txs.length ≤ 900000000 ∧ (a.most_ r).dirty.length ≤ 900000000) := HLEN.out
  have HST : Hid (a.step n r = ((a.most_ r).tx_ n r).rest n r) := rfl
  generalize ha1 : a.most_ r = a1 at *
  clear ha1 HM1 HLEN
  have c0 : wc.cell? ⟨w.heap.size, 0, none⟩ = some (.int .i64 r.kind) := HC.out.box.cell 0
  have c1 : wc.cell? ⟨w.heap.size, 1, none⟩ = some (.int .i64 (kt : Int)) := by rw [← HKT.out]; exact HC.out.box.cell 1
  have c2 : wc.cell? ⟨w.heap.size, 2, none⟩ = some (.int .u64 (r.prev : Int)) := HC.out.box.cell 2
  have c3 : wc.cell? ⟨w.heap.size, 3, none⟩ = some (.int .u64 (r.next : Int)) := HC.out.box.cell 3
  have c4 : wc.cell? ⟨w.heap.size, 4, none⟩ = some (.int .u32 (r.page : Int)) := HC.out.box.cell 4
  have c5 : wc.cell? ⟨w.heap.size, 5, none⟩ = some (.int .i64 r.op.kind) := HC.out.box.cell 5
  have c6 : wc.cell? ⟨w.heap.size, 6, none⟩ = some (.int .i64 r.op.at_) := HC.out.box.cell 6
  have c7 : wc.cell? ⟨w.heap.size, 7, none⟩ = some (.string r.op.s) := HC.out.box.cell 7
  have c8 : wc.cell? ⟨w.heap.size, 8, none⟩ = some (.string r.op.old) := HC.out.box.cell 8
  have c9 : wc.cell? ⟨w.heap.size, 9, none⟩ = some (.int .i64 r.undo) := HC.out.box.cell 9
  have c10 : wc.cell? ⟨w.heap.size, 10, none⟩ = some (.int .i64 r.index) := HC.out.box.cell 10
  have c11 : wc.cell? ⟨w.heap.size, 11, none⟩ = some (.string r.entry.key) := HC.out.box.cell 11
  have c12 : wc.cell? ⟨w.heap.size, 12, none⟩ = some (.int .u32 (r.entry.page : Int)) := HC.out.box.cell 12
  have c13 : wc.cell? ⟨w.heap.size, 13, none⟩ = some (.int .i64 r.entry.slot) := HC.out.box.cell 13
  have c14 : wc.cell? ⟨w.heap.size, 14, none⟩ = some (.bool r.live) := HC.out.box.cell 14
  have c15 : wc.cell? ⟨w.heap.size, 15, none⟩ = some (.slice ta r.txs.length tc) := HC.out.box.cell 15
  have c16 : wc.cell? ⟨w.heap.size, 16, none⟩ = some (.slice da r.dirty.length dc) := HC.out.box.cell 16
  go_upto_if 22 with (fail)
  go_cut [] from 22 to 26 (fun wx => Hid (CkSt w wb mb db (a1.tx_ n r) (recC r (.slice ta r.txs.length tc) (.slice da r.dirty.length dc)).toArray wx))
  case first => as_aux_lemma =>
    by_cases h7 : r.kind < 7
    · have HC2 : Hid (Calls Tryz.prog 158 #[.pointer (some ⟨wb, 0, none⟩), .int .u64 (n : Int), .agg #[.int .i64 r.kind, .int .i64 (kt : Int), .int .u64 (r.prev : Int), .int .u64 (r.next : Int), .int .u32 (r.page : Int), .int .i64 r.op.kind, .int .i64 r.op.at_, .string r.op.s, .string r.op.old, .int .i64 r.undo, .int .i64 r.index, .string r.entry.key, .int .u32 (r.entry.page : Int), .int .i64 r.entry.slot, .bool r.live, .slice ta r.txs.length tc, .slice da r.dirty.length dc]] wc fun e w' => e = .returned (.tuple #[]) ∧ AnIn w' wb mb db { a1 with txs := r.txE n a1.txs } ∧ Step (GA wb mb db) wc w') := by
        have := anTx_c (tv := .slice ta r.txs.length tc) (dv := .slice da r.dirty.length dc) HC.out.an HOK.out n (by have := HL.out.1; omega)
        unfold RecV recC at this
        rw [HKT.out] at this
        exact this
      have e : a1.tx_ n r = { a1 with txs := r.txE n a1.txs } := by unfold An.tx_; rw [if_pos h7]
      have HEE := Lib.hid e
      clear e
      go_wp2_with (fail)
      refine HC2.out.mono ?_
      rintro e w5 ⟨rfl, p1, p2⟩
      have HS : Hid (CkSt w wb mb db (a1.tx_ n r) (recC r (.slice ta r.txs.length tc) (.slice da r.dirty.length dc)).toArray w5) := by
        rw [HEE.out]
        obtain ⟨l1, l2, l3⟩ := HLT.out
        exact ⟨p1, HC.out.step.trans (More.refl _ _) p2, HC.out.box.same (p2.block _ HC.out.box.lt (by rintro (e | e | e) <;> omega))⟩
      clear p1 p2 HC2
      go_wp2_with (fail)
      go_meet
      exact HS
    · have HS := HC
      rw [show a1 = a1.tx_ n r by unfold An.tx_; rw [if_neg h7]] at HS
      go_wp2_with (fail)
      go_meet
      exact HS
  case rest => as_aux_lemma =>
  clear c0 c1 c2 c3 c4 c5 c6 c7 c8 c9 c10 c11 c12 c13 c14 c15 c16 HC
  have HC := hcut
  clear hcut
  have HL2 : Hid ((a1.tx_ n r).txs.length ≤ 900000001 ∧ (a1.tx_ n r).dirty.length ≤ 900000000) := by
    show _ ∧ _
    have := HL.out
    unfold An.tx_
    split
    · refine ⟨?_, this.2⟩
      show (r.txE n a1.txs).length ≤ _
      unfold Rc.txE
      split
      · have : (delL r.tx.toNat a1.txs).length ≤ a1.txs.length := List.length_filter_le _ _
        omega
      · exact Nat.le_trans (putL_length _ _ _) (by omega)
    · omega
  generalize ha2 : a1.tx_ n r = a2 at *
  clear ha2 HL
  have c0 : wc.cell? ⟨w.heap.size, 0, none⟩ = some (.int .i64 r.kind) := HC.out.box.cell 0
  have c1 : wc.cell? ⟨w.heap.size, 1, none⟩ = some (.int .i64 (kt : Int)) := by rw [← HKT.out]; exact HC.out.box.cell 1
  have c2 : wc.cell? ⟨w.heap.size, 2, none⟩ = some (.int .u64 (r.prev : Int)) := HC.out.box.cell 2
  have c3 : wc.cell? ⟨w.heap.size, 3, none⟩ = some (.int .u64 (r.next : Int)) := HC.out.box.cell 3
  have c4 : wc.cell? ⟨w.heap.size, 4, none⟩ = some (.int .u32 (r.page : Int)) := HC.out.box.cell 4
  have c5 : wc.cell? ⟨w.heap.size, 5, none⟩ = some (.int .i64 r.op.kind) := HC.out.box.cell 5
  have c6 : wc.cell? ⟨w.heap.size, 6, none⟩ = some (.int .i64 r.op.at_) := HC.out.box.cell 6
  have c7 : wc.cell? ⟨w.heap.size, 7, none⟩ = some (.string r.op.s) := HC.out.box.cell 7
  have c8 : wc.cell? ⟨w.heap.size, 8, none⟩ = some (.string r.op.old) := HC.out.box.cell 8
  have c9 : wc.cell? ⟨w.heap.size, 9, none⟩ = some (.int .i64 r.undo) := HC.out.box.cell 9
  have c10 : wc.cell? ⟨w.heap.size, 10, none⟩ = some (.int .i64 r.index) := HC.out.box.cell 10
  have c11 : wc.cell? ⟨w.heap.size, 11, none⟩ = some (.string r.entry.key) := HC.out.box.cell 11
  have c12 : wc.cell? ⟨w.heap.size, 12, none⟩ = some (.int .u32 (r.entry.page : Int)) := HC.out.box.cell 12
  have c13 : wc.cell? ⟨w.heap.size, 13, none⟩ = some (.int .i64 r.entry.slot) := HC.out.box.cell 13
  have c14 : wc.cell? ⟨w.heap.size, 14, none⟩ = some (.bool r.live) := HC.out.box.cell 14
  have c15 : wc.cell? ⟨w.heap.size, 15, none⟩ = some (.slice ta r.txs.length tc) := HC.out.box.cell 15
  have c16 : wc.cell? ⟨w.heap.size, 16, none⟩ = some (.slice da r.dirty.length dc) := HC.out.box.cell 16
  by_cases k1 : r.kind = 1
  · have HE : Hid (a2.rest n r = { a2 with dirty := freshE (r.page, n) a2.dirty }) := by show _ = _; unfold An.rest; rw [if_pos (show r.chg from .inl k1)]
    rw [k1] at c0
    clear k1
    obtain ⟨old, hold⟩ : ∃ o, o = (getL r.page a2.dirty).getD 0 := ⟨_, rfl⟩
    obtain ⟨there, hthere⟩ : ∃ b, b = (getL r.page a2.dirty).isSome := ⟨_, rfl⟩
    obtain ⟨mo, hmo⟩ : ∃ mo, wc.heap[db]? = some mo := ⟨_, Array.getElem?_eq_getElem HC.out.an.dirty.lt⟩
    have HLK2 : ∀ W : World, W.heap[db]? = some mo → Hid ((Instr.lookup 176 (.map (some db)) (.int .u32 (r.page : Int)) true).run Tryz.prog W = .ok (.tuple #[.int .u64 (old : Int), .bool there]) W) := fun W hW => by
      have := (HC.out.an.dirty.same (hW.trans hmo.symm)).lookD r.page hpg (zero_lsn W)
      rw [(zero_lsnV _ r.page).1, (zero_lsnV _ r.page).2] at this
      rw [hold, hthere]
      exact this
    have CS : Hid (OneC ⟨wb, 1, none⟩ (.map (some db)) wc ∧ OneC ⟨w.heap.size, 4, none⟩ (.int .u32 (r.page : Int)) wc ∧ wc.heap[db]? = some mo) := ⟨HC.out.an.wk.cell 1, HC.out.box.cell 4, hmo⟩
    have HTHERE := Lib.hid hthere
    clear hold hthere hmo
    go_upto_region 7 with (fail)
    clear c0 c1 c2 c3 c4 c5 c6 c7 c8 c9 c10 c11 c12 c13 c14 c15 c16
    go_cut [6, 7] from 32 to 41 (fun s6 s7 wx => s6 = .int .u64 (old : Int) ∧ s7 = .bool there ∧ Hid (CkSt w wb mb db a2 (recC r (.slice ta r.txs.length tc) (.slice da r.dirty.length dc)).toArray wx))
    case first => as_aux_lemma =>
      refine wp_region_late (S := fun W => OneC ⟨wb, 1, none⟩ (.map (some db)) W ∧ OneC ⟨w.heap.size, 4, none⟩ (.int .u32 (r.page : Int)) W ∧ W.heap[db]? = some mo) (late := []) (by kernel_rfl) CS.out (fun hHeld => ?_)
      refine wpAnyL_move (i := 0) (v := ?_) (by rfl) (by kernel_rfl) (by kernel_rfl) (by kernel_rfl) (by rfl) (by exact fun _ _ _ h => h) (Or.inl ⟨by rfl, ?_⟩) (by assumption) ?_; rotate_left; · (intro w0; go_simp; try with_reducible rfl)
      try simp only [Act.put, List.setIfInBounds_toArray, List.set_cons_zero, List.set_cons_succ]
      refine wpAnyL_move (i := 1) (v := ?_) (by rfl) (by kernel_rfl) (by kernel_rfl) (by kernel_rfl) (by rfl) (by exact fun _ _ _ h => h) (Or.inl ⟨by rfl, ?_⟩) (by assumption) ?_; rotate_left; · (intro w0; go_simp; try with_reducible rfl)
      try simp only [Act.put, List.setIfInBounds_toArray, List.set_cons_zero, List.set_cons_succ]
      refine wpAnyL_move (i := 2) (v := ?_) (by rfl) (by kernel_rfl) (by kernel_rfl) (by kernel_rfl) (by rfl) (by exact fun _ _ _ h => h) (Or.inl ⟨by rfl, ?_⟩) (by assumption) ?_; rotate_left; · (intro w0; go_simp; try with_reducible rfl)
      try simp only [Act.put, List.setIfInBounds_toArray, List.set_cons_zero, List.set_cons_succ]
      refine wpAnyL_loadT 12 (i := 3) (v := ?_) (by rfl) (by kernel_rfl) (by kernel_rfl) (by kernel_rfl) (by rfl) (by kernel_rfl) (by kernel_rfl) (by exact fun _ _ _ h => h) (Or.inl ⟨by rfl, ?_⟩) (by assumption) ?_; rotate_left; · (intro w0 hS0; obtain ⟨hS1, hS2, hS3⟩ := hS0; unfold OneC at hS1 hS2; go_simp; try with_reducible rfl)
      try simp only [Act.put, List.setIfInBounds_toArray, List.set_cons_zero, List.set_cons_succ]
      refine wpAnyL_move (i := 4) (v := ?_) (by rfl) (by kernel_rfl) (by kernel_rfl) (by kernel_rfl) (by rfl) (by exact fun _ _ _ h => h) (Or.inl ⟨by rfl, ?_⟩) (by assumption) ?_; rotate_left; · (intro w0; go_simp; try with_reducible rfl)
      try simp only [Act.put, List.setIfInBounds_toArray, List.set_cons_zero, List.set_cons_succ]
      refine wpAnyL_loadT 12 (i := 5) (v := ?_) (by rfl) (by kernel_rfl) (by kernel_rfl) (by kernel_rfl) (by rfl) (by kernel_rfl) (by kernel_rfl) (by exact fun _ _ _ h => h) (Or.inl ⟨by rfl, ?_⟩) (by assumption) ?_; rotate_left; · (intro w0 hS0; obtain ⟨hS1, hS2, hS3⟩ := hS0; unfold OneC at hS1 hS2; go_simp; try with_reducible rfl)
      try simp only [Act.put, List.setIfInBounds_toArray, List.set_cons_zero, List.set_cons_succ]
      refine wpAnyL_each (rs := [6]) (by kernel_rfl) (by simp) ?_
      refine EachL.cons (by rfl) (by rfl) (fun K hK => ?_) ?_
      · have hL := (HLK2 _ hHeld.2.2).out
        go_simp
        refine hK.out _ _ hHeld (fun hHeld => ?_)
        clear hK K
        try simp only [Act.put, List.setIfInBounds_toArray, List.set_cons_zero, List.set_cons_succ]
        refine wpAnyL_move (i := 7) (v := ?_) (by rfl) (by kernel_rfl) (by kernel_rfl) (by kernel_rfl) (by rfl) (by exact fun _ _ _ h => h) (Or.inl ⟨by rfl, ?_⟩) (by assumption) ?_; rotate_left; · (intro w0; go_simp; try with_reducible rfl)
        try simp only [Act.put, List.setIfInBounds_toArray, List.set_cons_zero, List.set_cons_succ]
        refine wpAnyL_move (i := 8) (v := ?_) (by rfl) (by kernel_rfl) (by kernel_rfl) (by kernel_rfl) (by rfl) (by exact fun _ _ _ h => h) (Or.inl ⟨by rfl, ?_⟩) (by assumption) ?_; rotate_left; · (intro w0; go_simp; try with_reducible rfl)
        try simp only [Act.put, List.setIfInBounds_toArray, List.set_cons_zero, List.set_cons_succ]
        refine wpAnyL_move (i := 9) (v := ?_) (by rfl) (by kernel_rfl) (by kernel_rfl) (by kernel_rfl) (by rfl) (by exact fun _ _ _ h => h) (Or.inl ⟨by rfl, ?_⟩) (by assumption) ?_; rotate_left; · (intro w0; go_simp; try with_reducible rfl)
        try simp only [Act.put, List.setIfInBounds_toArray, List.set_cons_zero, List.set_cons_succ]
        refine wpAnyL_move (i := 10) (v := ?_) (by rfl) (by kernel_rfl) (by kernel_rfl) (by kernel_rfl) (by rfl) (by exact fun _ _ _ h => h) (Or.inl ⟨by rfl, ?_⟩) (by assumption) ?_; rotate_left; · (intro w0; go_simp; try with_reducible rfl)
        try simp only [Act.put, List.setIfInBounds_toArray, List.set_cons_zero, List.set_cons_succ]
        refine wpAnyL_move (i := 11) (v := ?_) (by rfl) (by kernel_rfl) (by kernel_rfl) (by kernel_rfl) (by rfl) (by exact fun _ _ _ h => h) (Or.inl ⟨by rfl, ?_⟩) (by assumption) ?_; rotate_left; · (intro w0; go_simp; try with_reducible rfl)
        try simp only [Act.put, List.setIfInBounds_toArray, List.set_cons_zero, List.set_cons_succ]
        refine wpAnyL_done (by kernel_rfl) ?_ _
        go_wp2_with (fail)
        go_meet
        exact ⟨rfl, rfl, HC.out.drewN 1⟩
      exact EachL.nil
    case rest => as_aux_lemma =>
    obtain ⟨rfl, rfl, HC3⟩ := hcut
    clear HLK2 CS HC
    cases there with
    | true =>
      have HS := HC3
      rw [show a2 = a2.rest n r by rw [HE.out]; unfold freshE; rw [if_pos HTHERE.out.symm]] at HS
      go_wp2_with (fail)
      go_end0
      exact ⟨rfl, by rw [HST.out]; exact HS.out.an, HS.out.step⟩
    | false =>
      have HEE : Hid (a2.rest n r = { a2 with dirty := putL r.page n a2.dirty }) := by show _ = _; rw [HE.out]; unfold freshE; rw [if_neg (by rw [← HTHERE.out]; exact Bool.false_ne_true)]
      have HM := Lib.hid HC3.out.an.dirty
      have CS2 : Hid (OneC ⟨wb, 1, none⟩ (.map (some db)) wc ∧ OneC ⟨w.heap.size, 4, none⟩ (.int .u32 (r.page : Int)) wc) := ⟨HC3.out.an.wk.cell 1, HC3.out.box.cell 4⟩
      go_upto_region 9 with (fail)
      refine wp_region_late (S := fun W => OneC ⟨wb, 1, none⟩ (.map (some db)) W ∧ OneC ⟨w.heap.size, 4, none⟩ (.int .u32 (r.page : Int)) W) (late := [7]) (by kernel_rfl) CS2.out (fun hHeld => ?_)
      refine wpAnyL_move (i := 0) (v := ?_) (by rfl) (by kernel_rfl) (by kernel_rfl) (by kernel_rfl) (by rfl) (by exact fun _ _ _ h => h) (Or.inl ⟨by rfl, ?_⟩) (by assumption) ?_; rotate_left; · (intro w0; go_simp; try with_reducible rfl)
      try simp only [Act.put, List.setIfInBounds_toArray, List.set_cons_zero, List.set_cons_succ]
      refine wpAnyL_move (i := 1) (v := ?_) (by rfl) (by kernel_rfl) (by kernel_rfl) (by kernel_rfl) (by rfl) (by exact fun _ _ _ h => h) (Or.inl ⟨by rfl, ?_⟩) (by assumption) ?_; rotate_left; · (intro w0; go_simp; try with_reducible rfl)
      try simp only [Act.put, List.setIfInBounds_toArray, List.set_cons_zero, List.set_cons_succ]
      refine wpAnyL_move (i := 2) (v := ?_) (by rfl) (by kernel_rfl) (by kernel_rfl) (by kernel_rfl) (by rfl) (by exact fun _ _ _ h => h) (Or.inl ⟨by rfl, ?_⟩) (by assumption) ?_; rotate_left; · (intro w0; go_simp; try with_reducible rfl)
      try simp only [Act.put, List.setIfInBounds_toArray, List.set_cons_zero, List.set_cons_succ]
      refine wpAnyL_load (i := 3) (v := ?_) (by rfl) (by kernel_rfl) (by kernel_rfl) (by kernel_rfl) (by rfl) (by kernel_rfl) (by exact fun _ _ _ h => h) (Or.inl ⟨by rfl, ?_⟩) (by assumption) ?_; rotate_left; · (intro w0 hS0; obtain ⟨hS1, hS2⟩ := hS0; unfold OneC at hS1 hS2; go_simp; try with_reducible rfl)
      try simp only [Act.put, List.setIfInBounds_toArray, List.set_cons_zero, List.set_cons_succ]
      refine wpAnyL_move (i := 4) (v := ?_) (by rfl) (by kernel_rfl) (by kernel_rfl) (by kernel_rfl) (by rfl) (by exact fun _ _ _ h => h) (Or.inl ⟨by rfl, ?_⟩) (by assumption) ?_; rotate_left; · (intro w0; go_simp; try with_reducible rfl)
      try simp only [Act.put, List.setIfInBounds_toArray, List.set_cons_zero, List.set_cons_succ]
      refine wpAnyL_load (i := 5) (v := ?_) (by rfl) (by kernel_rfl) (by kernel_rfl) (by kernel_rfl) (by rfl) (by kernel_rfl) (by exact fun _ _ _ h => h) (Or.inl ⟨by rfl, ?_⟩) (by assumption) ?_; rotate_left; · (intro w0 hS0; obtain ⟨hS1, hS2⟩ := hS0; unfold OneC at hS1 hS2; go_simp; try with_reducible rfl)
      try simp only [Act.put, List.setIfInBounds_toArray, List.set_cons_zero, List.set_cons_succ]
      refine wpAnyL_move (i := 6) (v := ?_) (by rfl) (by kernel_rfl) (by kernel_rfl) (by kernel_rfl) (by rfl) (by exact fun _ _ _ h => h) (Or.inl ⟨by rfl, ?_⟩) (by assumption) ?_; rotate_left; · (intro w0; go_simp; try with_reducible rfl)
      try simp only [Act.put, List.setIfInBounds_toArray, List.set_cons_zero, List.set_cons_succ]
      refine wpAnyL_late (i := 7) (by kernel_rfl) (by rfl) (by rfl) (fun K hK => ?_)
      refine step_storeD _ (by rfl) _ _ _ (by rfl) db (mapL_ lsnV a2.dirty) (by rfl) (HM.out.same (w' := wc.drew) rfl) r.page hpg (by rw [mapL_length]; have := HL2.out.2; omega) (lsnV n) (by rfl) (by rfl) ?_; intro w7 hm7 hg7
      refine hK.out _ _ ?_
      clear hK K
      try simp only [Act.put]
      refine wpAny_done (by kernel_rfl) ?_ _
      rw [mapL_put] at hm7
      have HX := Lib.hid ((HC3.out.drewN 1).putDirty HLT.out.2.2 hg7 hm7)
      clear hm7 hg7
      rw [← HEE.out] at HX
      go_wp2_with (fail)
      go_end0
      exact ⟨rfl, by rw [HST.out]; exact HX.out.an, HX.out.step⟩
  by_cases k2 : r.kind = 2
  · have HE : Hid (a2.rest n r = { a2 with dirty := freshE (r.page, n) a2.dirty }) := by show _ = _; unfold An.rest; rw [if_pos (show r.chg from .inr k2)]
    rw [k2] at c0
    clear k1 k2
    obtain ⟨old, hold⟩ : ∃ o, o = (getL r.page a2.dirty).getD 0 := ⟨_, rfl⟩
    obtain ⟨there, hthere⟩ : ∃ b, b = (getL r.page a2.dirty).isSome := ⟨_, rfl⟩
    obtain ⟨mo, hmo⟩ : ∃ mo, wc.heap[db]? = some mo := ⟨_, Array.getElem?_eq_getElem HC.out.an.dirty.lt⟩
    have HLK2 : ∀ W : World, W.heap[db]? = some mo → Hid ((Instr.lookup 176 (.map (some db)) (.int .u32 (r.page : Int)) true).run Tryz.prog W = .ok (.tuple #[.int .u64 (old : Int), .bool there]) W) := fun W hW => by
      have := (HC.out.an.dirty.same (hW.trans hmo.symm)).lookD r.page hpg (zero_lsn W)
      rw [(zero_lsnV _ r.page).1, (zero_lsnV _ r.page).2] at this
      rw [hold, hthere]
      exact this
    have CS : Hid (OneC ⟨wb, 1, none⟩ (.map (some db)) wc ∧ OneC ⟨w.heap.size, 4, none⟩ (.int .u32 (r.page : Int)) wc ∧ wc.heap[db]? = some mo) := ⟨HC.out.an.wk.cell 1, HC.out.box.cell 4, hmo⟩
    have HTHERE := Lib.hid hthere
    clear hold hthere hmo
    go_upto_region 7 with (fail)
    clear c0 c1 c2 c3 c4 c5 c6 c7 c8 c9 c10 c11 c12 c13 c14 c15 c16
    go_cut [6, 7] from 32 to 41 (fun s6 s7 wx => s6 = .int .u64 (old : Int) ∧ s7 = .bool there ∧ Hid (CkSt w wb mb db a2 (recC r (.slice ta r.txs.length tc) (.slice da r.dirty.length dc)).toArray wx))
    case first => as_aux_lemma =>
      refine wp_region_late (S := fun W => OneC ⟨wb, 1, none⟩ (.map (some db)) W ∧ OneC ⟨w.heap.size, 4, none⟩ (.int .u32 (r.page : Int)) W ∧ W.heap[db]? = some mo) (late := []) (by kernel_rfl) CS.out (fun hHeld => ?_)
      refine wpAnyL_move (i := 0) (v := ?_) (by rfl) (by kernel_rfl) (by kernel_rfl) (by kernel_rfl) (by rfl) (by exact fun _ _ _ h => h) (Or.inl ⟨by rfl, ?_⟩) (by assumption) ?_; rotate_left; · (intro w0; go_simp; try with_reducible rfl)
      try simp only [Act.put, List.setIfInBounds_toArray, List.set_cons_zero, List.set_cons_succ]
      refine wpAnyL_move (i := 1) (v := ?_) (by rfl) (by kernel_rfl) (by kernel_rfl) (by kernel_rfl) (by rfl) (by exact fun _ _ _ h => h) (Or.inl ⟨by rfl, ?_⟩) (by assumption) ?_; rotate_left; · (intro w0; go_simp; try with_reducible rfl)
      try simp only [Act.put, List.setIfInBounds_toArray, List.set_cons_zero, List.set_cons_succ]
      refine wpAnyL_move (i := 2) (v := ?_) (by rfl) (by kernel_rfl) (by kernel_rfl) (by kernel_rfl) (by rfl) (by exact fun _ _ _ h => h) (Or.inl ⟨by rfl, ?_⟩) (by assumption) ?_; rotate_left; · (intro w0; go_simp; try with_reducible rfl)
      try simp only [Act.put, List.setIfInBounds_toArray, List.set_cons_zero, List.set_cons_succ]
      refine wpAnyL_loadT 12 (i := 3) (v := ?_) (by rfl) (by kernel_rfl) (by kernel_rfl) (by kernel_rfl) (by rfl) (by kernel_rfl) (by kernel_rfl) (by exact fun _ _ _ h => h) (Or.inl ⟨by rfl, ?_⟩) (by assumption) ?_; rotate_left; · (intro w0 hS0; obtain ⟨hS1, hS2, hS3⟩ := hS0; unfold OneC at hS1 hS2; go_simp; try with_reducible rfl)
      try simp only [Act.put, List.setIfInBounds_toArray, List.set_cons_zero, List.set_cons_succ]
      refine wpAnyL_move (i := 4) (v := ?_) (by rfl) (by kernel_rfl) (by kernel_rfl) (by kernel_rfl) (by rfl) (by exact fun _ _ _ h => h) (Or.inl ⟨by rfl, ?_⟩) (by assumption) ?_; rotate_left; · (intro w0; go_simp; try with_reducible rfl)
      try simp only [Act.put, List.setIfInBounds_toArray, List.set_cons_zero, List.set_cons_succ]
      refine wpAnyL_loadT 12 (i := 5) (v := ?_) (by rfl) (by kernel_rfl) (by kernel_rfl) (by kernel_rfl) (by rfl) (by kernel_rfl) (by kernel_rfl) (by exact fun _ _ _ h => h) (Or.inl ⟨by rfl, ?_⟩) (by assumption) ?_; rotate_left; · (intro w0 hS0; obtain ⟨hS1, hS2, hS3⟩ := hS0; unfold OneC at hS1 hS2; go_simp; try with_reducible rfl)
      try simp only [Act.put, List.setIfInBounds_toArray, List.set_cons_zero, List.set_cons_succ]
      refine wpAnyL_each (rs := [6]) (by kernel_rfl) (by simp) ?_
      refine EachL.cons (by rfl) (by rfl) (fun K hK => ?_) ?_
      · have hL := (HLK2 _ hHeld.2.2).out
        go_simp
        refine hK.out _ _ hHeld (fun hHeld => ?_)
        clear hK K
        try simp only [Act.put, List.setIfInBounds_toArray, List.set_cons_zero, List.set_cons_succ]
        refine wpAnyL_move (i := 7) (v := ?_) (by rfl) (by kernel_rfl) (by kernel_rfl) (by kernel_rfl) (by rfl) (by exact fun _ _ _ h => h) (Or.inl ⟨by rfl, ?_⟩) (by assumption) ?_; rotate_left; · (intro w0; go_simp; try with_reducible rfl)
        try simp only [Act.put, List.setIfInBounds_toArray, List.set_cons_zero, List.set_cons_succ]
        refine wpAnyL_move (i := 8) (v := ?_) (by rfl) (by kernel_rfl) (by kernel_rfl) (by kernel_rfl) (by rfl) (by exact fun _ _ _ h => h) (Or.inl ⟨by rfl, ?_⟩) (by assumption) ?_; rotate_left; · (intro w0; go_simp; try with_reducible rfl)
        try simp only [Act.put, List.setIfInBounds_toArray, List.set_cons_zero, List.set_cons_succ]
        refine wpAnyL_move (i := 9) (v := ?_) (by rfl) (by kernel_rfl) (by kernel_rfl) (by kernel_rfl) (by rfl) (by exact fun _ _ _ h => h) (Or.inl ⟨by rfl, ?_⟩) (by assumption) ?_; rotate_left; · (intro w0; go_simp; try with_reducible rfl)
        try simp only [Act.put, List.setIfInBounds_toArray, List.set_cons_zero, List.set_cons_succ]
        refine wpAnyL_move (i := 10) (v := ?_) (by rfl) (by kernel_rfl) (by kernel_rfl) (by kernel_rfl) (by rfl) (by exact fun _ _ _ h => h) (Or.inl ⟨by rfl, ?_⟩) (by assumption) ?_; rotate_left; · (intro w0; go_simp; try with_reducible rfl)
        try simp only [Act.put, List.setIfInBounds_toArray, List.set_cons_zero, List.set_cons_succ]
        refine wpAnyL_move (i := 11) (v := ?_) (by rfl) (by kernel_rfl) (by kernel_rfl) (by kernel_rfl) (by rfl) (by exact fun _ _ _ h => h) (Or.inl ⟨by rfl, ?_⟩) (by assumption) ?_; rotate_left; · (intro w0; go_simp; try with_reducible rfl)
        try simp only [Act.put, List.setIfInBounds_toArray, List.set_cons_zero, List.set_cons_succ]
        refine wpAnyL_done (by kernel_rfl) ?_ _
        go_wp2_with (fail)
        go_meet
        exact ⟨rfl, rfl, HC.out.drewN 1⟩
      exact EachL.nil
    case rest => as_aux_lemma =>
    obtain ⟨rfl, rfl, HC3⟩ := hcut
    clear HLK2 CS HC
    cases there with
    | true =>
      have HS := HC3
      rw [show a2 = a2.rest n r by rw [HE.out]; unfold freshE; rw [if_pos HTHERE.out.symm]] at HS
      go_wp2_with (fail)
      go_end0
      exact ⟨rfl, by rw [HST.out]; exact HS.out.an, HS.out.step⟩
    | false =>
      have HEE : Hid (a2.rest n r = { a2 with dirty := putL r.page n a2.dirty }) := by show _ = _; rw [HE.out]; unfold freshE; rw [if_neg (by rw [← HTHERE.out]; exact Bool.false_ne_true)]
      have HM := Lib.hid HC3.out.an.dirty
      have CS2 : Hid (OneC ⟨wb, 1, none⟩ (.map (some db)) wc ∧ OneC ⟨w.heap.size, 4, none⟩ (.int .u32 (r.page : Int)) wc) := ⟨HC3.out.an.wk.cell 1, HC3.out.box.cell 4⟩
      go_upto_region 9 with (fail)
      refine wp_region_late (S := fun W => OneC ⟨wb, 1, none⟩ (.map (some db)) W ∧ OneC ⟨w.heap.size, 4, none⟩ (.int .u32 (r.page : Int)) W) (late := [7]) (by kernel_rfl) CS2.out (fun hHeld => ?_)
      refine wpAnyL_move (i := 0) (v := ?_) (by rfl) (by kernel_rfl) (by kernel_rfl) (by kernel_rfl) (by rfl) (by exact fun _ _ _ h => h) (Or.inl ⟨by rfl, ?_⟩) (by assumption) ?_; rotate_left; · (intro w0; go_simp; try with_reducible rfl)
      try simp only [Act.put, List.setIfInBounds_toArray, List.set_cons_zero, List.set_cons_succ]
      refine wpAnyL_move (i := 1) (v := ?_) (by rfl) (by kernel_rfl) (by kernel_rfl) (by kernel_rfl) (by rfl) (by exact fun _ _ _ h => h) (Or.inl ⟨by rfl, ?_⟩) (by assumption) ?_; rotate_left; · (intro w0; go_simp; try with_reducible rfl)
      try simp only [Act.put, List.setIfInBounds_toArray, List.set_cons_zero, List.set_cons_succ]
      refine wpAnyL_move (i := 2) (v := ?_) (by rfl) (by kernel_rfl) (by kernel_rfl) (by kernel_rfl) (by rfl) (by exact fun _ _ _ h => h) (Or.inl ⟨by rfl, ?_⟩) (by assumption) ?_; rotate_left; · (intro w0; go_simp; try with_reducible rfl)
      try simp only [Act.put, List.setIfInBounds_toArray, List.set_cons_zero, List.set_cons_succ]
      refine wpAnyL_load (i := 3) (v := ?_) (by rfl) (by kernel_rfl) (by kernel_rfl) (by kernel_rfl) (by rfl) (by kernel_rfl) (by exact fun _ _ _ h => h) (Or.inl ⟨by rfl, ?_⟩) (by assumption) ?_; rotate_left; · (intro w0 hS0; obtain ⟨hS1, hS2⟩ := hS0; unfold OneC at hS1 hS2; go_simp; try with_reducible rfl)
      try simp only [Act.put, List.setIfInBounds_toArray, List.set_cons_zero, List.set_cons_succ]
      refine wpAnyL_move (i := 4) (v := ?_) (by rfl) (by kernel_rfl) (by kernel_rfl) (by kernel_rfl) (by rfl) (by exact fun _ _ _ h => h) (Or.inl ⟨by rfl, ?_⟩) (by assumption) ?_; rotate_left; · (intro w0; go_simp; try with_reducible rfl)
      try simp only [Act.put, List.setIfInBounds_toArray, List.set_cons_zero, List.set_cons_succ]
      refine wpAnyL_load (i := 5) (v := ?_) (by rfl) (by kernel_rfl) (by kernel_rfl) (by kernel_rfl) (by rfl) (by kernel_rfl) (by exact fun _ _ _ h => h) (Or.inl ⟨by rfl, ?_⟩) (by assumption) ?_; rotate_left; · (intro w0 hS0; obtain ⟨hS1, hS2⟩ := hS0; unfold OneC at hS1 hS2; go_simp; try with_reducible rfl)
      try simp only [Act.put, List.setIfInBounds_toArray, List.set_cons_zero, List.set_cons_succ]
      refine wpAnyL_move (i := 6) (v := ?_) (by rfl) (by kernel_rfl) (by kernel_rfl) (by kernel_rfl) (by rfl) (by exact fun _ _ _ h => h) (Or.inl ⟨by rfl, ?_⟩) (by assumption) ?_; rotate_left; · (intro w0; go_simp; try with_reducible rfl)
      try simp only [Act.put, List.setIfInBounds_toArray, List.set_cons_zero, List.set_cons_succ]
      refine wpAnyL_late (i := 7) (by kernel_rfl) (by rfl) (by rfl) (fun K hK => ?_)
      refine step_storeD _ (by rfl) _ _ _ (by rfl) db (mapL_ lsnV a2.dirty) (by rfl) (HM.out.same (w' := wc.drew) rfl) r.page hpg (by rw [mapL_length]; have := HL2.out.2; omega) (lsnV n) (by rfl) (by rfl) ?_; intro w7 hm7 hg7
      refine hK.out _ _ ?_
      clear hK K
      try simp only [Act.put]
      refine wpAny_done (by kernel_rfl) ?_ _
      rw [mapL_put] at hm7
      have HX := Lib.hid ((HC3.out.drewN 1).putDirty HLT.out.2.2 hg7 hm7)
      clear hm7 hg7
      rw [← HEE.out] at HX
      go_wp2_with (fail)
      go_end0
      exact ⟨rfl, by rw [HST.out]; exact HX.out.an, HX.out.step⟩
  by_cases k8 : r.kind = 8
  · have HE : Hid (a2.rest n r = a2.check r) := by show _ = _; unfold An.rest; rw [if_neg (show ¬ r.chg from fun h => h.elim k1 k2), if_pos (show r.tab from k8)]
    have HC2 : Hid (Calls Tryz.prog 159 #[.pointer (some ⟨wb, 0, none⟩), .agg #[.int .i64 8, .int .i64 (kt : Int), .int .u64 (r.prev : Int), .int .u64 (r.next : Int), .int .u32 (r.page : Int), .int .i64 r.op.kind, .int .i64 r.op.at_, .string r.op.s, .string r.op.old, .int .i64 r.undo, .int .i64 r.index, .string r.entry.key, .int .u32 (r.entry.page : Int), .int .i64 r.entry.slot, .bool r.live, .slice ta r.txs.length tc, .slice da r.dirty.length dc]] wc fun e w' => e = .returned (.tuple #[]) ∧ AnIn w' wb mb db (a2.check r) ∧ Step (GA wb mb db) wc w') := by
      have := anCheck_w HC.out.an HOK.out HMI.out (HT.out.step HC.out.step HNT.out) (HD.out.step HC.out.step HND.out) HNT.out HND.out (by have := HL2.out; omega)
      unfold RecV recC at this
      rw [HKT.out, k8] at this
      exact this
    rw [k8] at c0
    clear k1 k2 k8
    go_wp2_with (fail)
    refine HC2.out.mono ?_
    rintro e w5 ⟨rfl, p1, p2⟩
    have HS := Lib.hid (And.intro p1 (HC.out.step.trans (More.refl _ _) p2))
    clear p1 p2 HC2
    go_wp2_with (fail)
    go_end0
    exact ⟨rfl, by rw [HST.out, HE.out]; exact HS.out.1, HS.out.2⟩
  have HE : Hid (a2.rest n r = a2) := by show _ = _; unfold An.rest; rw [if_neg (show ¬ r.chg from fun h => h.elim k1 k2), if_neg (show ¬ r.tab from k8)]
  have g1 : (r.kind == 1) = false := by simp [k1]
  have g2 : (r.kind == 2) = false := by simp [k2]
  have g8 : (r.kind == 8) = false := by simp [k8]
  clear k1 k2 k8
  go_wp2_with (fail)
  go_end0
  exact ⟨rfl, by rw [HST.out, HE.out]; exact HC.out.an, HC.out.step⟩
end
end Go.Proofs.YtpnndlahfllbhaaGreat
