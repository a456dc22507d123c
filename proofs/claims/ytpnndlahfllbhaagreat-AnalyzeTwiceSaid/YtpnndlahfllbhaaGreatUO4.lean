/-
  The walk of analyze's work.check. Printed by a program.
-/
import Derived.Test.YtpnndlahfllbhaaGreatUO3
namespace Go.Proofs.YtpnndlahfllbhaaGreat
open Go.RowKit
attribute [local go_sem ↓] Go.wp_at_zero Go.wp_at_succ

theorem zero_lsnV (l : List (Nat × Nat)) (n : Nat) : (getL n (mapL_ lsnV l)).getD (.int .u64 0) = lsnV ((getL n l).getD 0) ∧ (getL n (mapL_ lsnV l)).isSome = (getL n l).isSome := by
  rw [mapL_get]
  cases getL n l <;> exact ⟨rfl, rfl⟩
theorem max_cast (a b : Nat) : max (a : Int) (b : Int) = ((max a b : Nat) : Int) := by omega
section
variable {w : World} {wb mb db : Nat} {a : An} {r : Rc} {ta da : Option Addr} {tc dc : Nat}
set_option maxRecDepth 100000 in
set_option maxHeartbeats 8000000 in
theorem anCheck_w (h : AnIn w wb mb db a) (hok : r.ok) (hm : r.mild) (hT : RdC 4 tsC w (.slice ta r.txs.length tc) r.txs) (hD : RdC 2 dpC w (.slice da r.dirty.length dc) r.dirty)
    (hnt : ∀ k, (Value.slice ta r.txs.length tc).ownBlock = some k → k ≠ wb ∧ k ≠ mb ∧ k ≠ db) (hnd : ∀ k, (Value.slice da r.dirty.length dc).ownBlock = some k → k ≠ wb ∧ k ≠ mb ∧ k ≠ db) (hlen : a.txs.length ≤ 1000000000 ∧ a.dirty.length ≤ 1000000000) :
    Calls Tryz.prog 159 #[.pointer (some ⟨wb, 0, none⟩), RecV r (.slice ta r.txs.length tc) (.slice da r.dirty.length dc)] w fun e w' => e = .returned (.tuple #[]) ∧ AnIn w' wb mb db (a.check r) ∧ Step (GA wb mb db) w w' := by
  have hl64 : r.txs.length ≤ 64 := hok.a6.2.1
  have hl256 : r.dirty.length ≤ 256 := hok.a6.2.2
  have HOK := Lib.hid hok
  have HMI := Lib.hid hm
  have HT := Lib.hid hT
  have HD := Lib.hid hD
  have HNT := Lib.hid hnt
  have HND := Lib.hid hnd
  have HLEN := Lib.hid hlen
  have HLT := Lib.hid h.lt
  have HBX := Lib.hid (BoxAt.new w 63 (recC r (.slice ta r.txs.length tc) (.slice da r.dirty.length dc)).toArray)
  have HC0 : Hid (CkSt w wb mb db a (recC r (.slice ta r.txs.length tc) (.slice da r.dirty.length dc)).toArray (w.alloc (.cells (recC r (.slice ta r.txs.length tc) (.slice da r.dirty.length dc)).toArray 63))) := ⟨h.below HBX.out.base, Step.below HBX.out.base, HBX.out.blk⟩
  clear h hok hm hT hD hnt hnd hlen HBX
  show Calls Tryz.prog 159 #[.pointer (some ⟨wb, 0, none⟩), .agg #[.int .i64 r.kind, .int .i64 r.tx, .int .u64 (r.prev : Int), .int .u64 (r.next : Int), .int .u32 (r.page : Int), .int .i64 r.op.kind, .int .i64 r.op.at_, .string r.op.s, .string r.op.old, .int .i64 r.undo, .int .i64 r.index, .string r.entry.key, .int .u32 (r.entry.page : Int), .int .i64 r.entry.slot, .bool r.live, .slice ta r.txs.length tc, .slice da r.dirty.length dc]] w _
  generalize hw1 : w.alloc (.cells (recC r (.slice ta r.txs.length tc) (.slice da r.dirty.length dc)).toArray 63) = w1 at *
  have hw1' : w.alloc (.cells #[.int .i64 r.kind, .int .i64 r.tx, .int .u64 (r.prev : Int), .int .u64 (r.next : Int), .int .u32 (r.page : Int), .int .i64 r.op.kind, .int .i64 r.op.at_, .string r.op.s, .string r.op.old, .int .i64 r.undo, .int .i64 r.index, .string r.entry.key, .int .u32 (r.entry.page : Int), .int .i64 r.entry.slot, .bool r.live, .slice ta r.txs.length tc, .slice da r.dirty.length dc] 63) = w1 := hw1
  clear hw1
  have c15 : w1.cell? ⟨w.heap.size, 15, none⟩ = some (.slice ta r.txs.length tc) := HC0.out.box.cell 15
  go_enter Tryz.func159, Tryz.ntmps159
  go_wp2_with (fail)
  clear hw1'
  go_loopw [15] (fun s wx => ∃ k : Nat, s = .int .i64 (k : Int) ∧ k ≤ r.txs.length ∧ Hid (CkSt w wb mb db ((r.txs.take k).foldl An.take a) (recC r (.slice ta r.txs.length tc) (.slice da r.dirty.length dc)).toArray wx)) (fun s _ => r.txs.length - (intOf s).toNat)
  case atStart => exact ⟨0, rfl, Nat.zero_le _, HC0⟩
  case round =>
    clear c15 HC0
    obtain ⟨k, rfl, hk, HC⟩ := hrel
    by_cases hkl : k < r.txs.length
    · obtain ⟨x, hx⟩ : ∃ x, r.txs[k]? = some x := ⟨_, List.getElem?_eq_getElem hkl⟩
      have HXF := HT.out.step HC.out.step HNT.out
      obtain ⟨xb, xo, rfl, _, x1, x2, xbl, xc⟩ := HXF.at_ hx
      have hokx := HOK.out.a7 x (List.mem_of_getElem? hx)
      unfold Ts.ok at hokx
      obtain ⟨xt, hxt⟩ : ∃ n : Nat, x.tx = (n : Int) := ⟨x.tx.toNat, by omega⟩
      have HXT := Lib.hid hxt
      have hxt2 : xt < 2147483648 := by omega
      have d0 : wr.cell? ⟨xb, xo + k * 4, none⟩ = some (.int .i64 (xt : Int)) := by rw [← hxt]; exact xc 0 _ rfl
      have d1 : wr.cell? ⟨xb, xo + k * 4 + 1, none⟩ = some (.int .i64 x.state) := xc 1 _ rfl
      have d2 : wr.cell? ⟨xb, xo + k * 4 + 2, none⟩ = some (.int .u64 (x.last : Int)) := xc 2 _ rfl
      have d3 : wr.cell? ⟨xb, xo + k * 4 + 3, none⟩ = some (.int .u64 (x.next : Int)) := xc 3 _ rfl
      have HTK : Hid ((r.txs.take (k + 1)).foldl An.take a = ((r.txs.take k).foldl An.take a).take x) := by
        show _ = _
        rw [List.take_add_one, hx, Option.toList, List.foldl_append]
        rfl
      have hA5 := takes_len2 (r.txs.take k) a
      have hA5l : (r.txs.take k).length ≤ 64 := by rw [List.length_take]; omega
      have HL5 : Hid (((r.txs.take k).foldl An.take a).txs.length ≤ 1000000064) := by have := HLEN.out.1; show _ ≤ _; omega
      have HKJ := Lib.hid hkl
      generalize ha5 : ((r.txs.take k).foldl An.take a) = a5 at *
      have HA5 := Lib.hid ha5
      clear ha5 hA5 hA5l hx HXF xc hokx hxt
      have HB : Hid (CkSt w wb mb db a5 (recC r (.slice (some ⟨xb, xo, none⟩) r.txs.length tc) (.slice da r.dirty.length dc)).toArray (wr.alloc (.cells #[.int .i64 (xt : Int), .int .i64 x.state, .int .u64 (x.last : Int), .int .u64 (x.next : Int)] 44)) ∧ Blk (wr.alloc (.cells #[.int .i64 (xt : Int), .int .i64 x.state, .int .u64 (x.last : Int), .int .u64 (x.next : Int)] 44)) wr.heap.size 44 #[.int .i64 (xt : Int), .int .i64 x.state, .int .u64 (x.last : Int), .int .u64 (x.next : Int)] ∧ w.heap.size < wr.heap.size) := ⟨HC.out.below ((Below.refl _ _).alloc (Nat.le_refl _) _), Blk.new _ _ _, HC.out.box.lt⟩
      obtain ⟨w2, hw2⟩ : ∃ w2, wr.alloc (.cells #[.int .i64 (xt : Int), .int .i64 x.state, .int .u64 (x.last : Int), .int .u64 (x.next : Int)] 44) = w2 := ⟨_, rfl⟩
      go_upto_region 4 with (fail)
      clear hkl d0 d1 d2 d3
      rw [hw2] at HB
      have hw2h := Lib.hid hw2
      clear hw2 HC
      generalize hcb : wr.heap.size = cb at *
      have HCB := Lib.hid hcb
      clear hcb
      have hmx := max_cast a5.most xt
      have HS := Lib.hid ((HB.out.1.drewN 1).setMost HLT.out.1 (max a5.most xt))
      have HBD : Hid (Blk ((w2.drewN 1).setCell ⟨wb, 5, none⟩ (.int .i64 ((max a5.most xt : Nat) : Int))) cb 44 #[.int .i64 (xt : Int), .int .i64 x.state, .int .u64 (x.last : Int), .int .u64 (x.next : Int)]) := (show Blk (w2.drewN 1) cb 44 #[.int .i64 (xt : Int), .int .i64 x.state, .int .u64 (x.last : Int), .int .u64 (x.next : Int)] from HB.out.2.1).same (Below.heap_setCell _ _ _ _ (by have := HLT.out.1; have := HB.out.2.2; simp only; omega))
      have CS : Hid (OneC ⟨wb, 5, none⟩ (.int .i64 (a5.most : Int)) w2 ∧ OneC ⟨cb, 0, none⟩ (.int .i64 (xt : Int)) w2) := ⟨HB.out.1.an.wk.cell 5, HB.out.2.1.cell 0⟩
      go_cut [] from 19 to 30 (fun wx => Hid (CkSt w wb mb db { a5 with most := max a5.most xt } (recC r (.slice (some ⟨xb, xo, none⟩) r.txs.length tc) (.slice da r.dirty.length dc)).toArray wx ∧ Blk wx cb 44 #[.int .i64 (xt : Int), .int .i64 x.state, .int .u64 (x.last : Int), .int .u64 (x.next : Int)]))
      case first =>
        refine wp_region_late (S := fun W => OneC ⟨wb, 5, none⟩ (.int .i64 (a5.most : Int)) W ∧ OneC ⟨cb, 0, none⟩ (.int .i64 (xt : Int)) W) (late := [12]) (by kernel_rfl) CS.out (fun hHeld => ?_)
        refine wpAnyL_move (i := 0) (v := ?_) (by rfl) (by kernel_rfl) (by kernel_rfl) (by kernel_rfl) (by rfl) (by exact fun _ _ _ h => h) (Or.inl ⟨by rfl, ?_⟩) (by assumption) ?_; rotate_left; · (intro w0; go_simp; try with_reducible rfl)
        try simp only [Act.put, List.setIfInBounds_toArray, List.set_cons_zero, List.set_cons_succ]
        refine wpAnyL_move (i := 1) (v := ?_) (by rfl) (by kernel_rfl) (by kernel_rfl) (by kernel_rfl) (by rfl) (by exact fun _ _ _ h => h) (Or.inl ⟨by rfl, ?_⟩) (by assumption) ?_; rotate_left; · (intro w0; go_simp; try with_reducible rfl)
        try simp only [Act.put, List.setIfInBounds_toArray, List.set_cons_zero, List.set_cons_succ]
        refine wpAnyL_move (i := 2) (v := ?_) (by rfl) (by kernel_rfl) (by kernel_rfl) (by kernel_rfl) (by rfl) (by exact fun _ _ _ h => h) (Or.inl ⟨by rfl, ?_⟩) (by assumption) ?_; rotate_left; · (intro w0; go_simp; try with_reducible rfl)
        try simp only [Act.put, List.setIfInBounds_toArray, List.set_cons_zero, List.set_cons_succ]
        refine wpAnyL_move (i := 3) (v := ?_) (by rfl) (by kernel_rfl) (by kernel_rfl) (by kernel_rfl) (by rfl) (by exact fun _ _ _ h => h) (Or.inl ⟨by rfl, ?_⟩) (by assumption) ?_; rotate_left; · (intro w0; go_simp; try with_reducible rfl)
        try simp only [Act.put, List.setIfInBounds_toArray, List.set_cons_zero, List.set_cons_succ]
        refine wpAnyL_move (i := 4) (v := ?_) (by rfl) (by kernel_rfl) (by kernel_rfl) (by kernel_rfl) (by rfl) (by exact fun _ _ _ h => h) (Or.inl ⟨by rfl, ?_⟩) (by assumption) ?_; rotate_left; · (intro w0; go_simp; try with_reducible rfl)
        try simp only [Act.put, List.setIfInBounds_toArray, List.set_cons_zero, List.set_cons_succ]
        refine wpAnyL_load (i := 5) (v := ?_) (by rfl) (by kernel_rfl) (by kernel_rfl) (by kernel_rfl) (by rfl) (by kernel_rfl) (by exact fun _ _ _ h => h) (Or.inl ⟨by rfl, ?_⟩) (by assumption) ?_; rotate_left; · (intro w0 hS0; obtain ⟨hS1, hS2⟩ := hS0; unfold OneC at hS1 hS2; go_simp; try with_reducible rfl)
        try simp only [Act.put, List.setIfInBounds_toArray, List.set_cons_zero, List.set_cons_succ]
        refine wpAnyL_move (i := 6) (v := ?_) (by rfl) (by kernel_rfl) (by kernel_rfl) (by kernel_rfl) (by rfl) (by exact fun _ _ _ h => h) (Or.inl ⟨by rfl, ?_⟩) (by assumption) ?_; rotate_left; · (intro w0; go_simp; try with_reducible rfl)
        try simp only [Act.put, List.setIfInBounds_toArray, List.set_cons_zero, List.set_cons_succ]
        refine wpAnyL_load (i := 7) (v := ?_) (by rfl) (by kernel_rfl) (by kernel_rfl) (by kernel_rfl) (by rfl) (by kernel_rfl) (by exact fun _ _ _ h => h) (Or.inl ⟨by rfl, ?_⟩) (by assumption) ?_; rotate_left; · (intro w0 hS0; obtain ⟨hS1, hS2⟩ := hS0; unfold OneC at hS1 hS2; go_simp; try with_reducible rfl)
        try simp only [Act.put, List.setIfInBounds_toArray, List.set_cons_zero, List.set_cons_succ]
        refine wpAnyL_move (i := 8) (v := ?_) (by rfl) (by kernel_rfl) (by kernel_rfl) (by kernel_rfl) (by rfl) (by exact fun _ _ _ h => h) (Or.inl ⟨by rfl, ?_⟩) (by assumption) ?_; rotate_left; · (intro w0; go_simp; try with_reducible rfl)
        try simp only [Act.put, List.setIfInBounds_toArray, List.set_cons_zero, List.set_cons_succ]
        refine wpAnyL_move (i := 9) (v := ?_) (by rfl) (by kernel_rfl) (by kernel_rfl) (by kernel_rfl) (by rfl) (by exact fun _ _ _ h => h) (Or.inl ⟨by rfl, ?_⟩) (by assumption) ?_; rotate_left; · (intro w0; go_simp; try with_reducible rfl)
        try simp only [Act.put, List.setIfInBounds_toArray, List.set_cons_zero, List.set_cons_succ]
        refine wpAnyL_move (i := 10) (v := ?_) (by rfl) (by kernel_rfl) (by kernel_rfl) (by kernel_rfl) (by rfl) (by exact fun _ _ _ h => h) (Or.inl ⟨by rfl, ?_⟩) (by assumption) ?_; rotate_left; · (intro w0; go_simp; try with_reducible rfl)
        try simp only [Act.put, List.setIfInBounds_toArray, List.set_cons_zero, List.set_cons_succ]
        refine wpAnyL_move (i := 11) (v := ?_) (by rfl) (by kernel_rfl) (by kernel_rfl) (by kernel_rfl) (by rfl) (by exact fun _ _ _ h => h) (Or.inl ⟨by rfl, ?_⟩) (by assumption) ?_; rotate_left; · (intro w0; go_simp; try with_reducible rfl)
        try simp only [Act.put, List.setIfInBounds_toArray, List.set_cons_zero, List.set_cons_succ]
        have q5 : w2.drew.cell? ⟨wb, 5, none⟩ = some (.int .i64 (a5.most : Int)) := HB.out.1.an.wk.cell 5
        have f5 : w2.drew.frozen? ⟨wb, 5, none⟩ = false := HB.out.1.an.wk.frozen 5
        refine wpAnyL_late (i := 12) (by kernel_rfl) (by rfl) (by rfl) (fun K hK => ?_)
        go_simp
        refine hK.out _ _ ?_
        clear hK K
        try simp only [Act.put, List.setIfInBounds_toArray, List.set_cons_zero, List.set_cons_succ]
        refine wpAny_done (by kernel_rfl) ?_ _
        go_wp2_with (fail)
        go_meet
        first | exact ⟨HS.out, HBD.out⟩ | (simp only [hmx]; exact ⟨HS.out, HBD.out⟩)
      case rest =>
      clear HS HBD CS hmx hw2h
      have HB2 := hcut
      clear hcut
      obtain ⟨old, hold⟩ : ∃ o, o = (getL xt a5.txs).getD ⟨0, 0, 0, 0⟩ := ⟨_, rfl⟩
      obtain ⟨there, hthere⟩ : ∃ b, b = (getL xt a5.txs).isSome := ⟨_, rfl⟩
      obtain ⟨mo, hmo⟩ : ∃ mo, wc.heap[mb]? = some mo := ⟨_, Array.getElem?_eq_getElem HB2.out.1.an.txs.lt⟩
      have HLK2 : ∀ W : World, W.heap[mb]? = some mo → Hid ((Instr.lookup 175 (.map (some mb)) (.int .i64 (xt : Int)) true).run Tryz.prog W = .ok (.tuple #[.agg #[.int .i64 old.tx, .int .i64 old.state, .int .u64 (old.last : Int), .int .u64 (old.next : Int)], .bool there]) W) := fun W hW => by
        have := (HB2.out.1.an.txs.same (hW.trans hmo.symm)).look xt (by omega) (zero_tx W)
        rw [(zero_txV _ xt).1, (zero_txV _ xt).2] at this
        rw [hold, hthere]
        exact this
      have CS : Hid (OneC ⟨wb, 0, none⟩ (.map (some mb)) wc ∧ OneC ⟨cb, 0, none⟩ (.int .i64 (xt : Int)) wc ∧ wc.heap[mb]? = some mo) := ⟨HB2.out.1.an.wk.cell 0, HB2.out.2.cell 0, hmo⟩
      have HTHERE := Lib.hid hthere
      clear hold hthere hmo
      go_upto_region 5 with (fail)
      go_cut [6, 7] from 31 to 40 (fun s6 s7 wx => (∃ pb, s6 = .pointer (some ⟨pb, 0, none⟩)) ∧ s7 = .bool there ∧ Hid (CkSt w wb mb db { a5 with most := max a5.most xt } (recC r (.slice (some ⟨xb, xo, none⟩) r.txs.length tc) (.slice da r.dirty.length dc)).toArray wx ∧ Blk wx cb 44 #[.int .i64 (xt : Int), .int .i64 x.state, .int .u64 (x.last : Int), .int .u64 (x.next : Int)]))
      case first =>
        refine wp_region_late (S := fun W => OneC ⟨wb, 0, none⟩ (.map (some mb)) W ∧ OneC ⟨cb, 0, none⟩ (.int .i64 (xt : Int)) W ∧ W.heap[mb]? = some mo) (late := [11]) (by kernel_rfl) CS.out (fun hHeld => ?_)
        refine wpAnyL_move (i := 0) (v := ?_) (by rfl) (by kernel_rfl) (by kernel_rfl) (by kernel_rfl) (by rfl) (by exact fun _ _ _ h => h) (Or.inl ⟨by rfl, ?_⟩) (by assumption) ?_; rotate_left; · (intro w0; go_simp; try with_reducible rfl)
        try simp only [Act.put, List.setIfInBounds_toArray, List.set_cons_zero, List.set_cons_succ]
        refine wpAnyL_move (i := 1) (v := ?_) (by rfl) (by kernel_rfl) (by kernel_rfl) (by kernel_rfl) (by rfl) (by exact fun _ _ _ h => h) (Or.inl ⟨by rfl, ?_⟩) (by assumption) ?_; rotate_left; · (intro w0; go_simp; try with_reducible rfl)
        try simp only [Act.put, List.setIfInBounds_toArray, List.set_cons_zero, List.set_cons_succ]
        refine wpAnyL_move (i := 2) (v := ?_) (by rfl) (by kernel_rfl) (by kernel_rfl) (by kernel_rfl) (by rfl) (by exact fun _ _ _ h => h) (Or.inl ⟨by rfl, ?_⟩) (by assumption) ?_; rotate_left; · (intro w0; go_simp; try with_reducible rfl)
        try simp only [Act.put, List.setIfInBounds_toArray, List.set_cons_zero, List.set_cons_succ]
        refine wpAnyL_loadT 13 (i := 3) (v := ?_) (by rfl) (by kernel_rfl) (by kernel_rfl) (by kernel_rfl) (by rfl) (by kernel_rfl) (by kernel_rfl) (by exact fun _ _ _ h => h) (Or.inl ⟨by rfl, ?_⟩) (by assumption) ?_; rotate_left; · (intro w0 hS0; obtain ⟨hS1, hS2, hS3⟩ := hS0; unfold OneC at hS1 hS2; go_simp; try with_reducible rfl)
        try simp only [Act.put, List.setIfInBounds_toArray, List.set_cons_zero, List.set_cons_succ]
        refine wpAnyL_move (i := 4) (v := ?_) (by rfl) (by kernel_rfl) (by kernel_rfl) (by kernel_rfl) (by rfl) (by exact fun _ _ _ h => h) (Or.inl ⟨by rfl, ?_⟩) (by assumption) ?_; rotate_left; · (intro w0; go_simp; try with_reducible rfl)
        try simp only [Act.put, List.setIfInBounds_toArray, List.set_cons_zero, List.set_cons_succ]
        refine wpAnyL_loadT 13 (i := 5) (v := ?_) (by rfl) (by kernel_rfl) (by kernel_rfl) (by kernel_rfl) (by rfl) (by kernel_rfl) (by kernel_rfl) (by exact fun _ _ _ h => h) (Or.inl ⟨by rfl, ?_⟩) (by assumption) ?_; rotate_left; · (intro w0 hS0; obtain ⟨hS1, hS2, hS3⟩ := hS0; unfold OneC at hS1 hS2; go_simp; try with_reducible rfl)
        try simp only [Act.put, List.setIfInBounds_toArray, List.set_cons_zero, List.set_cons_succ]
        refine wpAnyL_each (rs := [6, 10]) (by kernel_rfl) (by simp) ?_
        refine EachL.cons (by rfl) (by rfl) (fun K hK => ?_) ?_
        · have hL := (HLK2 _ hHeld.2.2).out
          go_simp
          refine hK.out _ _ hHeld (fun hHeld => ?_)
          clear hK K
          try simp only [Act.put, List.setIfInBounds_toArray, List.set_cons_zero, List.set_cons_succ]
          refine wpAnyL_move (i := 7) (v := ?_) (by rfl) (by kernel_rfl) (by kernel_rfl) (by kernel_rfl) (by rfl) (by exact fun _ _ _ h => h) (Or.inl ⟨by rfl, ?_⟩) (by assumption) ?_; rotate_left; · (intro w0; go_simp; try with_reducible rfl)
          try simp only [Act.put, List.setIfInBounds_toArray, List.set_cons_zero, List.set_cons_succ]
          refine wpAnyL_move (i := 8) (v := ?_) (by rfl) (by kernel_rfl) (by kernel_rfl) (by kernel_rfl) (by rfl) (by exact fun _ _ _ h => h) (Or.inl ⟨by rfl, ?_⟩) (by assumption) ?_; rotate_left; · (intro w0; go_simp; try with_reducible rfl)
          try simp only [Act.put, List.setIfInBounds_toArray, List.set_cons_zero, List.set_cons_succ]
          refine wpAnyL_move (i := 9) (v := ?_) (by rfl) (by kernel_rfl) (by kernel_rfl) (by kernel_rfl) (by rfl) (by exact fun _ _ _ h => h) (Or.inl ⟨by rfl, ?_⟩) (by assumption) ?_; rotate_left; · (intro w0; go_simp; try with_reducible rfl)
          try simp only [Act.put, List.setIfInBounds_toArray, List.set_cons_zero, List.set_cons_succ]
          refine wpAnyL_each (rs := [10]) (by kernel_rfl) (by simp) ?_
          refine EachL.cons (by rfl) (by rfl) (fun K hK => ?_) ?_
          · go_simp
            refine hK.out _ _ ⟨hHeld.1.alloc _, hHeld.2.1.alloc _, heap_alloc_some2 hHeld.2.2⟩ (fun hHeld => ?_)
            clear hK K
            try simp only [Act.put, List.setIfInBounds_toArray, List.set_cons_zero, List.set_cons_succ]
            refine wpAnyL_late (i := 11) (by kernel_rfl) (by rfl) (by rfl) (fun K hK => ?_)
            go_simp
            refine hK.out _ _ ?_
            clear hK K
            try simp only [Act.put, List.setIfInBounds_toArray, List.set_cons_zero, List.set_cons_succ]
            refine wpAny_move (i := 12) (v := ?_) (by rfl) (by kernel_rfl) (by kernel_rfl) (by kernel_rfl) (by exact fun _ _ _ h => h) (Or.inl ⟨by rfl, ?_⟩) ?_; rotate_left; · (intro w0; go_simp; try with_reducible rfl)
            try simp only [Act.put, List.setIfInBounds_toArray, List.set_cons_zero, List.set_cons_succ]
            refine wpAny_done (by kernel_rfl) ?_ _
            go_wp2_with (fail)
            go_meet
            exact ⟨⟨_, rfl⟩, rfl, HB2.out.1.below (((Below.refl _ _).alloc (Nat.le_refl _) _).trans ((below_drewN _ 1).mono (by simp))), (HB2.out.2).same ((((Below.refl _ _).alloc (Nat.le_refl _) _).trans ((below_drewN _ 1).mono (by simp))).block _ HB2.out.2.lt)⟩
          exact EachL.nil
        refine EachL.cons (by rfl) (by rfl) (fun K hK => ?_) ?_
        · go_simp
          refine hK.out _ _ ⟨hHeld.1.alloc _, hHeld.2.1.alloc _, heap_alloc_some2 hHeld.2.2⟩ (fun hHeld => ?_)
          clear hK K
          try simp only [Act.put, List.setIfInBounds_toArray, List.set_cons_zero, List.set_cons_succ]
          refine wpAnyL_each (rs := [6]) (by kernel_rfl) (by simp) ?_
          refine EachL.cons (by rfl) (by rfl) (fun K hK => ?_) ?_
          · have hL := (HLK2 _ hHeld.2.2).out
            go_simp
            refine hK.out _ _ hHeld (fun hHeld => ?_)
            clear hK K
            try simp only [Act.put, List.setIfInBounds_toArray, List.set_cons_zero, List.set_cons_succ]
            refine wpAnyL_move (i := 7) (v := ?_) (by rfl) (by kernel_rfl) (by kernel_rfl) (by kernel_rfl) (by rfl) (by exact fun _ _ _ h => h) (Or.inl ⟨by rfl, ?_⟩) (by assumption) ?_; rotate_left; · (intro w0; go_simp; try with_reducible rfl)
            try simp only [Act.put, List.setIfInBounds_toArray, List.set_cons_zero, List.set_cons_succ]
            refine wpAnyL_move (i := 8) (v := ?_) (by rfl) (by kernel_rfl) (by kernel_rfl) (by kernel_rfl) (by rfl) (by exact fun _ _ _ h => h) (Or.inl ⟨by rfl, ?_⟩) (by assumption) ?_; rotate_left; · (intro w0; go_simp; try with_reducible rfl)
            try simp only [Act.put, List.setIfInBounds_toArray, List.set_cons_zero, List.set_cons_succ]
            refine wpAnyL_move (i := 9) (v := ?_) (by rfl) (by kernel_rfl) (by kernel_rfl) (by kernel_rfl) (by rfl) (by exact fun _ _ _ h => h) (Or.inl ⟨by rfl, ?_⟩) (by assumption) ?_; rotate_left; · (intro w0; go_simp; try with_reducible rfl)
            try simp only [Act.put, List.setIfInBounds_toArray, List.set_cons_zero, List.set_cons_succ]
            refine wpAnyL_late (i := 11) (by kernel_rfl) (by rfl) (by rfl) (fun K hK => ?_)
            go_simp
            refine hK.out _ _ ?_
            clear hK K
            try simp only [Act.put, List.setIfInBounds_toArray, List.set_cons_zero, List.set_cons_succ]
            refine wpAny_move (i := 12) (v := ?_) (by rfl) (by kernel_rfl) (by kernel_rfl) (by kernel_rfl) (by exact fun _ _ _ h => h) (Or.inl ⟨by rfl, ?_⟩) ?_; rotate_left; · (intro w0; go_simp; try with_reducible rfl)
            try simp only [Act.put, List.setIfInBounds_toArray, List.set_cons_zero, List.set_cons_succ]
            refine wpAny_done (by kernel_rfl) ?_ _
            go_wp2_with (fail)
            go_meet
            exact ⟨⟨_, rfl⟩, rfl, HB2.out.1.below (((Below.refl _ _).alloc (Nat.le_refl _) _).trans ((below_drewN _ 1).mono (by simp))), (HB2.out.2).same ((((Below.refl _ _).alloc (Nat.le_refl _) _).trans ((below_drewN _ 1).mono (by simp))).block _ HB2.out.2.lt)⟩
          exact EachL.nil
        exact EachL.nil
      case rest =>
      obtain ⟨⟨pb, rfl⟩, rfl, HB3⟩ := hcut
      clear HLK2 CS HB2
      cases there with
      | true =>
        have HE : Hid (({ a5 with most := max a5.most xt } : An) = a5.take x) := by
          show _ = _
          unfold An.take
          rw [HXT.out]
          simp only [Int.toNat_natCast]
          rw [if_pos HTHERE.out.symm]
        have HS := HB3
        rw [HE.out] at HS
        go_wp2_with (fail)
        go_roundw
        case rel => exact ⟨k + 1, by go_num, HKJ.out, by rw [HTK.out]; exact HS.out.1⟩
        case measure => have := HKJ.out; simp [intOf]; omega
      | false =>
        have HE : Hid (a5.take x = { a5 with most := max a5.most xt, txs := putL xt x a5.txs }) := by
          show _ = _
          unfold An.take
          rw [HXT.out]
          simp only [Int.toNat_natCast]
          rw [if_neg (by rw [← HTHERE.out]; exact Bool.false_ne_true)]
        have HM := Lib.hid HB3.out.1.an.txs
        have CS2 : Hid (OneC ⟨wb, 0, none⟩ (.map (some mb)) wc ∧ OneC ⟨cb, 0, none⟩ (.int .i64 (xt : Int)) wc ∧ OneC ⟨cb, 1, none⟩ (.int .i64 x.state) wc ∧ OneC ⟨cb, 2, none⟩ (.int .u64 (x.last : Int)) wc ∧ OneC ⟨cb, 3, none⟩ (.int .u64 (x.next : Int)) wc) := ⟨HB3.out.1.an.wk.cell 0, HB3.out.2.cell 0, HB3.out.2.cell 1, HB3.out.2.cell 2, HB3.out.2.cell 3⟩
        have HVT : Hid (tsV x = .agg #[.int .i64 (xt : Int), .int .i64 x.state, .int .u64 (x.last : Int), .int .u64 (x.next : Int)]) := by show tsV x = _; unfold tsV; rw [HXT.out]
        go_upto_region 7 with (fail)
        refine wp_region_late (S := fun W => OneC ⟨wb, 0, none⟩ (.map (some mb)) W ∧ OneC ⟨cb, 0, none⟩ (.int .i64 (xt : Int)) W ∧ OneC ⟨cb, 1, none⟩ (.int .i64 x.state) W ∧ OneC ⟨cb, 2, none⟩ (.int .u64 (x.last : Int)) W ∧ OneC ⟨cb, 3, none⟩ (.int .u64 (x.next : Int)) W) (late := [7]) (by kernel_rfl) CS2.out (fun hHeld => ?_)
        refine wpAnyL_move (i := 0) (v := ?_) (by rfl) (by kernel_rfl) (by kernel_rfl) (by kernel_rfl) (by rfl) (by exact fun _ _ _ h => h) (Or.inl ⟨by rfl, ?_⟩) (by assumption) ?_; rotate_left; · (intro w0; go_simp; try with_reducible rfl)
        try simp only [Act.put, List.setIfInBounds_toArray, List.set_cons_zero, List.set_cons_succ]
        refine wpAnyL_move (i := 1) (v := ?_) (by rfl) (by kernel_rfl) (by kernel_rfl) (by kernel_rfl) (by rfl) (by exact fun _ _ _ h => h) (Or.inl ⟨by rfl, ?_⟩) (by assumption) ?_; rotate_left; · (intro w0; go_simp; try with_reducible rfl)
        try simp only [Act.put, List.setIfInBounds_toArray, List.set_cons_zero, List.set_cons_succ]
        refine wpAnyL_move (i := 2) (v := ?_) (by rfl) (by kernel_rfl) (by kernel_rfl) (by kernel_rfl) (by rfl) (by exact fun _ _ _ h => h) (Or.inl ⟨by rfl, ?_⟩) (by assumption) ?_; rotate_left; · (intro w0; go_simp; try with_reducible rfl)
        try simp only [Act.put, List.setIfInBounds_toArray, List.set_cons_zero, List.set_cons_succ]
        refine wpAnyL_load (i := 3) (v := ?_) (by rfl) (by kernel_rfl) (by kernel_rfl) (by kernel_rfl) (by rfl) (by kernel_rfl) (by exact fun _ _ _ h => h) (Or.inl ⟨by rfl, ?_⟩) (by assumption) ?_; rotate_left; · (intro w0 hS0; obtain ⟨hS1, hS2, hS3, hS4, hS5⟩ := hS0; unfold OneC at hS1 hS2 hS3 hS4 hS5; go_simp; try with_reducible rfl)
        try simp only [Act.put, List.setIfInBounds_toArray, List.set_cons_zero, List.set_cons_succ]
        refine wpAnyL_move (i := 4) (v := ?_) (by rfl) (by kernel_rfl) (by kernel_rfl) (by kernel_rfl) (by rfl) (by exact fun _ _ _ h => h) (Or.inl ⟨by rfl, ?_⟩) (by assumption) ?_; rotate_left; · (intro w0; go_simp; try with_reducible rfl)
        try simp only [Act.put, List.setIfInBounds_toArray, List.set_cons_zero, List.set_cons_succ]
        refine wpAnyL_load (i := 5) (v := ?_) (by rfl) (by kernel_rfl) (by kernel_rfl) (by kernel_rfl) (by rfl) (by kernel_rfl) (by exact fun _ _ _ h => h) (Or.inl ⟨by rfl, ?_⟩) (by assumption) ?_; rotate_left; · (intro w0 hS0; obtain ⟨hS1, hS2, hS3, hS4, hS5⟩ := hS0; unfold OneC at hS1 hS2 hS3 hS4 hS5; go_simp; try with_reducible rfl)
        try simp only [Act.put, List.setIfInBounds_toArray, List.set_cons_zero, List.set_cons_succ]
        refine wpAnyL_load (i := 6) (v := ?_) (by rfl) (by kernel_rfl) (by kernel_rfl) (by kernel_rfl) (by rfl) (by kernel_rfl) (by exact fun _ _ _ h => h) (Or.inl ⟨by rfl, ?_⟩) (by assumption) ?_; rotate_left; · (intro w0 hS0; obtain ⟨hS1, hS2, hS3, hS4, hS5⟩ := hS0; unfold OneC at hS1 hS2 hS3 hS4 hS5; go_simp; try with_reducible rfl)
        try simp only [Act.put, List.setIfInBounds_toArray, List.set_cons_zero, List.set_cons_succ]
        refine wpAnyL_late (i := 7) (by kernel_rfl) (by rfl) (by rfl) (fun K hK => ?_)
        refine step_storeT _ (by rfl) _ _ _ (by rfl) mb (mapL_ tsV a5.txs) (by rfl) (HM.out.same (w' := wc.drew) rfl) xt (by omega) (by rw [mapL_length]; have := HL5.out; omega) (tsV x) (by rfl) (by rw [HVT.out]; rfl) ?_; intro w7 hm7 hg7
        refine hK.out _ _ ?_
        clear hK K
        try simp only [Act.put]
        refine wpAny_done (by kernel_rfl) ?_ _
        rw [mapL_put] at hm7
        have HX := Lib.hid ((HB3.out.1.drewN 1).putTxs HLT.out.2.1 hg7 hm7)
        clear hm7 hg7
        have HX2 := HX
        rw [show ({ ({ a5 with most := max a5.most xt } : An) with txs := putL xt x a5.txs } : An) = a5.take x from HE.out.symm] at HX2
        go_wp2_with (fail)
        go_roundw
        case rel => exact ⟨k + 1, by go_num, HKJ.out, by rw [HTK.out]; exact HX2⟩
        case measure => have := HKJ.out; simp [intOf]; omega
    · obtain rfl : k = r.txs.length := by omega
      rw [List.take_length] at HC
      have hA5 := takes_len2 r.txs a
      have HL5 : Hid ((r.txs.foldl An.take a).dirty.length ≤ 1000000000) := by have := HLEN.out.2; show _ ≤ _; rw [hA5.2]; exact this
      have HFIN : Hid (a.check r = r.dirty.foldl An.page (r.txs.foldl An.take a)) := rfl
      generalize ha5 : r.txs.foldl An.take a = a5 at *
      have HA5 := Lib.hid ha5
      clear ha5 hA5
      have c16 : wr.cell? ⟨w.heap.size, 16, none⟩ = some (.slice da r.dirty.length dc) := HC.out.box.cell 16
      go_wp2_with (fail)
      go_loopw [54] (fun s wx => ∃ k : Nat, s = .int .i64 (k : Int) ∧ k ≤ r.dirty.length ∧ Hid (CkSt w wb mb db ((r.dirty.take k).foldl An.page a5) (recC r (.slice ta r.txs.length tc) (.slice da r.dirty.length dc)).toArray wx)) (fun s _ => r.dirty.length - (intOf s).toNat)
      case atStart => exact ⟨0, rfl, Nat.zero_le _, HC⟩
      case round =>
        clear c16 HC
        obtain ⟨k, rfl, hk, HC⟩ := hrel
        rename World => wr
        by_cases hkl : k < r.dirty.length
        · obtain ⟨x, hx⟩ : ∃ x, r.dirty[k]? = some x := ⟨_, List.getElem?_eq_getElem hkl⟩
          have HXF := HD.out.step HC.out.step HND.out
          obtain ⟨xb, xo, rfl, _, x1, x2, xbl, xc⟩ := HXF.at_ hx
          have hmx := HMI.out.dirty x (List.mem_of_getElem? hx)
          have hx1 : x.1 < 4294967296 := hmx.1
          have hx2 : x.2 < 18446744073709551616 := hmx.2
          have d0 : wr.cell? ⟨xb, xo + k * 2, none⟩ = some (.int .u32 (x.1 : Int)) := xc 0 _ rfl
          have d1 : wr.cell? ⟨xb, xo + k * 2 + 1, none⟩ = some (.int .u64 (x.2 : Int)) := xc 1 _ rfl
          have HTK : Hid ((r.dirty.take (k + 1)).foldl An.page a5 = ((r.dirty.take k).foldl An.page a5).page x) := by
            show _ = _
            rw [List.take_add_one, hx, Option.toList, List.foldl_append]
            rfl
          have hA6 := pages_len2 (r.dirty.take k) a5
          have hA6l : (r.dirty.take k).length ≤ 256 := by rw [List.length_take]; omega
          have HL6 : Hid (((r.dirty.take k).foldl An.page a5).dirty.length ≤ 1000000300) := by have := HL5.out; show _ ≤ _; omega
          have HKJ := Lib.hid hkl
          generalize ha6 : ((r.dirty.take k).foldl An.page a5) = a6 at *
          have HA6 := Lib.hid ha6
          clear ha6 hA6 hA6l hx HXF xc hmx
          have HB : Hid (CkSt w wb mb db a6 (recC r (.slice ta r.txs.length tc) (.slice (some ⟨xb, xo, none⟩) r.dirty.length dc)).toArray (wr.alloc (.cells #[.int .u32 (x.1 : Int), .int .u64 (x.2 : Int)] 50)) ∧ Blk (wr.alloc (.cells #[.int .u32 (x.1 : Int), .int .u64 (x.2 : Int)] 50)) wr.heap.size 50 #[.int .u32 (x.1 : Int), .int .u64 (x.2 : Int)]) := ⟨HC.out.below ((Below.refl _ _).alloc (Nat.le_refl _) _), Blk.new _ _ _⟩
          obtain ⟨w2, hw2⟩ : ∃ w2, wr.alloc (.cells #[.int .u32 (x.1 : Int), .int .u64 (x.2 : Int)] 50) = w2 := ⟨_, rfl⟩
          go_upto_region 12 with (fail)
          clear hkl d0 d1
          rw [hw2] at HB
          have hw2h := Lib.hid hw2
          clear hw2 HC
          generalize hcb : wr.heap.size = cb at *
          have HCB := Lib.hid hcb
          clear hcb
          obtain ⟨old, hold⟩ : ∃ o, o = (getL x.1 a6.dirty).getD 0 := ⟨_, rfl⟩
          obtain ⟨there, hthere⟩ : ∃ b, b = (getL x.1 a6.dirty).isSome := ⟨_, rfl⟩
          obtain ⟨mo, hmo⟩ : ∃ mo, w2.heap[db]? = some mo := ⟨_, Array.getElem?_eq_getElem HB.out.1.an.dirty.lt⟩
          have HLK2 : ∀ W : World, W.heap[db]? = some mo → Hid ((Instr.lookup 176 (.map (some db)) (.int .u32 (x.1 : Int)) true).run Tryz.prog W = .ok (.tuple #[.int .u64 (old : Int), .bool there]) W) := fun W hW => by
            have := (HB.out.1.an.dirty.same (hW.trans hmo.symm)).lookD x.1 hx1 (zero_lsn W)
            rw [(zero_lsnV _ x.1).1, (zero_lsnV _ x.1).2] at this
            rw [hold, hthere]
            exact this
          have CS : Hid (OneC ⟨wb, 1, none⟩ (.map (some db)) w2 ∧ OneC ⟨cb, 0, none⟩ (.int .u32 (x.1 : Int)) w2 ∧ w2.heap[db]? = some mo) := ⟨HB.out.1.an.wk.cell 1, HB.out.2.cell 0, hmo⟩
          have HTHERE := Lib.hid (And.intro hold hthere)
          clear hold hthere hmo
          go_cut [10, 11] from 58 to 67 (fun s10 s11 wx => s10 = .int .u64 (old : Int) ∧ s11 = .bool there ∧ Hid (CkSt w wb mb db a6 (recC r (.slice ta r.txs.length tc) (.slice (some ⟨xb, xo, none⟩) r.dirty.length dc)).toArray wx ∧ Blk wx cb 50 #[.int .u32 (x.1 : Int), .int .u64 (x.2 : Int)]))
          case first =>
            refine wp_region_late (S := fun W => OneC ⟨wb, 1, none⟩ (.map (some db)) W ∧ OneC ⟨cb, 0, none⟩ (.int .u32 (x.1 : Int)) W ∧ W.heap[db]? = some mo) (late := []) (by kernel_rfl) CS.out (fun hHeld => ?_)
            refine wpAnyL_move (i := 0) (v := ?_) (by rfl) (by kernel_rfl) (by kernel_rfl) (by kernel_rfl) (by rfl) (by exact fun _ _ _ h => h) (Or.inl ⟨by rfl, ?_⟩) (by assumption) ?_; rotate_left; · (intro w0; go_simp; try with_reducible rfl)
            try simp only [Act.put, List.setIfInBounds_toArray, List.set_cons_zero, List.set_cons_succ]
            refine wpAnyL_move (i := 1) (v := ?_) (by rfl) (by kernel_rfl) (by kernel_rfl) (by kernel_rfl) (by rfl) (by exact fun _ _ _ h => h) (Or.inl ⟨by rfl, ?_⟩) (by assumption) ?_; rotate_left; · (intro w0; go_simp; try with_reducible rfl)
            try simp only [Act.put, List.setIfInBounds_toArray, List.set_cons_zero, List.set_cons_succ]
            refine wpAnyL_move (i := 2) (v := ?_) (by rfl) (by kernel_rfl) (by kernel_rfl) (by kernel_rfl) (by rfl) (by exact fun _ _ _ h => h) (Or.inl ⟨by rfl, ?_⟩) (by assumption) ?_; rotate_left; · (intro w0; go_simp; try with_reducible rfl)
            try simp only [Act.put, List.setIfInBounds_toArray, List.set_cons_zero, List.set_cons_succ]
            refine wpAnyL_loadT 12 (i := 3) (v := ?_) (by rfl) (by kernel_rfl) (by kernel_rfl) (by kernel_rfl) (by rfl) (by kernel_rfl) (by kernel_rfl) (by exact fun _ _ _ h => h) (Or.inl ⟨by rfl, ?_⟩) (by assumption) ?_; rotate_left; · (intro w0 hS0; obtain ⟨hS1, hS2, hS3⟩ := hS0; unfold OneC at hS1 hS2; go_simp; try with_reducible rfl)
            try simp only [Act.put, List.setIfInBounds_toArray, List.set_cons_zero, List.set_cons_succ]
            refine wpAnyL_move (i := 4) (v := ?_) (by rfl) (by kernel_rfl) (by kernel_rfl) (by kernel_rfl) (by rfl) (by exact fun _ _ _ h => h) (Or.inl ⟨by rfl, ?_⟩) (by assumption) ?_; rotate_left; · (intro w0; go_simp; try with_reducible rfl)
            try simp only [Act.put, List.setIfInBounds_toArray, List.set_cons_zero, List.set_cons_succ]
            refine wpAnyL_loadT 12 (i := 5) (v := ?_) (by rfl) (by kernel_rfl) (by kernel_rfl) (by kernel_rfl) (by rfl) (by kernel_rfl) (by kernel_rfl) (by exact fun _ _ _ h => h) (Or.inl ⟨by rfl, ?_⟩) (by assumption) ?_; rotate_left; · (intro w0 hS0; obtain ⟨hS1, hS2, hS3⟩ := hS0; unfold OneC at hS1 hS2; go_simp; try with_reducible rfl)
            try simp only [Act.put, List.setIfInBounds_toArray, List.set_cons_zero, List.set_cons_succ]
            refine wpAnyL_each (rs := [6]) (by kernel_rfl) (by simp) ?_
            refine EachL.cons (by rfl) (by rfl) (fun K hK => ?_) ?_
            · have hL := (HLK2 _ hHeld.2.2).out
              go_simp
              refine hK.out _ _ hHeld (fun hHeld => ?_)
              clear hK K
              try simp only [Act.put, List.setIfInBounds_toArray, List.set_cons_zero, List.set_cons_succ]
              refine wpAnyL_move (i := 7) (v := ?_) (by rfl) (by kernel_rfl) (by kernel_rfl) (by kernel_rfl) (by rfl) (by exact fun _ _ _ h => h) (Or.inl ⟨by rfl, ?_⟩) (by assumption) ?_; rotate_left; · (intro w0; go_simp; try with_reducible rfl)
              try simp only [Act.put, List.setIfInBounds_toArray, List.set_cons_zero, List.set_cons_succ]
              refine wpAnyL_move (i := 8) (v := ?_) (by rfl) (by kernel_rfl) (by kernel_rfl) (by kernel_rfl) (by rfl) (by exact fun _ _ _ h => h) (Or.inl ⟨by rfl, ?_⟩) (by assumption) ?_; rotate_left; · (intro w0; go_simp; try with_reducible rfl)
              try simp only [Act.put, List.setIfInBounds_toArray, List.set_cons_zero, List.set_cons_succ]
              refine wpAnyL_move (i := 9) (v := ?_) (by rfl) (by kernel_rfl) (by kernel_rfl) (by kernel_rfl) (by rfl) (by exact fun _ _ _ h => h) (Or.inl ⟨by rfl, ?_⟩) (by assumption) ?_; rotate_left; · (intro w0; go_simp; try with_reducible rfl)
              try simp only [Act.put, List.setIfInBounds_toArray, List.set_cons_zero, List.set_cons_succ]
              refine wpAnyL_move (i := 10) (v := ?_) (by rfl) (by kernel_rfl) (by kernel_rfl) (by kernel_rfl) (by rfl) (by exact fun _ _ _ h => h) (Or.inl ⟨by rfl, ?_⟩) (by assumption) ?_; rotate_left; · (intro w0; go_simp; try with_reducible rfl)
              try simp only [Act.put, List.setIfInBounds_toArray, List.set_cons_zero, List.set_cons_succ]
              refine wpAnyL_move (i := 11) (v := ?_) (by rfl) (by kernel_rfl) (by kernel_rfl) (by kernel_rfl) (by rfl) (by exact fun _ _ _ h => h) (Or.inl ⟨by rfl, ?_⟩) (by assumption) ?_; rotate_left; · (intro w0; go_simp; try with_reducible rfl)
              try simp only [Act.put, List.setIfInBounds_toArray, List.set_cons_zero, List.set_cons_succ]
              refine wpAnyL_done (by kernel_rfl) ?_ _
              go_wp2_with (fail)
              go_meet
              exact ⟨rfl, rfl, HB.out.1.drewN 1, HB.out.2⟩
            exact EachL.nil
          case rest =>
          obtain ⟨rfl, rfl, HB3⟩ := hcut
          clear HLK2 CS HB hw2h
          have HE : Hid (a6.page x = if there = false ∨ x.2 < old then { a6 with dirty := putL x.1 x.2 a6.dirty } else a6) := by
            show _ = _
            unfold An.page dirtyE
            obtain ⟨h1, h2⟩ := HTHERE.out
            cases hg : getL x.1 a6.dirty with
            | none =>
              rw [hg] at h2
              rw [if_pos (.inl h2)]
            | some o =>
              rw [hg] at h1 h2
              have h1 : old = o := h1
              have h2 : there = true := h2
              simp only
              rw [h1]
              split
              · rename_i hlt; rw [if_pos (.inr hlt)]
              · rename_i hlt; rw [if_neg (fun h => h.elim (fun h => by rw [h2] at h; cases h) hlt)]
          have e1 : wc.cell? ⟨cb, 1, none⟩ = some (.int .u64 (x.2 : Int)) := HB3.out.2.cell 1
          cases there with
          | false =>
            have HEE : Hid (a6.page x = { a6 with dirty := putL x.1 x.2 a6.dirty }) := by show _ = _; rw [HE.out, if_pos (.inl rfl)]
            have HM := Lib.hid HB3.out.1.an.dirty
            have CS2 : Hid (OneC ⟨wb, 1, none⟩ (.map (some db)) wc ∧ OneC ⟨cb, 0, none⟩ (.int .u32 (x.1 : Int)) wc ∧ OneC ⟨cb, 1, none⟩ (.int .u64 (x.2 : Int)) wc) := ⟨HB3.out.1.an.wk.cell 1, HB3.out.2.cell 0, HB3.out.2.cell 1⟩
            go_upto_region 14 with (fail)
            clear e1
            refine wp_region_late (S := fun W => OneC ⟨wb, 1, none⟩ (.map (some db)) W ∧ OneC ⟨cb, 0, none⟩ (.int .u32 (x.1 : Int)) W ∧ OneC ⟨cb, 1, none⟩ (.int .u64 (x.2 : Int)) W) (late := [8]) (by kernel_rfl) CS2.out (fun hHeld => ?_)
            refine wpAnyL_move (i := 0) (v := ?_) (by rfl) (by kernel_rfl) (by kernel_rfl) (by kernel_rfl) (by rfl) (by exact fun _ _ _ h => h) (Or.inl ⟨by rfl, ?_⟩) (by assumption) ?_; rotate_left; · (intro w0; go_simp; try with_reducible rfl)
            try simp only [Act.put, List.setIfInBounds_toArray, List.set_cons_zero, List.set_cons_succ]
            refine wpAnyL_move (i := 1) (v := ?_) (by rfl) (by kernel_rfl) (by kernel_rfl) (by kernel_rfl) (by rfl) (by exact fun _ _ _ h => h) (Or.inl ⟨by rfl, ?_⟩) (by assumption) ?_; rotate_left; · (intro w0; go_simp; try with_reducible rfl)
            try simp only [Act.put, List.setIfInBounds_toArray, List.set_cons_zero, List.set_cons_succ]
            refine wpAnyL_move (i := 2) (v := ?_) (by rfl) (by kernel_rfl) (by kernel_rfl) (by kernel_rfl) (by rfl) (by exact fun _ _ _ h => h) (Or.inl ⟨by rfl, ?_⟩) (by assumption) ?_; rotate_left; · (intro w0; go_simp; try with_reducible rfl)
            try simp only [Act.put, List.setIfInBounds_toArray, List.set_cons_zero, List.set_cons_succ]
            refine wpAnyL_load (i := 3) (v := ?_) (by rfl) (by kernel_rfl) (by kernel_rfl) (by kernel_rfl) (by rfl) (by kernel_rfl) (by exact fun _ _ _ h => h) (Or.inl ⟨by rfl, ?_⟩) (by assumption) ?_; rotate_left; · (intro w0 hS0; obtain ⟨hS1, hS2, hS3⟩ := hS0; unfold OneC at hS1 hS2 hS3; go_simp; try with_reducible rfl)
            try simp only [Act.put, List.setIfInBounds_toArray, List.set_cons_zero, List.set_cons_succ]
            refine wpAnyL_move (i := 4) (v := ?_) (by rfl) (by kernel_rfl) (by kernel_rfl) (by kernel_rfl) (by rfl) (by exact fun _ _ _ h => h) (Or.inl ⟨by rfl, ?_⟩) (by assumption) ?_; rotate_left; · (intro w0; go_simp; try with_reducible rfl)
            try simp only [Act.put, List.setIfInBounds_toArray, List.set_cons_zero, List.set_cons_succ]
            refine wpAnyL_load (i := 5) (v := ?_) (by rfl) (by kernel_rfl) (by kernel_rfl) (by kernel_rfl) (by rfl) (by kernel_rfl) (by exact fun _ _ _ h => h) (Or.inl ⟨by rfl, ?_⟩) (by assumption) ?_; rotate_left; · (intro w0 hS0; obtain ⟨hS1, hS2, hS3⟩ := hS0; unfold OneC at hS1 hS2 hS3; go_simp; try with_reducible rfl)
            try simp only [Act.put, List.setIfInBounds_toArray, List.set_cons_zero, List.set_cons_succ]
            refine wpAnyL_move (i := 6) (v := ?_) (by rfl) (by kernel_rfl) (by kernel_rfl) (by kernel_rfl) (by rfl) (by exact fun _ _ _ h => h) (Or.inl ⟨by rfl, ?_⟩) (by assumption) ?_; rotate_left; · (intro w0; go_simp; try with_reducible rfl)
            try simp only [Act.put, List.setIfInBounds_toArray, List.set_cons_zero, List.set_cons_succ]
            refine wpAnyL_load (i := 7) (v := ?_) (by rfl) (by kernel_rfl) (by kernel_rfl) (by kernel_rfl) (by rfl) (by kernel_rfl) (by exact fun _ _ _ h => h) (Or.inl ⟨by rfl, ?_⟩) (by assumption) ?_; rotate_left; · (intro w0 hS0; obtain ⟨hS1, hS2, hS3⟩ := hS0; unfold OneC at hS1 hS2 hS3; go_simp; try with_reducible rfl)
            try simp only [Act.put, List.setIfInBounds_toArray, List.set_cons_zero, List.set_cons_succ]
            refine wpAnyL_late (i := 8) (by kernel_rfl) (by rfl) (by rfl) (fun K hK => ?_)
            refine step_storeD _ (by rfl) _ _ _ (by rfl) db (mapL_ lsnV a6.dirty) (by rfl) (HM.out.same (w' := wc.drew) rfl) x.1 hx1 (by rw [mapL_length]; have := HL6.out; omega) (lsnV x.2) (by rfl) (by rfl) ?_; intro w7 hm7 hg7
            refine hK.out _ _ ?_
            clear hK K
            try simp only [Act.put]
            refine wpAny_done (by kernel_rfl) ?_ _
            rw [mapL_put] at hm7
            have HX := Lib.hid ((HB3.out.1.drewN 1).putDirty HLT.out.2.2 hg7 hm7)
            clear hm7 hg7
            rw [← HEE.out] at HX
            go_wp2_with (fail)
            go_roundw
            case rel => exact ⟨k + 1, by go_num, HKJ.out, by rw [HTK.out]; exact HX⟩
            case measure => have := HKJ.out; simp [intOf]; omega
          | true =>
            by_cases hlt : (x.2 : Int) < (old : Int)
            · have hlt2 : x.2 < old := by omega
              have HLT2 := Lib.hid hlt2
              clear hlt2
              have HEE : Hid (a6.page x = { a6 with dirty := putL x.1 x.2 a6.dirty }) := by show _ = _; rw [HE.out, if_pos (.inr HLT2.out)]
              have HM := Lib.hid HB3.out.1.an.dirty
              have CS2 : Hid (OneC ⟨wb, 1, none⟩ (.map (some db)) wc ∧ OneC ⟨cb, 0, none⟩ (.int .u32 (x.1 : Int)) wc ∧ OneC ⟨cb, 1, none⟩ (.int .u64 (x.2 : Int)) wc) := ⟨HB3.out.1.an.wk.cell 1, HB3.out.2.cell 0, HB3.out.2.cell 1⟩
              go_upto_region 14 with (fail)
              clear e1
              refine wp_region_late (S := fun W => OneC ⟨wb, 1, none⟩ (.map (some db)) W ∧ OneC ⟨cb, 0, none⟩ (.int .u32 (x.1 : Int)) W ∧ OneC ⟨cb, 1, none⟩ (.int .u64 (x.2 : Int)) W) (late := [8]) (by kernel_rfl) CS2.out (fun hHeld => ?_)
              refine wpAnyL_move (i := 0) (v := ?_) (by rfl) (by kernel_rfl) (by kernel_rfl) (by kernel_rfl) (by rfl) (by exact fun _ _ _ h => h) (Or.inl ⟨by rfl, ?_⟩) (by assumption) ?_; rotate_left; · (intro w0; go_simp; try with_reducible rfl)
              try simp only [Act.put, List.setIfInBounds_toArray, List.set_cons_zero, List.set_cons_succ]
              refine wpAnyL_move (i := 1) (v := ?_) (by rfl) (by kernel_rfl) (by kernel_rfl) (by kernel_rfl) (by rfl) (by exact fun _ _ _ h => h) (Or.inl ⟨by rfl, ?_⟩) (by assumption) ?_; rotate_left; · (intro w0; go_simp; try with_reducible rfl)
              try simp only [Act.put, List.setIfInBounds_toArray, List.set_cons_zero, List.set_cons_succ]
              refine wpAnyL_move (i := 2) (v := ?_) (by rfl) (by kernel_rfl) (by kernel_rfl) (by kernel_rfl) (by rfl) (by exact fun _ _ _ h => h) (Or.inl ⟨by rfl, ?_⟩) (by assumption) ?_; rotate_left; · (intro w0; go_simp; try with_reducible rfl)
              try simp only [Act.put, List.setIfInBounds_toArray, List.set_cons_zero, List.set_cons_succ]
              refine wpAnyL_load (i := 3) (v := ?_) (by rfl) (by kernel_rfl) (by kernel_rfl) (by kernel_rfl) (by rfl) (by kernel_rfl) (by exact fun _ _ _ h => h) (Or.inl ⟨by rfl, ?_⟩) (by assumption) ?_; rotate_left; · (intro w0 hS0; obtain ⟨hS1, hS2, hS3⟩ := hS0; unfold OneC at hS1 hS2 hS3; go_simp; try with_reducible rfl)
              try simp only [Act.put, List.setIfInBounds_toArray, List.set_cons_zero, List.set_cons_succ]
              refine wpAnyL_move (i := 4) (v := ?_) (by rfl) (by kernel_rfl) (by kernel_rfl) (by kernel_rfl) (by rfl) (by exact fun _ _ _ h => h) (Or.inl ⟨by rfl, ?_⟩) (by assumption) ?_; rotate_left; · (intro w0; go_simp; try with_reducible rfl)
              try simp only [Act.put, List.setIfInBounds_toArray, List.set_cons_zero, List.set_cons_succ]
              refine wpAnyL_load (i := 5) (v := ?_) (by rfl) (by kernel_rfl) (by kernel_rfl) (by kernel_rfl) (by rfl) (by kernel_rfl) (by exact fun _ _ _ h => h) (Or.inl ⟨by rfl, ?_⟩) (by assumption) ?_; rotate_left; · (intro w0 hS0; obtain ⟨hS1, hS2, hS3⟩ := hS0; unfold OneC at hS1 hS2 hS3; go_simp; try with_reducible rfl)
              try simp only [Act.put, List.setIfInBounds_toArray, List.set_cons_zero, List.set_cons_succ]
              refine wpAnyL_move (i := 6) (v := ?_) (by rfl) (by kernel_rfl) (by kernel_rfl) (by kernel_rfl) (by rfl) (by exact fun _ _ _ h => h) (Or.inl ⟨by rfl, ?_⟩) (by assumption) ?_; rotate_left; · (intro w0; go_simp; try with_reducible rfl)
              try simp only [Act.put, List.setIfInBounds_toArray, List.set_cons_zero, List.set_cons_succ]
              refine wpAnyL_load (i := 7) (v := ?_) (by rfl) (by kernel_rfl) (by kernel_rfl) (by kernel_rfl) (by rfl) (by kernel_rfl) (by exact fun _ _ _ h => h) (Or.inl ⟨by rfl, ?_⟩) (by assumption) ?_; rotate_left; · (intro w0 hS0; obtain ⟨hS1, hS2, hS3⟩ := hS0; unfold OneC at hS1 hS2 hS3; go_simp; try with_reducible rfl)
              try simp only [Act.put, List.setIfInBounds_toArray, List.set_cons_zero, List.set_cons_succ]
              refine wpAnyL_late (i := 8) (by kernel_rfl) (by rfl) (by rfl) (fun K hK => ?_)
              refine step_storeD _ (by rfl) _ _ _ (by rfl) db (mapL_ lsnV a6.dirty) (by rfl) (HM.out.same (w' := wc.drew) rfl) x.1 hx1 (by rw [mapL_length]; have := HL6.out; omega) (lsnV x.2) (by rfl) (by rfl) ?_; intro w7 hm7 hg7
              refine hK.out _ _ ?_
              clear hK K
              try simp only [Act.put]
              refine wpAny_done (by kernel_rfl) ?_ _
              rw [mapL_put] at hm7
              have HX := Lib.hid ((HB3.out.1.drewN 1).putDirty HLT.out.2.2 hg7 hm7)
              clear hm7 hg7
              rw [← HEE.out] at HX
              go_wp2_with (fail)
              go_roundw
              case rel => exact ⟨k + 1, by go_num, HKJ.out, by rw [HTK.out]; exact HX⟩
              case measure => have := HKJ.out; simp [intOf]; omega
            · have HEE : Hid (a6.page x = a6) := by show _ = _; rw [HE.out, if_neg (by rintro (h | h); exact Bool.noConfusion h; omega)]
              have HS := HB3
              rw [← HEE.out] at HS
              go_wp2_with (fail)
              go_roundw
              case rel => exact ⟨k + 1, by go_num, HKJ.out, by rw [HTK.out]; exact HS.out.1⟩
              case measure => have := HKJ.out; simp [intOf]; omega
        · obtain rfl : k = r.dirty.length := by omega
          rw [List.take_length] at HC
          go_wp2_with (fail)
          go_end0
          exact ⟨rfl, by rw [HFIN.out]; exact HC.out.an, HC.out.step⟩
end
end Go.Proofs.YtpnndlahfllbhaaGreat
