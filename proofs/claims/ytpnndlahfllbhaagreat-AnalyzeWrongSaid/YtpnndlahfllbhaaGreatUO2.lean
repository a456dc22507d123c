/-
  The walk of analyze's work.tx.
-/
import Derived.Test.YtpnndlahfllbhaaGreatUO0
import Derived.Test.YtpnndlahfllbhaaGreatUO1
import Derived.Test.YtpnndlahfllbhaaGreatUN1
import Derived.Test.YtpnndlahfllbhaaGreatUV2
import Derived.Test.YtpnndlahfllbhaaGreatUZ0
import Derived.Deep.CutRange
namespace Go.Proofs.YtpnndlahfllbhaaGreat
open Go.RowKit
attribute [local go_sem ↓] Go.wp_at_zero Go.wp_at_succ

/-! lists that are mapped -/
def mapL_ {α : Type} (f : α → Value) (l : List (Nat × α)) : List (Nat × Value) := l.map fun p => (p.1, f p.2)
section
variable {α : Type} {f : α → Value}
theorem mapL_get (n : Nat) : ∀ l : List (Nat × α), getL n (mapL_ f l) = (getL n l).map f
  | [] => rfl
  | (k, x) :: l => by
    have ih := mapL_get n l
    unfold mapL_ at ih ⊢
    rw [List.map_cons, getL, getL, ih]
    split <;> rfl
theorem mapL_put (n : Nat) (x : α) : ∀ l : List (Nat × α), putL n (f x) (mapL_ f l) = mapL_ f (putL n x l)
  | [] => rfl
  | (k, y) :: l => by
    have ih := mapL_put n x l
    unfold mapL_ at ih ⊢
    rw [List.map_cons, putL, putL, ih]
    split
    · rfl
    · split <;> rfl
theorem mapL_del (n : Nat) (l : List (Nat × α)) : delL n (mapL_ f l) = mapL_ f (delL n l) := by
  unfold mapL_ delL
  rw [List.filter_map]
  rfl
theorem mapL_length (l : List (Nat × α)) : (mapL_ f l).length = l.length := List.length_map _
end
theorem heap_alloc_some2 {w : World} {k : Nat} {o x : Obj} (h : w.heap[k]? = some o) : (w.alloc x).heap[k]? = some o := (Below.heap_alloc _ _ _ (Array.getElem?_eq_some_iff.1 h).1).trans h
def tsV (t : Ts) : Value := .agg #[.int .i64 t.tx, .int .i64 t.state, .int .u64 (t.last : Int), .int .u64 (t.next : Int)]
def lsnV (n : Nat) : Value := .int .u64 (n : Int)
/-- what is found, in memory -/
structure AnIn (w : World) (wb mb db : Nat) (a : An) : Prop where
  wk : Blk w wb 178 #[.map (some mb), .map (some db), .slice none 0 0, .slice none 0 0, .int .u64 0, .int .i64 (a.most : Int), .int .i64 (a.recs : Int)]
  txs : MapT w mb (mapL_ tsV a.txs)
  dirty : MapL w db (mapL_ lsnV a.dirty)
  ne : mb ≠ db ∧ wb ≠ mb ∧ wb ≠ db
def GA (wb mb db : Nat) : Nat → Prop := fun k => k = wb ∨ k = mb ∨ k = db
section
variable {w w' : World} {wb mb db : Nat} {a : An}
theorem AnIn.below (h : AnIn w wb mb db a) (hb : Below w.heap.size w w') : AnIn w' wb mb db a := ⟨h.wk.same (hb.block _ h.wk.lt), h.txs.same (hb.block _ h.txs.lt), h.dirty.same (hb.block _ h.dirty.lt), h.ne⟩
theorem AnIn.same (h : AnIn w wb mb db a) (hb : ∀ k, k < w.heap.size → w'.heap[k]? = w.heap[k]?) : AnIn w' wb mb db a := ⟨h.wk.same (hb _ h.wk.lt), h.txs.same (hb _ h.txs.lt), h.dirty.same (hb _ h.dirty.lt), h.ne⟩
theorem AnIn.lt (h : AnIn w wb mb db a) : wb < w.heap.size ∧ mb < w.heap.size ∧ db < w.heap.size := ⟨h.wk.lt, h.txs.lt, h.dirty.lt⟩
theorem AnIn.setMost (h : AnIn w wb mb db a) (n : Nat) : AnIn (w.setCell ⟨wb, 5, none⟩ (.int .i64 (n : Int))) wb mb db { a with most := n } := by
  obtain ⟨n1, n2, n3⟩ := h.ne
  refine ⟨?_, h.txs.same (Below.heap_setCell _ _ _ _ (fun e => n2 e.symm)), h.dirty.same (Below.heap_setCell _ _ _ _ (fun e => n3 e.symm)), h.ne⟩
  have := h.wk.set_ 5 (.int .i64 (n : Int))
  simpa using this
theorem AnIn.setRecs (h : AnIn w wb mb db a) : AnIn (w.setCell ⟨wb, 6, none⟩ (.int .i64 ((a.recs : Int) + 1))) wb mb db a.next := by
  obtain ⟨n1, n2, n3⟩ := h.ne
  refine ⟨?_, h.txs.same (Below.heap_setCell _ _ _ _ (fun e => n2 e.symm)), h.dirty.same (Below.heap_setCell _ _ _ _ (fun e => n3 e.symm)), h.ne⟩
  have := h.wk.set_ 6 (.int .i64 ((a.recs : Int) + 1))
  simpa [An.next] using this
theorem AnIn.putTxs (h : AnIn w wb mb db a) {l : List (Nat × Ts)} (hg : w.grownBy w' (some mb)) (hm : MapT w' mb (mapL_ tsV l)) : AnIn w' wb mb db { a with txs := l } := by
  obtain ⟨n1, n2, n3⟩ := h.ne
  exact ⟨h.wk.same (hg.block _ h.wk.lt (fun e => n2 (Option.some.inj e))), hm, h.dirty.same (hg.block _ h.dirty.lt (fun e => n1 (Option.some.inj e).symm)), h.ne⟩
theorem AnIn.putDirty (h : AnIn w wb mb db a) {l : List (Nat × Nat)} (hg : w.grownBy w' (some db)) (hm : MapL w' db (mapL_ lsnV l)) : AnIn w' wb mb db { a with dirty := l } := by
  obtain ⟨n1, n2, n3⟩ := h.ne
  exact ⟨h.wk.same (hg.block _ h.wk.lt (fun e => n3 (Option.some.inj e))), h.txs.same (hg.block _ h.txs.lt (fun e => n1 (Option.some.inj e))), hm, h.ne⟩
theorem step_grown {wb mb db m : Nat} (hm : m = mb ∨ m = db) (hg : w.grownBy w' (some m)) : Step (GA wb mb db) w w' :=
  ⟨hg.os, hg.tape, hg.output, hg.size, fun k hk hn => hg.block k hk (fun e => hn (by rcases hm with rfl | rfl; exact .inr (.inl (Option.some.inj e)); exact .inr (.inr (Option.some.inj e))))⟩
end
/-- while a transaction is taken in: the record's copy, the transaction's state -/
structure TxSt (w : World) (wb mb db : Nat) (a : An) (rc : Array Value) (t : Ts) (W : World) : Prop where
  an : AnIn W wb mb db a
  base : Below w.heap.size w W
  box : Blk W w.heap.size 63 rc
  tbx : Blk W (w.heap.size + 1) 44 #[.int .i64 t.tx, .int .i64 t.state, .int .u64 (t.last : Int), .int .u64 (t.next : Int)]
section
variable {w W W' : World} {wb mb db : Nat} {a : An} {rc : Array Value} {t t' : Ts}
theorem TxSt.set (h : TxSt w wb mb db a rc t W) (hlt : wb < w.heap.size ∧ mb < w.heap.size ∧ db < w.heap.size) {i : Nat} {v : Value}
    (hv : (#[.int .i64 t.tx, .int .i64 t.state, .int .u64 (t.last : Int), .int .u64 (t.next : Int)] : Array Value).setIfInBounds i v = #[.int .i64 t'.tx, .int .i64 t'.state, .int .u64 (t'.last : Int), .int .u64 (t'.next : Int)]) :
    TxSt w wb mb db a rc t' (W.setCell ⟨w.heap.size + 1, i, none⟩ v) := by
  have hS : ∀ k, k ≠ w.heap.size + 1 → (W.setCell ⟨w.heap.size + 1, i, none⟩ v).heap[k]? = W.heap[k]? := fun k hk => Below.heap_setCell _ _ _ _ hk
  obtain ⟨l1, l2, l3⟩ := hlt
  refine ⟨⟨h.an.wk.same (hS _ (by omega)), h.an.txs.same (hS _ (by omega)), h.an.dirty.same (hS _ (by omega)), h.an.ne⟩, h.base.setCell (by simp) _, h.box.same (hS _ (by omega)), ?_⟩
  have := h.tbx.set_ i v
  rwa [hv] at this
end
section
variable {w : World} {wb mb db : Nat} {a : An} {r : Rc} {tv dv : Value}
theorem zero_txV (l : List (Nat × Ts)) (n : Nat) : (getL n (mapL_ tsV l)).getD (.agg #[.int .i64 0, .int .i64 0, .int .u64 0, .int .u64 0]) = tsV ((getL n l).getD ⟨0, 0, 0, 0⟩) ∧ (getL n (mapL_ tsV l)).isSome = (getL n l).isSome := by
  rw [mapL_get]
  cases getL n l <;> exact ⟨rfl, rfl⟩
set_option maxRecDepth 100000 in
set_option maxHeartbeats 4000000 in
theorem anTx_c (h : AnIn w wb mb db a) (hr : r.ok) (n : Nat) (hlen : a.txs.length ≤ 1000000000) :
    Calls Tryz.prog 158 #[.pointer (some ⟨wb, 0, none⟩), .int .u64 (n : Int), RecV r tv dv] w fun e w' => e = .returned (.tuple #[]) ∧ AnIn w' wb mb db { a with txs := r.txE n a.txs } ∧ Step (GA wb mb db) w w' := by
  have hok1 : r.ok1 := hr.a1
  unfold Rc.ok1 at hok1
  obtain ⟨kt, hkt⟩ : ∃ k : Nat, r.tx = (k : Int) := ⟨r.tx.toNat, by omega⟩
  have hkt2 : kt < 2147483648 := by omega
  have HKT := Lib.hid hkt
  obtain ⟨old, hold⟩ : ∃ o, o = (getL kt a.txs).getD ⟨0, 0, 0, 0⟩ := ⟨_, rfl⟩
  obtain ⟨there, hthere⟩ : ∃ b, b = (getL kt a.txs).isSome := ⟨_, rfl⟩
  have HBX := Lib.hid (BoxAt.new w 63 (recC r tv dv).toArray)
  have HLT := Lib.hid h.lt
  have H0 := Lib.hid h
  show Calls Tryz.prog 158 #[.pointer (some ⟨wb, 0, none⟩), .int .u64 (n : Int), .agg #[.int .i64 r.kind, .int .i64 r.tx, .int .u64 (r.prev : Int), .int .u64 (r.next : Int), .int .u32 (r.page : Int), .int .i64 r.op.kind, .int .i64 r.op.at_, .string r.op.s, .string r.op.old, .int .i64 r.undo, .int .i64 r.index, .string r.entry.key, .int .u32 (r.entry.page : Int), .int .i64 r.entry.slot, .bool r.live, tv, dv]] w _
  obtain ⟨w1, hw1⟩ : ∃ w1, w.alloc (.cells (recC r tv dv).toArray 63) = w1 := ⟨_, rfl⟩
  have hw1' : w.alloc (.cells #[.int .i64 r.kind, .int .i64 r.tx, .int .u64 (r.prev : Int), .int .u64 (r.next : Int), .int .u32 (r.page : Int), .int .i64 r.op.kind, .int .i64 r.op.at_, .string r.op.s, .string r.op.old, .int .i64 r.undo, .int .i64 r.index, .string r.entry.key, .int .u32 (r.entry.page : Int), .int .i64 r.entry.slot, .bool r.live, tv, dv] 63) = w1 := hw1
  rw [hw1] at HBX
  have hsz1 : w1.heap.size = w.heap.size + 1 := by rw [← hw1]; simp
  have H1 := Lib.hid (h.below HBX.out.base)
  have HSZ1 := Lib.hid hsz1
  obtain ⟨mo, hmo⟩ : ∃ mo, w1.heap[mb]? = some mo := ⟨_, Array.getElem?_eq_getElem H1.out.txs.lt⟩
  have HLK2 : ∀ W : World, W.heap[mb]? = some mo → Hid ((Instr.lookup 175 (.map (some mb)) (.int .i64 (kt : Int)) true).run Tryz.prog W = .ok (.tuple #[.agg #[.int .i64 old.tx, .int .i64 old.state, .int .u64 (old.last : Int), .int .u64 (old.next : Int)], .bool there]) W) := fun W hW => by
    have := (H1.out.txs.same (hW.trans hmo.symm)).look kt (by omega) (zero_tx W)
    rw [(zero_txV a.txs kt).1, (zero_txV a.txs kt).2, ← hold, ← hthere] at this
    exact this
  have CS : Hid (OneC ⟨wb, 0, none⟩ (.map (some mb)) w1 ∧ OneC ⟨w.heap.size, 1, none⟩ (.int .i64 (kt : Int)) w1 ∧ w1.heap[mb]? = some mo) := ⟨H1.out.wk.cell 0, by rw [← hkt]; exact HBX.out.blk.cell 1, hmo⟩
  have HOLD := Lib.hid hold
  have HTHERE := Lib.hid hthere
  have HLEN := Lib.hid hlen
  clear h hr hok1 hkt hold hthere hw1 hsz1 hmo hlen
  go_enter Tryz.func158, Tryz.ntmps158
  go_upto_region 1 with (fail)
  go_cut [6, 7] from 8 to 17 (fun s6 s7 wx => s6 = .pointer (some ⟨w.heap.size + 1, 0, none⟩) ∧ s7 = .bool there ∧ Hid (TxSt w wb mb db a (recC r tv dv).toArray old wx))
  case first =>
    have HT : ∀ W : World, (∀ k, k < (w1.alloc (.cells #[.int .i64 old.tx, .int .i64 old.state, .int .u64 (old.last : Int), .int .u64 (old.next : Int)] 44)).heap.size → W.heap[k]? = (w1.alloc (.cells #[.int .i64 old.tx, .int .i64 old.state, .int .u64 (old.last : Int), .int .u64 (old.next : Int)] 44)).heap[k]?) → Below w1.heap.size w1 W → Hid (TxSt w wb mb db a (recC r tv dv).toArray old W) := fun W hW hb => by
      have hz : (w1.alloc (.cells #[.int .i64 old.tx, .int .i64 old.state, .int .u64 (old.last : Int), .int .u64 (old.next : Int)] 44)).heap.size = w1.heap.size + 1 := by simp
      have hB := Blk.new w1 44 #[.int .i64 old.tx, .int .i64 old.state, .int .u64 (old.last : Int), .int .u64 (old.next : Int)]
      rw [HSZ1.out] at hB hz
      exact ⟨H1.out.below hb, HBX.out.base.trans (hb.mono (by rw [HSZ1.out]; omega)), HBX.out.blk.same (hb.block _ HBX.out.blk.lt), hB.same (hW _ (by omega))⟩
    clear hw1'
    refine wp_region_late (S := fun W => OneC ⟨wb, 0, none⟩ (.map (some mb)) W ∧ OneC ⟨w.heap.size, 1, none⟩ (.int .i64 (kt : Int)) W ∧ W.heap[mb]? = some mo) (late := [11]) (by kernel_rfl) CS.out (fun hHeld => ?_)
    refine wpAnyL_move (i := 0) (v := ?_) (by rfl) (by kernel_rfl) (by kernel_rfl) (by kernel_rfl) (by rfl) (by exact fun _ _ _ h => h) (Or.inl ⟨by rfl, ?_⟩) (by assumption) ?_; rotate_left; · (intro w0; go_simp; try with_reducible rfl)
    try simp only [Act.put, List.setIfInBounds_toArray, List.set_cons_zero, List.set_cons_succ]
    refine wpAnyL_move (i := 1) (v := ?_) (by rfl) (by kernel_rfl) (by kernel_rfl) (by kernel_rfl) (by rfl) (by exact fun _ _ _ h => h) (Or.inl ⟨by rfl, ?_⟩) (by assumption) ?_; rotate_left; · (intro w0; go_simp; try with_reducible rfl)
    try simp only [Act.put, List.setIfInBounds_toArray, List.set_cons_zero, List.set_cons_succ]
    refine wpAnyL_move (i := 2) (v := ?_) (by rfl) (by kernel_rfl) (by kernel_rfl) (by kernel_rfl) (by rfl) (by exact fun _ _ _ h => h) (Or.inl ⟨by rfl, ?_⟩) (by assumption) ?_; rotate_left; · (intro w0; go_simp; try with_reducible rfl)
    try simp only [Act.put, List.setIfInBounds_toArray, List.set_cons_zero, List.set_cons_succ]
    refine wpAnyL_loadT 13 (i := 3) (v := ?_) (by rfl) (by kernel_rfl) (by kernel_rfl) (by kernel_rfl) (by rfl) (by kernel_rfl) (by kernel_rfl) (by exact fun _ _ _ h => h) (Or.inl ⟨by rfl, ?_⟩) (by assumption) ?_; rotate_left; · (intro w0 hS0; obtain ⟨hS1, hS2, hS3⟩ := hS0; unfold OneC at hS1 hS2; go_simp; try with_reducible rfl)
    try simp only [Act.put, List.setIfInBounds_toArray, List.set_cons_zero, List.set_cons_succ]
    refine wpAnyL_move (i := 4) (v := ?_) (by rfl) (by kernel_rfl) (by kernel_rfl) (by kernel_rfl) (by rfl) (by exact fun _ _ _ h => h) (Or.inl ⟨by rfl, ?_⟩) (by assumption) ?_; rotate_left; · (intro w0; go_simp; try with_reducible rfl)
    try simp only [Act.put, List.setIfInBounds_toArray, List.set_cons_zero, List.set_cons_succ]
    refine wpAnyL_loadT 13 (i := 5) (v := ?_) (by rfl) (by kernel_rfl) (by kernel_rfl) (by kernel_rfl) (by rfl) (by kernel_rfl) (by kernel_rfl) (by exact fun _ _ _ h => h) (Or.inl ⟨by rfl, ?_⟩) (by assumption) ?_; rotate_left; · (intro w0 hS0; obtain ⟨hS1, hS2, hS3⟩ := hS0; unfold OneC at hS1 hS2; go_simp; try with_reducible rfl)
    try simp only [Act.put, List.setIfInBounds_toArray, List.set_cons_zero, List.set_cons_succ]
    refine wpAnyL_each (rs := [6, 10]) (by kernel_rfl) (by simp) ?_
    refine EachL.cons (by rfl) (by rfl) (fun K hK => ?_) ?_
    · have hL := (HLK2 _ hHeld.2.2).out
      go_simp
      refine hK.out _ _ hHeld (fun hHeld => ?_)
      clear hK K
      try simp only [Act.put, List.setIfInBounds_toArray, List.set_cons_zero, List.set_cons_succ]
      refine wpAnyL_move (i := 7) (v := ?_) (by rfl) (by kernel_rfl) (by kernel_rfl) (by kernel_rfl) (by rfl) (by exact fun _ _ _ h => h) (Or.inl ⟨by rfl, ?_⟩) (by assumption) ?_; rotate_left; · (intro w0; go_simp; try with_reducible rfl)
      try simp only [Act.put, List.setIfInBounds_toArray, List.set_cons_zero, List.set_cons_succ]
      refine wpAnyL_move (i := 8) (v := ?_) (by rfl) (by kernel_rfl) (by kernel_rfl) (by kernel_rfl) (by rfl) (by exact fun _ _ _ h => h) (Or.inl ⟨by rfl, ?_⟩) (by assumption) ?_; rotate_left; · (intro w0; go_simp; try with_reducible rfl)
      try simp only [Act.put, List.setIfInBounds_toArray, List.set_cons_zero, List.set_cons_succ]
      refine wpAnyL_move (i := 9) (v := ?_) (by rfl) (by kernel_rfl) (by kernel_rfl) (by kernel_rfl) (by rfl) (by exact fun _ _ _ h => h) (Or.inl ⟨by rfl, ?_⟩) (by assumption) ?_; rotate_left; · (intro w0; go_simp; try with_reducible rfl)
      try simp only [Act.put, List.setIfInBounds_toArray, List.set_cons_zero, List.set_cons_succ]
      refine wpAnyL_each (rs := [10]) (by kernel_rfl) (by simp) ?_
      refine EachL.cons (by rfl) (by rfl) (fun K hK => ?_) ?_
      · go_simp
        refine hK.out _ _ ⟨hHeld.1.alloc _, hHeld.2.1.alloc _, heap_alloc_some2 hHeld.2.2⟩ (fun hHeld => ?_)
        clear hK K
        try simp only [Act.put, List.setIfInBounds_toArray, List.set_cons_zero, List.set_cons_succ]
        refine wpAnyL_late (i := 11) (by kernel_rfl) (by rfl) (by rfl) (fun K hK => ?_)
        go_simp
        refine hK.out _ _ ?_
        clear hK K
        try simp only [Act.put, List.setIfInBounds_toArray, List.set_cons_zero, List.set_cons_succ]
        refine wpAny_move (i := 12) (v := ?_) (by rfl) (by kernel_rfl) (by kernel_rfl) (by kernel_rfl) (by exact fun _ _ _ h => h) (Or.inl ⟨by rfl, ?_⟩) ?_; rotate_left; · (intro w0; go_simp; try with_reducible rfl)
        try simp only [Act.put, List.setIfInBounds_toArray, List.set_cons_zero, List.set_cons_succ]
        refine wpAny_done (by kernel_rfl) ?_ _
        go_wp2_with (fail)
        go_meet
        refine ⟨?_, rfl, HT _ (fun _ _ => rfl) (((Below.refl _ _).alloc (Nat.le_refl _) _).trans ((below_drewN _ 1).mono (by simp)))⟩
        rw [HSZ1.out]
      exact EachL.nil
    refine EachL.cons (by rfl) (by rfl) (fun K hK => ?_) ?_
    · go_simp
      refine hK.out _ _ ⟨hHeld.1.alloc _, hHeld.2.1.alloc _, heap_alloc_some2 hHeld.2.2⟩ (fun hHeld => ?_)
      clear hK K
      try simp only [Act.put, List.setIfInBounds_toArray, List.set_cons_zero, List.set_cons_succ]
      refine wpAnyL_each (rs := [6]) (by kernel_rfl) (by simp) ?_
      refine EachL.cons (by rfl) (by rfl) (fun K hK => ?_) ?_
      · have hL := (HLK2 _ hHeld.2.2).out
        go_simp
        refine hK.out _ _ hHeld (fun hHeld => ?_)
        clear hK K
        try simp only [Act.put, List.setIfInBounds_toArray, List.set_cons_zero, List.set_cons_succ]
        refine wpAnyL_move (i := 7) (v := ?_) (by rfl) (by kernel_rfl) (by kernel_rfl) (by kernel_rfl) (by rfl) (by exact fun _ _ _ h => h) (Or.inl ⟨by rfl, ?_⟩) (by assumption) ?_; rotate_left; · (intro w0; go_simp; try with_reducible rfl)
        try simp only [Act.put, List.setIfInBounds_toArray, List.set_cons_zero, List.set_cons_succ]
        refine wpAnyL_move (i := 8) (v := ?_) (by rfl) (by kernel_rfl) (by kernel_rfl) (by kernel_rfl) (by rfl) (by exact fun _ _ _ h => h) (Or.inl ⟨by rfl, ?_⟩) (by assumption) ?_; rotate_left; · (intro w0; go_simp; try with_reducible rfl)
        try simp only [Act.put, List.setIfInBounds_toArray, List.set_cons_zero, List.set_cons_succ]
        refine wpAnyL_move (i := 9) (v := ?_) (by rfl) (by kernel_rfl) (by kernel_rfl) (by kernel_rfl) (by rfl) (by exact fun _ _ _ h => h) (Or.inl ⟨by rfl, ?_⟩) (by assumption) ?_; rotate_left; · (intro w0; go_simp; try with_reducible rfl)
        try simp only [Act.put, List.setIfInBounds_toArray, List.set_cons_zero, List.set_cons_succ]
        refine wpAnyL_late (i := 11) (by kernel_rfl) (by rfl) (by rfl) (fun K hK => ?_)
        go_simp
        refine hK.out _ _ ?_
        clear hK K
        try simp only [Act.put, List.setIfInBounds_toArray, List.set_cons_zero, List.set_cons_succ]
        refine wpAny_move (i := 12) (v := ?_) (by rfl) (by kernel_rfl) (by kernel_rfl) (by kernel_rfl) (by exact fun _ _ _ h => h) (Or.inl ⟨by rfl, ?_⟩) ?_; rotate_left; · (intro w0; go_simp; try with_reducible rfl)
        try simp only [Act.put, List.setIfInBounds_toArray, List.set_cons_zero, List.set_cons_succ]
        refine wpAny_done (by kernel_rfl) ?_ _
        go_wp2_with (fail)
        go_meet
        refine ⟨?_, rfl, HT _ (fun _ _ => rfl) (((Below.refl _ _).alloc (Nat.le_refl _) _).trans ((below_drewN _ 1).mono (by simp)))⟩
        rw [HSZ1.out]
      exact EachL.nil
    exact EachL.nil
  case rest =>
  obtain ⟨rfl, rfl, HT⟩ := hcut
  clear HLK2 CS H1 HBX hw1'
  have q0 : wc.cell? ⟨w.heap.size + 1, 0, none⟩ = some (.int .i64 old.tx) := HT.out.tbx.cell 0
  have q1 : wc.cell? ⟨w.heap.size + 1, 1, none⟩ = some (.int .i64 old.state) := HT.out.tbx.cell 1
  have q2 : wc.cell? ⟨w.heap.size + 1, 2, none⟩ = some (.int .u64 (old.last : Int)) := HT.out.tbx.cell 2
  have q3 : wc.cell? ⟨w.heap.size + 1, 3, none⟩ = some (.int .u64 (old.next : Int)) := HT.out.tbx.cell 3
  have z0 : wc.frozen? ⟨w.heap.size + 1, 0, none⟩ = false := HT.out.tbx.frozen 0
  have z1 : wc.frozen? ⟨w.heap.size + 1, 1, none⟩ = false := HT.out.tbx.frozen 1
  have z2 : wc.frozen? ⟨w.heap.size + 1, 2, none⟩ = false := HT.out.tbx.frozen 2
  have z3 : wc.frozen? ⟨w.heap.size + 1, 3, none⟩ = false := HT.out.tbx.frozen 3
  have b0 : wc.cell? ⟨w.heap.size, 0, none⟩ = some (.int .i64 r.kind) := HT.out.box.cell 0
  have b1 : wc.cell? ⟨w.heap.size, 1, none⟩ = some (.int .i64 (kt : Int)) := by rw [← HKT.out]; exact HT.out.box.cell 1
  have b3 : wc.cell? ⟨w.heap.size, 3, none⟩ = some (.int .u64 (r.next : Int)) := HT.out.box.cell 3
  have e0 : wc.cell? ⟨wb, 0, none⟩ = some (.map (some mb)) := HT.out.an.wk.cell 0
  have HOK2 : Hid (∃ o2 : Ts, o2 = (getL r.tx.toNat a.txs).getD ⟨r.tx, 1, 0, 0⟩) := ⟨_, rfl⟩
  obtain ⟨o2, ho2⟩ := HOK2.out
  have HO2 := Lib.hid ho2
  clear ho2 HOK2
  have HO3 : Hid (there = true → o2 = old) := by
    show _ → _
    intro h
    rw [HO2.out, HOLD.out, HKT.out, Int.toNat_natCast]
    have h2 := HTHERE.out
    rw [h] at h2
    cases hg : getL kt a.txs with
    | none => rw [hg] at h2; cases h2
    | some z => rfl
  have HO4 : Hid (there = false → o2 = ⟨(kt : Int), 1, 0, 0⟩) := by
    show _ → _
    intro h
    rw [HO2.out, HKT.out, Int.toNat_natCast]
    have h2 := HTHERE.out
    rw [h] at h2
    cases hg : getL kt a.txs with
    | none => rfl
    | some z => rw [hg] at h2; cases h2
  go_upto_if 19 with (fail)
  go_cut [] from 19 to 22 (fun wx => Hid (TxSt w wb mb db a (recC r tv dv).toArray o2 wx))
  case first =>
    cases there with
    | true =>
      have HS := HT
      rw [← HO3.out rfl] at HS
      go_wp2_with (fail)
      go_meet
      exact HS
    | false =>
      have HS := Lib.hid ((((HT.out.set HLT.out (i := 0) (v := .int .i64 (kt : Int)) (t' := ⟨(kt : Int), old.state, old.last, old.next⟩) (by simp)).set HLT.out (i := 1) (v := .int .i64 1) (t' := ⟨(kt : Int), 1, old.last, old.next⟩) (by simp)).set HLT.out (i := 2) (v := .int .u64 0) (t' := ⟨(kt : Int), 1, 0, old.next⟩) (by simp)).set HLT.out (i := 3) (v := .int .u64 0) (t' := ⟨(kt : Int), 1, 0, 0⟩) (by simp))
      rw [← HO4.out rfl] at HS
      go_wp2_with (fail)
      go_meet
      exact HS
  case rest =>
  clear q0 q1 q2 q3 z0 z1 z2 z3 b0 b1 b3 e0
  clear HT HO3 HO4 HOLD HTHERE
  have HT2 := hcut
  clear hcut
  have HRES : Hid (r.txE n a.txs = if r.kind = 6 then delL kt a.txs else putL kt (r.stepT n o2) a.txs) := by
    show _ = _
    rw [HO2.out]
    unfold Rc.txE
    rw [HKT.out]
    simp only [Int.toNat_natCast]
  clear HO2
  obtain ⟨ot, os, ol, on⟩ := o2
  have q0 : wc.cell? ⟨w.heap.size + 1, 0, none⟩ = some (.int .i64 (⟨ot, os, ol, on⟩ : Ts).tx) := HT2.out.tbx.cell 0
  have q1 : wc.cell? ⟨w.heap.size + 1, 1, none⟩ = some (.int .i64 (⟨ot, os, ol, on⟩ : Ts).state) := HT2.out.tbx.cell 1
  have q2 : wc.cell? ⟨w.heap.size + 1, 2, none⟩ = some (.int .u64 ((⟨ot, os, ol, on⟩ : Ts).last : Int)) := HT2.out.tbx.cell 2
  have q3 : wc.cell? ⟨w.heap.size + 1, 3, none⟩ = some (.int .u64 ((⟨ot, os, ol, on⟩ : Ts).next : Int)) := HT2.out.tbx.cell 3
  have z0 : wc.frozen? ⟨w.heap.size + 1, 0, none⟩ = false := HT2.out.tbx.frozen 0
  have z1 : wc.frozen? ⟨w.heap.size + 1, 1, none⟩ = false := HT2.out.tbx.frozen 1
  have z2 : wc.frozen? ⟨w.heap.size + 1, 2, none⟩ = false := HT2.out.tbx.frozen 2
  have z3 : wc.frozen? ⟨w.heap.size + 1, 3, none⟩ = false := HT2.out.tbx.frozen 3
  have b0 : wc.cell? ⟨w.heap.size, 0, none⟩ = some (.int .i64 r.kind) := HT2.out.box.cell 0
  have b1 : wc.cell? ⟨w.heap.size, 1, none⟩ = some (.int .i64 (kt : Int)) := by rw [← HKT.out]; exact HT2.out.box.cell 1
  have b3 : wc.cell? ⟨w.heap.size, 3, none⟩ = some (.int .u64 (r.next : Int)) := HT2.out.box.cell 3
  have e0 : wc.cell? ⟨wb, 0, none⟩ = some (.map (some mb)) := HT2.out.an.wk.cell 0
  simp only at q0 q1 q2 q3
  have HT3 := Lib.hid (HT2.out.set HLT.out (i := 2) (v := .int .u64 (n : Int)) (t' := ⟨ot, os, n, on⟩) (by simp))
  go_upto_region 5 with (fail)
  clear q0 q1 q2 q3 z0 z1 z2 z3 b0 b1 b3 e0
  generalize wc.setCell ⟨w.heap.size + 1, 2, none⟩ (.int .u64 (n : Int)) = w4 at *
  clear HT2
  have q0 : w4.cell? ⟨w.heap.size + 1, 0, none⟩ = some (.int .i64 (⟨ot, os, n, on⟩ : Ts).tx) := HT3.out.tbx.cell 0
  have q1 : w4.cell? ⟨w.heap.size + 1, 1, none⟩ = some (.int .i64 (⟨ot, os, n, on⟩ : Ts).state) := HT3.out.tbx.cell 1
  have q2 : w4.cell? ⟨w.heap.size + 1, 2, none⟩ = some (.int .u64 ((⟨ot, os, n, on⟩ : Ts).last : Int)) := HT3.out.tbx.cell 2
  have q3 : w4.cell? ⟨w.heap.size + 1, 3, none⟩ = some (.int .u64 ((⟨ot, os, n, on⟩ : Ts).next : Int)) := HT3.out.tbx.cell 3
  have z0 : w4.frozen? ⟨w.heap.size + 1, 0, none⟩ = false := HT3.out.tbx.frozen 0
  have z1 : w4.frozen? ⟨w.heap.size + 1, 1, none⟩ = false := HT3.out.tbx.frozen 1
  have z2 : w4.frozen? ⟨w.heap.size + 1, 2, none⟩ = false := HT3.out.tbx.frozen 2
  have z3 : w4.frozen? ⟨w.heap.size + 1, 3, none⟩ = false := HT3.out.tbx.frozen 3
  have b0 : w4.cell? ⟨w.heap.size, 0, none⟩ = some (.int .i64 r.kind) := HT3.out.box.cell 0
  have b1 : w4.cell? ⟨w.heap.size, 1, none⟩ = some (.int .i64 (kt : Int)) := by rw [← HKT.out]; exact HT3.out.box.cell 1
  have b3 : w4.cell? ⟨w.heap.size, 3, none⟩ = some (.int .u64 (r.next : Int)) := HT3.out.box.cell 3
  have e0 : w4.cell? ⟨wb, 0, none⟩ = some (.map (some mb)) := HT3.out.an.wk.cell 0
  simp only at q0 q1 q2 q3
  by_cases k1 : r.kind = 1
  · have HST : Hid (r.stepT n ⟨ot, os, ol, on⟩ = (⟨ot, os, n, n⟩ : Ts)) := by
      show _ = _
      unfold Rc.stepT
      rw [k1]
      simp
    have HK6 : Hid (¬ r.kind = 6) := by show ¬ _; omega
    have HT5 := Lib.hid (HT3.out.set HLT.out (i := 3) (v := .int .u64 (n : Int)) (t' := (⟨ot, os, n, n⟩ : Ts)) (by simp))
    rw [k1] at b0
    clear k1
    go_upto_region 17 with (fail)
    clear q0 q1 q2 q3 z0 z1 z2 z3 b0 b1 b3 e0
    generalize w4.setCell ⟨w.heap.size + 1, 3, none⟩ (.int .u64 (n : Int)) = w5 at *
    clear HT3
    have HM := Lib.hid (HT5.out.an.txs)
    have HN := Lib.hid (HT5.out)
    have CS2 : Hid (OneC ⟨wb, 0, none⟩ (.map (some mb)) w5 ∧ OneC ⟨w.heap.size, 1, none⟩ (.int .i64 (kt : Int)) w5 ∧ OneC ⟨w.heap.size + 1, 0, none⟩ (.int .i64 ot) w5 ∧ OneC ⟨w.heap.size + 1, 1, none⟩ (.int .i64 os) w5 ∧ OneC ⟨w.heap.size + 1, 2, none⟩ (.int .u64 (n : Int)) w5 ∧ OneC ⟨w.heap.size + 1, 3, none⟩ (.int .u64 (n : Int)) w5) := ⟨HT5.out.an.wk.cell 0, by rw [← HKT.out]; exact HT5.out.box.cell 1, HT5.out.tbx.cell 0, HT5.out.tbx.cell 1, HT5.out.tbx.cell 2, HT5.out.tbx.cell 3⟩
    refine wp_region_late (S := fun W => OneC ⟨wb, 0, none⟩ (.map (some mb)) W ∧ OneC ⟨w.heap.size, 1, none⟩ (.int .i64 (kt : Int)) W ∧ OneC ⟨w.heap.size + 1, 0, none⟩ (.int .i64 ot) W ∧ OneC ⟨w.heap.size + 1, 1, none⟩ (.int .i64 os) W ∧ OneC ⟨w.heap.size + 1, 2, none⟩ (.int .u64 (n : Int)) W ∧ OneC ⟨w.heap.size + 1, 3, none⟩ (.int .u64 (n : Int)) W) (late := [7]) (by kernel_rfl) CS2.out (fun hHeld => ?_)
    refine wpAnyL_move (i := 0) (v := ?_) (by rfl) (by kernel_rfl) (by kernel_rfl) (by kernel_rfl) (by rfl) (by exact fun _ _ _ h => h) (Or.inl ⟨by rfl, ?_⟩) (by assumption) ?_; rotate_left; · (intro w0; go_simp; try with_reducible rfl)
    try simp only [Act.put, List.setIfInBounds_toArray, List.set_cons_zero, List.set_cons_succ]
    refine wpAnyL_move (i := 1) (v := ?_) (by rfl) (by kernel_rfl) (by kernel_rfl) (by kernel_rfl) (by rfl) (by exact fun _ _ _ h => h) (Or.inl ⟨by rfl, ?_⟩) (by assumption) ?_; rotate_left; · (intro w0; go_simp; try with_reducible rfl)
    try simp only [Act.put, List.setIfInBounds_toArray, List.set_cons_zero, List.set_cons_succ]
    refine wpAnyL_move (i := 2) (v := ?_) (by rfl) (by kernel_rfl) (by kernel_rfl) (by kernel_rfl) (by rfl) (by exact fun _ _ _ h => h) (Or.inl ⟨by rfl, ?_⟩) (by assumption) ?_; rotate_left; · (intro w0; go_simp; try with_reducible rfl)
    try simp only [Act.put, List.setIfInBounds_toArray, List.set_cons_zero, List.set_cons_succ]
    refine wpAnyL_load (i := 3) (v := ?_) (by rfl) (by kernel_rfl) (by kernel_rfl) (by kernel_rfl) (by rfl) (by kernel_rfl) (by exact fun _ _ _ h => h) (Or.inl ⟨by rfl, ?_⟩) (by assumption) ?_; rotate_left; · (intro w0 hS0; obtain ⟨hS1, hS2, hS3, hS4, hS5, hS6⟩ := hS0; unfold OneC at hS1 hS2 hS3 hS4 hS5 hS6; go_simp; try with_reducible rfl)
    try simp only [Act.put, List.setIfInBounds_toArray, List.set_cons_zero, List.set_cons_succ]
    refine wpAnyL_move (i := 4) (v := ?_) (by rfl) (by kernel_rfl) (by kernel_rfl) (by kernel_rfl) (by rfl) (by exact fun _ _ _ h => h) (Or.inl ⟨by rfl, ?_⟩) (by assumption) ?_; rotate_left; · (intro w0; go_simp; try with_reducible rfl)
    try simp only [Act.put, List.setIfInBounds_toArray, List.set_cons_zero, List.set_cons_succ]
    refine wpAnyL_load (i := 5) (v := ?_) (by rfl) (by kernel_rfl) (by kernel_rfl) (by kernel_rfl) (by rfl) (by kernel_rfl) (by exact fun _ _ _ h => h) (Or.inl ⟨by rfl, ?_⟩) (by assumption) ?_; rotate_left; · (intro w0 hS0; obtain ⟨hS1, hS2, hS3, hS4, hS5, hS6⟩ := hS0; unfold OneC at hS1 hS2 hS3 hS4 hS5 hS6; go_simp; try with_reducible rfl)
    try simp only [Act.put, List.setIfInBounds_toArray, List.set_cons_zero, List.set_cons_succ]
    refine wpAnyL_load (i := 6) (v := ?_) (by rfl) (by kernel_rfl) (by kernel_rfl) (by kernel_rfl) (by rfl) (by kernel_rfl) (by exact fun _ _ _ h => h) (Or.inl ⟨by rfl, ?_⟩) (by assumption) ?_; rotate_left; · (intro w0 hS0; obtain ⟨hS1, hS2, hS3, hS4, hS5, hS6⟩ := hS0; unfold OneC at hS1 hS2 hS3 hS4 hS5 hS6; go_simp; try with_reducible rfl)
    try simp only [Act.put, List.setIfInBounds_toArray, List.set_cons_zero, List.set_cons_succ]
    refine wpAnyL_late (i := 7) (by kernel_rfl) (by rfl) (by rfl) (fun K hK => ?_)
    refine step_storeT _ (by rfl) _ _ _ (by rfl) mb (mapL_ tsV a.txs) (by rfl) (HM.out.same (w' := (w5).drew) rfl) kt (by omega) (by rw [mapL_length]; have := HLEN.out; omega) (tsV ⟨ot, os, n, n⟩) (by rfl) (by rfl) ?_; intro w7 hm7 hg7
    refine hK.out _ _ ?_
    clear hK K
    try simp only [Act.put]
    refine wpAny_done (by kernel_rfl) ?_ _
    rw [mapL_put] at hm7
    have HX := Lib.hid (And.intro hm7 hg7)
    clear hm7 hg7
    go_wp2_with (fail)
    go_end0
    refine ⟨rfl, ?_, ?_⟩
    · rw [HRES.out, if_neg HK6.out, HST.out]
      exact (HN.out.an.same (w' := (w5).drew) (fun _ _ => rfl)).putTxs HX.out.2 HX.out.1
    · exact (Step.below (HN.out.base.trans ((below_drewN _ 1).mono HN.out.base.size))).trans (More.refl _ _) (step_grown (.inl rfl) HX.out.2)
  by_cases k2 : r.kind = 2
  · have HST : Hid (r.stepT n ⟨ot, os, ol, on⟩ = (⟨ot, os, n, r.next⟩ : Ts)) := by
      show _ = _
      unfold Rc.stepT
      rw [k2]
      simp
    have HK6 : Hid (¬ r.kind = 6) := by show ¬ _; omega
    have HT5 := Lib.hid (HT3.out.set HLT.out (i := 3) (v := .int .u64 (r.next : Int)) (t' := (⟨ot, os, n, r.next⟩ : Ts)) (by simp))
    rw [k2] at b0
    clear k1 k2
    go_upto_region 17 with (fail)
    clear q0 q1 q2 q3 z0 z1 z2 z3 b0 b1 b3 e0
    generalize w4.setCell ⟨w.heap.size + 1, 3, none⟩ (.int .u64 (r.next : Int)) = w5 at *
    clear HT3
    have HM := Lib.hid (HT5.out.an.txs)
    have HN := Lib.hid (HT5.out)
    have CS2 : Hid (OneC ⟨wb, 0, none⟩ (.map (some mb)) w5 ∧ OneC ⟨w.heap.size, 1, none⟩ (.int .i64 (kt : Int)) w5 ∧ OneC ⟨w.heap.size + 1, 0, none⟩ (.int .i64 ot) w5 ∧ OneC ⟨w.heap.size + 1, 1, none⟩ (.int .i64 os) w5 ∧ OneC ⟨w.heap.size + 1, 2, none⟩ (.int .u64 (n : Int)) w5 ∧ OneC ⟨w.heap.size + 1, 3, none⟩ (.int .u64 (r.next : Int)) w5) := ⟨HT5.out.an.wk.cell 0, by rw [← HKT.out]; exact HT5.out.box.cell 1, HT5.out.tbx.cell 0, HT5.out.tbx.cell 1, HT5.out.tbx.cell 2, HT5.out.tbx.cell 3⟩
    refine wp_region_late (S := fun W => OneC ⟨wb, 0, none⟩ (.map (some mb)) W ∧ OneC ⟨w.heap.size, 1, none⟩ (.int .i64 (kt : Int)) W ∧ OneC ⟨w.heap.size + 1, 0, none⟩ (.int .i64 ot) W ∧ OneC ⟨w.heap.size + 1, 1, none⟩ (.int .i64 os) W ∧ OneC ⟨w.heap.size + 1, 2, none⟩ (.int .u64 (n : Int)) W ∧ OneC ⟨w.heap.size + 1, 3, none⟩ (.int .u64 (r.next : Int)) W) (late := [7]) (by kernel_rfl) CS2.out (fun hHeld => ?_)
    refine wpAnyL_move (i := 0) (v := ?_) (by rfl) (by kernel_rfl) (by kernel_rfl) (by kernel_rfl) (by rfl) (by exact fun _ _ _ h => h) (Or.inl ⟨by rfl, ?_⟩) (by assumption) ?_; rotate_left; · (intro w0; go_simp; try with_reducible rfl)
    try simp only [Act.put, List.setIfInBounds_toArray, List.set_cons_zero, List.set_cons_succ]
    refine wpAnyL_move (i := 1) (v := ?_) (by rfl) (by kernel_rfl) (by kernel_rfl) (by kernel_rfl) (by rfl) (by exact fun _ _ _ h => h) (Or.inl ⟨by rfl, ?_⟩) (by assumption) ?_; rotate_left; · (intro w0; go_simp; try with_reducible rfl)
    try simp only [Act.put, List.setIfInBounds_toArray, List.set_cons_zero, List.set_cons_succ]
    refine wpAnyL_move (i := 2) (v := ?_) (by rfl) (by kernel_rfl) (by kernel_rfl) (by kernel_rfl) (by rfl) (by exact fun _ _ _ h => h) (Or.inl ⟨by rfl, ?_⟩) (by assumption) ?_; rotate_left; · (intro w0; go_simp; try with_reducible rfl)
    try simp only [Act.put, List.setIfInBounds_toArray, List.set_cons_zero, List.set_cons_succ]
    refine wpAnyL_load (i := 3) (v := ?_) (by rfl) (by kernel_rfl) (by kernel_rfl) (by kernel_rfl) (by rfl) (by kernel_rfl) (by exact fun _ _ _ h => h) (Or.inl ⟨by rfl, ?_⟩) (by assumption) ?_; rotate_left; · (intro w0 hS0; obtain ⟨hS1, hS2, hS3, hS4, hS5, hS6⟩ := hS0; unfold OneC at hS1 hS2 hS3 hS4 hS5 hS6; go_simp; try with_reducible rfl)
    try simp only [Act.put, List.setIfInBounds_toArray, List.set_cons_zero, List.set_cons_succ]
    refine wpAnyL_move (i := 4) (v := ?_) (by rfl) (by kernel_rfl) (by kernel_rfl) (by kernel_rfl) (by rfl) (by exact fun _ _ _ h => h) (Or.inl ⟨by rfl, ?_⟩) (by assumption) ?_; rotate_left; · (intro w0; go_simp; try with_reducible rfl)
    try simp only [Act.put, List.setIfInBounds_toArray, List.set_cons_zero, List.set_cons_succ]
    refine wpAnyL_load (i := 5) (v := ?_) (by rfl) (by kernel_rfl) (by kernel_rfl) (by kernel_rfl) (by rfl) (by kernel_rfl) (by exact fun _ _ _ h => h) (Or.inl ⟨by rfl, ?_⟩) (by assumption) ?_; rotate_left; · (intro w0 hS0; obtain ⟨hS1, hS2, hS3, hS4, hS5, hS6⟩ := hS0; unfold OneC at hS1 hS2 hS3 hS4 hS5 hS6; go_simp; try with_reducible rfl)
    try simp only [Act.put, List.setIfInBounds_toArray, List.set_cons_zero, List.set_cons_succ]
    refine wpAnyL_load (i := 6) (v := ?_) (by rfl) (by kernel_rfl) (by kernel_rfl) (by kernel_rfl) (by rfl) (by kernel_rfl) (by exact fun _ _ _ h => h) (Or.inl ⟨by rfl, ?_⟩) (by assumption) ?_; rotate_left; · (intro w0 hS0; obtain ⟨hS1, hS2, hS3, hS4, hS5, hS6⟩ := hS0; unfold OneC at hS1 hS2 hS3 hS4 hS5 hS6; go_simp; try with_reducible rfl)
    try simp only [Act.put, List.setIfInBounds_toArray, List.set_cons_zero, List.set_cons_succ]
    refine wpAnyL_late (i := 7) (by kernel_rfl) (by rfl) (by rfl) (fun K hK => ?_)
    refine step_storeT _ (by rfl) _ _ _ (by rfl) mb (mapL_ tsV a.txs) (by rfl) (HM.out.same (w' := (w5).drew) rfl) kt (by omega) (by rw [mapL_length]; have := HLEN.out; omega) (tsV ⟨ot, os, n, r.next⟩) (by rfl) (by rfl) ?_; intro w7 hm7 hg7
    refine hK.out _ _ ?_
    clear hK K
    try simp only [Act.put]
    refine wpAny_done (by kernel_rfl) ?_ _
    rw [mapL_put] at hm7
    have HX := Lib.hid (And.intro hm7 hg7)
    clear hm7 hg7
    go_wp2_with (fail)
    go_end0
    refine ⟨rfl, ?_, ?_⟩
    · rw [HRES.out, if_neg HK6.out, HST.out]
      exact (HN.out.an.same (w' := (w5).drew) (fun _ _ => rfl)).putTxs HX.out.2 HX.out.1
    · exact (Step.below (HN.out.base.trans ((below_drewN _ 1).mono HN.out.base.size))).trans (More.refl _ _) (step_grown (.inl rfl) HX.out.2)
  by_cases k3 : r.kind = 3
  · have HST : Hid (r.stepT n ⟨ot, os, ol, on⟩ = (⟨ot, os, n, r.next⟩ : Ts)) := by
      show _ = _
      unfold Rc.stepT
      rw [k3]
      simp
    have HK6 : Hid (¬ r.kind = 6) := by show ¬ _; omega
    have HT5 := Lib.hid (HT3.out.set HLT.out (i := 3) (v := .int .u64 (r.next : Int)) (t' := (⟨ot, os, n, r.next⟩ : Ts)) (by simp))
    rw [k3] at b0
    clear k1 k2 k3
    go_upto_region 17 with (fail)
    clear q0 q1 q2 q3 z0 z1 z2 z3 b0 b1 b3 e0
    generalize w4.setCell ⟨w.heap.size + 1, 3, none⟩ (.int .u64 (r.next : Int)) = w5 at *
    clear HT3
    have HM := Lib.hid (HT5.out.an.txs)
    have HN := Lib.hid (HT5.out)
    have CS2 : Hid (OneC ⟨wb, 0, none⟩ (.map (some mb)) w5 ∧ OneC ⟨w.heap.size, 1, none⟩ (.int .i64 (kt : Int)) w5 ∧ OneC ⟨w.heap.size + 1, 0, none⟩ (.int .i64 ot) w5 ∧ OneC ⟨w.heap.size + 1, 1, none⟩ (.int .i64 os) w5 ∧ OneC ⟨w.heap.size + 1, 2, none⟩ (.int .u64 (n : Int)) w5 ∧ OneC ⟨w.heap.size + 1, 3, none⟩ (.int .u64 (r.next : Int)) w5) := ⟨HT5.out.an.wk.cell 0, by rw [← HKT.out]; exact HT5.out.box.cell 1, HT5.out.tbx.cell 0, HT5.out.tbx.cell 1, HT5.out.tbx.cell 2, HT5.out.tbx.cell 3⟩
    refine wp_region_late (S := fun W => OneC ⟨wb, 0, none⟩ (.map (some mb)) W ∧ OneC ⟨w.heap.size, 1, none⟩ (.int .i64 (kt : Int)) W ∧ OneC ⟨w.heap.size + 1, 0, none⟩ (.int .i64 ot) W ∧ OneC ⟨w.heap.size + 1, 1, none⟩ (.int .i64 os) W ∧ OneC ⟨w.heap.size + 1, 2, none⟩ (.int .u64 (n : Int)) W ∧ OneC ⟨w.heap.size + 1, 3, none⟩ (.int .u64 (r.next : Int)) W) (late := [7]) (by kernel_rfl) CS2.out (fun hHeld => ?_)
    refine wpAnyL_move (i := 0) (v := ?_) (by rfl) (by kernel_rfl) (by kernel_rfl) (by kernel_rfl) (by rfl) (by exact fun _ _ _ h => h) (Or.inl ⟨by rfl, ?_⟩) (by assumption) ?_; rotate_left; · (intro w0; go_simp; try with_reducible rfl)
    try simp only [Act.put, List.setIfInBounds_toArray, List.set_cons_zero, List.set_cons_succ]
    refine wpAnyL_move (i := 1) (v := ?_) (by rfl) (by kernel_rfl) (by kernel_rfl) (by kernel_rfl) (by rfl) (by exact fun _ _ _ h => h) (Or.inl ⟨by rfl, ?_⟩) (by assumption) ?_; rotate_left; · (intro w0; go_simp; try with_reducible rfl)
    try simp only [Act.put, List.setIfInBounds_toArray, List.set_cons_zero, List.set_cons_succ]
    refine wpAnyL_move (i := 2) (v := ?_) (by rfl) (by kernel_rfl) (by kernel_rfl) (by kernel_rfl) (by rfl) (by exact fun _ _ _ h => h) (Or.inl ⟨by rfl, ?_⟩) (by assumption) ?_; rotate_left; · (intro w0; go_simp; try with_reducible rfl)
    try simp only [Act.put, List.setIfInBounds_toArray, List.set_cons_zero, List.set_cons_succ]
    refine wpAnyL_load (i := 3) (v := ?_) (by rfl) (by kernel_rfl) (by kernel_rfl) (by kernel_rfl) (by rfl) (by kernel_rfl) (by exact fun _ _ _ h => h) (Or.inl ⟨by rfl, ?_⟩) (by assumption) ?_; rotate_left; · (intro w0 hS0; obtain ⟨hS1, hS2, hS3, hS4, hS5, hS6⟩ := hS0; unfold OneC at hS1 hS2 hS3 hS4 hS5 hS6; go_simp; try with_reducible rfl)
    try simp only [Act.put, List.setIfInBounds_toArray, List.set_cons_zero, List.set_cons_succ]
    refine wpAnyL_move (i := 4) (v := ?_) (by rfl) (by kernel_rfl) (by kernel_rfl) (by kernel_rfl) (by rfl) (by exact fun _ _ _ h => h) (Or.inl ⟨by rfl, ?_⟩) (by assumption) ?_; rotate_left; · (intro w0; go_simp; try with_reducible rfl)
    try simp only [Act.put, List.setIfInBounds_toArray, List.set_cons_zero, List.set_cons_succ]
    refine wpAnyL_load (i := 5) (v := ?_) (by rfl) (by kernel_rfl) (by kernel_rfl) (by kernel_rfl) (by rfl) (by kernel_rfl) (by exact fun _ _ _ h => h) (Or.inl ⟨by rfl, ?_⟩) (by assumption) ?_; rotate_left; · (intro w0 hS0; obtain ⟨hS1, hS2, hS3, hS4, hS5, hS6⟩ := hS0; unfold OneC at hS1 hS2 hS3 hS4 hS5 hS6; go_simp; try with_reducible rfl)
    try simp only [Act.put, List.setIfInBounds_toArray, List.set_cons_zero, List.set_cons_succ]
    refine wpAnyL_load (i := 6) (v := ?_) (by rfl) (by kernel_rfl) (by kernel_rfl) (by kernel_rfl) (by rfl) (by kernel_rfl) (by exact fun _ _ _ h => h) (Or.inl ⟨by rfl, ?_⟩) (by assumption) ?_; rotate_left; · (intro w0 hS0; obtain ⟨hS1, hS2, hS3, hS4, hS5, hS6⟩ := hS0; unfold OneC at hS1 hS2 hS3 hS4 hS5 hS6; go_simp; try with_reducible rfl)
    try simp only [Act.put, List.setIfInBounds_toArray, List.set_cons_zero, List.set_cons_succ]
    refine wpAnyL_late (i := 7) (by kernel_rfl) (by rfl) (by rfl) (fun K hK => ?_)
    refine step_storeT _ (by rfl) _ _ _ (by rfl) mb (mapL_ tsV a.txs) (by rfl) (HM.out.same (w' := (w5).drew) rfl) kt (by omega) (by rw [mapL_length]; have := HLEN.out; omega) (tsV ⟨ot, os, n, r.next⟩) (by rfl) (by rfl) ?_; intro w7 hm7 hg7
    refine hK.out _ _ ?_
    clear hK K
    try simp only [Act.put]
    refine wpAny_done (by kernel_rfl) ?_ _
    rw [mapL_put] at hm7
    have HX := Lib.hid (And.intro hm7 hg7)
    clear hm7 hg7
    go_wp2_with (fail)
    go_end0
    refine ⟨rfl, ?_, ?_⟩
    · rw [HRES.out, if_neg HK6.out, HST.out]
      exact (HN.out.an.same (w' := (w5).drew) (fun _ _ => rfl)).putTxs HX.out.2 HX.out.1
    · exact (Step.below (HN.out.base.trans ((below_drewN _ 1).mono HN.out.base.size))).trans (More.refl _ _) (step_grown (.inl rfl) HX.out.2)
  by_cases k4 : r.kind = 4
  · have HST : Hid (r.stepT n ⟨ot, os, ol, on⟩ = (⟨ot, 2, n, on⟩ : Ts)) := by
      show _ = _
      unfold Rc.stepT
      rw [k4]
      simp
    have HK6 : Hid (¬ r.kind = 6) := by show ¬ _; omega
    have HT5 := Lib.hid (HT3.out.set HLT.out (i := 1) (v := .int .i64 2) (t' := (⟨ot, 2, n, on⟩ : Ts)) (by simp))
    rw [k4] at b0
    clear k1 k2 k3 k4
    go_upto_region 17 with (fail)
    clear q0 q1 q2 q3 z0 z1 z2 z3 b0 b1 b3 e0
    generalize w4.setCell ⟨w.heap.size + 1, 1, none⟩ (.int .i64 2) = w5 at *
    clear HT3
    have HM := Lib.hid (HT5.out.an.txs)
    have HN := Lib.hid (HT5.out)
    have CS2 : Hid (OneC ⟨wb, 0, none⟩ (.map (some mb)) w5 ∧ OneC ⟨w.heap.size, 1, none⟩ (.int .i64 (kt : Int)) w5 ∧ OneC ⟨w.heap.size + 1, 0, none⟩ (.int .i64 ot) w5 ∧ OneC ⟨w.heap.size + 1, 1, none⟩ (.int .i64 2) w5 ∧ OneC ⟨w.heap.size + 1, 2, none⟩ (.int .u64 (n : Int)) w5 ∧ OneC ⟨w.heap.size + 1, 3, none⟩ (.int .u64 (on : Int)) w5) := ⟨HT5.out.an.wk.cell 0, by rw [← HKT.out]; exact HT5.out.box.cell 1, HT5.out.tbx.cell 0, HT5.out.tbx.cell 1, HT5.out.tbx.cell 2, HT5.out.tbx.cell 3⟩
    refine wp_region_late (S := fun W => OneC ⟨wb, 0, none⟩ (.map (some mb)) W ∧ OneC ⟨w.heap.size, 1, none⟩ (.int .i64 (kt : Int)) W ∧ OneC ⟨w.heap.size + 1, 0, none⟩ (.int .i64 ot) W ∧ OneC ⟨w.heap.size + 1, 1, none⟩ (.int .i64 2) W ∧ OneC ⟨w.heap.size + 1, 2, none⟩ (.int .u64 (n : Int)) W ∧ OneC ⟨w.heap.size + 1, 3, none⟩ (.int .u64 (on : Int)) W) (late := [7]) (by kernel_rfl) CS2.out (fun hHeld => ?_)
    refine wpAnyL_move (i := 0) (v := ?_) (by rfl) (by kernel_rfl) (by kernel_rfl) (by kernel_rfl) (by rfl) (by exact fun _ _ _ h => h) (Or.inl ⟨by rfl, ?_⟩) (by assumption) ?_; rotate_left; · (intro w0; go_simp; try with_reducible rfl)
    try simp only [Act.put, List.setIfInBounds_toArray, List.set_cons_zero, List.set_cons_succ]
    refine wpAnyL_move (i := 1) (v := ?_) (by rfl) (by kernel_rfl) (by kernel_rfl) (by kernel_rfl) (by rfl) (by exact fun _ _ _ h => h) (Or.inl ⟨by rfl, ?_⟩) (by assumption) ?_; rotate_left; · (intro w0; go_simp; try with_reducible rfl)
    try simp only [Act.put, List.setIfInBounds_toArray, List.set_cons_zero, List.set_cons_succ]
    refine wpAnyL_move (i := 2) (v := ?_) (by rfl) (by kernel_rfl) (by kernel_rfl) (by kernel_rfl) (by rfl) (by exact fun _ _ _ h => h) (Or.inl ⟨by rfl, ?_⟩) (by assumption) ?_; rotate_left; · (intro w0; go_simp; try with_reducible rfl)
    try simp only [Act.put, List.setIfInBounds_toArray, List.set_cons_zero, List.set_cons_succ]
    refine wpAnyL_load (i := 3) (v := ?_) (by rfl) (by kernel_rfl) (by kernel_rfl) (by kernel_rfl) (by rfl) (by kernel_rfl) (by exact fun _ _ _ h => h) (Or.inl ⟨by rfl, ?_⟩) (by assumption) ?_; rotate_left; · (intro w0 hS0; obtain ⟨hS1, hS2, hS3, hS4, hS5, hS6⟩ := hS0; unfold OneC at hS1 hS2 hS3 hS4 hS5 hS6; go_simp; try with_reducible rfl)
    try simp only [Act.put, List.setIfInBounds_toArray, List.set_cons_zero, List.set_cons_succ]
    refine wpAnyL_move (i := 4) (v := ?_) (by rfl) (by kernel_rfl) (by kernel_rfl) (by kernel_rfl) (by rfl) (by exact fun _ _ _ h => h) (Or.inl ⟨by rfl, ?_⟩) (by assumption) ?_; rotate_left; · (intro w0; go_simp; try with_reducible rfl)
    try simp only [Act.put, List.setIfInBounds_toArray, List.set_cons_zero, List.set_cons_succ]
    refine wpAnyL_load (i := 5) (v := ?_) (by rfl) (by kernel_rfl) (by kernel_rfl) (by kernel_rfl) (by rfl) (by kernel_rfl) (by exact fun _ _ _ h => h) (Or.inl ⟨by rfl, ?_⟩) (by assumption) ?_; rotate_left; · (intro w0 hS0; obtain ⟨hS1, hS2, hS3, hS4, hS5, hS6⟩ := hS0; unfold OneC at hS1 hS2 hS3 hS4 hS5 hS6; go_simp; try with_reducible rfl)
    try simp only [Act.put, List.setIfInBounds_toArray, List.set_cons_zero, List.set_cons_succ]
    refine wpAnyL_load (i := 6) (v := ?_) (by rfl) (by kernel_rfl) (by kernel_rfl) (by kernel_rfl) (by rfl) (by kernel_rfl) (by exact fun _ _ _ h => h) (Or.inl ⟨by rfl, ?_⟩) (by assumption) ?_; rotate_left; · (intro w0 hS0; obtain ⟨hS1, hS2, hS3, hS4, hS5, hS6⟩ := hS0; unfold OneC at hS1 hS2 hS3 hS4 hS5 hS6; go_simp; try with_reducible rfl)
    try simp only [Act.put, List.setIfInBounds_toArray, List.set_cons_zero, List.set_cons_succ]
    refine wpAnyL_late (i := 7) (by kernel_rfl) (by rfl) (by rfl) (fun K hK => ?_)
    refine step_storeT _ (by rfl) _ _ _ (by rfl) mb (mapL_ tsV a.txs) (by rfl) (HM.out.same (w' := (w5).drew) rfl) kt (by omega) (by rw [mapL_length]; have := HLEN.out; omega) (tsV ⟨ot, 2, n, on⟩) (by rfl) (by rfl) ?_; intro w7 hm7 hg7
    refine hK.out _ _ ?_
    clear hK K
    try simp only [Act.put]
    refine wpAny_done (by kernel_rfl) ?_ _
    rw [mapL_put] at hm7
    have HX := Lib.hid (And.intro hm7 hg7)
    clear hm7 hg7
    go_wp2_with (fail)
    go_end0
    refine ⟨rfl, ?_, ?_⟩
    · rw [HRES.out, if_neg HK6.out, HST.out]
      exact (HN.out.an.same (w' := (w5).drew) (fun _ _ => rfl)).putTxs HX.out.2 HX.out.1
    · exact (Step.below (HN.out.base.trans ((below_drewN _ 1).mono HN.out.base.size))).trans (More.refl _ _) (step_grown (.inl rfl) HX.out.2)
  by_cases k5 : r.kind = 5
  · have HST : Hid (r.stepT n ⟨ot, os, ol, on⟩ = (⟨ot, 3, n, on⟩ : Ts)) := by
      show _ = _
      unfold Rc.stepT
      rw [k5]
      simp
    have HK6 : Hid (¬ r.kind = 6) := by show ¬ _; omega
    have HT5 := Lib.hid (HT3.out.set HLT.out (i := 1) (v := .int .i64 3) (t' := (⟨ot, 3, n, on⟩ : Ts)) (by simp))
    rw [k5] at b0
    clear k1 k2 k3 k4 k5
    go_upto_region 17 with (fail)
    clear q0 q1 q2 q3 z0 z1 z2 z3 b0 b1 b3 e0
    generalize w4.setCell ⟨w.heap.size + 1, 1, none⟩ (.int .i64 3) = w5 at *
    clear HT3
    have HM := Lib.hid (HT5.out.an.txs)
    have HN := Lib.hid (HT5.out)
    have CS2 : Hid (OneC ⟨wb, 0, none⟩ (.map (some mb)) w5 ∧ OneC ⟨w.heap.size, 1, none⟩ (.int .i64 (kt : Int)) w5 ∧ OneC ⟨w.heap.size + 1, 0, none⟩ (.int .i64 ot) w5 ∧ OneC ⟨w.heap.size + 1, 1, none⟩ (.int .i64 3) w5 ∧ OneC ⟨w.heap.size + 1, 2, none⟩ (.int .u64 (n : Int)) w5 ∧ OneC ⟨w.heap.size + 1, 3, none⟩ (.int .u64 (on : Int)) w5) := ⟨HT5.out.an.wk.cell 0, by rw [← HKT.out]; exact HT5.out.box.cell 1, HT5.out.tbx.cell 0, HT5.out.tbx.cell 1, HT5.out.tbx.cell 2, HT5.out.tbx.cell 3⟩
    refine wp_region_late (S := fun W => OneC ⟨wb, 0, none⟩ (.map (some mb)) W ∧ OneC ⟨w.heap.size, 1, none⟩ (.int .i64 (kt : Int)) W ∧ OneC ⟨w.heap.size + 1, 0, none⟩ (.int .i64 ot) W ∧ OneC ⟨w.heap.size + 1, 1, none⟩ (.int .i64 3) W ∧ OneC ⟨w.heap.size + 1, 2, none⟩ (.int .u64 (n : Int)) W ∧ OneC ⟨w.heap.size + 1, 3, none⟩ (.int .u64 (on : Int)) W) (late := [7]) (by kernel_rfl) CS2.out (fun hHeld => ?_)
    refine wpAnyL_move (i := 0) (v := ?_) (by rfl) (by kernel_rfl) (by kernel_rfl) (by kernel_rfl) (by rfl) (by exact fun _ _ _ h => h) (Or.inl ⟨by rfl, ?_⟩) (by assumption) ?_; rotate_left; · (intro w0; go_simp; try with_reducible rfl)
    try simp only [Act.put, List.setIfInBounds_toArray, List.set_cons_zero, List.set_cons_succ]
    refine wpAnyL_move (i := 1) (v := ?_) (by rfl) (by kernel_rfl) (by kernel_rfl) (by kernel_rfl) (by rfl) (by exact fun _ _ _ h => h) (Or.inl ⟨by rfl, ?_⟩) (by assumption) ?_; rotate_left; · (intro w0; go_simp; try with_reducible rfl)
    try simp only [Act.put, List.setIfInBounds_toArray, List.set_cons_zero, List.set_cons_succ]
    refine wpAnyL_move (i := 2) (v := ?_) (by rfl) (by kernel_rfl) (by kernel_rfl) (by kernel_rfl) (by rfl) (by exact fun _ _ _ h => h) (Or.inl ⟨by rfl, ?_⟩) (by assumption) ?_; rotate_left; · (intro w0; go_simp; try with_reducible rfl)
    try simp only [Act.put, List.setIfInBounds_toArray, List.set_cons_zero, List.set_cons_succ]
    refine wpAnyL_load (i := 3) (v := ?_) (by rfl) (by kernel_rfl) (by kernel_rfl) (by kernel_rfl) (by rfl) (by kernel_rfl) (by exact fun _ _ _ h => h) (Or.inl ⟨by rfl, ?_⟩) (by assumption) ?_; rotate_left; · (intro w0 hS0; obtain ⟨hS1, hS2, hS3, hS4, hS5, hS6⟩ := hS0; unfold OneC at hS1 hS2 hS3 hS4 hS5 hS6; go_simp; try with_reducible rfl)
    try simp only [Act.put, List.setIfInBounds_toArray, List.set_cons_zero, List.set_cons_succ]
    refine wpAnyL_move (i := 4) (v := ?_) (by rfl) (by kernel_rfl) (by kernel_rfl) (by kernel_rfl) (by rfl) (by exact fun _ _ _ h => h) (Or.inl ⟨by rfl, ?_⟩) (by assumption) ?_; rotate_left; · (intro w0; go_simp; try with_reducible rfl)
    try simp only [Act.put, List.setIfInBounds_toArray, List.set_cons_zero, List.set_cons_succ]
    refine wpAnyL_load (i := 5) (v := ?_) (by rfl) (by kernel_rfl) (by kernel_rfl) (by kernel_rfl) (by rfl) (by kernel_rfl) (by exact fun _ _ _ h => h) (Or.inl ⟨by rfl, ?_⟩) (by assumption) ?_; rotate_left; · (intro w0 hS0; obtain ⟨hS1, hS2, hS3, hS4, hS5, hS6⟩ := hS0; unfold OneC at hS1 hS2 hS3 hS4 hS5 hS6; go_simp; try with_reducible rfl)
    try simp only [Act.put, List.setIfInBounds_toArray, List.set_cons_zero, List.set_cons_succ]
    refine wpAnyL_load (i := 6) (v := ?_) (by rfl) (by kernel_rfl) (by kernel_rfl) (by kernel_rfl) (by rfl) (by kernel_rfl) (by exact fun _ _ _ h => h) (Or.inl ⟨by rfl, ?_⟩) (by assumption) ?_; rotate_left; · (intro w0 hS0; obtain ⟨hS1, hS2, hS3, hS4, hS5, hS6⟩ := hS0; unfold OneC at hS1 hS2 hS3 hS4 hS5 hS6; go_simp; try with_reducible rfl)
    try simp only [Act.put, List.setIfInBounds_toArray, List.set_cons_zero, List.set_cons_succ]
    refine wpAnyL_late (i := 7) (by kernel_rfl) (by rfl) (by rfl) (fun K hK => ?_)
    refine step_storeT _ (by rfl) _ _ _ (by rfl) mb (mapL_ tsV a.txs) (by rfl) (HM.out.same (w' := (w5).drew) rfl) kt (by omega) (by rw [mapL_length]; have := HLEN.out; omega) (tsV ⟨ot, 3, n, on⟩) (by rfl) (by rfl) ?_; intro w7 hm7 hg7
    refine hK.out _ _ ?_
    clear hK K
    try simp only [Act.put]
    refine wpAny_done (by kernel_rfl) ?_ _
    rw [mapL_put] at hm7
    have HX := Lib.hid (And.intro hm7 hg7)
    clear hm7 hg7
    go_wp2_with (fail)
    go_end0
    refine ⟨rfl, ?_, ?_⟩
    · rw [HRES.out, if_neg HK6.out, HST.out]
      exact (HN.out.an.same (w' := (w5).drew) (fun _ _ => rfl)).putTxs HX.out.2 HX.out.1
    · exact (Step.below (HN.out.base.trans ((below_drewN _ 1).mono HN.out.base.size))).trans (More.refl _ _) (step_grown (.inl rfl) HX.out.2)
  by_cases k6 : r.kind = 6
  · have HM := Lib.hid (HT3.out.an.txs)
    have HN := Lib.hid HT3.out
    have HK6 := Lib.hid k6
    have CS2 : Hid (OneC ⟨wb, 0, none⟩ (.map (some mb)) w4 ∧ OneC ⟨w.heap.size, 1, none⟩ (.int .i64 (kt : Int)) w4) := ⟨HT3.out.an.wk.cell 0, by rw [← HKT.out]; exact HT3.out.box.cell 1⟩
    rw [k6] at b0
    clear k1 k2 k3 k4 k5 k6
    go_upto_region 16 with (fail)
    refine wp_region_late (S := fun W => OneC ⟨wb, 0, none⟩ (.map (some mb)) W ∧ OneC ⟨w.heap.size, 1, none⟩ (.int .i64 (kt : Int)) W) (late := [6]) (by kernel_rfl) CS2.out (fun hHeld => ?_)
    refine wpAnyL_move (i := 0) (v := ?_) (by rfl) (by kernel_rfl) (by kernel_rfl) (by kernel_rfl) (by rfl) (by exact fun _ _ _ h => h) (Or.inl ⟨by rfl, ?_⟩) (by assumption) ?_; rotate_left; · (intro w0; go_simp; try with_reducible rfl)
    try simp only [Act.put, List.setIfInBounds_toArray, List.set_cons_zero, List.set_cons_succ]
    refine wpAnyL_move (i := 1) (v := ?_) (by rfl) (by kernel_rfl) (by kernel_rfl) (by kernel_rfl) (by rfl) (by exact fun _ _ _ h => h) (Or.inl ⟨by rfl, ?_⟩) (by assumption) ?_; rotate_left; · (intro w0; go_simp; try with_reducible rfl)
    try simp only [Act.put, List.setIfInBounds_toArray, List.set_cons_zero, List.set_cons_succ]
    refine wpAnyL_move (i := 2) (v := ?_) (by rfl) (by kernel_rfl) (by kernel_rfl) (by kernel_rfl) (by rfl) (by exact fun _ _ _ h => h) (Or.inl ⟨by rfl, ?_⟩) (by assumption) ?_; rotate_left; · (intro w0; go_simp; try with_reducible rfl)
    try simp only [Act.put, List.setIfInBounds_toArray, List.set_cons_zero, List.set_cons_succ]
    refine wpAnyL_load (i := 3) (v := ?_) (by rfl) (by kernel_rfl) (by kernel_rfl) (by kernel_rfl) (by rfl) (by kernel_rfl) (by exact fun _ _ _ h => h) (Or.inl ⟨by rfl, ?_⟩) (by assumption) ?_; rotate_left; · (intro w0 hS0; obtain ⟨hS1, hS2⟩ := hS0; unfold OneC at hS1 hS2; go_simp; try with_reducible rfl)
    try simp only [Act.put, List.setIfInBounds_toArray, List.set_cons_zero, List.set_cons_succ]
    refine wpAnyL_move (i := 4) (v := ?_) (by rfl) (by kernel_rfl) (by kernel_rfl) (by kernel_rfl) (by rfl) (by exact fun _ _ _ h => h) (Or.inl ⟨by rfl, ?_⟩) (by assumption) ?_; rotate_left; · (intro w0; go_simp; try with_reducible rfl)
    try simp only [Act.put, List.setIfInBounds_toArray, List.set_cons_zero, List.set_cons_succ]
    refine wpAnyL_load (i := 5) (v := ?_) (by rfl) (by kernel_rfl) (by kernel_rfl) (by kernel_rfl) (by rfl) (by kernel_rfl) (by exact fun _ _ _ h => h) (Or.inl ⟨by rfl, ?_⟩) (by assumption) ?_; rotate_left; · (intro w0 hS0; obtain ⟨hS1, hS2⟩ := hS0; unfold OneC at hS1 hS2; go_simp; try with_reducible rfl)
    try simp only [Act.put, List.setIfInBounds_toArray, List.set_cons_zero, List.set_cons_succ]
    refine wpAnyL_late (i := 6) (by kernel_rfl) (by rfl) (by rfl) (fun K hK => ?_)
    refine step_dropT _ (by rfl) _ _ (by rfl) mb (mapL_ tsV a.txs) (by rfl) (HM.out.same (w' := w4.drew) rfl) kt (by omega) (by rfl) ?_; intro w7 hm7 hg7
    refine hK.out _ _ ?_
    clear hK K
    try simp only [Act.put]
    refine wpAny_done (by kernel_rfl) ?_ _
    rw [mapL_del] at hm7
    have HX := Lib.hid (And.intro hm7 hg7)
    clear hm7 hg7
    go_wp2_with (fail)
    refine bodyPost_ret (results_none rfl _ _ _) rfl ?_
    refine ⟨rfl, ?_, ?_⟩
    · rw [HRES.out, if_pos HK6.out]
      exact (HN.out.an.same (w' := w4.drew) (fun _ _ => rfl)).putTxs HX.out.2 HX.out.1
    · exact (Step.below (HN.out.base.trans ((below_drewN _ 1).mono HN.out.base.size))).trans (More.refl _ _) (step_grown (.inl rfl) HX.out.2)
  have HST : Hid (r.stepT n ⟨ot, os, ol, on⟩ = (⟨ot, os, n, on⟩ : Ts)) := by
    show _ = _
    unfold Rc.stepT
    rw [if_neg k1, if_neg (fun h => h.elim k2 k3), if_neg k4, if_neg k5]
  have HK6 : Hid (¬ r.kind = 6) := by show ¬ _; omega
  have g1 : (r.kind == 1) = false := by simp [k1]
  have g2 : (r.kind == 2) = false := by simp [k2]
  have g3 : (r.kind == 3) = false := by simp [k3]
  have g4 : (r.kind == 4) = false := by simp [k4]
  have g5 : (r.kind == 5) = false := by simp [k5]
  have g6 : (r.kind == 6) = false := by simp [k6]
  clear k1 k2 k3 k4 k5 k6
  go_upto_region 17 with (fail)
  clear q0 q1 q2 q3 z0 z1 z2 z3 b0 b1 b3 e0
  have HM := Lib.hid (HT3.out.an.txs)
  have HN := Lib.hid (HT3.out)
  have CS2 : Hid (OneC ⟨wb, 0, none⟩ (.map (some mb)) w4 ∧ OneC ⟨w.heap.size, 1, none⟩ (.int .i64 (kt : Int)) w4 ∧ OneC ⟨w.heap.size + 1, 0, none⟩ (.int .i64 ot) w4 ∧ OneC ⟨w.heap.size + 1, 1, none⟩ (.int .i64 os) w4 ∧ OneC ⟨w.heap.size + 1, 2, none⟩ (.int .u64 (n : Int)) w4 ∧ OneC ⟨w.heap.size + 1, 3, none⟩ (.int .u64 (on : Int)) w4) := ⟨HT3.out.an.wk.cell 0, by rw [← HKT.out]; exact HT3.out.box.cell 1, HT3.out.tbx.cell 0, HT3.out.tbx.cell 1, HT3.out.tbx.cell 2, HT3.out.tbx.cell 3⟩
  refine wp_region_late (S := fun W => OneC ⟨wb, 0, none⟩ (.map (some mb)) W ∧ OneC ⟨w.heap.size, 1, none⟩ (.int .i64 (kt : Int)) W ∧ OneC ⟨w.heap.size + 1, 0, none⟩ (.int .i64 ot) W ∧ OneC ⟨w.heap.size + 1, 1, none⟩ (.int .i64 os) W ∧ OneC ⟨w.heap.size + 1, 2, none⟩ (.int .u64 (n : Int)) W ∧ OneC ⟨w.heap.size + 1, 3, none⟩ (.int .u64 (on : Int)) W) (late := [7]) (by kernel_rfl) CS2.out (fun hHeld => ?_)
  refine wpAnyL_move (i := 0) (v := ?_) (by rfl) (by kernel_rfl) (by kernel_rfl) (by kernel_rfl) (by rfl) (by exact fun _ _ _ h => h) (Or.inl ⟨by rfl, ?_⟩) (by assumption) ?_; rotate_left; · (intro w0; go_simp; try with_reducible rfl)
  try simp only [Act.put, List.setIfInBounds_toArray, List.set_cons_zero, List.set_cons_succ]
  refine wpAnyL_move (i := 1) (v := ?_) (by rfl) (by kernel_rfl) (by kernel_rfl) (by kernel_rfl) (by rfl) (by exact fun _ _ _ h => h) (Or.inl ⟨by rfl, ?_⟩) (by assumption) ?_; rotate_left; · (intro w0; go_simp; try with_reducible rfl)
  try simp only [Act.put, List.setIfInBounds_toArray, List.set_cons_zero, List.set_cons_succ]
  refine wpAnyL_move (i := 2) (v := ?_) (by rfl) (by kernel_rfl) (by kernel_rfl) (by kernel_rfl) (by rfl) (by exact fun _ _ _ h => h) (Or.inl ⟨by rfl, ?_⟩) (by assumption) ?_; rotate_left; · (intro w0; go_simp; try with_reducible rfl)
  try simp only [Act.put, List.setIfInBounds_toArray, List.set_cons_zero, List.set_cons_succ]
  refine wpAnyL_load (i := 3) (v := ?_) (by rfl) (by kernel_rfl) (by kernel_rfl) (by kernel_rfl) (by rfl) (by kernel_rfl) (by exact fun _ _ _ h => h) (Or.inl ⟨by rfl, ?_⟩) (by assumption) ?_; rotate_left; · (intro w0 hS0; obtain ⟨hS1, hS2, hS3, hS4, hS5, hS6⟩ := hS0; unfold OneC at hS1 hS2 hS3 hS4 hS5 hS6; go_simp; try with_reducible rfl)
  try simp only [Act.put, List.setIfInBounds_toArray, List.set_cons_zero, List.set_cons_succ]
  refine wpAnyL_move (i := 4) (v := ?_) (by rfl) (by kernel_rfl) (by kernel_rfl) (by kernel_rfl) (by rfl) (by exact fun _ _ _ h => h) (Or.inl ⟨by rfl, ?_⟩) (by assumption) ?_; rotate_left; · (intro w0; go_simp; try with_reducible rfl)
  try simp only [Act.put, List.setIfInBounds_toArray, List.set_cons_zero, List.set_cons_succ]
  refine wpAnyL_load (i := 5) (v := ?_) (by rfl) (by kernel_rfl) (by kernel_rfl) (by kernel_rfl) (by rfl) (by kernel_rfl) (by exact fun _ _ _ h => h) (Or.inl ⟨by rfl, ?_⟩) (by assumption) ?_; rotate_left; · (intro w0 hS0; obtain ⟨hS1, hS2, hS3, hS4, hS5, hS6⟩ := hS0; unfold OneC at hS1 hS2 hS3 hS4 hS5 hS6; go_simp; try with_reducible rfl)
  try simp only [Act.put, List.setIfInBounds_toArray, List.set_cons_zero, List.set_cons_succ]
  refine wpAnyL_load (i := 6) (v := ?_) (by rfl) (by kernel_rfl) (by kernel_rfl) (by kernel_rfl) (by rfl) (by kernel_rfl) (by exact fun _ _ _ h => h) (Or.inl ⟨by rfl, ?_⟩) (by assumption) ?_; rotate_left; · (intro w0 hS0; obtain ⟨hS1, hS2, hS3, hS4, hS5, hS6⟩ := hS0; unfold OneC at hS1 hS2 hS3 hS4 hS5 hS6; go_simp; try with_reducible rfl)
  try simp only [Act.put, List.setIfInBounds_toArray, List.set_cons_zero, List.set_cons_succ]
  refine wpAnyL_late (i := 7) (by kernel_rfl) (by rfl) (by rfl) (fun K hK => ?_)
  refine step_storeT _ (by rfl) _ _ _ (by rfl) mb (mapL_ tsV a.txs) (by rfl) (HM.out.same (w' := (w4).drew) rfl) kt (by omega) (by rw [mapL_length]; have := HLEN.out; omega) (tsV ⟨ot, os, n, on⟩) (by rfl) (by rfl) ?_; intro w7 hm7 hg7
  refine hK.out _ _ ?_
  clear hK K
  try simp only [Act.put]
  refine wpAny_done (by kernel_rfl) ?_ _
  rw [mapL_put] at hm7
  have HX := Lib.hid (And.intro hm7 hg7)
  clear hm7 hg7
  go_wp2_with (fail)
  go_end0
  refine ⟨rfl, ?_, ?_⟩
  · rw [HRES.out, if_neg HK6.out, HST.out]
    exact (HN.out.an.same (w' := (w4).drew) (fun _ _ => rfl)).putTxs HX.out.2 HX.out.1
  · exact (Step.below (HN.out.base.trans ((below_drewN _ 1).mono HN.out.base.size))).trans (More.refl _ _) (step_grown (.inl rfl) HX.out.2)
end
end Go.Proofs.YtpnndlahfllbhaaGreat
