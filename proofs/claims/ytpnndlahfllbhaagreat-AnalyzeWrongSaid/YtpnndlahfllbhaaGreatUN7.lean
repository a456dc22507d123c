/-
  The walk of rec.Decode. Printed by n7.py.
-/
import Derived.Test.YtpnndlahfllbhaaGreatUNC
import Derived.Test.YtpnndlahfllbhaaGreatUN6
import Derived.Test.YtpnndlahfllbhaaGreatUV2
import Derived.Deep.CutRange
namespace Go.Proofs.YtpnndlahfllbhaaGreat
open Go.RowKit
attribute [local go_sem ↓] Go.wp_at_zero Go.wp_at_succ

theorem infoTx : (Tryz.prog.info? 44).map (fun i => (i.zero, i.size, i.bytes)) = some (some (.agg #[.int .i64 0, .int .i64 0, .int .u64 0, .int .u64 0]), 4, 32) := by kernel_rfl
theorem infoDirty : (Tryz.prog.info? 50).map (fun i => (i.zero, i.size, i.bytes)) = some (some (.agg #[.int .u32 0, .int .u64 0]), 2, 16) := by kernel_rfl
theorem tsC_len (t : Ts) : (tsC t).length = 4 := rfl
theorem dpC_len (t : Nat × Nat) : (dpC t).length = 2 := rfl

/-! what is read is mild -/
theorem Rd.text_le (r : Rd) (m : Nat) : (r.text m).1.size ≤ 65535 := by
  have h := r.number_lt 2
  unfold Rd.text
  split
  · exact Nat.zero_le _
  · split
    · exact Nat.zero_le _
    · exact Nat.le_trans (Rd.bytes_le _ _) (by omega)
theorem Rd.tss_mild : ∀ (n : Nat) (r : Rd), (Rd.tss n r).1.length ≤ n ∧ ∀ t ∈ (Rd.tss n r).1, (-9223372036854775808 ≤ t.tx ∧ t.tx ≤ 9223372036854775807) ∧ (-9223372036854775808 ≤ t.state ∧ t.state ≤ 9223372036854775807) ∧ t.last < 18446744073709551616 ∧ t.next < 18446744073709551616
  | 0, _ => ⟨Nat.le_refl _, fun t h => by simp [Rd.tss] at h⟩
  | n + 1, r => by
    unfold Rd.tss
    split
    · obtain ⟨h1, h2⟩ := Rd.tss_mild n r.ts.2
      refine ⟨by simp [h1], fun t ht => ?_⟩
      rcases List.mem_cons.1 ht with rfl | ht
      · have a := r.number_lt 4
        have b := (r.number 4).2.number_lt 1
        have c := ((r.number 4).2.number 1).2.number_lt 8
        have d := (((r.number 4).2.number 1).2.number 8).2.number_lt 8
        unfold Rd.ts
        simp only
        omega
      · exact h2 t ht
    · exact ⟨Nat.zero_le _, fun t h => by simp at h⟩
theorem Rd.dps_mild : ∀ (n : Nat) (r : Rd), (Rd.dps n r).1.length ≤ n ∧ ∀ t ∈ (Rd.dps n r).1, t.1 < 4294967296 ∧ t.2 < 18446744073709551616
  | 0, _ => ⟨Nat.le_refl _, fun t h => by simp [Rd.dps] at h⟩
  | n + 1, r => by
    unfold Rd.dps
    split
    · obtain ⟨h1, h2⟩ := Rd.dps_mild n r.dp.2
      refine ⟨by simp [h1], fun t ht => ?_⟩
      rcases List.mem_cons.1 ht with rfl | ht
      · have a := r.number_lt 4
        have b := (r.number 4).2.number_lt 8
        unfold Rd.dp
        simp only
        omega
      · exact h2 t ht
    · exact ⟨Nat.zero_le _, fun t h => by simp at h⟩
theorem Rc.none_mild : Rc.none.mild := by
  refine ⟨?_, ?_, ?_, ?_, ?_, ?_, ?_, ?_, ?_, ?_, ?_, ?_, ?_, ?_, fun t h => ?_, fun t h => ?_, ?_, ?_⟩
  all_goals first | decide | (exact absurd h (by simp [Rc.none])) | (exact Nat.zero_le _)
theorem recOfRd_mild (r : Rd) : (recOfRd r).1.mild := by
  have h1 : (r.headOf).1.mild := by
    have a := r.number_lt 1
    have b := (r.number 1).2.number_lt 4
    have c := ((r.number 1).2.number 4).2.number_lt 8
    have h := Rc.none_mild
    unfold Rd.headOf
    exact ⟨by simp only; omega, by simp only; omega, by simp only; omega, h.next, h.page, h.opKind, h.opAt, h.opS, h.opOld, h.undo, h.index, h.key, h.ridPage, h.ridSlot, h.txs, h.dirty, h.ltxs, h.ldirty⟩
  have h2 : ((r.headOf).2.nextOf (r.headOf).1).1.mild := by
    unfold Rd.nextOf
    split
    · have a := (r.headOf).2.number_lt 8
      have h := h1
      exact ⟨h.kind, h.tx, h.prev, by simp only; omega, h.page, h.opKind, h.opAt, h.opS, h.opOld, h.undo, h.index, h.key, h.ridPage, h.ridSlot, h.txs, h.dirty, h.ltxs, h.ldirty⟩
    · exact h1
  have hkey : ∀ (q : Rd) (x : Rc), x.mild → (q.keyOf x).1.mild := by
    intro q x h
    have a := q.number_lt 2
    have b := (q.number 2).2.text_le 64
    have c := ((q.number 2).2.text 64).2.number_lt 4
    have d := (((q.number 2).2.text 64).2.number 4).2.number_lt 2
    unfold Rd.keyOf
    exact ⟨h.kind, h.tx, h.prev, h.next, h.page, h.opKind, h.opAt, h.opS, h.opOld, h.undo, by simp only; omega, by simp only; omega, by simp only; omega, by simp only; omega, h.txs, h.dirty, h.ltxs, h.ldirty⟩
  have hchg : ∀ (q : Rd) (x : Rc), x.mild → (q.chgOf x).1.mild := by
    intro q x h
    have a := q.number_lt 4
    have b := (q.number 4).2.number_lt 1
    have c := ((q.number 4).2.number 1).2.number_lt 2
    have d := (((q.number 4).2.number 1).2.number 2).2.text_le 512
    have e := ((((q.number 4).2.number 1).2.number 2).2.text 512).2.text_le 512
    have f := (((((q.number 4).2.number 1).2.number 2).2.text 512).2.text 512).2.number_lt 1
    unfold Rd.chgOf
    have hy : (⟨x.kind, x.tx, x.prev, x.next, (q.number 4).1, ⟨(((q.number 4).2.number 1).1 : Int), ((((q.number 4).2.number 1).2.number 2).1 : Int), ((((q.number 4).2.number 1).2.number 2).2.text 512).1, (((((q.number 4).2.number 1).2.number 2).2.text 512).2.text 512).1⟩, ((((((q.number 4).2.number 1).2.number 2).2.text 512).2.text 512).2.number 1).1, x.index, x.entry, x.live, x.txs, x.dirty⟩ : Rc).mild :=
      ⟨h.kind, h.tx, h.prev, h.next, by simp only; omega, by simp only; omega, by simp only; omega, by simp only; omega, by simp only; omega, by simp only; omega, h.index, h.key, h.ridPage, h.ridSlot, h.txs, h.dirty, h.ltxs, h.ldirty⟩
    simp only
    split
    · exact hkey _ _ hy
    · exact hy
  have h3 : (((r.headOf).2.nextOf (r.headOf).1).2.chgsOf ((r.headOf).2.nextOf (r.headOf).1).1).1.mild := by
    unfold Rd.chgsOf
    split
    · exact hchg _ _ h2
    · exact h2
  have hn : ∀ q : Rd, (q.headOf).1.txs = [] ∧ (q.headOf).1.dirty = [] := fun q => ⟨rfl, rfl⟩
  have hn2 : ((r.headOf).2.nextOf (r.headOf).1).1.txs = [] ∧ ((r.headOf).2.nextOf (r.headOf).1).1.dirty = [] := by
    unfold Rd.nextOf
    split <;> exact hn r
  have hn3 : (((r.headOf).2.nextOf (r.headOf).1).2.chgsOf ((r.headOf).2.nextOf (r.headOf).1).1).1.txs = [] ∧ (((r.headOf).2.nextOf (r.headOf).1).2.chgsOf ((r.headOf).2.nextOf (r.headOf).1).1).1.dirty = [] := by
    unfold Rd.chgsOf
    split
    · unfold Rd.chgOf
      simp only
      split
      · exact hn2
      · exact hn2
    · exact hn2
  show ((((r.headOf).2.nextOf (r.headOf).1).2.chgsOf ((r.headOf).2.nextOf (r.headOf).1).1).2.tabsOf (((r.headOf).2.nextOf (r.headOf).1).2.chgsOf ((r.headOf).2.nextOf (r.headOf).1).1).1).1.mild
  generalize ((r.headOf).2.nextOf (r.headOf).1).2.chgsOf ((r.headOf).2.nextOf (r.headOf).1).1 = q at *
  obtain ⟨x, q⟩ := q
  unfold Rd.tabsOf
  simp only at *
  split
  · have a := q.number_lt 2
    have b := Rd.tss_mild (q.number 2).1 (q.number 2).2
    have c := (Rd.tss (q.number 2).1 (q.number 2).2).2.number_lt 2
    have d := Rd.dps_mild ((Rd.tss (q.number 2).1 (q.number 2).2).2.number 2).1 ((Rd.tss (q.number 2).1 (q.number 2).2).2.number 2).2
    unfold Rd.tabOf
    have h := h3
    refine ⟨h.kind, h.tx, h.prev, h.next, h.page, h.opKind, h.opAt, h.opS, h.opOld, h.undo, h.index, h.key, h.ridPage, h.ridSlot, ?_, ?_, ?_, ?_⟩
    · show ∀ t ∈ x.txs ++ _, _
      rw [hn3.1]; exact b.2
    · show ∀ t ∈ x.dirty ++ _, _
      rw [hn3.2]; exact d.2
    · show (x.txs ++ _).length ≤ _
      rw [hn3.1, List.nil_append]; unfold maxLen; have := b.1; omega
    · show (x.dirty ++ _).length ≤ _
      rw [hn3.2, List.nil_append]; unfold maxLen; have := d.1; omega
  · exact h3

def zeroRec : Array Value := #[.int .i64 0, .int .i64 0, .int .u64 0, .int .u64 0, .int .u32 0, .int .i64 0, .int .i64 0, .string ⟨#[]⟩, .string ⟨#[]⟩, .int .i64 0, .int .i64 0, .string ⟨#[]⟩, .int .u32 0, .int .i64 0, .bool false, .slice none 0 0, .slice none 0 0]
/-- while a record is read: the result's block, the reader, the record -/
structure DecC (w W : World) (rb : Nat) (r : Rd) (pb : Nat) (x : Rc) (tv dv : Value) : Prop where
  rd : RdAt W rb r
  rbl : w.heap.size < rb
  box : Blk W w.heap.size 63 zeroRec
  base : Below w.heap.size w W
  pbl : w.heap.size < pb
  pbx : Blk W pb 63 (recC x tv dv).toArray
  txs : W.ownsRow w.heap.size 44 4 tv x.txs.length (cellsL tsC x.txs)
  dirty : W.ownsRow w.heap.size 50 2 dv x.dirty.length (cellsL dpC x.dirty)
section
variable {w W W' : World} {rb pb : Nat} {r r' : Rd} {x : Rc} {tv dv : Value}
theorem DecC.next (h : DecC w W rb r pb x tv dv) (hp : RdPost W rb r' W') : DecC w W' rb r' pb x tv dv := by
  have hne : ∀ {g : Nat} {cs : Array Value}, Blk W g 63 cs → W'.heap[g]? = W.heap[g]? := fun hb => hp.2.block _ hb.lt (fun e => hb.ne_ h.rd.blk (by decide) e)
  have hown : ∀ {t : TypeId} {n : Nat} {v : Value} {l : List Value} {sz : Nat}, W.ownsRow w.heap.size t sz v n l → t ≠ 299 → W'.ownsRow w.heap.size t sz v n l := fun ho ht => own_same ho (fun k hk => hp.2.block k (ho.lt k hk).2 (fun e => own_blk_ne ho h.rd.blk ht (by rw [hk, show k = rb from e])))
  exact ⟨hp.1, h.rbl, h.box.same (hne h.box), h.base.trans (hp.2.belowB (fun q hq => by have := h.rbl; have e : q = rb := hq; omega) h.base.size), h.pbl, h.pbx.same (hne h.pbx), hown h.txs (by decide), hown h.dirty (by decide)⟩
theorem DecC.number (h : DecC w W rb r pb x tv dv) (k : Nat) (hk : k ≤ 8) : Calls Tryz.prog 87 #[.pointer (some ⟨rb, 0, none⟩), .int .i64 (k : Int)] W fun e w' => e = .returned (.int .u64 ((r.number k).1 : Int)) ∧ DecC w w' rb (r.number k).2 pb x tv dv :=
  (rnumber_c h.rd k hk).mono fun _ _ ⟨he, hp⟩ => ⟨he, h.next hp⟩
theorem DecC.below (h : DecC w W rb r pb x tv dv) (hb : Below W.heap.size W W') : DecC w W' rb r pb x tv dv :=
  ⟨h.rd.below hb, h.rbl, h.box.same (hb.block _ h.box.lt), h.base.trans (hb.mono h.base.size), h.pbl, h.pbx.same (hb.block _ h.pbx.lt), own_same h.txs (fun k hk => hb.block k (h.txs.lt k hk).2), own_same h.dirty (fun k hk => hb.block k (h.dirty.lt k hk).2)⟩
/-- the record's block and the reader change, nothing else -/
theorem DecC.upd (h : DecC w W rb r pb x tv dv) {x' : Rc} (hs : Step (fun k => k = rb ∨ k = pb) W W') (hr : RdAt W' rb r') (hx : Blk W' pb 63 (recC x' tv dv).toArray) (ht : x'.txs = x.txs) (hd : x'.dirty = x.dirty) : DecC w W' rb r' pb x' tv dv := by
  have hpl := h.pbl
  have hrl := h.rbl
  have hown : ∀ {t : TypeId} {n : Nat} {v : Value} {l : List Value} {sz : Nat}, W.ownsRow w.heap.size t sz v n l → t ≠ 299 → t ≠ 63 → W'.ownsRow w.heap.size t sz v n l := fun ho ht ht2 => own_same ho (fun k hk => hs.block k (ho.lt k hk).2 (by
    rintro (e | e)
    · exact own_blk_ne ho h.rd.blk ht (by rw [hk, e])
    · exact own_blk_ne ho h.pbx ht2 (by rw [hk, e])))
  exact ⟨hr, h.rbl, h.box.same (hs.block _ h.box.lt (by rintro (e | e) <;> omega)), h.base.trans (hs.belowB (by rintro q (e | e) <;> omega) h.base.size), h.pbl, hx, by rw [ht]; exact hown h.txs (by decide) (by decide), by rw [hd]; exact hown h.dirty (by decide) (by decide)⟩
theorem DecC.setNext (h : DecC w W rb r pb x tv dv) (n : Nat) : DecC w (W.setCell ⟨pb, 3, none⟩ (.int .u64 (n : Int))) rb r pb { x with next := n } tv dv := by
  refine h.upd (Step.setCell (Step.refl _ _) (.inl (.inr rfl)) _) (h.rd.same (Below.heap_setCell _ _ _ _ (fun e => h.pbx.ne_ h.rd.blk (by decide) e.symm))) ?_ rfl rfl
  have := h.pbx.set_ 3 (.int .u64 (n : Int))
  simpa [recC] using this
theorem DecC.pushTx (h : DecC w W rb r pb x tv dv) {t : Ts} {g c : Nat} (ho : W'.ownsRow w.heap.size 44 4 (.slice (some ⟨g, 0, none⟩) (x.txs.length + 1) c) (x.txs.length + 1) (cellsL tsC x.txs ++ tsC t)) (hg : W.grownBy W' tv.ownBlock) :
    DecC w (W'.setCell ⟨pb, 15, none⟩ (.slice (some ⟨g, 0, none⟩) (x.txs.length + 1) c)) rb r pb { x with txs := x.txs ++ [t] } (.slice (some ⟨g, 0, none⟩) (x.txs.length + 1) c) dv := by
  have e : (x.txs ++ [t]).length = x.txs.length + 1 := by simp
  have hB : ∀ {g' : Nat} {t : TypeId} {cs : Array Value}, Blk W g' t cs → 44 ≠ t → W'.heap[g']? = W.heap[g']? := fun {g' t cs} hb hne => hg.block g' hb.lt (fun e => own_blk_ne h.txs hb hne e.symm)
  have hP : Blk W' pb 63 _ := h.pbx.same (hB h.pbx (by decide))
  have hL : W'.ownsRow w.heap.size 50 2 dv x.dirty.length (cellsL dpC x.dirty) := own_same h.dirty (fun k hk => hg.block k (h.dirty.lt k hk).2 (fun e => own_own_ne h.dirty h.txs (by decide) hk e.symm))
  have hR : RdAt W' rb r := h.rd.same (hB h.rd.blk (by decide))
  have hS : ∀ q, q ≠ pb → (W'.setCell ⟨pb, 15, none⟩ (.slice (some ⟨g, 0, none⟩) (x.txs.length + 1) c)).heap[q]? = W'.heap[q]? := fun q hq => Below.heap_setCell W' _ _ q hq
  have h5 := h.pbl
  refine ⟨hR.same (hS rb (hR.blk.ne_ hP (by decide))), h.rbl, (h.box.same (hB h.box (by decide))).same (hS _ (by omega)), (h.base.grown hg h.base.size (fun k hk => (h.txs.lt k hk).1)).setCell (by simp only; omega) _, h.pbl, ?_, ?_, ?_⟩
  · have := hP.set_ 15 (.slice (some ⟨g, 0, none⟩) (x.txs.length + 1) c)
    simpa [recC] using this
  · show World.ownsRow _ _ _ _ _ (x.txs ++ [t]).length (cellsL tsC (x.txs ++ [t]))
    rw [e, cellsL_snoc]
    exact own_same ho (fun k hk => hS k (fun e => own_blk_ne ho hP (by decide) (by rw [hk, e])))
  · exact own_same hL (fun k hk => hS k (fun e => own_blk_ne hL hP (by decide) (by rw [hk, e])))
theorem DecC.pushDp (h : DecC w W rb r pb x tv dv) {t : Nat × Nat} {g c : Nat} (ho : W'.ownsRow w.heap.size 50 2 (.slice (some ⟨g, 0, none⟩) (x.dirty.length + 1) c) (x.dirty.length + 1) (cellsL dpC x.dirty ++ dpC t)) (hg : W.grownBy W' dv.ownBlock) :
    DecC w (W'.setCell ⟨pb, 16, none⟩ (.slice (some ⟨g, 0, none⟩) (x.dirty.length + 1) c)) rb r pb { x with dirty := x.dirty ++ [t] } tv (.slice (some ⟨g, 0, none⟩) (x.dirty.length + 1) c) := by
  have e : (x.dirty ++ [t]).length = x.dirty.length + 1 := by simp
  have hB : ∀ {g' : Nat} {t : TypeId} {cs : Array Value}, Blk W g' t cs → 50 ≠ t → W'.heap[g']? = W.heap[g']? := fun {g' t cs} hb hne => hg.block g' hb.lt (fun e => own_blk_ne h.dirty hb hne e.symm)
  have hP : Blk W' pb 63 _ := h.pbx.same (hB h.pbx (by decide))
  have hL : W'.ownsRow w.heap.size 44 4 tv x.txs.length (cellsL tsC x.txs) := own_same h.txs (fun k hk => hg.block k (h.txs.lt k hk).2 (fun e => own_own_ne h.txs h.dirty (by decide) hk e.symm))
  have hR : RdAt W' rb r := h.rd.same (hB h.rd.blk (by decide))
  have hS : ∀ q, q ≠ pb → (W'.setCell ⟨pb, 16, none⟩ (.slice (some ⟨g, 0, none⟩) (x.dirty.length + 1) c)).heap[q]? = W'.heap[q]? := fun q hq => Below.heap_setCell W' _ _ q hq
  have h5 := h.pbl
  refine ⟨hR.same (hS rb (hR.blk.ne_ hP (by decide))), h.rbl, (h.box.same (hB h.box (by decide))).same (hS _ (by omega)), (h.base.grown hg h.base.size (fun k hk => (h.dirty.lt k hk).1)).setCell (by simp only; omega) _, h.pbl, ?_, ?_, ?_⟩
  · have := hP.set_ 16 (.slice (some ⟨g, 0, none⟩) (x.dirty.length + 1) c)
    simpa [recC] using this
  · exact own_same hL (fun k hk => hS k (fun e => own_blk_ne hL hP (by decide) (by rw [hk, e])))
  · show World.ownsRow _ _ _ _ _ (x.dirty ++ [t]).length (cellsL dpC (x.dirty ++ [t]))
    rw [e, cellsL_snoc]
    exact own_same ho (fun k hk => hS k (fun e => own_blk_ne ho hP (by decide) (by rw [hk, e])))
theorem DecC.grownTx (h : DecC w W rb r pb x tv dv) (hg : W.grownBy W' tv.ownBlock) : Blk W' pb 63 (recC x tv dv).toArray := h.pbx.same (hg.block pb h.pbx.lt (fun e => own_blk_ne h.txs h.pbx (by decide) e.symm))
theorem DecC.grownDp (h : DecC w W rb r pb x tv dv) (hg : W.grownBy W' dv.ownBlock) : Blk W' pb 63 (recC x tv dv).toArray := h.pbx.same (hg.block pb h.pbx.lt (fun e => own_blk_ne h.dirty h.pbx (by decide) e.symm))
end
/-- what Decode leaves -/
def RecPost (w : World) (s : ByteArray) (e : Ending) (w' : World) : Prop :=
  ∃ tv dv, e = .returned (.tuple #[RecV (recE s).1 tv dv, .int .i64 (recE s).2]) ∧ RecAt w' (recE s).1 tv dv ∧ Below w.heap.size w w' ∧ (∀ k, tv.ownBlock = some k → w.heap.size ≤ k) ∧ ∀ k, dv.ownBlock = some k → w.heap.size ≤ k
/-- a whole struct is stored into its block -/
theorem wpList_store_row {P : Program} {ops : Array Oper} {rest : List Oper} {o : Oper} {a : Act} {Q : Exit → Act → World → Prop} {w : World} (hgd : o.guard = none) (t : TypeId) (p x : Operand) (ho : o.op = .store t p x)
    (g : Nat) (ty : TypeId) (cs cur : Array Value) (hp : a.eval p = .pointer (some ⟨g, 0, none⟩)) (hx : a.eval x = .agg cs) (hg : w.heap[g]? = some (.cells cur ty (0, 0)))
    (hi : (P.info? t).map (·.size) = some cs.size) (hz : cur.size = cs.size) (h1 : cs.all (·.oneCell') = true) (h : wpList P ops Q rest (a.put o.dst undef) (w.setRow g cs)) : wpList P ops Q (o :: rest) a w := by
  refine wpList_plain hgd fun K hK => ?_
  have hr : (Instr.storeAt t (.pointer (some ⟨g, 0, none⟩)) (.agg cs)).run P w = .ok () (w.setRow g cs) := by
    simp only [Instr.storeAt, Instr.sureAddr, Sem.run_bind, Sem.run_pure, Result.andThen]
    exact run_storeVar_row _ _ ty t cur cs hg hi hz h1
  unfold Oper.wp
  simp [execOp, ho, hp, hx, hr, Result.andThen]
  exact hK _ _ h
/-- a whole struct is loaded out of its block -/
theorem wpList_load_row {P : Program} {ops : Array Oper} {rest : List Oper} {o : Oper} {a : Act} {Q : Exit → Act → World → Prop} {w : World} (hw : Region.wanted o (yielded ops a.tmps) = true) (t : TypeId) (p : Operand) (ho : o.op = .load t p)
    (g : Nat) (ty : TypeId) (cs : Array Value) (d : TypeDesc) (hp : a.eval p = .pointer (some ⟨g, 0, none⟩)) (hg : w.heap[g]? = some (.cells cs ty (0, 0)))
    (hu : P.underlying t = some d) (hd : (match d with | .struct _ | .array _ _ => true | _ => false) = true) (hi : (P.info? t).map (·.size) = some cs.size) (h : wpList P ops Q rest (a.put o.dst (.agg cs)) w) : wpList P ops Q (o :: rest) a w := by
  refine wpList_step fun K hK => ?_
  rw [if_pos hw]
  have hr : (Instr.loadAt t (.pointer (some ⟨g, 0, none⟩))).run P w = .ok (.agg cs) w := by
    simp only [Instr.loadAt, Instr.sureAddr, Sem.run_bind, Sem.run_pure, Result.andThen]
    exact run_loadVar_row w g ty t cs (0, 0) d hg hu hd hi
  unfold Oper.wp
  simp [execOp, ho, hp, hr, Result.andThen]
  exact hK _ _ h
theorem belowRow {w w' : World} {cs cur : Array Value} {ty : TypeId} {fr : Nat × Nat} (h : Below w.heap.size w w') (_hg : w'.heap[w.heap.size]? = some (.cells cur ty fr)) : Below w.heap.size w (w'.setRow w.heap.size cs) :=
  ⟨h.os, h.tape, h.output, by rw [show (w'.setRow w.heap.size cs).heap.size = w'.heap.size by simp [World.setRow]]; exact h.size, fun k hk => (setRow_other w' w.heap.size k cs (by omega)).trans (h.block k hk)⟩
end Go.Proofs.YtpnndlahfllbhaaGreat
