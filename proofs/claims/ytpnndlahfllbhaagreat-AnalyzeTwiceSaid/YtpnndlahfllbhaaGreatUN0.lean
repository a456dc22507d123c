/-
  Records as bytes: the plain law.
-/
import Derived.Test.YtpnndlahfllbhaaGreatUP0
namespace Go.Proofs.YtpnndlahfllbhaaGreat
open Go.RowKit

/-- a change of a page -/
structure PgOp where
  kind : Int
  at_ : Int
  s : ByteArray
  old : ByteArray
def PgOp.none : PgOp := ⟨0, 0, ⟨#[]⟩, ⟨#[]⟩⟩
def PgOp.ok (o : PgOp) : Prop :=
  o.s.size ≤ 512 ∧ o.old.size ≤ 512 ∧
  ((o.kind = 1 ∧ 0 ≤ o.at_ ∧ o.at_ ≤ 255 ∧ o.s.size ≤ 32 ∧ o.old.size = 0) ∨
   (o.kind = 2 ∧ 0 ≤ o.at_ ∧ o.at_ < 64 ∧ o.old.size = 0) ∨
   (o.kind = 3 ∧ 0 ≤ o.at_ ∧ o.at_ < 64 ∧ o.s.size = 0) ∨
   (o.kind = 4 ∧ 0 ≤ o.at_ ∧ o.at_ < 64) ∨
   (o.kind = 5 ∧ o.at_ = 0 ∧ o.s.size ≤ 32 ∧ o.old.size ≤ 32) ∨
   (o.kind = 6 ∧ 0 ≤ o.at_ ∧ o.at_ < 512 ∧ o.s.size = o.old.size ∧ 1 ≤ o.s.size) ∨
   (o.kind = 7 ∧ o.at_ = 0 ∧ 1 ≤ o.s.size ∧ o.s.size ≤ 33 ∧ 1 ≤ o.old.size ∧ o.old.size ≤ 33))
instance (o : PgOp) : Decidable o.ok := by unfold PgOp.ok; infer_instance
/-- an index entry -/
structure En where
  key : ByteArray
  page : Nat
  slot : Int
def En.none : En := ⟨⟨#[]⟩, 0, 0⟩
/-- how a transaction stands -/
structure Ts where
  tx : Int
  state : Int
  last : Nat
  next : Nat
/-- a record -/
structure Rc where
  kind : Int
  tx : Int
  prev : Nat
  next : Nat
  page : Nat
  op : PgOp
  undo : Int
  index : Int
  entry : En
  live : Bool
  txs : List Ts
  dirty : List (Nat × Nat)
def Rc.none : Rc := ⟨0, 0, 0, 0, 0, .none, 0, 0, .none, false, [], []⟩
def Rc.chg (r : Rc) : Prop := r.kind = 1 ∨ r.kind = 2
def Rc.nxt (r : Rc) : Prop := r.kind = 2 ∨ r.kind = 3
def Rc.tab (r : Rc) : Prop := r.kind = 8
instance (r : Rc) : Decidable r.chg := by unfold Rc.chg; infer_instance
instance (r : Rc) : Decidable r.nxt := by unfold Rc.nxt; infer_instance
instance (r : Rc) : Decidable r.tab := by unfold Rc.tab; infer_instance
def Ts.ok (t : Ts) : Prop := 0 ≤ t.tx ∧ t.tx < 2147483648 ∧ 1 ≤ t.state ∧ t.state ≤ 3
def Rc.ok1 (r : Rc) : Prop := 1 ≤ r.kind ∧ r.kind ≤ 8 ∧ 0 ≤ r.tx ∧ r.tx < 2147483648
def Rc.ok2 (r : Rc) : Prop := 0 ≤ r.undo ∧ r.undo ≤ 2
def Rc.ok3 (r : Rc) : Prop := (r.chg → r.page ≠ 0 ∧ r.op.ok) ∧ (¬ r.chg → r.page = 0 ∧ r.op = .none ∧ r.undo = 0)
def Rc.ok4 (r : Rc) : Prop := (r.undo = 2 → 0 ≤ r.index ∧ r.index < 65536 ∧ r.entry.key.size ≤ 64 ∧ 0 ≤ r.entry.slot ∧ r.entry.slot < 65536) ∧ (r.undo ≠ 2 → r.index = 0 ∧ r.entry = .none ∧ r.live = false)
def Rc.ok5 (r : Rc) : Prop := (r.nxt ∨ r.next = 0) ∧ (r.kind = 1 ∨ r.undo = 0)
def Rc.ok6 (r : Rc) : Prop := (r.tab ∨ (r.txs.length = 0 ∧ r.dirty.length = 0)) ∧ r.txs.length ≤ 64 ∧ r.dirty.length ≤ 256
/-- a record that may be -/
structure Rc.ok (r : Rc) : Prop where
  a1 : r.ok1
  a2 : r.ok2
  a3 : r.ok3
  a4 : r.ok4
  a5 : r.ok5
  a6 : r.ok6
  a7 : ∀ t ∈ r.txs, t.ok
theorem Rc.ok_iff (r : Rc) : r.ok ↔ ((((((r.ok1 ∧ r.ok2) ∧ r.ok3) ∧ r.ok4) ∧ r.ok5) ∧ r.ok6) ∧ ∀ t ∈ r.txs, t.ok) :=
  ⟨fun ⟨a, b, c, d, e, f, g⟩ => ⟨⟨⟨⟨⟨⟨a, b⟩, c⟩, d⟩, e⟩, f⟩, g⟩, fun ⟨⟨⟨⟨⟨⟨a, b⟩, c⟩, d⟩, e⟩, f⟩, g⟩ => ⟨a, b, c, d, e, f, g⟩⟩
noncomputable instance (r : Rc) : Decidable r.ok := Classical.propDecidable _
/-- what every record in memory keeps to -/
structure Rc.mild (r : Rc) : Prop where
  kind : -9223372036854775808 ≤ r.kind ∧ r.kind ≤ 9223372036854775807
  tx : -9223372036854775808 ≤ r.tx ∧ r.tx ≤ 9223372036854775807
  prev : r.prev < 18446744073709551616
  next : r.next < 18446744073709551616
  page : r.page < 4294967296
  opKind : -9223372036854775808 ≤ r.op.kind ∧ r.op.kind ≤ 9223372036854775807
  opAt : -9223372036854775808 ≤ r.op.at_ ∧ r.op.at_ ≤ 9223372036854775807
  opS : r.op.s.size ≤ 9223372036854775807
  opOld : r.op.old.size ≤ 9223372036854775807
  undo : -9223372036854775808 ≤ r.undo ∧ r.undo ≤ 9223372036854775807
  index : -9223372036854775808 ≤ r.index ∧ r.index ≤ 9223372036854775807
  key : r.entry.key.size ≤ 9223372036854775807
  ridPage : r.entry.page < 4294967296
  ridSlot : -9223372036854775808 ≤ r.entry.slot ∧ r.entry.slot ≤ 9223372036854775807
  txs : ∀ t ∈ r.txs, (-9223372036854775808 ≤ t.tx ∧ t.tx ≤ 9223372036854775807) ∧ (-9223372036854775808 ≤ t.state ∧ t.state ≤ 9223372036854775807) ∧ t.last < 18446744073709551616 ∧ t.next < 18446744073709551616
  dirty : ∀ d ∈ r.dirty, d.1 < 4294967296 ∧ d.2 < 18446744073709551616
  ltxs : r.txs.length ≤ maxLen
  ldirty : r.dirty.length ≤ maxLen

def textB (s : ByteArray) : ByteArray := leB s.size 2 ++ s
def tsB (t : Ts) : ByteArray := leB t.tx.toNat 4 ++ (leB t.state.toNat 1 ++ (leB t.last 8 ++ leB t.next 8))
def tssB : List Ts → ByteArray
  | [] => ⟨#[]⟩
  | t :: l => tsB t ++ tssB l
def dpB (d : Nat × Nat) : ByteArray := leB d.1 4 ++ leB d.2 8
def dpsB : List (Nat × Nat) → ByteArray
  | [] => ⟨#[]⟩
  | t :: l => dpB t ++ dpsB l
def Rc.keyB (r : Rc) : ByteArray := leB r.index.toNat 2 ++ (textB r.entry.key ++ (leB r.entry.page 4 ++ (leB r.entry.slot.toNat 2 ++ leB (if r.live then 1 else 0) 1)))
def Rc.chgB (r : Rc) : ByteArray := leB r.page 4 ++ (leB r.op.kind.toNat 1 ++ (leB r.op.at_.toNat 2 ++ (textB r.op.s ++ (textB r.op.old ++ (leB r.undo.toNat 1 ++ (if r.undo = 2 then r.keyB else ⟨#[]⟩))))))
def Rc.tabB (r : Rc) : ByteArray := leB r.txs.length 2 ++ (tssB r.txs ++ (leB r.dirty.length 2 ++ dpsB r.dirty))
def Rc.nxtB (r : Rc) : ByteArray := if r.nxt then leB r.next 8 else ⟨#[]⟩
def Rc.chgsB (r : Rc) : ByteArray := if r.chg then r.chgB else ⟨#[]⟩
def Rc.tabsB (r : Rc) : ByteArray := if r.tab then r.tabB else ⟨#[]⟩
def Rc.enc (r : Rc) : ByteArray := leB r.kind.toNat 1 ++ (leB r.tx.toNat 4 ++ (leB r.prev 8 ++ (r.nxtB ++ (r.chgsB ++ r.tabsB))))
open Classical in
noncomputable def Rc.encE (r : Rc) : ByteArray × Int := if r.ok then (r.enc, 0) else (⟨#[]⟩, 40)

/-! what a reader takes -/
def Rd.most (r : Rd) (n m : Nat) : Rd := if r.err = 0 ∧ m < n then { r with err := 5 } else r
def Rd.text (r : Rd) (m : Nat) : ByteArray × Rd :=
  if r.err ≠ 0 then (⟨#[]⟩, r) else
  if (((r.number 2).2.most (r.number 2).1 m).bytes (r.number 2).1).2.err ≠ 0 then (⟨#[]⟩, { (((r.number 2).2.most (r.number 2).1 m).bytes (r.number 2).1).2 with at_ := r.at_ }) else (((r.number 2).2.most (r.number 2).1 m).bytes (r.number 2).1)
def Rd.bool (r : Rd) : Bool × Rd :=
  if r.err ≠ 0 then (false, r) else if r.s.size - r.at_ < 1 then (false, { r with err := 4 }) else if 1 < numAt r.s r.at_ 1 then (false, { r with err := 6 }) else (numAt r.s r.at_ 1 == 1, { r with at_ := r.at_ + 1 })
def Rd.ts (r : Rd) : Ts × Rd :=
  (⟨((r.number 4).1 : Int), (((r.number 4).2.number 1).1 : Int), (((r.number 4).2.number 1).2.number 8).1, ((((r.number 4).2.number 1).2.number 8).2.number 8).1⟩, ((((r.number 4).2.number 1).2.number 8).2.number 8).2)
def Rd.dp (r : Rd) : (Nat × Nat) × Rd := (((r.number 4).1, ((r.number 4).2.number 8).1), ((r.number 4).2.number 8).2)
/-- so many of them, as long as nothing is wrong -/
def Rd.tss : Nat → Rd → List Ts × Rd
  | 0, r => ([], r)
  | n + 1, r => if r.err = 0 then (r.ts.1 :: (Rd.tss n r.ts.2).1, (Rd.tss n r.ts.2).2) else ([], r)
def Rd.dps : Nat → Rd → List (Nat × Nat) × Rd
  | 0, r => ([], r)
  | n + 1, r => if r.err = 0 then (r.dp.1 :: (Rd.dps n r.dp.2).1, (Rd.dps n r.dp.2).2) else ([], r)
def Rd.keyOf (r0 : Rd) (x : Rc) : Rc × Rd :=
  let a := r0.number 2
  let b := a.2.text 64
  let c := b.2.number 4
  let d := c.2.number 2
  let e := d.2.bool
  ({ x with index := (a.1 : Int), entry := ⟨b.1, c.1, (d.1 : Int)⟩, live := e.1 }, e.2)
def Rd.chgOf (r0 : Rd) (x : Rc) : Rc × Rd :=
  let a := r0.number 4
  let b := a.2.number 1
  let c := b.2.number 2
  let d := c.2.text 512
  let e := d.2.text 512
  let f := e.2.number 1
  let y : Rc := { x with page := a.1, op := ⟨(b.1 : Int), (c.1 : Int), d.1, e.1⟩, undo := (f.1 : Int) }
  if f.1 = 2 then f.2.keyOf y else (y, f.2)
def Rd.tabOf (r0 : Rd) (x : Rc) : Rc × Rd :=
  let a := r0.number 2
  let b := Rd.tss a.1 a.2
  let c := b.2.number 2
  let d := Rd.dps c.1 c.2
  ({ x with txs := x.txs ++ b.1, dirty := x.dirty ++ d.1 }, d.2)
def Rd.headOf (r0 : Rd) : Rc × Rd :=
  let a := r0.number 1
  let b := a.2.number 4
  let c := b.2.number 8
  ({ Rc.none with kind := (a.1 : Int), tx := (b.1 : Int), prev := c.1 }, c.2)
def Rd.nextOf (r0 : Rd) (x : Rc) : Rc × Rd := if x.nxt then ({ x with next := (r0.number 8).1 }, (r0.number 8).2) else (x, r0)
def Rd.chgsOf (r0 : Rd) (x : Rc) : Rc × Rd := if x.chg then r0.chgOf x else (x, r0)
def Rd.tabsOf (r0 : Rd) (x : Rc) : Rc × Rd := if x.tab then r0.tabOf x else (x, r0)
/-- what is read of a record -/
def recOfRd (r0 : Rd) : Rc × Rd :=
  let h := r0.headOf
  let n := h.2.nextOf h.1
  let c := n.2.chgsOf n.1
  c.2.tabsOf c.1
def Rd.endOf (r : Rd) : Int := if r.err = 0 ∧ r.at_ < r.s.size then 5 else r.err
open Classical in
/-- the record of bytes, or why not -/
noncomputable def recE (s : ByteArray) : Rc × Int := if (recOfRd ⟨s, 0, 0⟩).2.endOf = 0 ∧ (recOfRd ⟨s, 0, 0⟩).1.ok then ((recOfRd ⟨s, 0, 0⟩).1, 0) else (Rc.none, 40)

/-! what was put is read again -/
theorem Rd.text_at (a t c : ByteArray) (m : Nat) (h : t.size ≤ m) (hm : m < 65536) : (⟨a ++ (textB t ++ c), a.size, 0⟩ : Rd).text m = (t, ⟨(a ++ textB t) ++ c, (a ++ textB t).size, 0⟩) := by
  unfold Rd.text textB
  rw [if_neg (by simp), ByteArray.append_assoc, Rd.number_at a (t ++ c) t.size 2 (by omega)]
  simp only
  have e : (⟨a ++ leB t.size 2 ++ (t ++ c), (a ++ leB t.size 2).size, 0⟩ : Rd).most t.size m = ⟨a ++ leB t.size 2 ++ (t ++ c), (a ++ leB t.size 2).size, 0⟩ := by
    unfold Rd.most
    rw [if_neg (by omega)]
  rw [e, Rd.bytes_at]
  simp only [ByteArray.append_assoc]
  simp
theorem Rd.bool_at (a c : ByteArray) (b : Bool) : (⟨a ++ (leB (if b then 1 else 0) 1 ++ c), a.size, 0⟩ : Rd).bool = (b, ⟨(a ++ leB (if b then 1 else 0) 1) ++ c, (a ++ leB (if b then 1 else 0) 1).size, 0⟩) := by
  unfold Rd.bool
  rw [if_neg (by simp)]
  have hz : (a ++ (leB (if b then 1 else 0) 1 ++ c)).size = a.size + (1 + c.size) := by rw [ByteArray.size_append, ByteArray.size_append, leB_size]
  rw [if_neg (by show ¬ (a ++ (leB (if b then 1 else 0) 1 ++ c)).size - a.size < 1; omega)]
  have hn : numAt (a ++ (leB (if b then 1 else 0) 1 ++ c)) a.size 1 = if b then 1 else 0 := numAt_at a c _ 1 (by cases b <;> decide)
  simp only [hn]
  rw [if_neg (by cases b <;> decide), ByteArray.size_append, leB_size, ByteArray.append_assoc]
  cases b <;> rfl
theorem Rd.ts_at (a c : ByteArray) (t : Ts) (h : t.ok) (h1 : t.last < 18446744073709551616) (h2 : t.next < 18446744073709551616) :
    (⟨a ++ (tsB t ++ c), a.size, 0⟩ : Rd).ts = (t, ⟨(a ++ tsB t) ++ c, (a ++ tsB t).size, 0⟩) := by
  obtain ⟨t0, t1, t2, t3⟩ := h
  have k1 : ((t.tx.toNat : Nat) : Int) = t.tx := by omega
  have k2 : ((t.state.toNat : Nat) : Int) = t.state := by omega
  unfold Rd.ts tsB
  simp only [ByteArray.append_assoc]
  simp only [Rd.number_at _ _ t.tx.toNat 4 (by omega), Rd.number_at _ _ t.state.toNat 1 (by omega), Rd.number_at _ _ t.last 8 h1, Rd.number_at _ _ t.next 8 h2, k1, k2]
  simp only [ByteArray.append_assoc]
theorem Rd.dp_at (a c : ByteArray) (d : Nat × Nat) (h1 : d.1 < 4294967296) (h2 : d.2 < 18446744073709551616) :
    (⟨a ++ (dpB d ++ c), a.size, 0⟩ : Rd).dp = (d, ⟨(a ++ dpB d) ++ c, (a ++ dpB d).size, 0⟩) := by
  unfold Rd.dp dpB
  simp only [ByteArray.append_assoc]
  simp only [Rd.number_at _ _ d.1 4 h1, Rd.number_at _ _ d.2 8 h2]
  simp only [ByteArray.append_assoc]
theorem Rd.tss_at : ∀ (l : List Ts) (a c : ByteArray), (∀ t ∈ l, t.ok ∧ t.last < 18446744073709551616 ∧ t.next < 18446744073709551616) → Rd.tss l.length (⟨a ++ (tssB l ++ c), a.size, 0⟩ : Rd) = (l, ⟨(a ++ tssB l) ++ c, (a ++ tssB l).size, 0⟩)
  | [], a, c, _ => by
    have e : tssB [] = ⟨#[]⟩ := rfl
    simp only [List.length_nil, Rd.tss, e, bytes_nil, bytes_nil']
  | t :: l, a, c, h => by
    have e : tssB (t :: l) = tsB t ++ tssB l := rfl
    obtain ⟨h0, h1, h2⟩ := h t (List.mem_cons_self ..)
    rw [List.length_cons, Rd.tss, if_pos rfl, e, ByteArray.append_assoc, Rd.ts_at a _ t h0 h1 h2]
    simp only
    rw [Rd.tss_at l (a ++ tsB t) c (fun x hx => h x (List.mem_cons_of_mem _ hx))]
    simp only [ByteArray.append_assoc]
theorem Rd.dps_at : ∀ (l : List (Nat × Nat)) (a c : ByteArray), (∀ d ∈ l, d.1 < 4294967296 ∧ d.2 < 18446744073709551616) → Rd.dps l.length (⟨a ++ (dpsB l ++ c), a.size, 0⟩ : Rd) = (l, ⟨(a ++ dpsB l) ++ c, (a ++ dpsB l).size, 0⟩)
  | [], a, c, _ => by
    have e : dpsB [] = ⟨#[]⟩ := rfl
    simp only [List.length_nil, Rd.dps, e, bytes_nil, bytes_nil']
  | t :: l, a, c, h => by
    have e : dpsB (t :: l) = dpB t ++ dpsB l := rfl
    obtain ⟨h1, h2⟩ := h t (List.mem_cons_self ..)
    rw [List.length_cons, Rd.dps, if_pos rfl, e, ByteArray.append_assoc, Rd.dp_at a _ t h1 h2]
    simp only
    rw [Rd.dps_at l (a ++ dpB t) c (fun x hx => h x (List.mem_cons_of_mem _ hx))]
    simp only [ByteArray.append_assoc]
theorem PgOp.ok.small {o : PgOp} (h : o.ok) : (0 ≤ o.kind ∧ o.kind ≤ 7) ∧ (0 ≤ o.at_ ∧ o.at_ < 512) ∧ o.s.size ≤ 512 ∧ o.old.size ≤ 512 := by
  obtain ⟨h1, h2, h3⟩ := h
  refine ⟨?_, ?_, h1, h2⟩ <;> omega
section
variable {r : Rc}
theorem Rd.head_at (a c : ByteArray) (h : r.ok) (hm : r.mild) : (⟨a ++ (leB r.kind.toNat 1 ++ (leB r.tx.toNat 4 ++ (leB r.prev 8 ++ c))), a.size, 0⟩ : Rd).headOf = ({ Rc.none with kind := r.kind, tx := r.tx, prev := r.prev }, ⟨(a ++ (leB r.kind.toNat 1 ++ (leB r.tx.toNat 4 ++ leB r.prev 8))) ++ c, (a ++ (leB r.kind.toNat 1 ++ (leB r.tx.toNat 4 ++ leB r.prev 8))).size, 0⟩) := by
  obtain ⟨h1, h2, h3, h4⟩ := h.a1
  have k1 : ((r.kind.toNat : Nat) : Int) = r.kind := by omega
  have k2 : ((r.tx.toNat : Nat) : Int) = r.tx := by omega
  unfold Rd.headOf
  simp only [Rd.number_at _ _ r.kind.toNat 1 (by omega), Rd.number_at _ _ r.tx.toNat 4 (by omega), Rd.number_at _ _ r.prev 8 hm.prev, k1, k2]
  simp only [ByteArray.append_assoc]
theorem Rd.next_at (a c : ByteArray) (h : r.ok) (hm : r.mild) (x : Rc) (hx : x.kind = r.kind) (hn : x.next = 0) :
    (⟨a ++ (r.nxtB ++ c), a.size, 0⟩ : Rd).nextOf x = ({ x with next := r.next }, ⟨(a ++ r.nxtB) ++ c, (a ++ r.nxtB).size, 0⟩) := by
  have e : x.nxt ↔ r.nxt := by unfold Rc.nxt; rw [hx]
  unfold Rd.nextOf Rc.nxtB
  by_cases hk : r.nxt
  · rw [if_pos (e.2 hk), if_pos hk, Rd.number_at _ _ r.next 8 hm.next]
  · rw [if_neg (fun h => hk (e.1 h)), if_neg hk]
    have : r.next = 0 := h.a5.1.resolve_left hk
    rw [this, ← hn]
    simp only [bytes_nil, bytes_nil']
theorem Rd.key_at (a c : ByteArray) (h : r.ok) (hm : r.mild) (hu : r.undo = 2) (x : Rc) :
    (⟨a ++ (r.keyB ++ c), a.size, 0⟩ : Rd).keyOf x = ({ x with index := r.index, entry := r.entry, live := r.live }, ⟨(a ++ r.keyB) ++ c, (a ++ r.keyB).size, 0⟩) := by
  obtain ⟨h1, h2, h3, h4, h5⟩ := h.a4.1 hu
  have k1 : ((r.index.toNat : Nat) : Int) = r.index := by omega
  have k2 : ((r.entry.slot.toNat : Nat) : Int) = r.entry.slot := by omega
  unfold Rd.keyOf Rc.keyB
  simp only [ByteArray.append_assoc]
  simp only [Rd.number_at _ _ r.index.toNat 2 (by omega), Rd.text_at _ r.entry.key _ 64 h3 (by decide), Rd.number_at _ _ r.entry.page 4 hm.ridPage, Rd.number_at _ _ r.entry.slot.toNat 2 (by omega), Rd.bool_at, k1, k2]
  simp only [ByteArray.append_assoc]
theorem Rd.chg_at (a c : ByteArray) (h : r.ok) (hm : r.mild) (hc : r.chg) (x : Rc) (hi : x.index = 0) (he : x.entry = .none) (hl : x.live = false) :
    (⟨a ++ (r.chgB ++ c), a.size, 0⟩ : Rd).chgOf x = ({ x with page := r.page, op := r.op, undo := r.undo, index := r.index, entry := r.entry, live := r.live }, ⟨(a ++ r.chgB) ++ c, (a ++ r.chgB).size, 0⟩) := by
  obtain ⟨o1, o2, o3, o4⟩ := (h.a3.1 hc).2.small
  obtain ⟨u1, u2⟩ := h.a2
  have k1 : ((r.op.kind.toNat : Nat) : Int) = r.op.kind := by omega
  have k2 : ((r.op.at_.toNat : Nat) : Int) = r.op.at_ := by omega
  have k3 : ((r.undo.toNat : Nat) : Int) = r.undo := by omega
  unfold Rd.chgOf Rc.chgB
  simp only [ByteArray.append_assoc]
  simp only [Rd.number_at _ _ r.page 4 hm.page, Rd.number_at _ _ r.op.kind.toNat 1 (by omega), Rd.number_at _ _ r.op.at_.toNat 2 (by omega), Rd.text_at _ r.op.s _ 512 o3 (by decide), Rd.text_at _ r.op.old _ 512 o4 (by decide), Rd.number_at _ _ r.undo.toNat 1 (by omega), k1, k2, k3]
  by_cases hu : r.undo = 2
  · rw [if_pos (by omega), if_pos hu, Rd.key_at _ _ h hm hu]
    simp only [ByteArray.append_assoc]
  · rw [if_neg (by omega), if_neg hu]
    obtain ⟨e1, e2, e3⟩ := h.a4.2 hu
    rw [e1, e2, e3, ← hi, ← he, ← hl]
    simp only [ByteArray.append_assoc, bytes_nil, bytes_nil']
theorem Rd.chgs_at (a c : ByteArray) (h : r.ok) (hm : r.mild) (x : Rc) (hx : x.kind = r.kind) (hp : x.page = 0) (ho : x.op = .none) (hu : x.undo = 0) (hi : x.index = 0) (he : x.entry = .none) (hl : x.live = false) :
    (⟨a ++ (r.chgsB ++ c), a.size, 0⟩ : Rd).chgsOf x = ({ x with page := r.page, op := r.op, undo := r.undo, index := r.index, entry := r.entry, live := r.live }, ⟨(a ++ r.chgsB) ++ c, (a ++ r.chgsB).size, 0⟩) := by
  have e : x.chg ↔ r.chg := by unfold Rc.chg; rw [hx]
  unfold Rd.chgsOf Rc.chgsB
  by_cases hk : r.chg
  · rw [if_pos (e.2 hk), if_pos hk, Rd.chg_at a c h hm hk x hi he hl]
  · rw [if_neg (fun h => hk (e.1 h)), if_neg hk]
    obtain ⟨e1, e2, e3⟩ := h.a3.2 hk
    obtain ⟨e4, e5, e6⟩ := h.a4.2 (by rw [e3]; decide)
    rw [e1, e2, e3, e4, e5, e6, ← hp, ← ho]
    simp only [bytes_nil, bytes_nil']
    cases x
    simp_all
theorem Rd.tabs_at (a c : ByteArray) (h : r.ok) (hm : r.mild) (x : Rc) (hx : x.kind = r.kind) (ht : x.txs = []) (hd : x.dirty = []) :
    (⟨a ++ (r.tabsB ++ c), a.size, 0⟩ : Rd).tabsOf x = ({ x with txs := r.txs, dirty := r.dirty }, ⟨(a ++ r.tabsB) ++ c, (a ++ r.tabsB).size, 0⟩) := by
  have e : x.tab ↔ r.tab := by unfold Rc.tab; rw [hx]
  obtain ⟨a1, a2, a3⟩ := h.a6
  unfold Rd.tabsOf Rc.tabsB
  by_cases hk : r.tab
  · rw [if_pos (e.2 hk), if_pos hk]
    unfold Rd.tabOf Rc.tabB
    simp only [ByteArray.append_assoc]
    simp only [Rd.number_at _ _ r.txs.length 2 (by omega), Rd.tss_at r.txs _ _ (fun t h' => ⟨h.a7 t h', (hm.txs t h').2.2⟩), Rd.number_at _ _ r.dirty.length 2 (by omega), Rd.dps_at r.dirty _ _ hm.dirty, ht, hd, List.nil_append]
    simp only [ByteArray.append_assoc]
  · rw [if_neg (fun h => hk (e.1 h)), if_neg hk]
    obtain ⟨e1, e2⟩ := a1.resolve_left hk
    rw [List.eq_nil_of_length_eq_zero e1, List.eq_nil_of_length_eq_zero e2, ← ht, ← hd]
    simp only [bytes_nil, bytes_nil']
theorem Rc.ok.read (h : r.ok) (hm : r.mild) : recOfRd ⟨r.enc, 0, 0⟩ = (r, ⟨r.enc, r.enc.size, 0⟩) := by
  have e : (⟨r.enc, 0, 0⟩ : Rd) = ⟨(⟨#[]⟩ : ByteArray) ++ (leB r.kind.toNat 1 ++ (leB r.tx.toNat 4 ++ (leB r.prev 8 ++ (r.nxtB ++ (r.chgsB ++ (r.tabsB ++ ⟨#[]⟩)))))), (⟨#[]⟩ : ByteArray).size, 0⟩ := by
    rw [bytes_nil', bytes_nil]; rfl
  have e2 : r.enc = ((((⟨#[]⟩ : ByteArray) ++ (leB r.kind.toNat 1 ++ (leB r.tx.toNat 4 ++ leB r.prev 8))) ++ r.nxtB) ++ r.chgsB) ++ r.tabsB := by
    rw [bytes_nil']
    unfold Rc.enc
    simp only [ByteArray.append_assoc]
  rw [e]
  unfold recOfRd
  simp only [Rd.head_at _ _ h hm]
  simp only [Rd.next_at _ _ h hm { Rc.none with kind := r.kind, tx := r.tx, prev := r.prev } rfl rfl]
  simp only [Rd.chgs_at _ _ h hm { Rc.none with kind := r.kind, tx := r.tx, prev := r.prev, next := r.next } rfl rfl rfl rfl rfl rfl rfl]
  simp only [Rd.tabs_at _ _ h hm { Rc.none with kind := r.kind, tx := r.tx, prev := r.prev, next := r.next, page := r.page, op := r.op, undo := r.undo, index := r.index, entry := r.entry, live := r.live } rfl rfl rfl]
  rw [bytes_nil, ← e2]
theorem Rc.ok.dec (h : r.ok) (hm : r.mild) : recE r.enc = (r, 0) := by
  unfold recE
  rw [h.read hm]
  exact if_pos ⟨by unfold Rd.endOf; exact if_neg (fun h => Nat.lt_irrefl _ h.2), h⟩
theorem textB_size (s : ByteArray) : (textB s).size = s.size + 2 := by unfold textB; rw [ByteArray.size_append, leB_size]; omega
theorem tssB_size : ∀ l : List Ts, (tssB l).size = 21 * l.length
  | [] => rfl
  | t :: l => by
    have e : tssB (t :: l) = tsB t ++ tssB l := rfl
    rw [e, ByteArray.size_append, tssB_size l, List.length_cons]
    unfold tsB
    simp only [ByteArray.size_append, leB_size]
    omega
theorem dpsB_size : ∀ l : List (Nat × Nat), (dpsB l).size = 12 * l.length
  | [] => rfl
  | t :: l => by
    have e : dpsB (t :: l) = dpB t ++ dpsB l := rfl
    rw [e, ByteArray.size_append, dpsB_size l, List.length_cons]
    unfold dpB
    simp only [ByteArray.size_append, leB_size]
    omega
theorem Rc.ok.size (h : r.ok) : 13 ≤ r.enc.size ∧ r.enc.size ≤ 5700 := by
  have h1 : r.nxtB.size ≤ 8 := by unfold Rc.nxtB; split; · rw [leB_size]; exact Nat.le_refl _
                                  · exact Nat.zero_le _
  have h2 : r.chgsB.size ≤ 1200 := by
    unfold Rc.chgsB
    split
    · rename_i hc
      obtain ⟨o1, o2, o3, o4⟩ := (h.a3.1 hc).2.small
      unfold Rc.chgB
      simp only [ByteArray.size_append, leB_size, textB_size]
      by_cases hu : r.undo = 2
      · obtain ⟨_, _, h3, _⟩ := h.a4.1 hu
        rw [if_pos hu]
        unfold Rc.keyB
        simp only [ByteArray.size_append, leB_size, textB_size]
        omega
      · rw [if_neg hu]
        show 4 + (1 + (2 + (r.op.s.size + 2 + (r.op.old.size + 2 + (1 + 0))))) ≤ 1200
        omega
    · exact Nat.zero_le _
  have h3 : r.tabsB.size ≤ 4420 := by
    obtain ⟨a1, a2, a3⟩ := h.a6
    unfold Rc.tabsB
    split
    · unfold Rc.tabB
      simp only [ByteArray.size_append, leB_size, tssB_size, dpsB_size]
      omega
    · exact Nat.zero_le _
  unfold Rc.enc
  simp only [ByteArray.size_append, leB_size]
  omega
end
/-- what is read is a record that may be, and mild -/
theorem recE_ok {s : ByteArray} {x : Rc} {c : Int} (h : recE s = (x, c)) : (c = 0 ∧ x.ok) ∨ (c = 40 ∧ x = Rc.none) := by
  unfold recE at h
  split at h
  · rename_i hc
    cases h
    exact .inl ⟨rfl, hc.2⟩
  · cases h
    exact .inr ⟨rfl, rfl⟩
end Go.Proofs.YtpnndlahfllbhaaGreat
