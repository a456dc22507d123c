/-
  What a log says: the plain law.
-/
import Derived.Test.YtpnndlahfllbhaaGreatUN0
import Derived.Test.YtpnndlahfllbhaaGreatUM2
namespace Go.Proofs.YtpnndlahfllbhaaGreat
open Go.RowKit

/-- what is found while the log is gone through -/
structure An where
  txs : List (Nat × Ts)
  dirty : List (Nat × Nat)
  most : Nat
  recs : Nat
def An.zero : An := ⟨[], [], 0, 0⟩
def Rc.stepT (r : Rc) (at_ : Nat) (t : Ts) : Ts :=
  if r.kind = 1 then ⟨t.tx, t.state, at_, at_⟩ else if r.kind = 2 ∨ r.kind = 3 then ⟨t.tx, t.state, at_, r.next⟩ else
  if r.kind = 4 then ⟨t.tx, 2, at_, t.next⟩ else if r.kind = 5 then ⟨t.tx, 3, at_, t.next⟩ else ⟨t.tx, t.state, at_, t.next⟩
/-- what a record says of its transaction -/
def Rc.txE (r : Rc) (at_ : Nat) (l : List (Nat × Ts)) : List (Nat × Ts) :=
  if r.kind = 6 then delL r.tx.toNat l else putL r.tx.toNat (r.stepT at_ ((getL r.tx.toNat l).getD ⟨r.tx, 1, 0, 0⟩)) l
def freshE (d : Nat × Nat) (l : List (Nat × Nat)) : List (Nat × Nat) := if (getL d.1 l).isSome then l else putL d.1 d.2 l
def dirtyE (d : Nat × Nat) (l : List (Nat × Nat)) : List (Nat × Nat) := match getL d.1 l with
  | none => putL d.1 d.2 l
  | some o => if d.2 < o then putL d.1 d.2 l else l
def An.take (a : An) (t : Ts) : An := { a with most := max a.most t.tx.toNat, txs := if (getL t.tx.toNat a.txs).isSome then a.txs else putL t.tx.toNat t a.txs }
def An.page (a : An) (d : Nat × Nat) : An := { a with dirty := dirtyE d a.dirty }
def An.check (a : An) (r : Rc) : An := r.dirty.foldl An.page (r.txs.foldl An.take a)
def An.most_ (a : An) (r : Rc) : An := { a with most := max a.most r.tx.toNat }
def An.tx_ (a : An) (at_ : Nat) (r : Rc) : An := if r.kind < 7 then { a with txs := r.txE at_ a.txs } else a
def An.rest (a : An) (at_ : Nat) (r : Rc) : An := if r.chg then { a with dirty := freshE (r.page, at_) a.dirty } else if r.tab then a.check r else a
def An.step (a : An) (at_ : Nat) (r : Rc) : An := ((a.most_ r).tx_ at_ r).rest at_ r
def An.next (a : An) : An := { a with recs := a.recs + 1 }
def redoOf (end_ : Nat) : List (Nat × Nat) → Nat
  | [] => end_
  | d :: l => l.foldl (fun m x => min m x.2) d.2

/-- all of it goes well together -/
structure An.ok (a : An) : Prop where
  rt : RisingL a.txs
  rd : RisingL a.dirty
  tx : ∀ p ∈ a.txs, p.2.tx = (p.1 : Int) ∧ p.1 ≤ a.most ∧ p.2.last < 18446744073709551616 ∧ p.2.next < 18446744073709551616
  dp : ∀ p ∈ a.dirty, p.1 < 4294967296 ∧ p.2 < 18446744073709551616
  most : a.most < 2147483648
theorem An.ok.zero : An.zero.ok := ⟨List.Pairwise.nil, List.Pairwise.nil, fun _ h => by simp [An.zero] at h, fun _ h => by simp [An.zero] at h, by decide⟩
theorem mem_delL {α : Type} {n : Nat} {p : Nat × α} {l : List (Nat × α)} (h : p ∈ delL n l) : p ∈ l := (List.mem_filter.1 h).1
section
variable {a : An} {r : Rc}
theorem An.ok.most_ (h : a.ok) (hr : r.ok) : (a.most_ r).ok := by
  obtain ⟨_, _, h3, h4⟩ := hr.a1
  have := h.most
  refine ⟨h.rt, h.rd, fun p hp => ?_, h.dp, ?_⟩
  · obtain ⟨q1, q2, q3⟩ := h.tx p hp
    exact ⟨q1, Nat.le_trans q2 (Nat.le_max_left _ _), q3⟩
  · show max a.most r.tx.toNat < _
    omega
theorem Rc.stepT_tx (r : Rc) (n : Nat) (t : Ts) : (r.stepT n t).tx = t.tx := by
  unfold Rc.stepT
  repeat' split
  all_goals rfl
theorem Rc.stepT_last (r : Rc) (n : Nat) (t : Ts) : (r.stepT n t).last = n := by
  unfold Rc.stepT
  repeat' split
  all_goals rfl
theorem Rc.stepT_next (r : Rc) (n : Nat) (t : Ts) : (r.stepT n t).next = n ∨ (r.stepT n t).next = r.next ∨ (r.stepT n t).next = t.next := by
  unfold Rc.stepT
  repeat' split
  all_goals simp
theorem An.ok.old (h : a.ok) (hr : r.ok) : ((getL r.tx.toNat a.txs).getD ⟨r.tx, 1, 0, 0⟩).tx = r.tx ∧ ((getL r.tx.toNat a.txs).getD ⟨r.tx, 1, 0, 0⟩).next < 18446744073709551616 := by
  obtain ⟨_, _, h3, h4⟩ := hr.a1
  cases e : getL r.tx.toNat a.txs with
  | none => exact ⟨rfl, by show 0 < 18446744073709551616; decide⟩
  | some t =>
    obtain ⟨q1, _, q2, q3⟩ := h.tx _ (getL_some_mem e)
    exact ⟨by show t.tx = r.tx; simp only at q1; omega, q3⟩
theorem An.ok.tx_ (h : a.ok) (hr : r.ok) (hm : r.mild) {n : Nat} (hn : n < 18446744073709551616) (hmo : r.tx.toNat ≤ a.most) : (a.tx_ n r).ok := by
  obtain ⟨_, _, h3, h4⟩ := hr.a1
  have hnx := hm.next
  unfold An.tx_
  split
  · refine ⟨?_, h.rd, fun p hp => ?_, h.dp, h.most⟩
    · show RisingL (r.txE n a.txs)
      unfold Rc.txE
      split
      · exact h.rt.del
      · exact h.rt.put
    · replace hp : p ∈ r.txE n a.txs := hp
      unfold Rc.txE at hp
      split at hp
      · exact h.tx p (mem_delL hp)
      · rcases mem_putL hp with rfl | hp
        · obtain ⟨o1, o2⟩ := h.old hr
          refine ⟨by rw [Rc.stepT_tx, o1]; show r.tx = ((r.tx.toNat : Nat) : Int); omega, hmo, by rw [Rc.stepT_last]; exact hn, ?_⟩
          rcases r.stepT_next n ((getL r.tx.toNat a.txs).getD ⟨r.tx, 1, 0, 0⟩) with e | e | e <;> rw [e]
          · exact hn
          · exact hnx
          · exact o2
        · exact h.tx p hp
  · exact h
theorem RisingL.fresh {d : Nat × Nat} {l : List (Nat × Nat)} (h : RisingL l) : RisingL (freshE d l) := by
  unfold freshE
  split
  · exact h
  · exact h.put
theorem RisingL.dirty {d : Nat × Nat} {l : List (Nat × Nat)} (h : RisingL l) : RisingL (dirtyE d l) := by
  unfold dirtyE
  split
  · exact h.put
  · split
    · exact h.put
    · exact h
theorem mem_freshE {d p : Nat × Nat} {l : List (Nat × Nat)} (h : p ∈ freshE d l) : p = d ∨ p ∈ l := by
  unfold freshE at h
  split at h
  · exact .inr h
  · exact mem_putL h
theorem mem_dirtyE {d p : Nat × Nat} {l : List (Nat × Nat)} (h : p ∈ dirtyE d l) : p = d ∨ p ∈ l := by
  unfold dirtyE at h
  split at h
  · exact mem_putL h
  · split at h
    · exact mem_putL h
    · exact .inr h
theorem An.ok.take (h : a.ok) {t : Ts} (ht : t.ok) (h1 : t.last < 18446744073709551616) (h2 : t.next < 18446744073709551616) : (a.take t).ok := by
  obtain ⟨t0, t1, _, _⟩ := ht
  have := h.most
  refine ⟨?_, h.rd, fun p hp => ?_, h.dp, ?_⟩
  · unfold An.take
    simp only
    split
    · exact h.rt
    · exact h.rt.put
  · have hp' : p ∈ a.txs ∨ p = (t.tx.toNat, t) := by
      unfold An.take at hp
      simp only at hp
      split at hp
      · exact .inl hp
      · exact (mem_putL hp).symm
    rcases hp' with hp | rfl
    · obtain ⟨q1, q2, q3⟩ := h.tx p hp
      exact ⟨q1, Nat.le_trans q2 (Nat.le_max_left _ _), q3⟩
    · exact ⟨by show t.tx = ((t.tx.toNat : Nat) : Int); omega, Nat.le_max_right _ _, h1, h2⟩
  · show max a.most t.tx.toNat < _
    omega
theorem An.ok.page (h : a.ok) {d : Nat × Nat} (h1 : d.1 < 4294967296) (h2 : d.2 < 18446744073709551616) : (a.page d).ok := by
  refine ⟨h.rt, h.rd.dirty, h.tx, fun p hp => ?_, h.most⟩
  rcases mem_dirtyE hp with rfl | hp
  · exact ⟨h1, h2⟩
  · exact h.dp p hp
theorem An.ok.takes : ∀ (l : List Ts) {a : An}, a.ok → (∀ t ∈ l, t.ok ∧ t.last < 18446744073709551616 ∧ t.next < 18446744073709551616) → (l.foldl An.take a).ok
  | [], _, h, _ => h
  | t :: l, _, h, hl => An.ok.takes l (h.take (hl t (List.mem_cons_self ..)).1 (hl t (List.mem_cons_self ..)).2.1 (hl t (List.mem_cons_self ..)).2.2) (fun x hx => hl x (List.mem_cons_of_mem _ hx))
theorem An.ok.pages : ∀ (l : List (Nat × Nat)) {a : An}, a.ok → (∀ d ∈ l, d.1 < 4294967296 ∧ d.2 < 18446744073709551616) → (l.foldl An.page a).ok
  | [], _, h, _ => h
  | t :: l, _, h, hl => An.ok.pages l (h.page (hl t (List.mem_cons_self ..)).1 (hl t (List.mem_cons_self ..)).2) (fun x hx => hl x (List.mem_cons_of_mem _ hx))
theorem An.ok.check (h : a.ok) (hr : r.ok) (hm : r.mild) : (a.check r).ok :=
  An.ok.pages r.dirty (An.ok.takes r.txs h (fun t ht => ⟨hr.a7 t ht, (hm.txs t ht).2.2⟩)) hm.dirty
theorem An.ok.rest (h : a.ok) (hr : r.ok) (hm : r.mild) {n : Nat} (hn : n < 18446744073709551616) : (a.rest n r).ok := by
  unfold An.rest
  split
  · refine ⟨h.rt, h.rd.fresh, h.tx, fun p hp => ?_, h.most⟩
    rcases mem_freshE hp with rfl | hp
    · exact ⟨hm.page, hn⟩
    · exact h.dp p hp
  · split
    · exact h.check hr hm
    · exact h
theorem An.ok.step (h : a.ok) (hr : r.ok) (hm : r.mild) {n : Nat} (hn : n < 18446744073709551616) : (a.step n r).ok :=
  ((h.most_ hr).tx_ hr hm hn (Nat.le_max_right _ _)).rest hr hm hn
theorem An.ok.next (h : a.ok) : a.next.ok := ⟨h.rt, h.rd, h.tx, h.dp, h.most⟩
end

/-! the document's lists -/
def putT (t : Ts) : List Ts → Bool → List Ts
  | [], d => if d then [] else [t]
  | x :: l, d => if x.tx = t.tx then putT t l d else if d = false ∧ t.tx < x.tx then t :: x :: putT t l true else x :: putT t l d
def dirT (y : Nat × Nat) : List (Nat × Nat) → Bool → List (Nat × Nat)
  | [], d => if d then [] else [y]
  | x :: l, d => if x.1 = y.1 then (if y.2 < x.2 then y else x) :: dirT y l true else if d = false ∧ y.1 < x.1 then y :: x :: dirT y l true else x :: dirT y l d
def sndL {α : Type} (l : List (Nat × α)) : List α := l.map (·.2)
theorem putT_true (t : Ts) : ∀ l : List Ts, (∀ x ∈ l, x.tx ≠ t.tx) → putT t l true = l
  | [], _ => rfl
  | x :: l, h => by
    unfold putT
    rw [if_neg (h x (List.mem_cons_self ..)), if_neg (fun hh => by cases hh.1), putT_true t l (fun y hy => h y (List.mem_cons_of_mem _ hy))]
theorem dirT_true (y : Nat × Nat) : ∀ l : List (Nat × Nat), (∀ x ∈ l, x.1 ≠ y.1) → dirT y l true = l
  | [], _ => rfl
  | x :: l, h => by
    unfold dirT
    rw [if_neg (h x (List.mem_cons_self ..)), if_neg (fun hh => by cases hh.1), dirT_true y l (fun z hz => h z (List.mem_cons_of_mem _ hz))]
theorem putT_put (t : Ts) (n : Nat) (hn : t.tx = (n : Int)) : ∀ {l : List (Nat × Ts)}, RisingL l → (∀ p ∈ l, p.2.tx = (p.1 : Int)) → putT t (sndL l) false = sndL (putL n t l)
  | [], _, _ => rfl
  | (k, x) :: l, hr, hx => by
    obtain ⟨h1, h2⟩ := List.pairwise_cons.1 hr
    have hk := hx (k, x) (List.mem_cons_self ..)
    simp only at hk
    have hl := fun p hp => hx p (List.mem_cons_of_mem _ hp)
    have hgt : ∀ y ∈ sndL l, (k : Int) < y.tx := fun y hy => by
      obtain ⟨p, hp, rfl⟩ := List.mem_map.1 hy
      have := h1 p hp
      simp only at this
      rw [hl p hp]; omega
    have e : sndL ((k, x) :: l) = x :: sndL l := rfl
    rw [e]
    unfold putT putL
    by_cases e1 : n < k
    · rw [if_neg (by omega), if_pos ⟨rfl, by omega⟩, if_pos e1, putT_true t _ (fun y hy => by have := hgt y hy; omega)]
      rfl
    · rw [if_neg e1]
      by_cases e2 : n = k
      · rw [if_pos (by omega), if_pos e2]
        cases l with
        | nil => rfl
        | cons q l =>
          have hq := hgt q.2 (List.mem_cons_self ..)
          have e : sndL (q :: l) = q.2 :: sndL l := rfl
          rw [e] at hgt ⊢
          unfold putT
          rw [if_neg (by omega), if_pos ⟨rfl, by omega⟩, putT_true t _ (fun y hy => by have := hgt y (List.mem_cons_of_mem _ hy); omega)]
          rfl
      · rw [if_neg (by omega), if_neg (fun hh => by omega), if_neg e2, putT_put t n hn h2 hl]
        rfl
theorem dirT_dirty (y : Nat × Nat) : ∀ {l : List (Nat × Nat)}, RisingL l → dirT y l false = dirtyE y l
  | [], _ => rfl
  | (k, x) :: l, hr => by
    obtain ⟨h1, h2⟩ := List.pairwise_cons.1 hr
    have ih := dirT_dirty y h2
    unfold dirT
    unfold dirtyE at ih ⊢
    rw [getL]
    by_cases e1 : k = y.1
    · rw [if_pos e1, if_pos e1, dirT_true y l (fun z hz => by have := h1 z hz; simp only at this; omega)]
      simp only
      unfold putL
      split
      · rw [if_neg (by omega), if_pos e1.symm]
      · rfl
    · rw [if_neg e1, if_neg e1]
      by_cases e2 : y.1 < k
      · rw [if_pos ⟨rfl, e2⟩, dirT_true y l (fun z hz => by have := h1 z hz; simp only at this; omega)]
        have hn : getL y.1 l = none := getL_none.2 (fun z hz => by have := h1 z hz; simp only at this; omega)
        rw [hn]
        simp only
        unfold putL
        rw [if_pos e2]
      · rw [if_neg (fun hh => e2 hh.2), ih]
        cases getL y.1 l with
        | none => simp only; rw [putL, if_neg e2, if_neg (fun hh => e1 hh.symm)]
        | some o =>
          simp only
          split
          · rw [putL, if_neg e2, if_neg (fun hh => e1 hh.symm)]
          · rfl
theorem fresh_dirty {y : Nat × Nat} {l : List (Nat × Nat)} (h : getL y.1 l = none) : dirtyE y l = freshE y l := by
  unfold dirtyE freshE
  rw [h]
  rfl
theorem sndL_del {n : Nat} {tx : Int} (hn : tx = (n : Int)) {l : List (Nat × Ts)} (h : ∀ p ∈ l, p.2.tx = (p.1 : Int)) : (sndL l).filter (fun t => !decide (t.tx = tx)) = sndL (delL n l) := by
  induction l with
  | nil => rfl
  | cons q l ih =>
    have hq := h q (List.mem_cons_self ..)
    have e : sndL (q :: l) = q.2 :: sndL l := rfl
    have ih := ih (fun p hp => h p (List.mem_cons_of_mem _ hp))
    unfold delL at ih ⊢
    rw [e]
    by_cases e1 : q.1 = n
    · rw [List.filter_cons_of_neg (by simp; omega), List.filter_cons_of_neg (by simp [e1]), ih]
    · rw [List.filter_cons_of_pos (by simp; omega), List.filter_cons_of_pos (by simp [e1]), ih]
      rfl

/-! a checkpoint of what was found says it again -/
theorem foldl_take_all : ∀ (l : List (Nat × Ts)) (a : An), RisingL (a.txs ++ l) → (∀ p ∈ l, p.2.tx = (p.1 : Int)) → (sndL l).foldl An.take a = { a with txs := a.txs ++ l, most := (sndL l).foldl (fun m t => max m t.tx.toNat) a.most }
  | [], a, _, _ => by simp [sndL]
  | (k, t) :: l, a, hr, hl => by
    have hk := hl (k, t) (List.mem_cons_self ..)
    simp only at hk
    have e0 : t.tx.toNat = k := by omega
    have hlt : ∀ p ∈ a.txs, p.1 < k := fun p hp => (List.pairwise_append.1 hr).2.2 p hp (k, t) (List.mem_cons_self ..)
    have hg : getL t.tx.toNat a.txs = none := getL_none.2 (fun p hp => by have := hlt p hp; omega)
    have hp : ∀ (m : List (Nat × Ts)), (∀ p ∈ m, p.1 < k) → putL t.tx.toNat t m = m ++ [(k, t)] := by
      intro m
      induction m with
      | nil => intro _; rw [e0]; rfl
      | cons q m ih =>
        intro h
        have hq := h q (List.mem_cons_self ..)
        obtain ⟨j, z⟩ := q
        simp only at hq
        unfold putL
        rw [if_neg (by omega), if_neg (by omega), ih (fun p hp => h p (List.mem_cons_of_mem _ hp))]
        rfl
    have e1 : a.take t = { a with txs := a.txs ++ [(k, t)], most := max a.most t.tx.toNat } := by
      unfold An.take
      rw [hg, hp a.txs hlt]
      rfl
    have e : sndL ((k, t) :: l) = t :: sndL l := rfl
    rw [e, List.foldl_cons, e1, foldl_take_all l _ (by simpa [List.append_assoc] using hr) (fun p hp => hl p (List.mem_cons_of_mem _ hp))]
    simp [List.append_assoc]
theorem foldl_page_all : ∀ (l : List (Nat × Nat)) (a : An), RisingL (a.dirty ++ l) → l.foldl An.page a = { a with dirty := a.dirty ++ l }
  | [], a, _ => by simp
  | (k, t) :: l, a, hr => by
    have hlt : ∀ p ∈ a.dirty, p.1 < k := fun p hp => (List.pairwise_append.1 hr).2.2 p hp (k, t) (List.mem_cons_self ..)
    have hg : getL k a.dirty = none := getL_none.2 (fun p hp => by have := hlt p hp; omega)
    have hp : ∀ (m : List (Nat × Nat)), (∀ p ∈ m, p.1 < k) → putL k t m = m ++ [(k, t)] := by
      intro m
      induction m with
      | nil => intro _; rfl
      | cons q m ih =>
        intro h
        have hq := h q (List.mem_cons_self ..)
        obtain ⟨j, z⟩ := q
        simp only at hq
        unfold putL
        rw [if_neg (by omega), if_neg (by omega), ih (fun p hp => h p (List.mem_cons_of_mem _ hp))]
        rfl
    have e1 : a.page (k, t) = { a with dirty := a.dirty ++ [(k, t)] } := by
      unfold An.page dirtyE
      simp only
      rw [hg, hp a.dirty hlt]
    rw [List.foldl_cons, e1, foldl_page_all l _ (by simpa [List.append_assoc] using hr)]
    simp [List.append_assoc]
end Go.Proofs.YtpnndlahfllbhaaGreat
