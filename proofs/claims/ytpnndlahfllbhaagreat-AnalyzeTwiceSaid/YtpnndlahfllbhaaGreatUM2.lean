/-
  Maps from pages to frames: what they hold is a rising list.
-/
import Derived.Test.YtpnndlahfllbhaaGreatUS0
import Derived.Maps.Range
import Derived.Maps.OwnSet
namespace Go.Proofs.YtpnndlahfllbhaaGreat
open Go Go.RowKit
open Go.Maps (Keyed)

/-! rising lists -/
section
variable {α β : Type}
def getL (n : Nat) : List (Nat × α) → Option α
  | [] => none
  | (k, x) :: l => if k = n then some x else getL n l
def putL (n : Nat) (x : α) : List (Nat × α) → List (Nat × α)
  | [] => [(n, x)]
  | (k, y) :: l => if n < k then (n, x) :: (k, y) :: l else if n = k then (n, x) :: l else (k, y) :: putL n x l
def delL (n : Nat) (l : List (Nat × α)) : List (Nat × α) := l.filter fun p => !(p.1 == n)
def RisingL (l : List (Nat × α)) : Prop := l.Pairwise fun p q => p.1 < q.1
theorem getL_some_mem {n : Nat} {x : α} : ∀ {l : List (Nat × α)}, getL n l = some x → (n, x) ∈ l
  | (k, y) :: l, h => by
    unfold getL at h
    split at h
    · rename_i e; cases h; subst e; exact List.mem_cons_self ..
    · exact List.mem_cons_of_mem _ (getL_some_mem h)
theorem getL_none {n : Nat} : ∀ {l : List (Nat × α)}, getL n l = none ↔ ∀ p ∈ l, p.1 ≠ n
  | [] => by simp [getL]
  | (k, y) :: l => by
    unfold getL
    split
    · rename_i e; simp [e]
    · rename_i e; rw [getL_none]; simp [e]
theorem getL_of_mem {n : Nat} {x : α} : ∀ {l : List (Nat × α)}, RisingL l → (n, x) ∈ l → getL n l = some x
  | (k, y) :: l, hr, h => by
    obtain ⟨h1, h2⟩ := List.pairwise_cons.1 hr
    unfold getL
    rcases List.mem_cons.1 h with h | h
    · cases h; rw [if_pos rfl]
    · have := h1 _ h
      rw [if_neg (by simp only at this; omega)]
      exact getL_of_mem h2 h
theorem mem_putL {n : Nat} {x : α} {p : Nat × α} : ∀ {l : List (Nat × α)}, p ∈ putL n x l → p = (n, x) ∨ p ∈ l
  | [], h => by simp [putL] at h; exact .inl h
  | (k, y) :: l, h => by
    unfold putL at h
    split at h
    · rcases List.mem_cons.1 h with h | h; exact .inl h; exact .inr h
    · split at h
      · rcases List.mem_cons.1 h with h | h; exact .inl h; exact .inr (List.mem_cons_of_mem _ h)
      · rcases List.mem_cons.1 h with h | h
        · exact .inr (h ▸ List.mem_cons_self ..)
        · rcases mem_putL h with h | h; exact .inl h; exact .inr (List.mem_cons_of_mem _ h)
theorem RisingL.put {n : Nat} {x : α} : ∀ {l : List (Nat × α)}, RisingL l → RisingL (putL n x l)
  | [], _ => by simp [putL, RisingL]
  | (k, y) :: l, h => by
    obtain ⟨h1, h2⟩ := List.pairwise_cons.1 h
    unfold putL
    split
    · rename_i hk
      refine List.pairwise_cons.2 ⟨fun p hp => ?_, h⟩
      rcases List.mem_cons.1 hp with rfl | hp
      · exact hk
      · exact Nat.lt_trans hk (h1 p hp)
    · split
      · rename_i e
        exact List.pairwise_cons.2 ⟨fun p hp => by have := h1 p hp; simp only at this ⊢; omega, h2⟩
      · refine List.pairwise_cons.2 ⟨fun p hp => ?_, RisingL.put h2⟩
        rcases mem_putL hp with rfl | hp
        · simp only; omega
        · exact h1 p hp
theorem RisingL.del {n : Nat} {l : List (Nat × α)} (h : RisingL l) : RisingL (delL n l) := h.filter _
theorem putL_length (n : Nat) (x : α) : ∀ (l : List (Nat × α)), (putL n x l).length ≤ l.length + 1
  | [] => by simp [putL]
  | (k, y) :: l => by
    unfold putL
    split
    · simp
    · split
      · simp
      · have := putL_length n x l; simp; exact this
end

/-! the map in memory -/
def anyV (v : Value) : Option (DataW Value × List MemPlace) := some (.held v, [])
def keyD (n : Nat) : Lit := .int .u32 (n : Int)
def mapD (l : List (Nat × Value)) : DataW Value := .map (l.map fun p => (keyD p.1, .held p.2))
theorem keyD_same (a b : Nat) : (keyD a).sameKey (keyD b) = (a == b) := by
  unfold keyD Lit.sameKey
  rw [Bool.eq_iff_iff]
  simp
  omega
theorem keyD_before (a b : Nat) : (keyD a).before (keyD b) = decide (a < b) := by
  unfold keyD Lit.before
  simp
theorem keyD_of {n : Nat} (h : n < 4294967296) : keyOf Tryz.prog 48 (.int .u32 (n : Int)) = some (keyD n) :=
  Maps.keyOf_int_mk Tryz.underlying48 (by simp [Lit.wf, IntKind.min, IntKind.max, IntKind.signed, IntKind.bits]; omega)
theorem keyedP : Keyed Tryz.prog 48 := Maps.int_keyed Tryz.underlying48
theorem mapD_del (n : Nat) (l : List (Nat × Value)) : (mapD l).del (keyD n) = mapD (delL n l) := by
  unfold mapD DataW.del delL
  simp only [List.filter_map, DataW.map.injEq]
  congr 1
  apply List.filter_congr
  intro p _
  simp [Function.comp, keyD_same]
theorem mapD_insert (n : Nat) (v : Value) : ∀ {l : List (Nat × Value)}, RisingL l → DataW.insert (keyD n, DataW.held v) ((delL n l).map fun p => (keyD p.1, DataW.held p.2)) = (putL n v l).map fun p => (keyD p.1, DataW.held p.2)
  | [], _ => rfl
  | (k, y) :: l, hr => by
    obtain ⟨h1, h2⟩ := List.pairwise_cons.1 hr
    unfold putL
    have hdel : n ≤ k → delL n l = l := fun hk => by
      unfold delL
      rw [List.filter_eq_self.2]
      intro p hp
      have := h1 p hp
      simp only at this
      simp; omega
    by_cases hlt : n < k
    · rw [if_pos hlt]
      have : delL n ((k, y) :: l) = (k, y) :: l := by
        have := hdel (by omega)
        unfold delL at this ⊢
        rw [List.filter_cons_of_pos (by simp; omega), this]
      rw [this]
      simp [DataW.insert, keyD_before, hlt]
    · rw [if_neg hlt]
      by_cases e : n = k
      · rw [if_pos e]
        have : delL n ((k, y) :: l) = l := by
          have := hdel (by omega)
          unfold delL at this ⊢
          rw [List.filter_cons_of_neg (by simp [e]), this]
        rw [this]
        cases l with
        | nil => rfl
        | cons z l =>
          have := h1 z (List.mem_cons_self ..)
          simp only at this
          simp [DataW.insert, keyD_before]
          intro hh; omega
      · rw [if_neg e]
        have ih := mapD_insert n v h2
        unfold delL at ih ⊢
        rw [List.filter_cons_of_pos (by simp; omega)]
        simp only [List.map_cons, DataW.insert, keyD_before]
        rw [if_neg (by simp; omega), ih]
theorem mapD_put (n : Nat) (v : Value) {l : List (Nat × Value)} (hr : RisingL l) : (mapD l).put (keyD n) (.held v) = mapD (putL n v l) := by
  have h := mapD_del n l
  unfold mapD DataW.del at h
  unfold mapD DataW.put
  simp only [DataW.map.injEq] at h ⊢
  rw [h]
  exact mapD_insert n v hr
theorem mapD_has (n : Nat) (l : List (Nat × Value)) : Maps.has (mapD l) (keyD n) = (getL n l).isSome := by
  unfold mapD Maps.has
  induction l with
  | nil => rfl
  | cons p l ih =>
    obtain ⟨k, y⟩ := p
    simp only [List.map_cons, List.any_cons, keyD_same]
    rw [getL]
    by_cases e : k = n
    · rw [if_pos e]; simp [e]
    · rw [if_neg e]
      have : (k == n) = false := by simp [e]
      rw [this, Bool.false_or]
      exact ih
theorem mapD_at (n : Nat) (z : Value) (l : List (Nat × Value)) : (mapD l).atKey (keyD n) (.held z) = .held ((getL n l).getD z) := by
  unfold mapD DataW.atKey
  induction l with
  | nil => rfl
  | cons p l ih =>
    obtain ⟨k, y⟩ := p
    simp only [List.map_cons, List.find?_cons, keyD_same]
    rw [getL]
    by_cases e : k = n
    · rw [if_pos e]; simp [e]
    · rw [if_neg e]
      have : (k == n) = false := by simp [e]
      rw [this]
      exact ih
theorem mapD_size (l : List (Nat × Value)) : Maps.size (mapD l) = l.length := by
  simp [Maps.size, mapD]
/-- block b is a map that holds the rising list l -/
structure MapL (w : World) (b : Nat) (l : List (Nat × Value)) : Prop where
  own : w.ownsMap Tryz.prog 48 anyV b l.length (mapD l)
  rising : RisingL l
  small : ∀ p ∈ l, p.1 < 4294967296
theorem ownsMap_fit {P : Program} {k : TypeId} {R : Value → Option (DataW Value × List MemPlace)} {w : World} {b n : Nat} {D : DataW Value} (h : w.ownsMap P k R b n D) : w.ownsMap P k R b (Maps.size D) D := by
  obtain ⟨es, clock, hb, F, _, rfl⟩ := h
  exact ⟨es, clock, hb, F, by simp [Maps.size, length_sorted], rfl⟩
section
variable {w w' : World} {b : Nat} {l : List (Nat × Value)}
theorem MapL.lt (h : MapL w b l) : b < w.heap.size := h.own.lt
theorem MapL.same (h : MapL w b l) (e : w'.heap[b]? = w.heap[b]?) : MapL w' b l := by
  obtain ⟨⟨es, clock, hb, r⟩, h2, h3⟩ := h
  exact ⟨⟨es, clock, e.trans hb, r⟩, h2, h3⟩
theorem MapL.made (w : World) : MapL (w.alloc (.map #[] 0)) w.heap.size [] := ⟨World.ownsMap_made w _ _ _, List.Pairwise.nil, fun _ h => by simp at h⟩
theorem MapL.look (h : MapL w b l) (n : Nat) (hn : n < 4294967296) {z : Value} (hz : (zeroValue 214).run Tryz.prog w = .ok z w) :
    (Instr.lookup 209 (.map (some b)) (.int .u32 (n : Int)) true).run Tryz.prog w = .ok (.tuple #[(getL n l).getD z, .bool (getL n l).isSome]) w := by
  obtain ⟨v, ps, hrun, hv⟩ := h.own.look_ok keyedP Tryz.underlying209 hz (zd := .held z) (zp := []) rfl (keyD_of hn)
  rw [mapD_at] at hv
  unfold anyV at hv
  simp only [Option.some.injEq, Prod.mk.injEq, DataW.held.injEq] at hv
  rw [mapD_has] at hrun
  rw [hrun, hv.1]
theorem MapL.store (h : MapL w b l) (n : Nat) (hn : n < 4294967296) (v : Value) (hl : l.length < 1000000000000) :
    ∃ w', (Instr.mapUpdate 209 (.map (some b)) (.int .u32 (n : Int)) v).run Tryz.prog w = .ok () w' ∧ MapL w' b (putL n v l) ∧ w.grownBy w' (some b) := by
  obtain ⟨w', hrun, ho, ht⟩ := h.own.store keyedP Tryz.underlying209 (by unfold maxLen; omega) (keyD_of hn) (show anyV v = some (.held v, []) from rfl)
  rw [mapD_put n v h.rising] at ho
  have ho := ownsMap_fit ho
  rw [mapD_size] at ho
  refine ⟨w', hrun, ⟨ho, h.rising.put, fun p hp => ?_⟩, ht.grown⟩
  rcases mem_putL hp with rfl | hp
  · exact hn
  · exact h.small p hp
theorem MapL.drop (h : MapL w b l) (n : Nat) (hn : n < 4294967296) (ty : TypeId) :
    ∃ w', (Builtin.delete_ #[209, 48] ty #[.map (some b), .int .u32 (n : Int)]).run Tryz.prog w = .ok (.tuple #[]) w' ∧ MapL w' b (delL n l) ∧ w.grownBy w' (some b) := by
  obtain ⟨w', hrun, ho, ht⟩ := h.own.drop keyedP Tryz.underlying209 (keyD_of hn) ty
  rw [mapD_del] at ho
  have ho := ownsMap_fit ho
  rw [mapD_size] at ho
  exact ⟨w', hrun, ⟨ho, h.rising.del, fun p hp => h.small p (List.mem_filter.1 hp).1⟩, ht.grown⟩
theorem MapL.len (h : MapL w b l) (ty : TypeId) : (Builtin.len_ #[209] ty #[.map (some b)]).run Tryz.prog w = .ok (.int .i64 (l.length : Int)) w := by
  have := h.own.len Tryz.underlying209 ty
  rwa [mapD_size] at this
end
end Go.Proofs.YtpnndlahfllbhaaGreat
