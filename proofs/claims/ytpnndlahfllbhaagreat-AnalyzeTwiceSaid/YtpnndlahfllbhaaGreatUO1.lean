/-
  Maps from transactions to how they stand, and from pages to places: what they hold is a rising list.
-/
import Derived.Test.YtpnndlahfllbhaaGreatUM2
namespace Go.Proofs.YtpnndlahfllbhaaGreat
open Go Go.RowKit
open Go.Maps (Keyed)

/-! the map in memory -/
def keyI (n : Nat) : Lit := .int .i64 (n : Int)
def mapT (l : List (Nat × Value)) : DataW Value := .map (l.map fun p => (keyI p.1, .held p.2))
theorem keyI_same (a b : Nat) : (keyI a).sameKey (keyI b) = (a == b) := by
  unfold keyI Lit.sameKey
  rw [Bool.eq_iff_iff]
  simp
  omega
theorem keyI_before (a b : Nat) : (keyI a).before (keyI b) = decide (a < b) := by
  unfold keyI Lit.before
  simp
theorem keyI_of {n : Nat} (h : n < 4294967296) : keyOf Tryz.prog 3 (.int .i64 (n : Int)) = some (keyI n) :=
  Maps.keyOf_int_mk Tryz.underlying3 (by simp [Lit.wf, IntKind.min, IntKind.max, IntKind.signed, IntKind.bits]; omega)
theorem keyedI : Keyed Tryz.prog 3 := Maps.int_keyed Tryz.underlying3
theorem mapT_del (n : Nat) (l : List (Nat × Value)) : (mapT l).del (keyI n) = mapT (delL n l) := by
  unfold mapT DataW.del delL
  simp only [List.filter_map, DataW.map.injEq]
  congr 1
  apply List.filter_congr
  intro p _
  simp [Function.comp, keyI_same]
theorem mapT_insert (n : Nat) (v : Value) : ∀ {l : List (Nat × Value)}, RisingL l → DataW.insert (keyI n, DataW.held v) ((delL n l).map fun p => (keyI p.1, DataW.held p.2)) = (putL n v l).map fun p => (keyI p.1, DataW.held p.2)
  | [], _ => rfl
  | (k, y) :: l, hr => by
    obtain ⟨h1, h2⟩ := List.pairwise_cons.1 hr
    unfold putL
    have hdel : n ≤ k → delL n l = l := fun hk => by
      unfold delL
      rw [List.filter_eq_self.2]
      intro p hp
      have := h1 p hp
      simp only at this
      simp; omega
    by_cases hlt : n < k
    · rw [if_pos hlt]
      have : delL n ((k, y) :: l) = (k, y) :: l := by
        have := hdel (by omega)
        unfold delL at this ⊢
        rw [List.filter_cons_of_pos (by simp; omega), this]
      rw [this]
      simp [DataW.insert, keyI_before, hlt]
    · rw [if_neg hlt]
      by_cases e : n = k
      · rw [if_pos e]
        have : delL n ((k, y) :: l) = l := by
          have := hdel (by omega)
          unfold delL at this ⊢
          rw [List.filter_cons_of_neg (by simp [e]), this]
        rw [this]
        cases l with
        | nil => rfl
        | cons z l =>
          have := h1 z (List.mem_cons_self ..)
          simp only at this
          simp [DataW.insert, keyI_before]
          intro hh; omega
      · rw [if_neg e]
        have ih := mapT_insert n v h2
        unfold delL at ih ⊢
        rw [List.filter_cons_of_pos (by simp; omega)]
        simp only [List.map_cons, DataW.insert, keyI_before]
        rw [if_neg (by simp; omega), ih]
theorem mapT_put (n : Nat) (v : Value) {l : List (Nat × Value)} (hr : RisingL l) : (mapT l).put (keyI n) (.held v) = mapT (putL n v l) := by
  have h := mapT_del n l
  unfold mapT DataW.del at h
  unfold mapT DataW.put
  simp only [DataW.map.injEq] at h ⊢
  rw [h]
  exact mapT_insert n v hr
theorem mapT_has (n : Nat) (l : List (Nat × Value)) : Maps.has (mapT l) (keyI n) = (getL n l).isSome := by
  unfold mapT Maps.has
  induction l with
  | nil => rfl
  | cons p l ih =>
    obtain ⟨k, y⟩ := p
    simp only [List.map_cons, List.any_cons, keyI_same]
    rw [getL]
    by_cases e : k = n
    · rw [if_pos e]; simp [e]
    · rw [if_neg e]
      have : (k == n) = false := by simp [e]
      rw [this, Bool.false_or]
      exact ih
theorem mapT_at (n : Nat) (z : Value) (l : List (Nat × Value)) : (mapT l).atKey (keyI n) (.held z) = .held ((getL n l).getD z) := by
  unfold mapT DataW.atKey
  induction l with
  | nil => rfl
  | cons p l ih =>
    obtain ⟨k, y⟩ := p
    simp only [List.map_cons, List.find?_cons, keyI_same]
    rw [getL]
    by_cases e : k = n
    · rw [if_pos e]; simp [e]
    · rw [if_neg e]
      have : (k == n) = false := by simp [e]
      rw [this]
      exact ih
theorem mapT_size (l : List (Nat × Value)) : Maps.size (mapT l) = l.length := by
  simp [Maps.size, mapT]
/-- block b is a map that holds the rising list l -/
structure MapT (w : World) (b : Nat) (l : List (Nat × Value)) : Prop where
  own : w.ownsMap Tryz.prog 3 anyV b l.length (mapT l)
  rising : RisingL l
  small : ∀ p ∈ l, p.1 < 4294967296
section
variable {w w' : World} {b : Nat} {l : List (Nat × Value)}
theorem MapT.lt (h : MapT w b l) : b < w.heap.size := h.own.lt
theorem MapT.same (h : MapT w b l) (e : w'.heap[b]? = w.heap[b]?) : MapT w' b l := by
  obtain ⟨⟨es, clock, hb, r⟩, h2, h3⟩ := h
  exact ⟨⟨es, clock, e.trans hb, r⟩, h2, h3⟩
theorem MapT.made (w : World) : MapT (w.alloc (.map #[] 0)) w.heap.size [] := ⟨World.ownsMap_made w _ _ _, List.Pairwise.nil, fun _ h => by simp at h⟩
theorem MapT.look (h : MapT w b l) (n : Nat) (hn : n < 4294967296) {z : Value} (hz : (zeroValue 44).run Tryz.prog w = .ok z w) :
    (Instr.lookup 175 (.map (some b)) (.int .i64 (n : Int)) true).run Tryz.prog w = .ok (.tuple #[(getL n l).getD z, .bool (getL n l).isSome]) w := by
  obtain ⟨v, ps, hrun, hv⟩ := h.own.look_ok keyedI Tryz.underlying175 hz (zd := .held z) (zp := []) rfl (keyI_of hn)
  rw [mapT_at] at hv
  unfold anyV at hv
  simp only [Option.some.injEq, Prod.mk.injEq, DataW.held.injEq] at hv
  rw [mapT_has] at hrun
  rw [hrun, hv.1]
theorem MapT.store (h : MapT w b l) (n : Nat) (hn : n < 4294967296) (v : Value) (hl : l.length < 1000000000000) :
    ∃ w', (Instr.mapUpdate 175 (.map (some b)) (.int .i64 (n : Int)) v).run Tryz.prog w = .ok () w' ∧ MapT w' b (putL n v l) ∧ w.grownBy w' (some b) := by
  obtain ⟨w', hrun, ho, ht⟩ := h.own.store keyedI Tryz.underlying175 (by unfold maxLen; omega) (keyI_of hn) (show anyV v = some (.held v, []) from rfl)
  rw [mapT_put n v h.rising] at ho
  have ho := ownsMap_fit ho
  rw [mapT_size] at ho
  refine ⟨w', hrun, ⟨ho, h.rising.put, fun p hp => ?_⟩, ht.grown⟩
  rcases mem_putL hp with rfl | hp
  · exact hn
  · exact h.small p hp
theorem MapT.drop (h : MapT w b l) (n : Nat) (hn : n < 4294967296) (ty : TypeId) :
    ∃ w', (Builtin.delete_ #[175, 3] ty #[.map (some b), .int .i64 (n : Int)]).run Tryz.prog w = .ok (.tuple #[]) w' ∧ MapT w' b (delL n l) ∧ w.grownBy w' (some b) := by
  obtain ⟨w', hrun, ho, ht⟩ := h.own.drop keyedI Tryz.underlying175 (keyI_of hn) ty
  rw [mapT_del] at ho
  have ho := ownsMap_fit ho
  rw [mapT_size] at ho
  exact ⟨w', hrun, ⟨ho, h.rising.del, fun p hp => h.small p (List.mem_filter.1 hp).1⟩, ht.grown⟩
theorem MapT.len (h : MapT w b l) (ty : TypeId) : (Builtin.len_ #[175] ty #[.map (some b)]).run Tryz.prog w = .ok (.int .i64 (l.length : Int)) w := by
  have := h.own.len Tryz.underlying175 ty
  rwa [mapT_size] at this
theorem step_storeT (w : World) {ops : Array Oper} {o : Oper} {a : Act} {K : Act → World → Prop} {Q : Exit → Act → World → Prop} {E : Prop}
    (hg : o.guard = none) (m x v : Operand) (hop : o.op = Op.mapUpdate 175 m x v) (b : Nat) (l : List (Nat × Value))
    (hm : a.eval m = .map (some b)) (hown : MapT w b l) (n : Nat) (hn : n < 4294967296) (hl : l.length < 1000000000000) (val : Value) (hx : a.eval x = .int .i64 (n : Int)) (hv : a.eval v = val)
    (hK : ∀ w', MapT w' b (putL n val l) → w.grownBy w' (some b) → K (a.put o.dst undef) w') :
    if Region.wanted o (yielded ops a.tmps) = true then Oper.wp Tryz.prog o a w K Q else E := by
  have hw : Region.wanted o (yielded ops a.tmps) = true := by simp [Region.wanted, hg]
  rw [if_pos hw]
  obtain ⟨w', hrun, r1, r2⟩ := hown.store n hn val hl
  unfold Oper.wp
  simp [execOp, hop, hm, hx, hv, hrun, Result.andThen]
  exact hK w' r1 r2
theorem step_dropT (w : World) {ops : Array Oper} {o : Oper} {a : Act} {K : Act → World → Prop} {Q : Exit → Act → World → Prop} {E : Prop}
    (hg : o.guard = none) (m x : Operand) (hop : o.op = Op.call { callee := Callee.builtin Builtin.delete, args := #[m, x], argTypes := #[175, 3] }) (b : Nat) (l : List (Nat × Value))
    (hm : a.eval m = .map (some b)) (hown : MapT w b l) (n : Nat) (hn : n < 4294967296) (hx : a.eval x = .int .i64 (n : Int))
    (hK : ∀ w', MapT w' b (delL n l) → w.grownBy w' (some b) → K (a.put o.dst (.tuple #[])) w') :
    if Region.wanted o (yielded ops a.tmps) = true then Oper.wp Tryz.prog o a w K Q else E := by
  have hw : Region.wanted o (yielded ops a.tmps) = true := by simp [Region.wanted, hg]
  rw [if_pos hw]
  obtain ⟨w', hrun, r1, r2⟩ := hown.drop n hn o.type
  unfold Oper.wp
  simp [execOp, hop, resolve, invoke, builtin, hm, hx, hrun, Result.andThen]
  exact hK w' r1 r2
theorem zero_tx (w : World) : (zeroValue 44).run Tryz.prog w = .ok (.agg #[.int .i64 0, .int .i64 0, .int .u64 0, .int .u64 0]) w := by kernel_rfl
end
section
variable {w w' : World} {b : Nat} {l : List (Nat × Value)}
theorem MapL.lookD (h : MapL w b l) (n : Nat) (hn : n < 4294967296) {z : Value} (hz : (zeroValue 31).run Tryz.prog w = .ok z w) :
    (Instr.lookup 176 (.map (some b)) (.int .u32 (n : Int)) true).run Tryz.prog w = .ok (.tuple #[(getL n l).getD z, .bool (getL n l).isSome]) w := by
  obtain ⟨v, ps, hrun, hv⟩ := h.own.look_ok keyedP Tryz.underlying176 hz (zd := .held z) (zp := []) rfl (keyD_of hn)
  rw [mapD_at] at hv
  unfold anyV at hv
  simp only [Option.some.injEq, Prod.mk.injEq, DataW.held.injEq] at hv
  rw [mapD_has] at hrun
  rw [hrun, hv.1]
theorem MapL.storeD (h : MapL w b l) (n : Nat) (hn : n < 4294967296) (v : Value) (hl : l.length < 1000000000000) :
    ∃ w', (Instr.mapUpdate 176 (.map (some b)) (.int .u32 (n : Int)) v).run Tryz.prog w = .ok () w' ∧ MapL w' b (putL n v l) ∧ w.grownBy w' (some b) := by
  obtain ⟨w', hrun, ho, ht⟩ := h.own.store keyedP Tryz.underlying176 (by unfold maxLen; omega) (keyD_of hn) (show anyV v = some (.held v, []) from rfl)
  rw [mapD_put n v h.rising] at ho
  have ho := ownsMap_fit ho
  rw [mapD_size] at ho
  refine ⟨w', hrun, ⟨ho, h.rising.put, fun p hp => ?_⟩, ht.grown⟩
  rcases mem_putL hp with rfl | hp
  · exact hn
  · exact h.small p hp
theorem MapL.lenD (h : MapL w b l) (ty : TypeId) : (Builtin.len_ #[176] ty #[.map (some b)]).run Tryz.prog w = .ok (.int .i64 (l.length : Int)) w := by
  have := h.own.len Tryz.underlying176 ty
  rwa [mapD_size] at this
theorem step_storeD (w : World) {ops : Array Oper} {o : Oper} {a : Act} {K : Act → World → Prop} {Q : Exit → Act → World → Prop} {E : Prop}
    (hg : o.guard = none) (m x v : Operand) (hop : o.op = Op.mapUpdate 176 m x v) (b : Nat) (l : List (Nat × Value))
    (hm : a.eval m = .map (some b)) (hown : MapL w b l) (n : Nat) (hn : n < 4294967296) (hl : l.length < 1000000000000) (val : Value) (hx : a.eval x = .int .u32 (n : Int)) (hv : a.eval v = val)
    (hK : ∀ w', MapL w' b (putL n val l) → w.grownBy w' (some b) → K (a.put o.dst undef) w') :
    if Region.wanted o (yielded ops a.tmps) = true then Oper.wp Tryz.prog o a w K Q else E := by
  have hw : Region.wanted o (yielded ops a.tmps) = true := by simp [Region.wanted, hg]
  rw [if_pos hw]
  obtain ⟨w', hrun, r1, r2⟩ := hown.storeD n hn val hl
  unfold Oper.wp
  simp [execOp, hop, hm, hx, hv, hrun, Result.andThen]
  exact hK w' r1 r2
theorem zero_lsn (w : World) : (zeroValue 31).run Tryz.prog w = .ok (.int .u64 0) w := by kernel_rfl
end
end Go.Proofs.YtpnndlahfllbhaaGreat
