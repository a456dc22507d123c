/-
  Memory: blocks known whole, steps that leave all but a set of blocks alone, maps keyed by integers.
-/
import Derived.Below
import Derived.WalkKit
import Derived.Deep.Draws
import Derived.Lib.Hide
namespace Go.Proofs.Ytnobiekgifjaeaa
open Go.RowKit

/-- a block that is known whole -/
def Blk (w : World) (g : Nat) (t : TypeId) (cs : Array Value) : Prop := w.heap[g]? = some (.cells cs t (0, 0))

section
variable {w w' : World} {g : Nat} {t : TypeId} {cs : Array Value}
theorem Blk.lt (h : Blk w g t cs) : g < w.heap.size := by
  rcases Nat.lt_or_ge g w.heap.size with hlt | hge
  · exact hlt
  · unfold Blk at h; rw [Array.getElem?_eq_none hge] at h; cases h
theorem Blk.cell (h : Blk w g t cs) (i : Nat) : w.cell? ⟨g, i, none⟩ = cs[i]? := cell_of_row w g i cs t (0, 0) h
theorem Blk.frozen (h : Blk w g t cs) (i : Nat) : w.frozen? ⟨g, i, none⟩ = false := by
  unfold Blk at h
  simp [World.frozen?, h]
theorem Blk.new (w : World) (t : TypeId) (cs : Array Value) : Blk (w.alloc (.cells cs t)) w.heap.size t cs := heap_alloc_new w _
theorem Blk.same (h : Blk w g t cs) (e : w'.heap[g]? = w.heap[g]?) : Blk w' g t cs := e.trans h
theorem Blk.drewN (h : Blk w g t cs) (n : Nat) : Blk (w.drewN n) g t cs := h
theorem Blk.alloc (h : Blk w g t cs) (o : Obj) : Blk (w.alloc o) g t cs := (Below.heap_alloc w o g h.lt).trans h
theorem Blk.set_ (h : Blk w g t cs) (i : Nat) (u : Value) : Blk (w.setCell ⟨g, i, none⟩ u) g t (cs.setIfInBounds i u) := by
  unfold Blk at h ⊢
  simp [World.setCell, Array.getElem?_modify, h]
theorem Blk.far (h : Blk w g t cs) {p : Addr} (hp : g ≠ p.block) (u : Value) : Blk (w.setCell p u) g t cs := (Below.heap_setCell w p u g hp).trans h
theorem Blk.ne_ {g' : Nat} {t' : TypeId} {cs' : Array Value} (h : Blk w g t cs) (h' : Blk w g' t' cs') (hne : t ≠ t') : g ≠ g' := by
  rintro rfl
  unfold Blk at h h'
  rw [h] at h'
  injection h' with h'
  injection h' with _ ht
  exact hne ht
theorem own_blk_ne {base : Nat} {e : TypeId} {size n : Nat} {v : Value} {xs : List Value} (h : w.ownsRow base e size v n xs) (hg : Blk w g t cs) (hne : e ≠ t) : v.ownBlock ≠ some g := by
  rcases h.2 with ⟨rfl, _⟩ | ⟨g', cap, cur, rfl, _, hh, _⟩
  · simp [Value.ownBlock]
  · intro he
    have : g' = g := by simpa [Value.ownBlock] using he
    subst this
    exact Blk.ne_ (t := e) hh hg hne rfl
theorem own_own_ne {base base' : Nat} {e e' : TypeId} {size n size' n' : Nat} {v v' : Value} {xs xs' : List Value} (h : w.ownsRow base e size v n xs) (h' : w.ownsRow base' e' size' v' n' xs') (hne : e ≠ e') {k : Nat} (hk : v.ownBlock = some k) : v'.ownBlock ≠ some k := by
  rcases h.2 with ⟨rfl, _⟩ | ⟨g', cap, cur, rfl, _, hh, _⟩
  · simp [Value.ownBlock] at hk
  · have : g' = k := by simpa [Value.ownBlock] using hk
    subst this
    exact own_blk_ne h' (t := e) hh (fun q => hne q.symm)
theorem own_same {base : Nat} {e : TypeId} {size n : Nat} {v : Value} {xs : List Value} (h : w.ownsRow base e size v n xs) (hk : ∀ k, v.ownBlock = some k → w'.heap[k]? = w.heap[k]?) : w'.ownsRow base e size v n xs := by
  refine ⟨h.1, ?_⟩
  rcases h.2 with h2 | ⟨g, cap, cur, rfl, hg, hh, r⟩
  · exact .inl h2
  · exact .inr ⟨g, cap, cur, rfl, hg, (hk g rfl).trans hh, r⟩
end

/-- w' is w, but for the blocks of F and new ones -/
structure Step (F : Nat → Prop) (w w' : World) : Prop where
  os : w'.os = w.os
  tape : w'.tape = w.tape
  output : w'.output = w.output
  size : w.heap.size ≤ w'.heap.size
  block : ∀ r, r < w.heap.size → ¬ F r → w'.heap[r]? = w.heap[r]?

/-- what F' has beside F is new -/
def More (F F' : Nat → Prop) (w : World) : Prop := ∀ r, F' r → F r ∨ w.heap.size ≤ r

theorem More.refl (F : Nat → Prop) (w : World) : More F F w := fun _ h => .inl h
theorem Step.refl (F : Nat → Prop) (w : World) : Step F w w := ⟨rfl, rfl, rfl, Nat.le_refl _, fun _ _ _ => rfl⟩
theorem Step.trans {F F' : Nat → Prop} {a b c : World} (h : Step F a b) (hm : More F F' a) (k : Step F' b c) : Step F a c :=
  ⟨k.os.trans h.os, k.tape.trans h.tape, k.output.trans h.output, Nat.le_trans h.size k.size, fun r hr hn =>
    (k.block r (Nat.lt_of_lt_of_le hr h.size) (fun hf => by rcases hm r hf with h1 | h1; exact hn h1; omega)).trans (h.block r hr hn)⟩
theorem More.trans {F F' F'' : Nat → Prop} {a b : World} (h : More F F' a) (hs : a.heap.size ≤ b.heap.size) (k : More F' F'' b) : More F F'' a :=
  fun r hr => by rcases k r hr with h1 | h1; exact h r h1; right; omega
theorem Step.below {F : Nat → Prop} {w w' : World} (h : Below w.heap.size w w') : Step F w w' := ⟨h.os, h.tape, h.output, h.size, fun r hr _ => h.block r hr⟩
theorem Step.drewN {F : Nat → Prop} {a w : World} (h : Step F a w) (n : Nat) : Step F a (w.drewN n) := ⟨h.os, h.tape, h.output, h.size, h.block⟩
theorem Step.alloc {F : Nat → Prop} {a w : World} (h : Step F a w) (o : Obj) : Step F a (w.alloc o) :=
  ⟨h.os, h.tape, h.output, Nat.le_trans h.size (by simp), fun r hr hn => (Below.heap_alloc w o r (Nat.lt_of_lt_of_le hr h.size)).trans (h.block r hr hn)⟩
theorem Step.setCell {F : Nat → Prop} {a w : World} (h : Step F a w) {p : Addr} (hp : F p.block ∨ a.heap.size ≤ p.block) (u : Value) : Step F a (w.setCell p u) :=
  ⟨h.os, h.tape, h.output, by simpa [World.setCell] using h.size, fun r hr hn => (Below.heap_setCell w p u r (by
    rintro rfl
    rcases hp with hp | hp
    · exact hn hp
    · omega)).trans (h.block r hr hn)⟩
theorem Step.grown {F : Nat → Prop} {a w w' : World} {row : Option Nat} (h : Step F a w) (hg : w.grownBy w' row) (hr : ∀ k, row = some k → F k ∨ a.heap.size ≤ k) : Step F a w' :=
  ⟨hg.os.trans h.os, hg.tape.trans h.tape, hg.output.trans h.output, Nat.le_trans h.size hg.size, fun r hlt hn =>
    (hg.block r (Nat.lt_of_lt_of_le hlt h.size) (fun e => by rcases hr r e.symm with h1 | h1; exact hn h1; omega)).trans (h.block r hlt hn)⟩
theorem Step.belowB {F : Nat → Prop} {w w' : World} {B : Nat} (h : Step F w w') (hF : ∀ r, F r → B ≤ r) (hB : B ≤ w.heap.size) : Below B w w' :=
  ⟨h.os, h.tape, h.output, h.size, fun k hk => h.block k (Nat.lt_of_lt_of_le hk hB) (fun hf => by have := hF k hf; omega)⟩
theorem Step.cell {F : Nat → Prop} {w w' : World} (h : Step F w w') {p : Addr} {v : Value} (hc : w.cell? p = some v) (hn : ¬ F p.block) : w'.cell? p = some v :=
  (World.cell?_of_block (h.block p.block (World.block_lt_of_cell? w p hc) hn)).trans hc

/-! maps keyed by integers of one kind -/
def lookE (q : IntKind) (k : Int) : List MapEntry → Option Value
  | [] => none
  | e :: l => match e.key with
    | .int _ a => if k = a then some e.val else lookE q k l
    | _ => none

/-- block b is a map that holds f -/
def MapI (q : IntKind) (w : World) (b : Nat) (f : Int → Option Value) : Prop :=
  ∃ es clock, w.heap[b]? = some (.map es clock) ∧ (∀ e ∈ es.toList, ∃ a, e.key = .int q a) ∧ ∀ k, lookE q k es.toList = f k

section
variable {P : Program} {w : World} {q : IntKind} {b : Nat} {f : Int → Option Value}

theorem MapI.lt (h : MapI q w b f) : b < w.heap.size := by
  obtain ⟨es, clock, hb, _⟩ := h
  exact (Array.getElem?_eq_some_iff.1 hb).1
theorem MapI.same {w' : World} (h : MapI q w b f) (e : w'.heap[b]? = w.heap[b]?) : MapI q w' b f := by
  obtain ⟨es, clock, hb, r⟩ := h
  exact ⟨es, clock, e.trans hb, r⟩
theorem MapI.made (w : World) : MapI q (w.alloc (.map #[] 0)) w.heap.size (fun _ => none) :=
  ⟨#[], 0, heap_alloc_new w _, by simp, fun _ => rfl⟩

theorem findNow_int (k : Int) : ∀ (l : List MapEntry) (i : Nat), (∀ e ∈ l, ∃ a, e.key = .int q a) →
    (lookE q k l = none ∧ Instr.findNow (.int q) (.int q k) l i = some none) ∨
    ∃ j e, l[j]? = some e ∧ e.key = .int q k ∧ lookE q k l = some e.val ∧ Instr.findNow (.int q) (.int q k) l i = some (some (i + j, e.val)) ∧ ∀ j', j' < j → ∀ e', l[j']? = some e' → e'.key ≠ .int q k
  | [], i, _ => .inl ⟨rfl, rfl⟩
  | e :: l, i, h => by
    obtain ⟨a, ha⟩ := h e (by simp)
    by_cases hk : k = a
    · subst hk
      refine .inr ⟨0, e, rfl, ha, by simp [lookE, ha], ?_, by omega⟩
      simp [Instr.findNow, Instr.sameNow, ha]
    · have hb : (k == a) = false := by simpa using hk
      rcases findNow_int k l (i + 1) (fun x hx => h x (by simp [hx])) with ⟨h1, h2⟩ | ⟨j, x, h1, h2, h3, h4, h5⟩
      · exact .inl ⟨by simp [lookE, ha, hk, h1], by simp [Instr.findNow, Instr.sameNow, ha, hb, h2]⟩
      · refine .inr ⟨j + 1, x, by simpa using h1, h2, by simp [lookE, ha, hk, h3], by simp [Instr.findNow, Instr.sameNow, ha, hb, h4]; omega, ?_⟩
        intro j' hj' e' he'
        cases j' with
        | zero =>
          simp at he'
          subst he'
          rw [ha]
          intro e; injection e with _ e; exact hk e.symm
        | succ j' => exact h5 j' (by omega) e' (by simpa using he')

theorem run_checkKey_int {kt : TypeId} (hk : P.underlying kt = some (.int q)) (em : Bool) (v : Value) : (Instr.checkKey em 10000 kt v).run P w = .ok () w := by
  unfold Instr.checkKey
  simp [run_underlying hk]

theorem MapI.look (h : MapI q w b f) {t kt e : TypeId} (ht : P.underlying t = some (.map kt e)) (hk : P.underlying kt = some (.int q)) (k : Int) {z : Value} (hz : (zeroValue e).run P w = .ok z w) (ok : Bool) :
    (Instr.lookup t (.map (some b)) (.int q k) ok).run P w = .ok (if ok then .tuple #[(f k).getD z, .bool (f k).isSome] else (f k).getD z) w := by
  obtain ⟨es, clock, hb, hes, hf⟩ := h
  rw [← hf k]
  rcases findNow_int k es.toList 0 hes with ⟨h1, h2⟩ | ⟨j, x, _, _, h3, h4, _⟩
  · rw [h1]
    simp [Instr.lookup, run_underlying ht, run_underlying hk, getObj, Sem.run, hb, run_checkKey_int hk, Instr.findKey, h2, hz]
  · rw [h3]
    simp [Instr.lookup, run_underlying ht, run_underlying hk, getObj, Sem.run, hb, run_checkKey_int hk, Instr.findKey, h4]

theorem lookE_push (k a : Int) (e : MapEntry) (he : e.key = .int q a) : ∀ (l : List MapEntry), (∀ x ∈ l, ∃ a, x.key = .int q a) → lookE q k (l ++ [e]) = (lookE q k l).or (if k = a then some e.val else none)
  | [], _ => by simp [lookE, he]
  | x :: l, h => by
    obtain ⟨c, hc⟩ := h x (by simp)
    have ih := lookE_push k a e he l (fun y hy => h y (by simp [hy]))
    simp only [List.cons_append, lookE, hc]
    split
    · simp
    · exact ih

theorem lookE_modify (v : Value) (k : Int) : ∀ (l : List MapEntry) (j : Nat) (e : MapEntry) (c : Int), (∀ x ∈ l, ∃ a, x.key = .int q a) → l[j]? = some e → e.key = .int q c → (∀ j', j' < j → ∀ e', l[j']? = some e' → e'.key ≠ .int q c) →
    lookE q k (l.modify j fun e => { e with key := .int q c, val := v }) = if k = c then some v else lookE q k l
  | [], j, e, c, _, h, _, _ => by simp at h
  | x :: l, 0, e, c, hl, h, hk, _ => by
    simp at h
    subst h
    simp only [List.modify_zero_cons, lookE, hk]
    split <;> rfl
  | x :: l, j + 1, e, c, hl, h, hk, hn => by
    obtain ⟨a, ha⟩ := hl x (by simp)
    have hac : a ≠ c := fun e' => hn 0 (by omega) x (by simp) (by rw [ha, e'])
    have ih := lookE_modify v k l j e c (fun y hy => hl y (by simp [hy])) (by simpa using h) hk (fun j' hj' e' he' => hn (j' + 1) (by omega) e' (by simpa using he'))
    simp only [List.modify_succ_cons, lookE, ha]
    by_cases h1 : k = a
    · subst h1
      simp [hac]
    · simp only [h1, if_false]
      exact ih

theorem MapI.store (h : MapI q w b f) {t kt e : TypeId} (ht : P.underlying t = some (.map kt e)) (hk : P.underlying kt = some (.int q)) (k : Int) (v : Value) :
    ∃ w', (Instr.mapUpdate t (.map (some b)) (.int q k) v).run P w = .ok () w' ∧ MapI q w' b (fun x => if x = k then some v else f x) ∧ w.grownBy w' (some b) := by
  obtain ⟨es, clock, hb, hes, hf⟩ := h
  have hlt := (Array.getElem?_eq_some_iff.1 hb).1
  have hset : ∀ (es' : Array MapEntry) (c : Nat), (∀ e ∈ es'.toList, ∃ a, e.key = .int q a) → (∀ x, lookE q x es'.toList = if x = k then some v else f x) →
      MapI q { w with heap := w.heap.setIfInBounds b (.map es' c) } b (fun x => if x = k then some v else f x) ∧ w.grownBy { w with heap := w.heap.setIfInBounds b (.map es' c) } (some b) := by
    intro es' c h1 h2
    refine ⟨⟨es', c, by simp [hlt], h1, h2⟩, ⟨rfl, rfl, rfl, by simp, fun i _ hi => ?_⟩⟩
    have : i ≠ b := fun e => hi (by rw [e])
    simp [Ne.symm this]
  rcases findNow_int k es.toList 0 hes with ⟨h1, h2⟩ | ⟨j, x, hj, hx, h3, h4, h5⟩
  · refine ⟨_, ?_, hset (es.push { key := .int q k, val := v, born := clock }) (clock + 1) ?_ ?_⟩
    · simp [Instr.mapUpdate, run_underlying ht, run_underlying hk, getObj, setObj, Sem.run, hb, run_checkKey_int hk, Instr.findKey, h2]
    · intro e he
      simp at he
      rcases he with he | rfl
      · exact hes e (by simpa using he)
      · exact ⟨k, rfl⟩
    · intro y
      rw [Array.toList_push, lookE_push y k { key := .int q k, val := v, born := clock } rfl _ hes, hf y]
      by_cases hy : y = k
      · subst hy
        rw [hf y] at h1
        simp [h1]
      · simp [hy]
  · simp only [Nat.zero_add] at h4
    have hj' : es[j]? = some x := by simpa using hj
    refine ⟨_, ?_, hset (es.modify j fun e => { e with key := .int q k, val := v }) clock ?_ ?_⟩
    · simp [Instr.mapUpdate, run_underlying ht, run_underlying hk, getObj, setObj, Sem.run, hb, run_checkKey_int hk, Instr.findKey, h4, hj', hx, Instr.keyThatStays, Instr.sameBits]
    · intro e he
      simp only [Array.toList_modify] at he
      obtain ⟨n, hn⟩ := List.getElem?_of_mem he
      rw [List.getElem?_modify] at hn
      cases hc : es.toList[n]? with
      | none => simp [hc] at hn
      | some y =>
        have hy : y ∈ es.toList := List.mem_of_getElem? hc
        rw [hc] at hn
        by_cases e' : j = n
        · subst e'
          simp at hn
          subst hn
          exact ⟨k, rfl⟩
        · simp [e'] at hn
          subst hn
          exact hes _ hy
    · intro y
      rw [Array.toList_modify, lookE_modify v y es.toList j x k hes hj hx h5, hf y]
end

/-- a store into such a map, at the operation -/
theorem wpList_storeI {P : Program} (w : World) {ops : Array Oper} {rest : List Oper} {o : Oper} {a : Act} {Q : Exit → Act → World → Prop}
    (hg : o.guard = none) (m x v : Operand) (t : TypeId) (hop : o.op = Op.mapUpdate t m x v) (q : IntKind)
    (k e : TypeId) (ht : P.underlying t = some (.map k e)) (hk : P.underlying k = some (.int q)) (b : Nat) (f : Int → Option Value)
    (hm : a.eval m = .map (some b)) (hown : MapI q w b f) (key : Int) (val : Value) (hx : a.eval x = .int q key) (hv : a.eval v = val)
    (hK : ∀ w', MapI q w' b (fun y => if y = key then some val else f y) → w.grownBy w' (some b) → wpList P ops Q rest (a.put o.dst undef) w') :
    wpList P ops Q (o :: rest) a w := by
  refine wpList_plain hg fun K' hK' => ?_
  obtain ⟨w', hrun, r1, r2⟩ := hown.store (P := P) ht hk key val
  unfold Oper.wp
  simp [execOp, hop, hm, hx, hv, hrun, Result.andThen]
  exact hK' _ _ (hK w' r1 r2)

theorem step_storeI {P : Program} (w : World) {ops : Array Oper} {o : Oper} {a : Act} {K : Act → World → Prop} {Q : Exit → Act → World → Prop} {E : Prop}
    (hg : o.guard = none) (m x v : Operand) (t : TypeId) (hop : o.op = Op.mapUpdate t m x v) (q : IntKind)
    (k e : TypeId) (ht : P.underlying t = some (.map k e)) (hk : P.underlying k = some (.int q)) (b : Nat) (f : Int → Option Value)
    (hm : a.eval m = .map (some b)) (hown : MapI q w b f) (key : Int) (val : Value) (hx : a.eval x = .int q key) (hv : a.eval v = val)
    (hK : ∀ w', MapI q w' b (fun y => if y = key then some val else f y) → w.grownBy w' (some b) → K (a.put o.dst undef) w') :
    if Region.wanted o (yielded ops a.tmps) = true then Oper.wp P o a w K Q else E := by
  have hw : Region.wanted o (yielded ops a.tmps) = true := by simp [Region.wanted, hg]
  rw [if_pos hw]
  obtain ⟨w', hrun, r1, r2⟩ := hown.store (P := P) ht hk key val
  unfold Oper.wp
  simp [execOp, hop, hm, hx, hv, hrun, Result.andThen]
  exact hK w' r1 r2
end Go.Proofs.Ytnobiekgifjaeaa
