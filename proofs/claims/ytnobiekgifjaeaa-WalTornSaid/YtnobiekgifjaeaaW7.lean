/-
  The walk of 'put': a record more, in memory.
-/
import Derived.Test.YtnobiekgifjaeaaW6
import Derived.Test.YtnobiekgifjaeaaV0
namespace Go.Proofs.Ytnobiekgifjaeaa
open Go.RowKit
attribute [local go_sem ↓] Go.wp_at_zero Go.wp_at_succ

/-- W is w but for new blocks and block X -/
def Far (X : Option Nat) (w W : World) : Prop := w.heap.size ≤ W.heap.size ∧ ∀ k, k < w.heap.size → some k ≠ X → W.heap[k]? = w.heap[k]?
theorem Far.refl (X : Option Nat) (w : World) : Far X w w := ⟨Nat.le_refl _, fun _ _ _ => rfl⟩
theorem Far.drew {X : Option Nat} {w W : World} (h : Far X w W) : Far X w W.drew := h
theorem Far.alloc {X : Option Nat} {w W : World} (h : Far X w W) (o : Obj) : Far X w (W.alloc o) :=
  ⟨Nat.le_trans h.1 (by simp), fun k hk hx => (Below.heap_alloc W o k (Nat.lt_of_lt_of_le hk h.1)).trans (h.2 k hk hx)⟩
theorem Far.grown {X : Option Nat} {w W W' : World} (h : Far X w W) (hg : W.grownBy W' X) : Far X w W' :=
  ⟨Nat.le_trans h.1 hg.size, fun k hk hx => (hg.block k (Nat.lt_of_lt_of_le hk h.1) hx).trans (h.2 k hk hx)⟩
theorem own_far {X : Option Nat} {w W : World} {base : Nat} {e : TypeId} {size n : Nat} {v : Value} {xs : List Value} (h : w.ownsRow base e size v n xs) (hf : Far X w W) (hx : ∀ k, v.ownBlock = some k → X ≠ some k) : W.ownsRow base e size v n xs :=
  own_same h fun k hk => hf.2 k (h.lt k hk).2 (fun e => hx k hk e.symm)
/-- block nb holds o -/
def Got (W : World) (nb : Nat) (o : Obj) : Prop := W.heap[nb]? = some o
theorem Got.new (W : World) (o : Obj) {nb : Nat} (h : nb = W.heap.size) : Got (W.alloc o) nb o := by subst h; exact heap_alloc_new W o
theorem Got.lt {W : World} {nb : Nat} {o : Obj} (h : Got W nb o) : nb < W.heap.size := (Array.getElem?_eq_some_iff.1 h).1
theorem Got.drew {W : World} {nb : Nat} {o : Obj} (h : Got W nb o) : Got W.drew nb o := h
theorem Got.alloc {W : World} {nb : Nat} {o : Obj} (h : Got W nb o) (o' : Obj) : Got (W.alloc o') nb o := (Below.heap_alloc W o' nb h.lt).trans h
theorem Got.grown {W W' : World} {X : Option Nat} {nb : Nat} {o : Obj} (h : Got W nb o) (hg : W.grownBy W' X) (hx : some nb ≠ X) : Got W' nb o := (hg.block nb h.lt hx).trans h

def Lg.put (g : Lg) (s : ByteArray) : Lg := { g with recs := g.recs ++ [s] }

/-- what the loads of the statement need -/
def KS (lb : Nat) (lv av : Value) (w : World) : Prop := w.cell? ⟨lb, 1, none⟩ = some lv ∧ w.cell? ⟨lb, 2, none⟩ = some av ∧ w.frozen? ⟨lb, 1, none⟩ = false ∧ w.frozen? ⟨lb, 2, none⟩ = false ∧ lb < w.heap.size
theorem KS.drew {lb : Nat} {lv av : Value} {w : World} (h : KS lb lv av w) : KS lb lv av w.drew := h
theorem KS.same {lb : Nat} {lv av : Value} {w w' : World} (h : KS lb lv av w) (e : w'.heap[lb]? = w.heap[lb]?) (hs : w.heap.size ≤ w'.heap.size) : KS lb lv av w' :=
  ⟨(World.cell?_of_block e).trans h.1, (World.cell?_of_block e).trans h.2.1, (World.frozen?_of_block e).trans h.2.2.1, (World.frozen?_of_block e).trans h.2.2.2.1, Nat.lt_of_lt_of_le h.2.2.2.2 hs⟩
theorem KS.alloc {lb : Nat} {lv av : Value} {w : World} (h : KS lb lv av w) (o : Obj) : KS lb lv av (w.alloc o) := h.same (Below.heap_alloc w o lb h.2.2.2.2) (by simp)
theorem KS.grown {lb : Nat} {lv av : Value} {w w' : World} {X : Option Nat} (h : KS lb lv av w) (hg : w.grownBy w' X) (hx : some lb ≠ X) : KS lb lv av w' := h.same (hg.block lb h.2.2.2.2 hx) hg.size

theorem put_mid {w U1 pxw U2 qxw : World} {G : Nat → Prop} {lb db n : Nat} {lv av : Value} {g : Lg} {s : ByteArray} (h : WalIn w G lb db lv av g) (hn : n = g.recs.length)
    (hs : 1 ≤ s.size ∧ s.size ≤ 8192) (he : g.end_ + s.size + 12 ≤ 4194305)
    {pxg pxc qxg qxc : Nat} (f0 : Far none w U1)
    (px_own : pxw.ownsRow 0 9 1 (.slice (some ⟨pxg, 0, none⟩) (n + 1) pxc) (n + 1) (g.recs.map Value.string ++ [Value.string s])) (px_grow : U1.grownBy pxw lv.ownBlock)
    (px_at : lv.ownBlock = some pxg ∨ pxg = U1.heap.size) (px_lt : pxg < pxw.heap.size) (f1 : Far none pxw U2)
    (qx_own : qxw.ownsRow 0 67 1 (.slice (some ⟨qxg, 0, none⟩) (n + 1) qxc) (n + 1) ((places 1 g.recs).map lsn ++ [Value.int .u64 (g.end_ : Int)])) (qx_grow : U2.grownBy qxw av.ownBlock)
    (qx_at : av.ownBlock = some qxg ∨ qxg = U2.heap.size) (qx_lt : qxg < qxw.heap.size) (hst : Step G w qxw) :
    ∃ P : World, P = (qxw.setCell ⟨lb, 1, none⟩ (.slice (some ⟨pxg, 0, none⟩) (n + 1) pxc)).setCell ⟨lb, 2, none⟩ (.slice (some ⟨qxg, 0, none⟩) (n + 1) qxc) ∧
      P.cell? ⟨lb, 3, none⟩ = some (.int .u64 (g.end_ : Int)) ∧ P.frozen? ⟨lb, 3, none⟩ = false ∧
      WPost w G lb db (g.put s) (P.setCell ⟨lb, 3, none⟩ (.int .u64 ((g.end_ + (s.size + 12) : Nat) : Int))) := by
  subst hn
  have hlb := h.blk.lt
  have sne : lv.ownBlock ≠ some lb := own_blk_ne h.recs h.blk (by decide)
  have ane : av.ownBlock ≠ some lb := own_blk_ne h.ats h.blk (by decide)
  have b0 : U1.heap[lb]? = w.heap[lb]? := f0.2 lb hlb (by simp)
  have l0 : lb < U1.heap.size := Nat.lt_of_lt_of_le hlb f0.1
  have b1 : pxw.heap[lb]? = U1.heap[lb]? := px_grow.block lb l0 (fun e => sne e.symm)
  have l1 : lb < pxw.heap.size := Nat.lt_of_lt_of_le l0 px_grow.size
  have b2 : U2.heap[lb]? = pxw.heap[lb]? := f1.2 lb l1 (by simp)
  have l2 : lb < U2.heap.size := Nat.lt_of_lt_of_le l1 f1.1
  have b3 : qxw.heap[lb]? = U2.heap[lb]? := qx_grow.block lb l2 (fun e => ane e.symm)
  have B : Blk qxw lb 119 (lgCells db lv av g) := h.blk.same (b3.trans (b2.trans (b1.trans b0)))
  have pq : av.ownBlock ≠ some pxg := by
    rcases px_at with e | e
    · exact own_own_ne h.recs h.ats (by decide) e
    · intro e'
      have := (h.ats.lt _ e').2
      have := f0.1
      omega
  have rp : qxw.ownsRow 0 9 1 (.slice (some ⟨pxg, 0, none⟩) (g.recs.length + 1) pxc) (g.recs.length + 1) (g.recs.map Value.string ++ [Value.string s]) := own_same px_own fun k hk => by
    have hk' : pxg = k := by simpa [Value.ownBlock] using hk
    subst hk'
    exact (qx_grow.block pxg (Nat.lt_of_lt_of_le px_lt f1.1) (fun e => pq e.symm)).trans (f1.2 pxg px_lt (by simp))
  have np := own_blk_ne rp B (by decide)
  have nq := own_blk_ne qx_own B (by decide)
  refine ⟨_, rfl, ?_⟩
  generalize hpv : Value.slice (some ⟨pxg, 0, none⟩) (g.recs.length + 1) pxc = pv at *
  generalize hqv : Value.slice (some ⟨qxg, 0, none⟩) (g.recs.length + 1) qxc = qv at *
  have B1 := B.set_ 1 pv
  have B2 := B1.set_ 2 qv
  have B3 := B2.set_ 3 (.int .u64 ((g.end_ + (s.size + 12) : Nat) : Int))
  have hend : (g.put s).end_ = g.end_ + (s.size + 12) := by
    show endFrom 1 (g.recs ++ [s]) = endFrom 1 g.recs + (s.size + 12)
    rw [endFrom_snoc, Nat.add_assoc]
  refine ⟨B2.cell 3, B2.frozen 3, fun r => G r ∨ r = pxg ∨ r = qxg, ⟨pv, qv, ?_⟩, ?_, ?_⟩
  · have hh : ∀ r, r ≠ lb → (((qxw.setCell ⟨lb, 1, none⟩ pv).setCell ⟨lb, 2, none⟩ qv).setCell ⟨lb, 3, none⟩ (.int .u64 ((g.end_ + (s.size + 12) : Nat) : Int))).heap[r]? = qxw.heap[r]? := fun r hr =>
      (Below.heap_setCell _ _ _ r hr).trans ((Below.heap_setCell _ _ _ r hr).trans (Below.heap_setCell _ _ _ r hr))
    refine ⟨?_, ?_, ?_, .inl h.gb, ?_, ?_, ?_, ?_⟩
    · have e : lgCells db pv qv (g.put s) = (((lgCells db lv av g).setIfInBounds 1 pv).setIfInBounds 2 qv).setIfInBounds 3 (.int .u64 ((g.end_ + (s.size + 12) : Nat) : Int)) := by
        unfold lgCells
        rw [hend]
        rfl
      rw [e]
      exact B3
    · have := own_same rp (fun k hk => hh k (fun e => np (by rw [hk, e])))
      simpa [Lg.put] using this
    · have := own_same qx_own (fun k hk => hh k (fun e => nq (by rw [hk, e])))
      show World.ownsRow _ 0 67 1 qv (g.recs ++ [s]).length ((places 1 (g.recs ++ [s])).map lsn)
      rw [places_snoc]
      simpa [Lg.end_, lsn] using this
    · intro k hk
      subst hpv
      have : pxg = k := by simpa [Value.ownBlock] using hk
      exact .inr (.inl this.symm)
    · intro k hk
      subst hqv
      have : qxg = k := by simpa [Value.ownBlock] using hk
      exact .inr (.inr this.symm)
    · have ok := h.ok
      refine ⟨?_, ?_, ?_, ok.kept1, ok.kept2, ok.tail, ok.marks⟩
      · rw [hend]; omega
      · intro x hx
        rcases List.mem_append.1 hx with hx | hx
        · exact ok.recs x hx
        · rw [List.mem_singleton.1 hx]; exact hs
      · have := ok.sure
        show g.sure ≤ (g.recs ++ [s]).length
        rw [List.length_append]
        omega
    · intro r hr
      have hsz : qxw.heap.size = (((qxw.setCell ⟨lb, 1, none⟩ pv).setCell ⟨lb, 2, none⟩ qv).setCell ⟨lb, 3, none⟩ (.int .u64 ((g.end_ + (s.size + 12) : Nat) : Int))).heap.size := by simp [World.setCell]
      rw [← hsz]
      rcases hr with hr | rfl | rfl
      · exact Nat.lt_of_lt_of_le (h.lt r hr) hst.size
      · exact Nat.lt_of_lt_of_le px_lt (Nat.le_trans f1.1 qx_grow.size)
      · exact qx_lt
  · exact ((hst.setCell (.inl h.gb) _).setCell (.inl h.gb) _).setCell (.inl h.gb) _
  · intro r hr
    rcases hr with hr | rfl | rfl
    · exact .inl hr
    · rcases px_at with e | e
      · exact .inl (h.gl _ e)
      · right; have := f0.1; omega
    · rcases qx_at with e | e
      · exact .inl (h.ga _ e)
      · right; have := f0.1; have := px_grow.size; have := f1.1; omega

set_option maxRecDepth 100000 in
set_option maxHeartbeats 4000000 in
theorem lput_c {w : World} {G : Nat → Prop} {lb db : Nat} {g : Lg} (h : WalAt w G lb db g) (s : ByteArray) (hs : 1 ≤ s.size ∧ s.size ≤ 8192) (he : g.end_ + s.size + 12 ≤ 4194305) :
    Calls Try.prog 72 #[.pointer (some ⟨lb, 0, none⟩), .string s] w fun e w' => e = .returned (.int .u64 (g.end_ : Int)) ∧ WPost w G lb db (g.put s) w' := by
  obtain ⟨lv, av, h⟩ := h
  have c1 := h.cells.2.1
  have c2 := h.cells.2.2.1
  have c3 := h.cells.2.2.2.1
  have fr := h.cells.2.2.2.2.2.2.2.2
  have f1 := fr 1
  have f2 := fr 2
  have f3 := fr 3
  obtain ⟨is, his, hsz0, hsz1, hsz2⟩ := info_parts infoString
  obtain ⟨ia, hia, haz0, haz1, haz2⟩ := info_parts infoLSN
  obtain ⟨la, lc, rfl⟩ := own_form h.recs
  obtain ⟨aa, ac, rfl⟩ := own_form h.ats
  have hlb := h.blk.lt
  have sne : ∀ k, (Value.slice la g.recs.length lc).ownBlock = some k → k < w.heap.size ∧ k ≠ lb := fun k hk => ⟨(h.recs.lt k hk).2, fun e => own_blk_ne h.recs h.blk (by decide) (by rw [hk, e])⟩
  have ane : ∀ k, (Value.slice aa g.recs.length ac).ownBlock = some k → k < w.heap.size ∧ k ≠ lb := fun k hk => ⟨(h.ats.lt k hk).2, fun e => own_blk_ne h.ats h.blk (by decide) (by rw [hk, e])⟩
  have san : ∀ k, (Value.slice la g.recs.length lc).ownBlock = some k → (Value.slice aa g.recs.length ac).ownBlock ≠ some k := fun k hk => own_own_ne h.recs h.ats (by decide) hk
  have asn : ∀ k, (Value.slice aa g.recs.length ac).ownBlock = some k → (Value.slice la g.recs.length lc).ownBlock ≠ some k := fun k hk => own_own_ne h.ats h.recs (by decide) hk
  have hlen := h.ok.length
  have N1 : Hid (g.recs.length + 1 ≤ maxLen) := by show _ ≤ maxLen; simp only [maxLen]; omega
  have N2 : Hid ((g.recs.length + 1) * 16 ≤ 140737488355328) := by show _ ≤ 140737488355328; omega
  have N3 : Hid ((g.recs.length + 1) * 8 ≤ 140737488355328) := by show _ ≤ 140737488355328; omega
  have O1 : Hid (∀ u ∈ [Value.string s], u.oneCell' = true) := fun u hu => by simp at hu; subst hu; rfl
  have O2 : Hid (∀ u ∈ [Value.int .u64 (g.end_ : Int)], u.oneCell' = true) := fun u hu => by simp at hu; subst hu; rfl
  have HK0 : Hid (KS lb (.slice la g.recs.length lc) (.slice aa g.recs.length ac) w) := ⟨c1, c2, f1, f2, hlb⟩
  have SNE := Lib.hid sne
  have ANE := Lib.hid ane
  have SAN := Lib.hid san
  have ASN := Lib.hid asn
  have H := Lib.hid h
  clear h fr sne ane san asn hlen
  go_enter Try.func72, Try.ntmps72
  go_wp2_with (fail)
  refine wp_region_late (S := KS lb (.slice la g.recs.length lc) (.slice aa g.recs.length ac)) (late := [18, 21]) (by kernel_rfl) HK0.out.drew (fun hHeld => ?_)
  refine wpAnyL_move (i := 0) (v := ?_) (by rfl) (by kernel_rfl) (by kernel_rfl) (by kernel_rfl) (by rfl) (by exact fun _ _ _ h => h) (Or.inl ⟨by rfl, ?_⟩) (by assumption) ?_; rotate_left; · (intro w0; go_simp; try with_reducible rfl)
  try simp only [Act.put, List.setIfInBounds_toArray, List.set_cons_zero, List.set_cons_succ]
  refine wpAnyL_move (i := 1) (v := ?_) (by rfl) (by kernel_rfl) (by kernel_rfl) (by kernel_rfl) (by rfl) (by exact fun _ _ _ h => h) (Or.inl ⟨by rfl, ?_⟩) (by assumption) ?_; rotate_left; · (intro w0; go_simp; try with_reducible rfl)
  try simp only [Act.put, List.setIfInBounds_toArray, List.set_cons_zero, List.set_cons_succ]
  refine wpAnyL_move (i := 2) (v := ?_) (by rfl) (by kernel_rfl) (by kernel_rfl) (by kernel_rfl) (by rfl) (by exact fun _ _ _ h => h) (Or.inl ⟨by rfl, ?_⟩) (by assumption) ?_; rotate_left; · (intro w0; go_simp; try with_reducible rfl)
  try simp only [Act.put, List.setIfInBounds_toArray, List.set_cons_zero, List.set_cons_succ]
  refine wpAnyL_move (i := 3) (v := ?_) (by rfl) (by kernel_rfl) (by kernel_rfl) (by kernel_rfl) (by rfl) (by exact fun _ _ _ h => h) (Or.inl ⟨by rfl, ?_⟩) (by assumption) ?_; rotate_left; · (intro w0; go_simp; try with_reducible rfl)
  try simp only [Act.put, List.setIfInBounds_toArray, List.set_cons_zero, List.set_cons_succ]
  refine wpAnyL_move (i := 4) (v := ?_) (by rfl) (by kernel_rfl) (by kernel_rfl) (by kernel_rfl) (by rfl) (by exact fun _ _ _ h => h) (Or.inl ⟨by rfl, ?_⟩) (by assumption) ?_; rotate_left; · (intro w0; go_simp; try with_reducible rfl)
  try simp only [Act.put, List.setIfInBounds_toArray, List.set_cons_zero, List.set_cons_succ]
  refine wpAnyL_load (i := 5) (v := ?_) (by rfl) (by kernel_rfl) (by kernel_rfl) (by kernel_rfl) (by rfl) (by kernel_rfl) (by exact fun _ _ _ h => h) (Or.inl ⟨by rfl, ?_⟩) (by assumption) ?_; rotate_left; · (intro w0 hS0; obtain ⟨hS1, hS2, hS3, hS4, hS5⟩ := hS0; go_simp; try with_reducible rfl)
  try simp only [Act.put, List.setIfInBounds_toArray, List.set_cons_zero, List.set_cons_succ]
  refine wpAnyL_move (i := 6) (v := ?_) (by rfl) (by kernel_rfl) (by kernel_rfl) (by kernel_rfl) (by rfl) (by exact fun _ _ _ h => h) (Or.inl ⟨by rfl, ?_⟩) (by assumption) ?_; rotate_left; · (intro w0; go_simp; try with_reducible rfl)
  try simp only [Act.put, List.setIfInBounds_toArray, List.set_cons_zero, List.set_cons_succ]
  refine wpAnyL_move (i := 9) (v := ?_) (by rfl) (by kernel_rfl) (by kernel_rfl) (by kernel_rfl) (by rfl) (by exact fun _ _ _ h => h) (Or.inl ⟨by rfl, ?_⟩) (by assumption) ?_; rotate_left; · (intro w0; go_simp; try with_reducible rfl)
  try simp only [Act.put, List.setIfInBounds_toArray, List.set_cons_zero, List.set_cons_succ]
  refine wpAnyL_move (i := 10) (v := ?_) (by rfl) (by kernel_rfl) (by kernel_rfl) (by kernel_rfl) (by rfl) (by exact fun _ _ _ h => h) (Or.inl ⟨by rfl, ?_⟩) (by assumption) ?_; rotate_left; · (intro w0; go_simp; try with_reducible rfl)
  try simp only [Act.put, List.setIfInBounds_toArray, List.set_cons_zero, List.set_cons_succ]
  refine wpAnyL_move (i := 11) (v := ?_) (by rfl) (by kernel_rfl) (by kernel_rfl) (by kernel_rfl) (by rfl) (by exact fun _ _ _ h => h) (Or.inl ⟨by rfl, ?_⟩) (by assumption) ?_; rotate_left; · (intro w0; go_simp; try with_reducible rfl)
  try simp only [Act.put, List.setIfInBounds_toArray, List.set_cons_zero, List.set_cons_succ]
  refine wpAnyL_load (i := 12) (v := ?_) (by rfl) (by kernel_rfl) (by kernel_rfl) (by kernel_rfl) (by rfl) (by kernel_rfl) (by exact fun _ _ _ h => h) (Or.inl ⟨by rfl, ?_⟩) (by assumption) ?_; rotate_left; · (intro w0 hS0; obtain ⟨hS1, hS2, hS3, hS4, hS5⟩ := hS0; go_simp; try with_reducible rfl)
  try simp only [Act.put, List.setIfInBounds_toArray, List.set_cons_zero, List.set_cons_succ]
  refine wpAnyL_move (i := 13) (v := ?_) (by rfl) (by kernel_rfl) (by kernel_rfl) (by kernel_rfl) (by rfl) (by exact fun _ _ _ h => h) (Or.inl ⟨by rfl, ?_⟩) (by assumption) ?_; rotate_left; · (intro w0; go_simp; try with_reducible rfl)
  try simp only [Act.put, List.setIfInBounds_toArray, List.set_cons_zero, List.set_cons_succ]
  refine wpAnyL_each (rs := [7, 14]) (by kernel_rfl) (by simp) ?_
  refine EachL.cons (by rfl) (by rfl) (fun K hK => ?_) ?_
  · go_simp
    refine hK.out _ _ (hHeld.alloc _) (fun hHeld => ?_)
    clear hK K
    try simp only [Act.put, List.setIfInBounds_toArray, List.set_cons_zero, List.set_cons_succ]
    refine wpAnyL_each (rs := [8, 14]) (by kernel_rfl) (by simp) ?_
    refine EachL.cons (by rfl) (by rfl) (fun K hK => ?_) ?_
    · refine step_append_lies _ (by rfl) _ _ _ (by rfl) 0 9 is _ 1 16 Try.underlying51 his hsz0 hsz1 hsz2 rfl (by omega) (.slice la g.recs.length lc) g.recs.length (g.recs.map Value.string) (by rfl) (own_far (X := (Value.slice aa g.recs.length ac).ownBlock) H.out.recs ((Far.refl _ _).drew.alloc _) SAN.out) _ 1 1 [Value.string s] (by rfl) (by rfl) (World.news_of_block (cs := #[Value.string s]) (t := 9) (fr := (0, 0)) (show Got _ _ _ from (Got.new _ _ (by simp)))) O1.out (by omega) N1.out N2.out (Nat.zero_le _) _ rfl ?_; intro pxg pxc pxw px_own px_grow px_at px_lt
      refine hK.out _ _ (hHeld.grown px_grow (fun e => (SNE.out _ e.symm).2 rfl)) (fun hHeld => ?_)
      clear hK K
      try simp only [Act.put, List.setIfInBounds_toArray, List.set_cons_zero, List.set_cons_succ]
      refine wpAnyL_each (rs := [14]) (by kernel_rfl) (by simp) ?_
      refine EachL.cons (by rfl) (by rfl) (fun K hK => ?_) ?_
      · go_simp
        refine hK.out _ _ (hHeld.alloc _) (fun hHeld => ?_)
        clear hK K
        try simp only [Act.put, List.setIfInBounds_toArray, List.set_cons_zero, List.set_cons_succ]
        refine wpAnyL_each (rs := [15]) (by kernel_rfl) (by simp) ?_
        refine EachL.cons (by rfl) (by rfl) (fun K hK => ?_) ?_
        · refine step_append_lies _ (by rfl) _ _ _ (by rfl) 0 67 ia _ 1 8 Try.underlying73 hia haz0 haz1 haz2 rfl (by omega) (.slice aa g.recs.length ac) g.recs.length ((places 1 g.recs).map lsn) (by rfl) (own_far (X := (Value.slice la g.recs.length lc).ownBlock) H.out.ats ((((Far.refl _ _).drew.alloc _).grown px_grow).alloc _) ASN.out) _ 1 1 [Value.int .u64 (g.end_ : Int)] (by rfl) (by rfl) (World.news_of_block (cs := #[Value.int .u64 (g.end_ : Int)]) (t := 67) (fr := (0, 0)) (show Got _ _ _ from (Got.new _ _ (by simp)))) O2.out (by omega) N1.out N3.out (Nat.zero_le _) _ rfl ?_; intro qxg qxc qxw qx_own qx_grow qx_at qx_lt
          refine hK.out _ _ (hHeld.grown qx_grow (fun e => (ANE.out _ e.symm).2 rfl)) (fun hHeld => ?_)
          clear hK K
          try simp only [Act.put, List.setIfInBounds_toArray, List.set_cons_zero, List.set_cons_succ]
          refine wpAnyL_move (i := 16) (v := ?_) (by rfl) (by kernel_rfl) (by kernel_rfl) (by kernel_rfl) (by rfl) (by exact fun _ _ _ h => h) (Or.inl ⟨by rfl, ?_⟩) (by assumption) ?_; rotate_left; · (intro w0; go_simp; try with_reducible rfl)
          try simp only [Act.put, List.setIfInBounds_toArray, List.set_cons_zero, List.set_cons_succ]
          refine wpAnyL_move (i := 17) (v := ?_) (by rfl) (by kernel_rfl) (by kernel_rfl) (by kernel_rfl) (by rfl) (by exact fun _ _ _ h => h) (Or.inl ⟨by rfl, ?_⟩) (by assumption) ?_; rotate_left; · (intro w0; go_simp; try with_reducible rfl)
          try simp only [Act.put, List.setIfInBounds_toArray, List.set_cons_zero, List.set_cons_succ]
          obtain ⟨k1, k2, k3, k4, k5⟩ := hHeld
          refine wpAnyL_late (i := 18) (by kernel_rfl) (by rfl) (by rfl) (fun K hK => ?_)
          go_simp
          refine hK.out _ _ ?_
          clear hK K
          try simp only [Act.put, List.setIfInBounds_toArray, List.set_cons_zero, List.set_cons_succ]
          refine wpAny_move (i := 19) (v := ?_) (by rfl) (by kernel_rfl) (by kernel_rfl) (by kernel_rfl) (by exact fun _ _ _ h => h) (Or.inl ⟨by rfl, ?_⟩) ?_; rotate_left; · (intro w0; go_simp; try with_reducible rfl)
          try simp only [Act.put, List.setIfInBounds_toArray, List.set_cons_zero, List.set_cons_succ]
          refine wpAny_move (i := 20) (v := ?_) (by rfl) (by kernel_rfl) (by kernel_rfl) (by kernel_rfl) (by exact fun _ _ _ h => h) (Or.inl ⟨by rfl, ?_⟩) ?_; rotate_left; · (intro w0; go_simp; try with_reducible rfl)
          try simp only [Act.put, List.setIfInBounds_toArray, List.set_cons_zero, List.set_cons_succ]
          refine wpAny_step (i := 21) (by kernel_rfl) (by rfl) (fun K hK => ?_)
          go_simp
          refine hK.out _ _ ?_
          clear hK K
          try simp only [Act.put, List.setIfInBounds_toArray, List.set_cons_zero, List.set_cons_succ]
          refine wpAny_done (by kernel_rfl) ?_ _
          obtain ⟨P, hP, m1, m2, m3⟩ := put_mid H.out rfl hs he (show Far none w _ from ((Far.refl none w).drew.alloc _)) px_own px_grow px_at px_lt (show Far none pxw _ from ((Far.refl none pxw).alloc _)) qx_own qx_grow qx_at qx_lt ((((((Step.refl G w).drewN 1).alloc _).grown px_grow (fun k hk => .inl (H.out.gl k hk))).alloc _).grown qx_grow (fun k hk => .inl (H.out.ga k hk)))
          rw [← hP]
          clear hP k1 k2 k3 k4 k5 px_own qx_own px_grow qx_grow px_at qx_at px_lt qx_lt
          rw [show ((g.end_ + (s.size + 12) : Nat) : Int) = (g.end_ : Int) + ((s.size : Int) + 12) by omega] at m3
          have M3 := Lib.hid m3
          clear m3
          go_wp2
          go_ret
          exact ⟨rfl, M3.out⟩
        exact EachL.nil
      exact EachL.nil
    refine EachL.cons (by rfl) (by rfl) (fun K hK => ?_) ?_
    · go_simp
      refine hK.out _ _ (hHeld.alloc _) (fun hHeld => ?_)
      clear hK K
      try simp only [Act.put, List.setIfInBounds_toArray, List.set_cons_zero, List.set_cons_succ]
      refine wpAnyL_each (rs := [8]) (by kernel_rfl) (by simp) ?_
      refine EachL.cons (by rfl) (by rfl) (fun K hK => ?_) ?_
      · refine step_append_lies _ (by rfl) _ _ _ (by rfl) 0 9 is _ 1 16 Try.underlying51 his hsz0 hsz1 hsz2 rfl (by omega) (.slice la g.recs.length lc) g.recs.length (g.recs.map Value.string) (by rfl) (own_far (X := (Value.slice aa g.recs.length ac).ownBlock) H.out.recs (((Far.refl _ _).drew.alloc _).alloc _) SAN.out) _ 1 1 [Value.string s] (by rfl) (by rfl) (World.news_of_block (cs := #[Value.string s]) (t := 9) (fr := (0, 0)) (show Got _ _ _ from ((Got.new _ _ (by simp)).alloc _))) O1.out (by omega) N1.out N2.out (Nat.zero_le _) _ rfl ?_; intro pxg pxc pxw px_own px_grow px_at px_lt
        refine hK.out _ _ (hHeld.grown px_grow (fun e => (SNE.out _ e.symm).2 rfl)) (fun hHeld => ?_)
        clear hK K
        try simp only [Act.put, List.setIfInBounds_toArray, List.set_cons_zero, List.set_cons_succ]
        refine wpAnyL_each (rs := [15]) (by kernel_rfl) (by simp) ?_
        refine EachL.cons (by rfl) (by rfl) (fun K hK => ?_) ?_
        · refine step_append_lies _ (by rfl) _ _ _ (by rfl) 0 67 ia _ 1 8 Try.underlying73 hia haz0 haz1 haz2 rfl (by omega) (.slice aa g.recs.length ac) g.recs.length ((places 1 g.recs).map lsn) (by rfl) (own_far (X := (Value.slice la g.recs.length lc).ownBlock) H.out.ats ((((Far.refl _ _).drew.alloc _).alloc _).grown px_grow) ASN.out) _ 1 1 [Value.int .u64 (g.end_ : Int)] (by rfl) (by rfl) (World.news_of_block (cs := #[Value.int .u64 (g.end_ : Int)]) (t := 67) (fr := (0, 0)) (show Got _ _ _ from ((Got.new _ _ (by simp)).drew.grown px_grow (fun e => by have := (SNE.out _ e.symm).1; first | omega | (simp at this; done) | (simp at this; omega))))) O2.out (by omega) N1.out N3.out (Nat.zero_le _) _ rfl ?_; intro qxg qxc qxw qx_own qx_grow qx_at qx_lt
          refine hK.out _ _ (hHeld.grown qx_grow (fun e => (ANE.out _ e.symm).2 rfl)) (fun hHeld => ?_)
          clear hK K
          try simp only [Act.put, List.setIfInBounds_toArray, List.set_cons_zero, List.set_cons_succ]
          refine wpAnyL_move (i := 16) (v := ?_) (by rfl) (by kernel_rfl) (by kernel_rfl) (by kernel_rfl) (by rfl) (by exact fun _ _ _ h => h) (Or.inl ⟨by rfl, ?_⟩) (by assumption) ?_; rotate_left; · (intro w0; go_simp; try with_reducible rfl)
          try simp only [Act.put, List.setIfInBounds_toArray, List.set_cons_zero, List.set_cons_succ]
          refine wpAnyL_move (i := 17) (v := ?_) (by rfl) (by kernel_rfl) (by kernel_rfl) (by kernel_rfl) (by rfl) (by exact fun _ _ _ h => h) (Or.inl ⟨by rfl, ?_⟩) (by assumption) ?_; rotate_left; · (intro w0; go_simp; try with_reducible rfl)
          try simp only [Act.put, List.setIfInBounds_toArray, List.set_cons_zero, List.set_cons_succ]
          obtain ⟨k1, k2, k3, k4, k5⟩ := hHeld
          refine wpAnyL_late (i := 18) (by kernel_rfl) (by rfl) (by rfl) (fun K hK => ?_)
          go_simp
          refine hK.out _ _ ?_
          clear hK K
          try simp only [Act.put, List.setIfInBounds_toArray, List.set_cons_zero, List.set_cons_succ]
          refine wpAny_move (i := 19) (v := ?_) (by rfl) (by kernel_rfl) (by kernel_rfl) (by kernel_rfl) (by exact fun _ _ _ h => h) (Or.inl ⟨by rfl, ?_⟩) ?_; rotate_left; · (intro w0; go_simp; try with_reducible rfl)
          try simp only [Act.put, List.setIfInBounds_toArray, List.set_cons_zero, List.set_cons_succ]
          refine wpAny_move (i := 20) (v := ?_) (by rfl) (by kernel_rfl) (by kernel_rfl) (by kernel_rfl) (by exact fun _ _ _ h => h) (Or.inl ⟨by rfl, ?_⟩) ?_; rotate_left; · (intro w0; go_simp; try with_reducible rfl)
          try simp only [Act.put, List.setIfInBounds_toArray, List.set_cons_zero, List.set_cons_succ]
          refine wpAny_step (i := 21) (by kernel_rfl) (by rfl) (fun K hK => ?_)
          go_simp
          refine hK.out _ _ ?_
          clear hK K
          try simp only [Act.put, List.setIfInBounds_toArray, List.set_cons_zero, List.set_cons_succ]
          refine wpAny_done (by kernel_rfl) ?_ _
          obtain ⟨P, hP, m1, m2, m3⟩ := put_mid H.out rfl hs he (show Far none w _ from (((Far.refl none w).drew.alloc _).alloc _)) px_own px_grow px_at px_lt (show Far none pxw _ from (Far.refl none pxw)) qx_own qx_grow qx_at qx_lt ((((((Step.refl G w).drewN 1).alloc _).alloc _).grown px_grow (fun k hk => .inl (H.out.gl k hk))).grown qx_grow (fun k hk => .inl (H.out.ga k hk)))
          rw [← hP]
          clear hP k1 k2 k3 k4 k5 px_own qx_own px_grow qx_grow px_at qx_at px_lt qx_lt
          rw [show ((g.end_ + (s.size + 12) : Nat) : Int) = (g.end_ : Int) + ((s.size : Int) + 12) by omega] at m3
          have M3 := Lib.hid m3
          clear m3
          go_wp2
          go_ret
          exact ⟨rfl, M3.out⟩
        exact EachL.nil
      exact EachL.nil
    exact EachL.nil
  refine EachL.cons (by rfl) (by rfl) (fun K hK => ?_) ?_
  · go_simp
    refine hK.out _ _ (hHeld.alloc _) (fun hHeld => ?_)
    clear hK K
    try simp only [Act.put, List.setIfInBounds_toArray, List.set_cons_zero, List.set_cons_succ]
    refine wpAnyL_each (rs := [7]) (by kernel_rfl) (by simp) ?_
    refine EachL.cons (by rfl) (by rfl) (fun K hK => ?_) ?_
    · go_simp
      refine hK.out _ _ (hHeld.alloc _) (fun hHeld => ?_)
      clear hK K
      try simp only [Act.put, List.setIfInBounds_toArray, List.set_cons_zero, List.set_cons_succ]
      refine wpAnyL_each (rs := [8]) (by kernel_rfl) (by simp) ?_
      refine EachL.cons (by rfl) (by rfl) (fun K hK => ?_) ?_
      · refine step_append_lies _ (by rfl) _ _ _ (by rfl) 0 9 is _ 1 16 Try.underlying51 his hsz0 hsz1 hsz2 rfl (by omega) (.slice la g.recs.length lc) g.recs.length (g.recs.map Value.string) (by rfl) (own_far (X := (Value.slice aa g.recs.length ac).ownBlock) H.out.recs (((Far.refl _ _).drew.alloc _).alloc _) SAN.out) _ 1 1 [Value.string s] (by rfl) (by rfl) (World.news_of_block (cs := #[Value.string s]) (t := 9) (fr := (0, 0)) (show Got _ _ _ from (Got.new _ _ (by simp)))) O1.out (by omega) N1.out N2.out (Nat.zero_le _) _ rfl ?_; intro pxg pxc pxw px_own px_grow px_at px_lt
        refine hK.out _ _ (hHeld.grown px_grow (fun e => (SNE.out _ e.symm).2 rfl)) (fun hHeld => ?_)
        clear hK K
        try simp only [Act.put, List.setIfInBounds_toArray, List.set_cons_zero, List.set_cons_succ]
        refine wpAnyL_each (rs := [15]) (by kernel_rfl) (by simp) ?_
        refine EachL.cons (by rfl) (by rfl) (fun K hK => ?_) ?_
        · refine step_append_lies _ (by rfl) _ _ _ (by rfl) 0 67 ia _ 1 8 Try.underlying73 hia haz0 haz1 haz2 rfl (by omega) (.slice aa g.recs.length ac) g.recs.length ((places 1 g.recs).map lsn) (by rfl) (own_far (X := (Value.slice la g.recs.length lc).ownBlock) H.out.ats ((((Far.refl _ _).drew.alloc _).alloc _).grown px_grow) ASN.out) _ 1 1 [Value.int .u64 (g.end_ : Int)] (by rfl) (by rfl) (World.news_of_block (cs := #[Value.int .u64 (g.end_ : Int)]) (t := 67) (fr := (0, 0)) (show Got _ _ _ from (((Got.new _ _ (by simp)).alloc _).drew.grown px_grow (fun e => by have := (SNE.out _ e.symm).1; first | omega | (simp at this; done) | (simp at this; omega))))) O2.out (by omega) N1.out N3.out (Nat.zero_le _) _ rfl ?_; intro qxg qxc qxw qx_own qx_grow qx_at qx_lt
          refine hK.out _ _ (hHeld.grown qx_grow (fun e => (ANE.out _ e.symm).2 rfl)) (fun hHeld => ?_)
          clear hK K
          try simp only [Act.put, List.setIfInBounds_toArray, List.set_cons_zero, List.set_cons_succ]
          refine wpAnyL_move (i := 16) (v := ?_) (by rfl) (by kernel_rfl) (by kernel_rfl) (by kernel_rfl) (by rfl) (by exact fun _ _ _ h => h) (Or.inl ⟨by rfl, ?_⟩) (by assumption) ?_; rotate_left; · (intro w0; go_simp; try with_reducible rfl)
          try simp only [Act.put, List.setIfInBounds_toArray, List.set_cons_zero, List.set_cons_succ]
          refine wpAnyL_move (i := 17) (v := ?_) (by rfl) (by kernel_rfl) (by kernel_rfl) (by kernel_rfl) (by rfl) (by exact fun _ _ _ h => h) (Or.inl ⟨by rfl, ?_⟩) (by assumption) ?_; rotate_left; · (intro w0; go_simp; try with_reducible rfl)
          try simp only [Act.put, List.setIfInBounds_toArray, List.set_cons_zero, List.set_cons_succ]
          obtain ⟨k1, k2, k3, k4, k5⟩ := hHeld
          refine wpAnyL_late (i := 18) (by kernel_rfl) (by rfl) (by rfl) (fun K hK => ?_)
          go_simp
          refine hK.out _ _ ?_
          clear hK K
          try simp only [Act.put, List.setIfInBounds_toArray, List.set_cons_zero, List.set_cons_succ]
          refine wpAny_move (i := 19) (v := ?_) (by rfl) (by kernel_rfl) (by kernel_rfl) (by kernel_rfl) (by exact fun _ _ _ h => h) (Or.inl ⟨by rfl, ?_⟩) ?_; rotate_left; · (intro w0; go_simp; try with_reducible rfl)
          try simp only [Act.put, List.setIfInBounds_toArray, List.set_cons_zero, List.set_cons_succ]
          refine wpAny_move (i := 20) (v := ?_) (by rfl) (by kernel_rfl) (by kernel_rfl) (by kernel_rfl) (by exact fun _ _ _ h => h) (Or.inl ⟨by rfl, ?_⟩) ?_; rotate_left; · (intro w0; go_simp; try with_reducible rfl)
          try simp only [Act.put, List.setIfInBounds_toArray, List.set_cons_zero, List.set_cons_succ]
          refine wpAny_step (i := 21) (by kernel_rfl) (by rfl) (fun K hK => ?_)
          go_simp
          refine hK.out _ _ ?_
          clear hK K
          try simp only [Act.put, List.setIfInBounds_toArray, List.set_cons_zero, List.set_cons_succ]
          refine wpAny_done (by kernel_rfl) ?_ _
          obtain ⟨P, hP, m1, m2, m3⟩ := put_mid H.out rfl hs he (show Far none w _ from (((Far.refl none w).drew.alloc _).alloc _)) px_own px_grow px_at px_lt (show Far none pxw _ from (Far.refl none pxw)) qx_own qx_grow qx_at qx_lt ((((((Step.refl G w).drewN 1).alloc _).alloc _).grown px_grow (fun k hk => .inl (H.out.gl k hk))).grown qx_grow (fun k hk => .inl (H.out.ga k hk)))
          rw [← hP]
          clear hP k1 k2 k3 k4 k5 px_own qx_own px_grow qx_grow px_at qx_at px_lt qx_lt
          rw [show ((g.end_ + (s.size + 12) : Nat) : Int) = (g.end_ : Int) + ((s.size : Int) + 12) by omega] at m3
          have M3 := Lib.hid m3
          clear m3
          go_wp2
          go_ret
          exact ⟨rfl, M3.out⟩
        exact EachL.nil
      exact EachL.nil
    exact EachL.nil
  exact EachL.nil
end Go.Proofs.Ytnobiekgifjaeaa
