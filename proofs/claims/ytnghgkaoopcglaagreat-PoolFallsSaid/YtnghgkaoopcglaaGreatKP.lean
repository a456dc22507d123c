/-
  The pool in memory.
-/
import Derived.Test.YtnghgkaoopcglaaGreatK1
namespace Go.Proofs.YtnghgkaoopcglaaGreat
open Go.RowKit

def FrV (f : Fr) (sv : Value) : Value := .agg #[.int .u32 (f.p.num : Int), .int .u64 (f.p.lsn : Int), .int .i64 f.p.kind, .string f.p.head, sv, .int .u64 (f.dirty : Int)]
def poCells (db lb mb : Nat) (pk : Value) (q : Po) : Array Value := #[.pointer (some ⟨db, 0, none⟩), .pointer (some ⟨lb, 0, none⟩), .int .i64 (q.most : Int), .map (some mb), pk, .int .i64 q.reads, .int .i64 q.writes]
structure FrAt (w : World) (H : Nat → Prop) (a : Nat × Value) (f : Nat × Fr) : Prop where
  key : a.1 = f.1
  val : ∃ sv, a.2 = FrV f.2 sv ∧ Reads w sv f.2.p.slots ∧ ∀ k, sv.ownBlock = some k → H k
  mild : f.2.p.mild
  dirty : f.2.dirty < 18446744073709551616
inductive FrsAt (w : World) (H : Nat → Prop) : List (Nat × Value) → List (Nat × Fr) → Prop
  | nil : FrsAt w H [] []
  | cons {a f vs fs} : FrAt w H a f → FrsAt w H vs fs → FrsAt w H (a :: vs) (f :: fs)
/-- integers that are read at a slice -/
def Picks (w : World) (H : Nat → Prop) (v : Value) (l : List Int) : Prop :=
  (v = .slice none 0 0 ∧ l = []) ∨ ∃ b o cap, v = .slice (some ⟨b, o, none⟩) l.length cap ∧ l.length ≤ cap ∧ cap ≤ maxLen ∧ b < w.heap.size ∧ H b ∧ ∀ (i : Nat) (x : Int), l[i]? = some x → w.cell? ⟨b, o + i, none⟩ = some (.int .i64 x)
/-- the pool's rows: neither its own block nor its map's -/
def HX (H : Nat → Prop) (pb mb : Nat) : Nat → Prop := fun r => H r ∧ r ≠ pb ∧ r ≠ mb
structure PoolIn (w : World) (H : Nat → Prop) (pb db lb mb : Nat) (pk : Value) (vs : List (Nat × Value)) (q : Po) : Prop where
  blk : Blk w pb 160 (poCells db lb mb pk q)
  map : MapL w mb vs
  frs : FrsAt w (HX H pb mb) vs q.frames
  hpb : H pb
  hmb : H mb
  lt : ∀ r, H r → r < w.heap.size
  picks : Picks w (HX H pb mb) pk q.picks
  le : q.frames.length ≤ q.most
  most1 : 1 ≤ q.most
  most : q.most ≤ 65536
  keys : ∀ p ∈ q.frames, 1 ≤ p.1 ∧ p.1 ≤ 2048
def PoolAt (w : World) (H : Nat → Prop) (pb db lb : Nat) (q : Po) : Prop := ∃ mb pk vs, PoolIn w H pb db lb mb pk vs q

section
variable {w w' : World} {H H' : Nat → Prop} {pb db lb mb : Nat} {pk : Value} {vs : List (Nat × Value)} {q : Po} {fs : List (Nat × Fr)}
theorem Reads.keep {v : Value} {l : List ByteArray} (h : Reads w v l) (hH : ∀ k, v.ownBlock = some k → H k) (hk : ∀ r, H r → w'.heap[r]? = w.heap[r]?) : Reads w' v l := h.same fun k hkk => hk k (hH k hkk)
theorem FrAt.keep {a : Nat × Value} {f : Nat × Fr} (h : FrAt w H a f) (hk : ∀ r, H r → w'.heap[r]? = w.heap[r]?) (hw : ∀ r, H r → H' r) : FrAt w' H' a f := by
  obtain ⟨h1, ⟨sv, h2, h3, h4⟩, h5, h6⟩ := h
  exact ⟨h1, ⟨sv, h2, h3.keep h4 hk, fun k e => hw k (h4 k e)⟩, h5, h6⟩
theorem FrsAt.keep (h : FrsAt w H vs fs) (hk : ∀ r, H r → w'.heap[r]? = w.heap[r]?) (hw : ∀ r, H r → H' r) : FrsAt w' H' vs fs := by
  induction h with
  | nil => exact .nil
  | cons h1 _ ih => exact .cons (h1.keep hk hw) ih
theorem FrsAt.length (h : FrsAt w H vs fs) : vs.length = fs.length := by
  induction h with
  | nil => rfl
  | cons _ _ ih => simp [ih]
theorem FrsAt.keys (h : FrsAt w H vs fs) : vs.map (·.1) = fs.map (·.1) := by
  induction h with
  | nil => rfl
  | cons h1 _ ih => simp [ih, h1.key]
theorem FrsAt.get (h : FrsAt w H vs fs) (n : Nat) : (getL n vs = none ∧ getL n fs = none) ∨ ∃ v f, getL n vs = some v ∧ getL n fs = some f ∧ FrAt w H (n, v) (n, f) := by
  induction h with
  | nil => exact .inl ⟨rfl, rfl⟩
  | @cons a f vs fs h1 _ ih =>
    obtain ⟨k, v⟩ := a
    obtain ⟨k', f⟩ := f
    have hk := h1.key
    simp only at hk
    subst hk
    unfold getL
    by_cases e : k = n
    · subst e
      rw [if_pos rfl, if_pos rfl]
      exact .inr ⟨v, f, rfl, rfl, h1⟩
    · rw [if_neg e, if_neg e]
      exact ih
theorem FrsAt.put (h : FrsAt w H vs fs) {n : Nat} {v : Value} {f : Fr} (hf : FrAt w H (n, v) (n, f)) : FrsAt w H (putL n v vs) (putL n f fs) := by
  induction h with
  | nil => exact .cons hf .nil
  | @cons a f' vs fs h1 h2 ih =>
    obtain ⟨k, v'⟩ := a
    obtain ⟨k', f'⟩ := f'
    have hk := h1.key
    simp only at hk
    subst hk
    unfold putL
    split
    · exact .cons hf (.cons h1 h2)
    · split
      · exact .cons hf h2
      · exact .cons h1 ih
theorem FrsAt.del (h : FrsAt w H vs fs) (n : Nat) : FrsAt w H (delL n vs) (delL n fs) := by
  induction h with
  | nil => exact .nil
  | @cons a f vs fs h1 h2 ih =>
    have hk := h1.key
    unfold delL at ih ⊢
    by_cases e : f.1 = n
    · rw [List.filter_cons_of_neg (by simp [hk, e]), List.filter_cons_of_neg (by simp [e])]
      exact ih
    · rw [List.filter_cons_of_pos (by simp [hk, e]), List.filter_cons_of_pos (by simp [e])]
      exact .cons h1 ih
theorem FrsAt.rising (h : FrsAt w H vs fs) (hr : RisingL vs) : RisingL fs := by
  have := h.keys
  unfold RisingL at hr ⊢
  rw [← List.pairwise_map (f := fun p : Nat × Value => p.1) (R := fun a b => a < b)] at hr
  rw [← List.pairwise_map (f := fun p : Nat × Fr => p.1) (R := fun a b => a < b), ← this]
  exact hr
theorem PoolIn.rising (h : PoolIn w H pb db lb mb pk vs q) : RisingL q.frames := h.frs.rising h.map.rising
theorem Picks.keep {l : List Int} (h : Picks w H pk l) (hk : ∀ r, H r → w'.heap[r]? = w.heap[r]?) (hs : w.heap.size ≤ w'.heap.size) (hw : ∀ r, H r → H' r) : Picks w' H' pk l := by
  rcases h with h | ⟨b, o, cap, e, h1, h2, h3, h4, h5⟩
  · exact .inl h
  · exact .inr ⟨b, o, cap, e, h1, h2, Nat.lt_of_lt_of_le h3 hs, hw b h4, fun i x hi => (World.cell?_of_block (a := ⟨b, o + i, none⟩) (hk b h4)).trans (h5 i x hi)⟩
theorem PoolIn.keep (h : PoolIn w H pb db lb mb pk vs q) (hk : ∀ r, H r → w'.heap[r]? = w.heap[r]?) (hs : w.heap.size ≤ w'.heap.size) : PoolIn w' H pb db lb mb pk vs q :=
  ⟨h.blk.same (hk pb h.hpb), h.map.same (hk mb h.hmb), h.frs.keep (fun r hr => hk r hr.1) (fun _ h => h), h.hpb, h.hmb, fun r hr => Nat.lt_of_lt_of_le (h.lt r hr) hs, h.picks.keep (fun r hr => hk r hr.1) hs (fun _ h => h), h.le, h.most1, h.most, h.keys⟩
theorem PoolIn.below (h : PoolIn w H pb db lb mb pk vs q) (hb : Below w.heap.size w w') : PoolIn w' H pb db lb mb pk vs q := h.keep (fun r hr => hb.block r (h.lt r hr)) hb.size
theorem PoolIn.ne (h : PoolIn w H pb db lb mb pk vs q) : mb ≠ pb := by
  intro e
  obtain ⟨es, clock, hb, _⟩ := h.map.own
  have := h.blk
  unfold Blk at this
  rw [← e, hb] at this
  cases this
/-- frames are stored or struck -/
theorem PoolIn.mapped (h : PoolIn w H pb db lb mb pk vs q) (hg : w.grownBy w' (some mb)) {vs' : List (Nat × Value)} {fs' : List (Nat × Fr)} (hm : MapL w' mb vs')
    (hf : FrsAt w (HX H pb mb) vs' fs') (hl : fs'.length ≤ q.most) (hks : ∀ p ∈ fs', 1 ≤ p.1 ∧ p.1 ≤ 2048) : PoolIn w' H pb db lb mb pk vs' { q with frames := fs' } := by
  have hk : ∀ r, HX H pb mb r → w'.heap[r]? = w.heap[r]? := fun r hr => hg.block r (h.lt r hr.1) (fun e => hr.2.2 (Option.some.inj e))
  exact ⟨h.blk.same (hg.block pb h.blk.lt (fun e => h.ne (Option.some.inj e).symm)), hm, hf.keep hk (fun _ h => h), h.hpb, h.hmb, fun r hr => Nat.lt_of_lt_of_le (h.lt r hr) hg.size, h.picks.keep hk hg.size (fun _ h => h), hl, h.most1, h.most, hks⟩
theorem HX.mono (hw : ∀ r, H r → H' r) : ∀ r, HX H pb mb r → HX H' pb mb r := fun r hr => ⟨hw r hr.1, hr.2⟩
/-- the footprint grows by what is new -/
theorem PoolIn.wider (h : PoolIn w H pb db lb mb pk vs q) (hw : ∀ r, H r → H' r) (hl : ∀ r, H' r → r < w.heap.size) : PoolIn w H' pb db lb mb pk vs q :=
  ⟨h.blk, h.map, h.frs.keep (fun _ _ => rfl) (HX.mono hw), hw pb h.hpb, hw mb h.hmb, hl, h.picks.keep (fun _ _ => rfl) (Nat.le_refl _) (HX.mono hw), h.le, h.most1, h.most, h.keys⟩
/-- a cell of the pool's own is stored -/
theorem PoolIn.set (h : PoolIn w H pb db lb mb pk vs q) (i : Nat) (u : Value) (pk' : Value) (q' : Po) (hcs : (poCells db lb mb pk q).setIfInBounds i u = poCells db lb mb pk' q') (hfr : q'.frames = q.frames) (hmo : q'.most = q.most) (hpk : Picks w (HX H pb mb) pk' q'.picks) :
    PoolIn (w.setCell ⟨pb, i, none⟩ u) H pb db lb mb pk' vs q' := by
  have hne := h.ne
  have hb := h.blk.set_ i u
  rw [hcs] at hb
  have hk : ∀ r, r ≠ pb → (w.setCell ⟨pb, i, none⟩ u).heap[r]? = w.heap[r]? := fun r hr => Below.heap_setCell w ⟨pb, i, none⟩ u r hr
  have hsz : (w.setCell ⟨pb, i, none⟩ u).heap.size = w.heap.size := by simp
  refine ⟨hb, h.map.same (hk mb hne), ?_, h.hpb, h.hmb, fun r hr => by rw [hsz]; exact h.lt r hr, hpk.keep (fun r hr => hk r hr.2.1) (by rw [hsz]; exact Nat.le_refl _) (fun _ h => h), ?_, ?_, ?_, by rw [hfr]; exact h.keys⟩
  · rw [hfr]; exact h.frs.keep (fun r hr => hk r hr.2.1) (fun _ h => h)
  · rw [hfr, hmo]; exact h.le
  · rw [hmo]; exact h.most1
  · rw [hmo]; exact h.most
theorem PoolIn.drewN (h : PoolIn w H pb db lb mb pk vs q) (n : Nat) : PoolIn (w.drewN n) H pb db lb mb pk vs q := h.keep (fun _ _ => rfl) (Nat.le_refl _)
theorem PoolIn.cells (h : PoolIn w H pb db lb mb pk vs q) :
    w.cell? ⟨pb, 0, none⟩ = some (.pointer (some ⟨db, 0, none⟩)) ∧ w.cell? ⟨pb, 1, none⟩ = some (.pointer (some ⟨lb, 0, none⟩)) ∧ w.cell? ⟨pb, 2, none⟩ = some (.int .i64 (q.most : Int)) ∧ w.cell? ⟨pb, 3, none⟩ = some (.map (some mb)) ∧
    w.cell? ⟨pb, 4, none⟩ = some pk ∧ w.cell? ⟨pb, 5, none⟩ = some (.int .i64 q.reads) ∧ w.cell? ⟨pb, 6, none⟩ = some (.int .i64 q.writes) :=
  ⟨h.blk.cell 0, h.blk.cell 1, h.blk.cell 2, h.blk.cell 3, h.blk.cell 4, h.blk.cell 5, h.blk.cell 6⟩
end

/-! the disk, the log and the pool -/
def PX (w : World) (U : Nat → Prop) (b lb pb : Nat) (m : Dk) (g : Lg) (q : Po) : Prop :=
  ∃ F G H mb pk vs, BothIn w F G b lb m g ∧ PoolIn w H pb b lb mb pk vs q ∧ (∀ r, H r → ¬ (F r ∨ G r)) ∧ ∀ r, (F r ∨ G r) ∨ H r → U r
def PPost (w : World) (U : Nat → Prop) (b lb pb : Nat) (m : Dk) (g : Lg) (q : Po) (w' : World) : Prop := ∃ U', PX w' U' b lb pb m g q ∧ Step U w w' ∧ More U U' w
section
variable {w w' w1 : World} {U U1 F G H F' G' : Nat → Prop} {b lb pb mb : Nat} {m m' m1 : Dk} {g g' g1 : Lg} {q q' q1 : Po} {pk : Value} {vs : List (Nat × Value)}
theorem PPost.trans (hs : Step U w w1) (hm : More U U1 w) (h : PPost w1 U1 b lb pb m' g' q' w') : PPost w U b lb pb m' g' q' w' := by
  obtain ⟨U', h1, h2, h3⟩ := h
  exact ⟨U', h1, hs.trans hm h2, hm.trans hs.size h3⟩
theorem PPost.then (h : PPost w U b lb pb m1 g1 q1 w1) (k : ∀ U1, PX w1 U1 b lb pb m1 g1 q1 → PPost w1 U1 b lb pb m' g' q' w') : PPost w U b lb pb m' g' q' w' := by
  obtain ⟨U1, h1, h2, h3⟩ := h
  exact PPost.trans h2 h3 (k U1 h1)
theorem PX.lt (h : PX w U b lb pb m g q) : pb < w.heap.size := by
  obtain ⟨F, G, H, mb, pk, vs, _, h2, _⟩ := h
  exact h2.blk.lt
theorem PX.keep (h : PX w U b lb pb m g q) (hk : ∀ r, U r → w'.heap[r]? = w.heap[r]?) (hs : w.heap.size ≤ w'.heap.size) : PX w' U b lb pb m g q := by
  obtain ⟨F, G, H, mb, pk, vs, h1, h2, h3, h4⟩ := h
  exact ⟨F, G, H, mb, pk, vs, h1.keep (fun r hr => hk r (h4 r (.inl hr))) hs, h2.keep (fun r hr => hk r (h4 r (.inr hr))) hs, h3, h4⟩
theorem PX.fit (h : PX w U b lb pb m g q) : ∃ U', PX w U' b lb pb m g q ∧ (∀ r, U' r → U r) ∧ ∀ r, U' r → r < w.heap.size := by
  obtain ⟨F, G, H, mb, pk, vs, h1, h2, h3, h4⟩ := h
  refine ⟨fun r => (F r ∨ G r) ∨ H r, ⟨F, G, H, mb, pk, vs, h1, h2, h3, fun _ h => h⟩, h4, fun r hr => ?_⟩
  rcases hr with (hr | hr) | hr
  · exact h1.dsk.lt r hr
  · exact h1.wal.lt r hr
  · exact h2.lt r hr
theorem PX.below (h : PX w U b lb pb m g q) (hb : Below w.heap.size w w') : PX w' U b lb pb m g q := by
  obtain ⟨U', h1, h2, h3⟩ := h.fit
  have := h1.keep (fun r hr => hb.block r (h3 r hr)) hb.size
  obtain ⟨F, G, H, mb, pk, vs, k1, k2, k3, k4⟩ := this
  exact ⟨F, G, H, mb, pk, vs, k1, k2, k3, fun r hr => h2 r (k4 r hr)⟩
theorem PPost.refl (h : PX w U b lb pb m g q) : PPost w U b lb pb m g q w := ⟨U, h, Step.refl U w, More.refl U w⟩
theorem PX.belowP (h : PX w U b lb pb m g q) (hb : Below w.heap.size w w') : PPost w U b lb pb m g q w' := ⟨U, h.below hb, Step.below hb, More.refl U w⟩
theorem PPost.below (h : PPost w U b lb pb m g q w1) (hb : Below w1.heap.size w1 w') : PPost w U b lb pb m g q w' := h.then fun _ h1 => h1.belowP hb
/-- disk and log go on, the pool stays -/
theorem PX.both (_h1 : BothIn w F G b lb m g) (h2 : PoolIn w H pb b lb mb pk vs q) (h3 : ∀ r, H r → ¬ (F r ∨ G r)) (hp : BPost w F G b lb m' g' w') :
    ∃ F' G', BothIn w' F' G' b lb m' g' ∧ PoolIn w' H pb b lb mb pk vs q ∧ (∀ r, H r → ¬ (F' r ∨ G' r)) ∧ Step (fun r => F r ∨ G r) w w' ∧ (∀ r, F' r ∨ G' r → (F r ∨ G r) ∨ w.heap.size ≤ r) := by
  obtain ⟨F', G', k1, k2, k3, k4⟩ := hp
  have hm : ∀ r, F' r ∨ G' r → (F r ∨ G r) ∨ w.heap.size ≤ r := fun r hr => by
    rcases hr with hr | hr
    · rcases k3 r hr with h | h
      · exact .inl (.inl h)
      · exact .inr h
    · rcases k4 r hr with h | h
      · exact .inl (.inr h)
      · exact .inr h
  refine ⟨F', G', k1, h2.keep (fun r hr => k2.block r (h2.lt r hr) (h3 r hr)) k2.size, fun r hr hf => ?_, k2, hm⟩
  rcases hm r hf with h | h
  · exact h3 r hr h
  · have := h2.lt r hr
    omega
theorem PX.bothP (h : PX w U b lb pb m g q) (k : ∀ F G, BothIn w F G b lb m g → BPost w F G b lb m' g' w') : PPost w U b lb pb m' g' q w' := by
  obtain ⟨F, G, H, mb, pk, vs, h1, h2, h3, h4⟩ := h
  obtain ⟨F', G', k1, k2, k3, k4, k5⟩ := PX.both h1 h2 h3 (k F G h1)
  refine ⟨fun r => (F' r ∨ G' r) ∨ H r, ⟨F', G', H, mb, pk, vs, k1, k2, k3, fun _ h => h⟩, k4.wider (fun r hr => h4 r (.inl hr)), fun r hr => ?_⟩
  rcases hr with hr | hr
  · rcases k5 r hr with h | h
    · exact .inl (h4 r (.inl h))
    · exact .inr h
  · exact .inl (h4 r (.inr hr))
/-- the pool is turned, and nothing else -/
theorem PX.poolP (h1 : BothIn w F G b lb m g) (_h2 : ∀ r, H r → r < w.heap.size) (h3 : ∀ r, H r → ¬ (F r ∨ G r)) (h4 : ∀ r, (F r ∨ G r) ∨ H r → U r) {H' : Nat → Prop} (hp : PoolIn w' H' pb b lb mb pk vs q) (hs : Step H w w') (hm : More H H' w) : PPost w U b lb pb m g q w' := by
  have hlt : ∀ r, F r ∨ G r → r < w.heap.size := fun r hr => by
    rcases hr with hr | hr
    · exact h1.dsk.lt r hr
    · exact h1.wal.lt r hr
  refine ⟨fun r => (F r ∨ G r) ∨ H' r, ⟨F, G, H', mb, pk, vs, h1.keep (fun r hr => hs.block r (hlt r hr) (fun hh => h3 r hh hr)) hs.size, hp, fun r hr hf => ?_, fun _ h => h⟩, hs.wider (fun r hr => h4 r (.inr hr)), fun r hr => ?_⟩
  · rcases hm r hr with h | h
    · exact h3 r h hf
    · have := hlt r hf
      omega
  · rcases hr with hr | hr
    · exact .inl (h4 r (.inl hr))
    · rcases hm r hr with h | h
      · exact .inl (h4 r (.inr h))
      · exact .inr h
end
/-! in a function's body: the disk and the log are turned; the pool and what the function itself has laid (the blocks K) stay: P tells of them -/
def PS (w : World) (F G H K : Nat → Prop) (P : World → Prop) (b lb : Nat) (m : Dk) (g : Lg) (W : World) : Prop :=
  ∃ F' G', BothIn W F' G' b lb m g ∧ (∀ r, F' r ∨ G' r → (F r ∨ G r) ∨ w.heap.size ≤ r) ∧ (∀ r, H r ∨ K r → r < W.heap.size ∧ ¬ (F' r ∨ G' r)) ∧ P W ∧ Step (fun r => (F r ∨ G r) ∨ H r) w W
def StableP (H K : Nat → Prop) (P : World → Prop) : Prop := ∀ W W' : World, P W → W.heap.size ≤ W'.heap.size → (∀ r, H r ∨ K r → W'.heap[r]? = W.heap[r]?) → P W'
section
variable {w W W' : World} {U F G H K K' : Nat → Prop} {P P' : World → Prop} {b lb pb mb : Nat} {m m' : Dk} {g g' : Lg} {q : Po} {pk : Value} {vs : List (Nat × Value)}
theorem PS.start (h1 : BothIn w F G b lb m g) (h2 : ∀ r, H r → r < w.heap.size) (h3 : ∀ r, H r → ¬ (F r ∨ G r)) (hP : P w) : PS w F G H (fun _ => False) P b lb m g w :=
  ⟨F, G, h1, fun r hr => .inl hr, fun r hr => by rcases hr with hr | hr; exact ⟨h2 r hr, h3 r hr⟩; exact hr.elim, hP, Step.refl _ w⟩
theorem PS.own (h : PS w F G H K P b lb m g W) : P W := by obtain ⟨_, _, _, _, _, h, _⟩ := h; exact h
theorem PS.lt (h : PS w F G H K P b lb m g W) : ∀ r, H r ∨ K r → r < W.heap.size := by obtain ⟨_, _, _, _, h, _⟩ := h; exact fun r hr => (h r hr).1
theorem PS.size (h : PS w F G H K P b lb m g W) : w.heap.size ≤ W.heap.size := by obtain ⟨_, _, _, _, _, _, h⟩ := h; exact h.size
theorem PS.both (h : PS w F G H K P b lb m g W) : ∃ F' G', BothIn W F' G' b lb m g := by obtain ⟨F', G', h, _⟩ := h; exact ⟨F', G', h⟩
theorem PS.ok (h : PS w F G H K P b lb m g W) : m.ok ∧ g.ok := by obtain ⟨_, _, h⟩ := h.both; exact ⟨h.dsk.ok, h.wal.ok⟩
theorem PS.post (hst : StableP H K P) (h : PS w F G H K P b lb m g W) (hp : ∀ F' G', BothIn W F' G' b lb m g → BPost W F' G' b lb m' g' W') : PS w F G H K P b lb m' g' W' := by
  obtain ⟨F', G', h1, h2, h3, h4, h5⟩ := h
  obtain ⟨F2, G2, k1, k2, k3, k4⟩ := hp F' G' h1
  have hm : ∀ r, F2 r ∨ G2 r → (F' r ∨ G' r) ∨ W.heap.size ≤ r := fun r hr => by
    rcases hr with hr | hr
    · rcases k3 r hr with h | h
      · exact .inl (.inl h)
      · exact .inr h
    · rcases k4 r hr with h | h
      · exact .inl (.inr h)
      · exact .inr h
  refine ⟨F2, G2, k1, fun r hr => ?_, fun r hr => ⟨Nat.lt_of_lt_of_le (h3 r hr).1 k2.size, fun hf => ?_⟩, hst W W' h4 k2.size (fun r hr => k2.block r (h3 r hr).1 (h3 r hr).2), h5.trans ?_ k2⟩
  · rcases hm r hr with h | h
    · exact h2 r h
    · exact .inr (Nat.le_trans h5.size h)
  · rcases hm r hf with h | h
    · exact (h3 r hr).2 h
    · have := (h3 r hr).1
      omega
  · intro r hr
    rcases h2 r hr with h | h
    · exact .inl (.inl h)
    · exact .inr h
theorem PS.calls (hst : StableP H K P) (h : PS w F G H K P b lb m g W) {f : FuncId} {args : Array Value} {v : Ending} (hc : ∀ F' G', BothIn W F' G' b lb m g → Calls Tryz.prog f args W fun e w' => e = v ∧ BPost W F' G' b lb m' g' w') :
    Calls Tryz.prog f args W fun e w' => e = v ∧ PS w F G H K P b lb m' g' w' := by
  have h0 := h
  obtain ⟨F', G', h1, h2, h3, h4, h5⟩ := h
  refine (hc F' G' h1).mono fun e w' ⟨he, hp⟩ => ⟨he, ?_⟩
  obtain ⟨F2, G2, k1, k2, k3, k4⟩ := hp
  have hm : ∀ r, F2 r ∨ G2 r → (F' r ∨ G' r) ∨ W.heap.size ≤ r := fun r hr => by
    rcases hr with hr | hr
    · rcases k3 r hr with h | h
      · exact .inl (.inl h)
      · exact .inr h
    · rcases k4 r hr with h | h
      · exact .inl (.inr h)
      · exact .inr h
  refine ⟨F2, G2, k1, fun r hr => ?_, fun r hr => ⟨Nat.lt_of_lt_of_le (h3 r hr).1 k2.size, fun hf => ?_⟩, hst W w' h4 k2.size (fun r hr => k2.block r (h3 r hr).1 (h3 r hr).2), h5.trans ?_ k2⟩
  · rcases hm r hr with h | h
    · exact h2 r h
    · exact .inr (Nat.le_trans h5.size h)
  · rcases hm r hf with h | h
    · exact (h3 r hr).2 h
    · have := (h3 r hr).1
      omega
  · intro r hr
    rcases h2 r hr with h | h
    · exact .inl (.inl h)
    · exact .inr h
theorem PS.disk (hst : StableP H K P) (h : PS w F G H K P b lb m g W) {f : FuncId} {args : Array Value} {v : Ending} (hc : ∀ F', DiskAt W F' b m → Calls Tryz.prog f args W fun e w' => e = v ∧ DPost W F' b m' w') :
    Calls Tryz.prog f args W fun e w' => e = v ∧ PS w F G H K P b lb m' g w' :=
  h.calls hst fun F' _G' h1 => (hc F' h1.dsk).mono fun _e _w' ⟨he, hp⟩ => ⟨he, h1.disk hp⟩
/-- new blocks, and turns of the function's own -/
theorem PS.turn (h : PS w F G H K P b lb m g W) (hs : Step (fun r => K r) W W') (hk : ∀ r, K r → w.heap.size ≤ r) (hK : ∀ r, K' r → K r ∨ W.heap.size ≤ r) (hlt : ∀ r, K' r → r < W'.heap.size) (hP : P' W') : PS w F G H K' P' b lb m g W' := by
  obtain ⟨F', G', h1, h2, h3, h4, h5⟩ := h
  have hl : ∀ r, F' r ∨ G' r → r < W.heap.size := fun r hr => by
    rcases hr with hr | hr
    · exact h1.dsk.lt r hr
    · exact h1.wal.lt r hr
  refine ⟨F', G', h1.keep (fun r hr => hs.block r (hl r hr) (fun hh => (h3 r (.inr hh)).2 hr)) hs.size, h2, fun r hr => ?_, hP, ?_⟩
  · rcases hr with hr | hr
    · exact ⟨Nat.lt_of_lt_of_le (h3 r (.inl hr)).1 hs.size, (h3 r (.inl hr)).2⟩
    · refine ⟨hlt r hr, fun hf => ?_⟩
      rcases hK r hr with h | h
      · exact (h3 r (.inr h)).2 hf
      · have := hl r hf
        omega
  · exact ⟨hs.os.trans h5.os, hs.tape.trans h5.tape, hs.output.trans h5.output, Nat.le_trans h5.size hs.size, fun r hr hn => (hs.block r (Nat.lt_of_lt_of_le hr h5.size) (fun hh => by have := hk r hh; omega)).trans (h5.block r hr hn)⟩
theorem PS.below (hst : StableP H K P) (h : PS w F G H K P b lb m g W) (hb : Below W.heap.size W W') : PS w F G H K P b lb m g W' :=
  h.post hst fun _ _ h1 => BPost.below h1 hb
/-- the end: the pool is what it was -/
theorem PS.px (h : PS w F G H K P b lb m g W) (hP : PoolIn W H pb b lb mb pk vs q) (hU : ∀ r, (F r ∨ G r) ∨ H r → U r) : ∃ U', PX W U' b lb pb m g q ∧ Step U w W ∧ More U U' w := by
  obtain ⟨F', G', h1, h2, h3, h4, h5⟩ := h
  refine ⟨fun r => (F' r ∨ G' r) ∨ H r, ⟨F', G', H, mb, pk, vs, h1, hP, fun r hr => (h3 r (.inl hr)).2, fun _ h => h⟩, h5.wider hU, fun r hr => ?_⟩
  rcases hr with hr | hr
  · rcases h2 r hr with h | h
    · exact .inl (hU r (.inl h))
    · exact .inr h
  · exact .inl (hU r (.inr hr))
theorem PS.post_ (h : PS w F G H K P b lb m g W) (hP : PoolIn W H pb b lb mb pk vs q) (hU : ∀ r, (F r ∨ G r) ∨ H r → U r) : PPost w U b lb pb m g q W := h.px hP hU
/-- the end: the pool is turned, too -/
theorem PS.pool {H' : Nat → Prop} {q' : Po} {pk' : Value} {vs' : List (Nat × Value)} (h : PS w F G H K P b lb m g W) (hU : ∀ r, (F r ∨ G r) ∨ H r → U r) (hs : Step (fun r => H r ∨ K r) W W') (hk : ∀ r, K r → w.heap.size ≤ r) (hP : PoolIn W' H' pb b lb mb pk' vs' q') (hm : ∀ r, H' r → (H r ∨ K r) ∨ W.heap.size ≤ r) :
    PPost w U b lb pb m g q' W' := by
  obtain ⟨F', G', h1, h2, h3, h4, h5⟩ := h
  have hl : ∀ r, F' r ∨ G' r → r < W.heap.size := fun r hr => by
    rcases hr with hr | hr
    · exact h1.dsk.lt r hr
    · exact h1.wal.lt r hr
  refine ⟨fun r => (F' r ∨ G' r) ∨ H' r, ⟨F', G', H', mb, pk', vs', h1.keep (fun r hr => hs.block r (hl r hr) (fun hh => (h3 r hh).2 hr)) hs.size, hP, fun r hr hf => ?_, fun _ h => h⟩, ?_, fun r hr => ?_⟩
  · rcases hm r hr with h | h
    · exact (h3 r h).2 hf
    · have := hl r hf
      omega
  · exact ⟨hs.os.trans h5.os, hs.tape.trans h5.tape, hs.output.trans h5.output, Nat.le_trans h5.size hs.size, fun r hr hn => (hs.block r (Nat.lt_of_lt_of_le hr h5.size) (fun hh => by
      rcases hh with hh | hh
      · exact hn (hU r (.inr hh))
      · have := hk r hh; omega)).trans (h5.block r hr (fun hh => hn (hU r hh)))⟩
  · rcases hr with hr | hr
    · rcases h2 r hr with h | h
      · exact .inl (hU r (.inl h))
      · exact .inr h
    · rcases hm r hr with (h | h) | h
      · exact .inl (hU r (.inr h))
      · exact .inr (hk r h)
      · exact .inr (Nat.le_trans h5.size h)
end
end Go.Proofs.YtnghgkaoopcglaaGreat
