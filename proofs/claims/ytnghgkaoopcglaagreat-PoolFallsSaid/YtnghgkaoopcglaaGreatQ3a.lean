/-
  The state while a page is read.
-/
import Derived.Test.YtnghgkaoopcglaaGreatQ2
import Derived.Test.YtnghgkaoopcglaaGreatR1
import Derived.Handy
namespace Go.Proofs.YtnghgkaoopcglaaGreat
open Go.RowKit
attribute [local go_sem ↓] Go.wp_at_zero Go.wp_at_succ

def DecPost (w : World) (s : ByteArray) (e : Ending) (w' : World) : Prop :=
  ∃ sv, e = .returned (.tuple #[ShV (decE s).1 sv, .int .i64 (decE s).2]) ∧ Reads w' sv (decE s).1.slots ∧ (∀ k, sv.ownBlock = some k → w.heap.size ≤ k) ∧ Below w.heap.size w w'
theorem dec_none {w w' : World} {s : ByteArray} {c : Int} {e : Ending} (h : decE s = (Sh.none, c)) (he : e = .returned (.tuple #[.agg #[.int .u32 0, .int .u64 0, .int .i64 0, .string ⟨#[]⟩, .slice none 0 0], .int .i64 c])) (hb : Below w.heap.size w w') : DecPost w s e w' := by
  refine ⟨.slice none 0 0, ?_, ?_, fun k hk => by simp [Value.ownBlock] at hk, hb⟩
  · rw [he, h]; rfl
  · rw [h]; exact .inl ⟨rfl, rfl⟩
theorem Blk.set5 {w : World} {r : Nat} {t : TypeId} {x0 x1 x2 x3 x4 v0 v1 v2 v3 v4 : Value} (h : Blk w r t #[x0, x1, x2, x3, x4]) :
    Blk (((((w.setCell ⟨r, 0, none⟩ v0).setCell ⟨r, 1, none⟩ v1).setCell ⟨r, 2, none⟩ v2).setCell ⟨r, 3, none⟩ v3).setCell ⟨r, 4, none⟩ v4) r t #[v0, v1, v2, v3, v4] := by
  have := ((((h.set_ 0 v0).set_ 1 v1).set_ 2 v2).set_ 3 v3).set_ 4 v4
  simpa using this
theorem RdAt.same {w w' : World} {rb : Nat} {r : Rd} (h : RdAt w rb r) (e : w'.heap[rb]? = w.heap[rb]?) : RdAt w' rb r := ⟨h.blk.same e, h.le, h.small⟩
theorem Rd.number_lt (r : Rd) (k : Nat) : (r.number k).1 < 256 ^ k := by
  have h : 0 < 256 ^ k := Nat.pow_pos (by decide)
  unfold Rd.number
  split
  · exact h
  · split
    · exact h
    · exact numAt_lt _ _ _
theorem Rd.bytes_le (r : Rd) (n : Nat) : (r.bytes n).1.size ≤ n := by
  unfold Rd.bytes
  split
  · exact Nat.zero_le _
  · split
    · exact Nat.zero_le _
    · show (r.s.extract r.at_ (r.at_ + n)).size ≤ n
      rw [ByteArray.size_extract]; omega
theorem Rd.numbers_len (k : Nat) : ∀ (n : Nat) (r : Rd), (Rd.numbers k n r).1.length = n ∧ ∀ x ∈ (Rd.numbers k n r).1, x < 256 ^ k
  | 0, _ => ⟨rfl, fun _ h => by simp [Rd.numbers] at h⟩
  | n + 1, r => by
    obtain ⟨h1, h2⟩ := Rd.numbers_len k n (r.number k).2
    unfold Rd.numbers
    refine ⟨by simp [h1], fun x hx => ?_⟩
    rcases List.mem_cons.1 hx with rfl | hx
    · exact Rd.number_lt r k
    · exact h2 x hx
theorem Rd.texts_len : ∀ (l : List Nat) (r : Rd), (∀ n ∈ l, n < 65536) → (Rd.texts l r).1.length = l.length ∧ slotsLen (Rd.texts l r).1 ≤ 65540 * l.length
  | [], _, _ => ⟨rfl, by simp [Rd.texts, slotsLen]⟩
  | n :: l, r, h => by
    obtain ⟨h1, h2⟩ := Rd.texts_len l (r.bytes n).2 (fun x hx => h x (List.mem_cons_of_mem _ hx))
    have h3 := h n (List.mem_cons_self ..)
    have h4 := Rd.bytes_le r n
    unfold Rd.texts
    refine ⟨by simp [h1], ?_⟩
    rw [slotsLen, List.length_cons]
    omega
theorem Rd.numbers_step {k n : Nat} {r : Rd} {x : Nat} {r' : Rd} (h : r.number k = (x, r')) : Rd.numbers k (n + 1) r = (x :: (Rd.numbers k n r').1, (Rd.numbers k n r').2) := by
  rw [Rd.numbers, h]
theorem Rd.texts_step {n : Nat} {l : List Nat} {r : Rd} {x : ByteArray} {r' : Rd} (h : r.bytes n = (x, r')) : Rd.texts (n :: l) r = (x :: (Rd.texts l r').1, (Rd.texts l r').2) := by
  rw [Rd.texts, h]

/-- while a page is read: the reader, the result's box, the page's box, its lengths and its slots -/
structure DecA (w W : World) (rb : Nat) (r : Rd) : Prop where
  rd : RdAt W rb r
  rbl : w.heap.size < rb
  box : Blk W w.heap.size 84 #[.int .u32 0, .int .u64 0, .int .i64 0, .string ⟨#[]⟩, .slice none 0 0]
  base : Below w.heap.size w W
structure DecB (w W : World) (rb : Nat) (r : Rd) (pb : Nat) (num lsn kn : Nat) (head : ByteArray) (lv : Value) (ls : List Nat) (sv : Value) (ss : List ByteArray) : Prop where
  a : DecA w W rb r
  pbl : w.heap.size < pb
  pbx : Blk W pb 84 #[.int .u32 (num : Int), .int .u64 (lsn : Int), .int .i64 (kn : Int), .string head, sv]
  longs : W.ownsRow w.heap.size 3 1 lv ls.length (ls.map fun n : Nat => Value.int .i64 (n : Int))
  slots : W.ownsRow w.heap.size 9 1 sv ss.length (ss.map Value.string)
section
variable {w W W' : World} {rb pb num lsn kn : Nat} {r r' : Rd} {head : ByteArray} {lv sv : Value} {ls : List Nat} {ss : List ByteArray}
theorem DecA.next (h : DecA w W rb r) (hp : RdPost W rb r' W') : DecA w W' rb r' := by
  refine ⟨hp.1, h.rbl, h.box.same (hp.2.block _ h.box.lt (fun e => ?_)), h.base.trans (hp.2.belowB (fun q hq => ?_) h.base.size)⟩
  · have := h.rbl
    have e' : w.heap.size = rb := e
    omega
  · have := h.rbl
    have e' : q = rb := hq
    omega
theorem DecA.number (h : DecA w W rb r) (k : Nat) (hk : k ≤ 8) : Calls Tryz.prog 52 #[.pointer (some ⟨rb, 0, none⟩), .int .i64 (k : Int)] W fun e w' => e = .returned (.int .u64 ((r.number k).1 : Int)) ∧ DecA w w' rb (r.number k).2 :=
  (rnumber_c h.rd k hk).mono fun _ _ ⟨he, hp⟩ => ⟨he, h.next hp⟩
theorem DecA.bytes (h : DecA w W rb r) (n : Nat) (hn : n ≤ 1000000000000) : Calls Tryz.prog 79 #[.pointer (some ⟨rb, 0, none⟩), .int .i64 (n : Int)] W fun e w' => e = .returned (.string (r.bytes n).1) ∧ DecA w w' rb (r.bytes n).2 :=
  (rbytes_c h.rd n hn).mono fun _ _ ⟨he, hp⟩ => ⟨he, h.next hp⟩
theorem DecA.below (h : DecA w W rb r) (hb : Below W.heap.size W W') : DecA w W' rb r :=
  ⟨h.rd.below hb, h.rbl, h.box.same (hb.block _ h.box.lt), h.base.trans (hb.mono h.base.size)⟩
theorem DecB.next (h : DecB w W rb r pb num lsn kn head lv ls sv ss) (hp : RdPost W rb r' W') : DecB w W' rb r' pb num lsn kn head lv ls sv ss :=
  ⟨h.a.next hp, h.pbl, h.pbx.same (hp.2.block _ h.pbx.lt (fun e => h.pbx.ne_ h.a.rd.blk (by decide) e)), own_same h.longs (fun k hk => hp.2.block k (h.longs.lt k hk).2 (fun e => own_blk_ne h.longs h.a.rd.blk (by decide) (by rw [hk, show k = rb from e]))),
    own_same h.slots (fun k hk => hp.2.block k (h.slots.lt k hk).2 (fun e => own_blk_ne h.slots h.a.rd.blk (by decide) (by rw [hk, show k = rb from e])))⟩
theorem DecB.number (h : DecB w W rb r pb num lsn kn head lv ls sv ss) (k : Nat) (hk : k ≤ 8) : Calls Tryz.prog 52 #[.pointer (some ⟨rb, 0, none⟩), .int .i64 (k : Int)] W fun e w' => e = .returned (.int .u64 ((r.number k).1 : Int)) ∧ DecB w w' rb (r.number k).2 pb num lsn kn head lv ls sv ss :=
  (rnumber_c h.a.rd k hk).mono fun _ _ ⟨he, hp⟩ => ⟨he, h.next hp⟩
theorem DecB.bytes (h : DecB w W rb r pb num lsn kn head lv ls sv ss) (n : Nat) (hn : n ≤ 1000000000000) : Calls Tryz.prog 79 #[.pointer (some ⟨rb, 0, none⟩), .int .i64 (n : Int)] W fun e w' => e = .returned (.string (r.bytes n).1) ∧ DecB w w' rb (r.bytes n).2 pb num lsn kn head lv ls sv ss :=
  (rbytes_c h.a.rd n hn).mono fun _ _ ⟨he, hp⟩ => ⟨he, h.next hp⟩
theorem DecB.below (h : DecB w W rb r pb num lsn kn head lv ls sv ss) (hb : Below W.heap.size W W') : DecB w W' rb r pb num lsn kn head lv ls sv ss :=
  ⟨h.a.below hb, h.pbl, h.pbx.same (hb.block _ h.pbx.lt), own_same h.longs (fun k hk => hb.block k (h.longs.lt k hk).2), own_same h.slots (fun k hk => hb.block k (h.slots.lt k hk).2)⟩
theorem DecB.setHead (h : DecB w W rb r pb num lsn kn head lv ls sv ss) (s : ByteArray) : DecB w (W.setCell ⟨pb, 3, none⟩ (.string s)) rb r pb num lsn kn s lv ls sv ss := by
  have hS : ∀ q, q ≠ pb → (W.setCell ⟨pb, 3, none⟩ (.string s)).heap[q]? = W.heap[q]? := fun q hq => Below.heap_setCell W _ _ q hq
  have h5 := h.pbl
  refine ⟨⟨h.a.rd.same (hS rb (h.a.rd.blk.ne_ h.pbx (by decide))), h.a.rbl, h.a.box.same (hS _ (by omega)), h.a.base.setCell (by simp only; omega) _⟩, h.pbl, ?_, ?_, ?_⟩
  · have := h.pbx.set_ 3 (.string s)
    simpa using this
  · exact own_same h.longs (fun k hk => hS k (fun e => own_blk_ne h.longs h.pbx (by decide) (by rw [hk, e])))
  · exact own_same h.slots (fun k hk => hS k (fun e => own_blk_ne h.slots h.pbx (by decide) (by rw [hk, e])))
theorem DecB.pushLong (h : DecB w W rb r pb num lsn kn head lv ls sv ss) {n g c : Nat} (ho : W'.ownsRow w.heap.size 3 1 (.slice (some ⟨g, 0, none⟩) (ls.length + 1) c) (ls.length + 1) (ls.map (fun n : Nat => Value.int .i64 (n : Int)) ++ [Value.int .i64 (n : Int)])) (hg : W.grownBy W' lv.ownBlock) :
    DecB w W' rb r pb num lsn kn head (.slice (some ⟨g, 0, none⟩) (ls.length + 1) c) (ls ++ [n]) sv ss := by
  have e : (ls ++ [n]).length = ls.length + 1 := by simp
  have hB : ∀ {g' : Nat} {t : TypeId} {cs : Array Value}, Blk W g' t cs → 3 ≠ t → W'.heap[g']? = W.heap[g']? := fun {g' t cs} hb hne => hg.block g' hb.lt (fun e => own_blk_ne h.longs hb hne e.symm)
  refine ⟨⟨h.a.rd.same (hB h.a.rd.blk (by decide)), h.a.rbl, h.a.box.same (hB h.a.box (by decide)), h.a.base.grown hg h.a.base.size (fun k hk => (h.longs.lt k hk).1)⟩, h.pbl, h.pbx.same (hB h.pbx (by decide)), ?_, own_same h.slots (fun k hk => hg.block k (h.slots.lt k hk).2 (fun e => own_own_ne h.slots h.longs (by decide) hk e.symm))⟩
  rw [e, List.map_append]
  exact ho
theorem DecB.longAt {la : Option Addr} {n lc k x : Nat} (h : DecB w W rb r pb num lsn kn head (.slice la n lc) ls sv ss) (hx : ls[k]? = some x) : ∃ g, la = some ⟨g, 0, none⟩ ∧ n = ls.length ∧ n ≤ lc ∧ lc ≤ maxLen ∧ W.cell? ⟨g, k, none⟩ = some (.int .i64 (x : Int)) := by
  rcases h.longs.2 with ⟨e, h0⟩ | ⟨g, cap, cur, e, hb, hh, h1, h2, _⟩
  · rw [List.eq_nil_of_length_eq_zero h0] at hx
    simp at hx
  · cases e
    refine ⟨g, rfl, rfl, h1, h2, ?_⟩
    have := h.longs.cells (g := g) (by rfl) k (.int .i64 (x : Int)) (by rw [List.getElem?_map, hx]; rfl)
    rwa [addr_add] at this
theorem DecB.pbxGrown (h : DecB w W rb r pb num lsn kn head lv ls sv ss) (hg : W.grownBy W' sv.ownBlock) : Blk W' pb 84 #[.int .u32 (num : Int), .int .u64 (lsn : Int), .int .i64 (kn : Int), .string head, sv] :=
  h.pbx.same (hg.block pb h.pbx.lt (fun e => own_blk_ne h.slots h.pbx (by decide) e.symm))
theorem DecB.pushSlot (h : DecB w W rb r pb num lsn kn head lv ls sv ss) {s : ByteArray} {g c : Nat} (ho : W'.ownsRow w.heap.size 9 1 (.slice (some ⟨g, 0, none⟩) (ss.length + 1) c) (ss.length + 1) (ss.map Value.string ++ [Value.string s])) (hg : W.grownBy W' sv.ownBlock) :
    DecB w (W'.setCell ⟨pb, 4, none⟩ (.slice (some ⟨g, 0, none⟩) (ss.length + 1) c)) rb r pb num lsn kn head lv ls (.slice (some ⟨g, 0, none⟩) (ss.length + 1) c) (ss ++ [s]) := by
  have e : (ss ++ [s]).length = ss.length + 1 := by simp
  have hB : ∀ {g' : Nat} {t : TypeId} {cs : Array Value}, Blk W g' t cs → 9 ≠ t → W'.heap[g']? = W.heap[g']? := fun {g' t cs} hb hne => hg.block g' hb.lt (fun e => own_blk_ne h.slots hb hne e.symm)
  have hP : Blk W' pb 84 _ := h.pbx.same (hB h.pbx (by decide))
  have hL : W'.ownsRow w.heap.size 3 1 lv ls.length (ls.map fun n : Nat => Value.int .i64 (n : Int)) := own_same h.longs (fun k hk => hg.block k (h.longs.lt k hk).2 (fun e => own_own_ne h.longs h.slots (by decide) hk e.symm))
  have hR : RdAt W' rb r := h.a.rd.same (hB h.a.rd.blk (by decide))
  have hS : ∀ q, q ≠ pb → (W'.setCell ⟨pb, 4, none⟩ (.slice (some ⟨g, 0, none⟩) (ss.length + 1) c)).heap[q]? = W'.heap[q]? := fun q hq => Below.heap_setCell W' _ _ q hq
  have h5 := h.pbl
  refine ⟨⟨hR.same (hS rb (hR.blk.ne_ hP (by decide))), h.a.rbl, (h.a.box.same (hB h.a.box (by decide))).same (hS _ (by omega)), (h.a.base.grown hg h.a.base.size (fun k hk => (h.slots.lt k hk).1)).setCell (by simp only; omega) _⟩, h.pbl, ?_, ?_, ?_⟩
  · have := hP.set_ 4 (.slice (some ⟨g, 0, none⟩) (ss.length + 1) c)
    simpa using this
  · exact own_same hL (fun k hk => hS k (fun e => own_blk_ne hL hP (by decide) (by rw [hk, e])))
  · rw [e, List.map_append]
    exact own_same ho (fun k hk => hS k (fun e => own_blk_ne ho hP (by decide) (by rw [hk, e])))
theorem DecB.done (h : DecB w W rb r pb num lsn kn head lv ls sv ss) (v0 v1 v2 v3 v4 : Value) :
    Reads (((((W.setCell ⟨w.heap.size, 0, none⟩ v0).setCell ⟨w.heap.size, 1, none⟩ v1).setCell ⟨w.heap.size, 2, none⟩ v2).setCell ⟨w.heap.size, 3, none⟩ v3).setCell ⟨w.heap.size, 4, none⟩ v4) sv ss ∧
    Below w.heap.size w (((((W.setCell ⟨w.heap.size, 0, none⟩ v0).setCell ⟨w.heap.size, 1, none⟩ v1).setCell ⟨w.heap.size, 2, none⟩ v2).setCell ⟨w.heap.size, 3, none⟩ v3).setCell ⟨w.heap.size, 4, none⟩ v4) ∧ ∀ k, sv.ownBlock = some k → w.heap.size ≤ k := by
  refine ⟨(Reads.of_own h.slots).same fun k hk => ?_, (((((h.a.base.setCell (Nat.le_refl _) _).setCell (Nat.le_refl _) _).setCell (Nat.le_refl _) _).setCell (Nat.le_refl _) _).setCell (Nat.le_refl _) _), fun k hk => (h.slots.lt k hk).1⟩
  have hne : k ≠ w.heap.size := fun e => own_blk_ne h.slots h.a.box (by decide) (by rw [hk, e])
  rw [Below.heap_setCell _ _ _ _ hne, Below.heap_setCell _ _ _ _ hne, Below.heap_setCell _ _ _ _ hne, Below.heap_setCell _ _ _ _ hne, Below.heap_setCell _ _ _ _ hne]
end
end Go.Proofs.YtnghgkaoopcglaaGreat
