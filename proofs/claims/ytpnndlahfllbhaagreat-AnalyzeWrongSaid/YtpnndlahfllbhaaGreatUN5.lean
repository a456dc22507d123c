/-
  Slices of structs that are read; records that come in.
-/
import Derived.Test.YtpnndlahfllbhaaGreatUN0
import Derived.Test.YtpnndlahfllbhaaGreatUD6
namespace Go.Proofs.YtpnndlahfllbhaaGreat
open Go.ChangeShapes Go.WideShapes Go.ChangeAt Go.RowKit

/-- a slice of structs that can be read: what stands in each -/
def RdC {α : Type} (size : Nat) (f : α → List Value) (w : World) (v : Value) (l : List α) : Prop :=
  (l = [] ∧ ∃ a c, v = .slice a 0 c) ∨
  ∃ b off cap, v = .slice (some ⟨b, off, none⟩) l.length cap ∧ l.length ≤ cap ∧ cap ≤ maxLen ∧ b < w.heap.size ∧ ∀ (i : Nat) (x : α), l[i]? = some x → ∀ (j : Nat) (u : Value), (f x)[j]? = some u → w.cell? ⟨b, off + i * size + j, none⟩ = some u
section
variable {α : Type} {size : Nat} {f : α → List Value} {w w' : World} {v : Value} {l : List α}
theorem RdC.nil (a : Option Addr) (c : Nat) : RdC size f w (.slice a 0 c) [] := .inl ⟨rfl, a, c, rfl⟩
theorem RdC.form (h : RdC size f w v l) : ∃ a cap, v = .slice a l.length cap := by
  rcases h with ⟨rfl, a, c, rfl⟩ | ⟨b, off, cap, rfl, _⟩
  · exact ⟨_, _, rfl⟩
  · exact ⟨_, _, rfl⟩
theorem RdC.below (h : RdC size f w v l) (hb : Below w.heap.size w w') : RdC size f w' v l := by
  rcases h with h | ⟨b, off, cap, e, h1, h2, h3, h4⟩
  · exact .inl h
  · exact .inr ⟨b, off, cap, e, h1, h2, Nat.lt_of_lt_of_le h3 hb.size, fun i x hi j u hu => (hb.cell (p := ⟨b, off + i * size + j, none⟩) h3).trans (h4 i x hi j u hu)⟩
theorem RdC.at_ {a : Option Addr} {n cap : Nat} (h : RdC size f w (.slice a n cap) l) {i : Nat} {x : α} (hi : l[i]? = some x) :
    ∃ b off, a = some ⟨b, off, none⟩ ∧ n = l.length ∧ n ≤ cap ∧ cap ≤ maxLen ∧ b < w.heap.size ∧ ∀ (j : Nat) (u : Value), (f x)[j]? = some u → w.cell? ⟨b, off + i * size + j, none⟩ = some u := by
  rcases h with ⟨rfl, h⟩ | ⟨b, off, cap', e, h1, h2, h3, h4⟩
  · simp at hi
  · cases e
    exact ⟨b, off, rfl, rfl, h1, h2, h3, h4 i x hi⟩
theorem RdC.same (h : RdC size f w v l) (hk : ∀ k, v.ownBlock = some k → w'.heap[k]? = w.heap[k]?) : RdC size f w' v l := by
  rcases h with h | ⟨b, off, cap, e, h1, h2, h3, h4⟩
  · exact .inl h
  · have hb : w'.heap[b]? = w.heap[b]? := hk b (by rw [e]; rfl)
    have hlt : b < w'.heap.size := by
      rw [Array.getElem?_eq_getElem h3] at hb
      exact (Array.getElem?_eq_some_iff.1 hb).1
    exact .inr ⟨b, off, cap, e, h1, h2, hlt, fun i x hi j u hu => (World.cell?_of_block (a := ⟨b, off + i * size + j, none⟩) hb).trans (h4 i x hi j u hu)⟩
theorem RdC.lt (h : RdC size f w v l) (hl : l ≠ []) : ∀ k, v.ownBlock = some k → k < w.heap.size := by
  intro k hk
  rcases h with ⟨rfl, _⟩ | ⟨b, off, cap, rfl, h1, h2, h3, h4⟩
  · exact absurd rfl hl
  · simp [Value.ownBlock] at hk
    omega
/-- the cells of a list of structs, one behind the other -/
def cellsL (f : α → List Value) : List α → List Value
  | [] => []
  | x :: l => f x ++ cellsL f l
theorem cellsL_snoc (f : α → List Value) (x : α) : ∀ l : List α, cellsL f (l ++ [x]) = cellsL f l ++ f x
  | [] => by simp [cellsL]
  | y :: l => by simp [cellsL, cellsL_snoc f x l]
theorem cellsL_at (hf : ∀ x, (f x).length = size) : ∀ {l : List α} {i : Nat} {x : α} {j : Nat} {u : Value}, l[i]? = some x → (f x)[j]? = some u → (cellsL f l)[i * size + j]? = some u
  | [], _, _, _, _, h, _ => by simp at h
  | y :: l, 0, x, j, u, h, hu => by
    simp at h
    subst h
    have := (List.getElem?_eq_some_iff.1 hu).1
    rw [Nat.zero_mul, Nat.zero_add, cellsL, List.getElem?_append_left this, hu]
  | y :: l, i + 1, x, j, u, h, hu => by
    rw [cellsL, List.getElem?_append_right (by rw [hf, Nat.succ_mul]; omega), hf, Nat.succ_mul, show i * size + size + j - size = i * size + j by omega]
    exact cellsL_at hf (by simpa using h) hu
theorem RdC.of_own {B : Nat} {t : TypeId} (hf : ∀ x, (f x).length = size) (h : w.ownsRow B t size v l.length (cellsL f l)) : RdC size f w v l := by
  have h2 := h.2
  rcases h2 with ⟨rfl, h0⟩ | ⟨g, cap, cur, e, _, hh, h1, h2, _⟩
  · exact .inl ⟨List.eq_nil_of_length_eq_zero h0, _, _, rfl⟩
  · refine .inr ⟨g, 0, cap, e, h1, h2, (Array.getElem?_eq_some_iff.1 hh).1, fun i x hi j u hu => ?_⟩
    have := h.cells (g := g) (by rw [e]; rfl) (i * size + j) u (cellsL_at hf hi hu)
    rw [addr_add] at this
    rwa [Nat.zero_add]
end

def tsC (t : Ts) : List Value := [.int .i64 t.tx, .int .i64 t.state, .int .u64 (t.last : Int), .int .u64 (t.next : Int)]
def dpC (d : Nat × Nat) : List Value := [.int .u32 (d.1 : Int), .int .u64 (d.2 : Int)]
def recC (r : Rc) (tv dv : Value) : List Value :=
  [.int .i64 r.kind, .int .i64 r.tx, .int .u64 (r.prev : Int), .int .u64 (r.next : Int), .int .u32 (r.page : Int), .int .i64 r.op.kind, .int .i64 r.op.at_, .string r.op.s, .string r.op.old, .int .i64 r.undo, .int .i64 r.index, .string r.entry.key, .int .u32 (r.entry.page : Int), .int .i64 r.entry.slot, .bool r.live, tv, dv]
/-- a record as an argument -/
def RecV (r : Rc) (tv dv : Value) : Value := .agg (recC r tv dv).toArray
/-- what a record's slices hold -/
structure RecAt (w : World) (r : Rc) (tv dv : Value) : Prop where
  txs : RdC 4 tsC w tv r.txs
  dirty : RdC 2 dpC w dv r.dirty
  mild : r.mild
theorem RecAt.below {w w' : World} {r : Rc} {tv dv : Value} (h : RecAt w r tv dv) (hb : Below w.heap.size w w') : RecAt w' r tv dv := ⟨h.txs.below hb, h.dirty.below hb, h.mild⟩

/-! how records come in -/
section
variable {H : Type} {enc : TypeId × Value → H} {W : World} {base : Nat} {spare : Nat → Bool} {held : Bool}
theorem list17 (cs : List Value) (h : cs.length = 17) : ∃ c0 c1 c2 c3 c4 c5 c6 c7 c8 c9 c10 c11 c12 c13 c14 c15 c16, cs = [c0, c1, c2, c3, c4, c5, c6, c7, c8, c9, c10, c11, c12, c13, c14, c15, c16] := by
  match cs, h with
  | [c0, c1, c2, c3, c4, c5, c6, c7, c8, c9, c10, c11, c12, c13, c14, c15, c16], _ => exact ⟨c0, c1, c2, c3, c4, c5, c6, c7, c8, c9, c10, c11, c12, c13, c14, c15, c16, rfl⟩
theorem list4 (cs : List Value) (h : cs.length = 4) : ∃ c0 c1 c2 c3, cs = [c0, c1, c2, c3] := by
  match cs, h with
  | [c0, c1, c2, c3], _ => exact ⟨c0, c1, c2, c3, rfl⟩
theorem list3 (cs : List Value) (h : cs.length = 3) : ∃ c0 c1 c2, cs = [c0, c1, c2] := by
  match cs, h with
  | [c0, c1, c2], _ => exact ⟨c0, c1, c2, rfl⟩
theorem list2 (cs : List Value) (h : cs.length = 2) : ∃ c0 c1, cs = [c0, c1] := by
  match cs, h with
  | [c0, c1], _ => exact ⟨c0, c1, rfl⟩
theorem bounds_u32 {n : Int} (h : (Lit.int .u32 n).wf = true) : 0 ≤ n ∧ n < 4294967296 := by
  unfold Lit.wf at h
  simp [IntKind.min, IntKind.max, IntKind.signed, IntKind.bits] at h
  omega
theorem ts_cells {fuel : Nat} {cs : List Value} {x : DataW H × List MemPlace} (hf : DataW.trod enc Tryz.prog W base spare held fuel 44 cs = some x) :
    ∃ t : Ts, cs = tsC t ∧ (-9223372036854775808 ≤ t.tx ∧ t.tx ≤ 9223372036854775807) ∧ (-9223372036854775808 ≤ t.state ∧ t.state ≤ 9223372036854775807) ∧ t.last < 18446744073709551616 ∧ t.next < 18446744073709551616 := by
  obtain ⟨xs, m, _, _, hcl, hxl, hx⟩ := DataW.trod_struct Tryz.underlying44 hf
  have hC : Tryz.prog.cellsOf 44 = 4 := by kernel_rfl
  rw [hC] at hcl
  obtain ⟨c0, c1, c2, c3, rfl⟩ := list4 cs hcl
  have hci : Tryz.prog.cellsOf 3 = 1 := by kernel_rfl
  have hcu : Tryz.prog.cellsOf 31 = 1 := by kernel_rfl
  have hl : xs.length = 4 := hxl
  obtain ⟨y0, g0⟩ : ∃ y, xs[0]? = some y := ⟨_, List.getElem?_eq_getElem (by omega)⟩
  obtain ⟨y1, g1⟩ : ∃ y, xs[1]? = some y := ⟨_, List.getElem?_eq_getElem (by omega)⟩
  obtain ⟨y2, g2⟩ : ∃ y, xs[2]? = some y := ⟨_, List.getElem?_eq_getElem (by omega)⟩
  obtain ⟨y3, g3⟩ : ∃ y, xs[3]? = some y := ⟨_, List.getElem?_eq_getElem (by omega)⟩
  have h0 := hx 0 _ rfl
  have h1 := hx 1 _ rfl
  have h2 := hx 2 _ rfl
  have h3 := hx 3 _ rfl
  rw [g0] at h0
  rw [g1] at h1
  rw [g2] at h2
  rw [g3] at h3
  obtain ⟨x0, e0, _, w0⟩ := DataW.trod_int Tryz.underlying3 h0
  obtain ⟨x1, e1, _, w1⟩ := DataW.trod_int Tryz.underlying3 h1
  obtain ⟨x2, e2, _, w2⟩ := DataW.trod_int Tryz.underlying31 h2
  obtain ⟨x3, e3, _, w3⟩ := DataW.trod_int Tryz.underlying31 h3
  simp [hci, hcu] at e0 e1 e2 e3
  subst e0 e1 e2 e3
  have b2 := bounds_u64 w2
  have b3 := bounds_u64 w3
  refine ⟨⟨x0, x1, x2.toNat, x3.toNat⟩, ?_, bounds_i64 w0, bounds_i64 w1, by simp only; omega, by simp only; omega⟩
  simp only [tsC, Int.toNat_of_nonneg b2.1, Int.toNat_of_nonneg b3.1]
theorem dp_cells {fuel : Nat} {cs : List Value} {x : DataW H × List MemPlace} (hf : DataW.trod enc Tryz.prog W base spare held fuel 50 cs = some x) :
    ∃ t : Nat × Nat, cs = dpC t ∧ t.1 < 4294967296 ∧ t.2 < 18446744073709551616 := by
  obtain ⟨xs, m, _, _, hcl, hxl, hx⟩ := DataW.trod_struct Tryz.underlying50 hf
  have hC : Tryz.prog.cellsOf 50 = 2 := by kernel_rfl
  rw [hC] at hcl
  obtain ⟨c0, c1, rfl⟩ := list2 cs hcl
  have hci : Tryz.prog.cellsOf 48 = 1 := by kernel_rfl
  have hcu : Tryz.prog.cellsOf 31 = 1 := by kernel_rfl
  have hl : xs.length = 2 := hxl
  obtain ⟨y0, g0⟩ : ∃ y, xs[0]? = some y := ⟨_, List.getElem?_eq_getElem (by omega)⟩
  obtain ⟨y1, g1⟩ : ∃ y, xs[1]? = some y := ⟨_, List.getElem?_eq_getElem (by omega)⟩
  have h0 := hx 0 _ rfl
  have h1 := hx 1 _ rfl
  rw [g0] at h0
  rw [g1] at h1
  obtain ⟨x0, e0, _, w0⟩ := DataW.trod_int Tryz.underlying48 h0
  obtain ⟨x1, e1, _, w1⟩ := DataW.trod_int Tryz.underlying31 h1
  simp [hci, hcu] at e0 e1
  subst e0 e1
  have b0 := bounds_u32 w0
  have b1 := bounds_u64 w1
  refine ⟨(x0.toNat, x1.toNat), ?_, by simp only; omega, by simp only; omega⟩
  simp only [dpC, Int.toNat_of_nonneg b0.1, Int.toNat_of_nonneg b1.1]
/-- what a slice of structs holds that comes in -/
theorem rdc_of {α : Type} {size : Nat} {f : α → List Value} {ok : α → Prop} {st et : TypeId} (hf : ∀ x, (f x).length = size) (hs0 : 0 < size) (hu : Tryz.prog.underlying st = some (.slice et)) (hC : Tryz.prog.cellsOf et = size)
    (he : ∀ {fuel : Nat} {cs : List Value} {x : DataW H × List MemPlace}, DataW.trod enc Tryz.prog W base spare held fuel et cs = some x → ∃ t : α, cs = f t ∧ ok t)
    {fuel : Nat} {cs : List Value} {x : DataW H × List MemPlace} (hx : DataW.trod enc Tryz.prog W base spare held fuel st cs = some x) : ∃ (v : Value) (l : List α), cs = [v] ∧ RdC size f W v l ∧ l.length ≤ maxLen ∧ ∀ t ∈ l, ok t := by
  rcases DataW.trod_slice hu hx with ⟨hcs, _⟩ | ⟨a, len, cap, elems, rest, n, _, hcs, _, hb, hl, hm, hlen, hel, _, _⟩
  · exact ⟨_, [], hcs, .inl ⟨rfl, _, _, rfl⟩, Nat.zero_le _, fun t ht => by simp at ht⟩
  · have each : ∀ i, i < len → ∃ c : α, ok c ∧ ∀ j u, (f c)[j]? = some u → W.cell? (a.add (i * size + j)) = some u := fun i hi => by
      have h1 := hel i hi
      obtain ⟨y, hy⟩ : ∃ y, elems[i]? = some y := ⟨_, List.getElem?_eq_getElem (by omega)⟩
      rw [hy, hC, Option.bind_eq_some_iff] at h1
      obtain ⟨cs', hcs', ht⟩ := h1
      obtain ⟨c, rfl, hc⟩ := he ht
      refine ⟨c, hc, fun j u hu => ?_⟩
      have hj := (List.getElem?_eq_some_iff.1 hu).1
      rw [hf] at hj
      have k0 := (World.cells?_some hcs').2.2 j hj
      rw [addr_add_add6, hu] at k0
      exact k0
    obtain ⟨l, hl1, hl2⟩ := list_of_each6 len each
    refine ⟨_, l, hcs, ?_, by omega, fun t ht => ?_⟩
    · rcases Nat.eq_zero_or_pos len with h0 | h0
      · subst h0
        exact .inl ⟨List.eq_nil_of_length_eq_zero hl1, _, _, rfl⟩
      · obtain ⟨c0, hc0⟩ : ∃ c0, l[0]? = some c0 := ⟨_, List.getElem?_eq_getElem (by omega)⟩
        obtain ⟨u0, hu0⟩ : ∃ u0, (f c0)[0]? = some u0 := ⟨_, List.getElem?_eq_getElem (by rw [hf]; exact hs0)⟩
        have k0 := (hl2 0 c0 hc0).2 0 u0 hu0
        obtain ⟨b, off, sp⟩ := a
        have hs : sp = none := by simpa [Addr.add] using World.cell?_spot k0
        subst hs
        rw [add_lit] at k0
        exact .inr ⟨b, off, cap, by rw [hl1], by omega, hm, World.block_lt_of_cell? W _ k0, fun i x hi j u hu => by
          have := (hl2 i x hi).2 j u hu
          rw [add_lit, ← Nat.add_assoc] at this
          exact this⟩
    · obtain ⟨i, hi⟩ := List.getElem?_of_mem ht
      exact (hl2 i t hi).1
end
end Go.Proofs.YtpnndlahfllbhaaGreat
