/-
  How a girderlaw05.Act, and a slice of them, is opened.
-/
import Derived.Test.YtnghgkaoopcglaaGreatKF
namespace Go.Proofs.YtnghgkaoopcglaaGreat
open Go.ChangeShapes Go.WideShapes Go.ChangeAt Go.RowKit

structure Ac where
  kind : Int
  n : Int
  s : ByteArray
  at_ : Int
  fall : Fl
structure Ac.ok (a : Ac) : Prop where
  kind1 : -9223372036854775808 ≤ a.kind
  kind2 : a.kind ≤ 9223372036854775807
  n1 : -9223372036854775808 ≤ a.n
  n2 : a.n ≤ 9223372036854775807
  s : a.s.size ≤ maxLen
  at1 : 0 ≤ a.at_
  at2 : a.at_ ≤ 18446744073709551615
  fall : a.fall.ok
def fallCells (f : Fl) : List Value := [.int .i64 f.at_, .int .u64 f.keep, .int .i64 f.torn, .int .i64 f.bytes, .int .i64 f.log]
def acCells (a : Ac) : List Value := [.int .i64 a.kind, .int .i64 a.n, .string a.s, .int .u64 a.at_] ++ fallCells a.fall

theorem addr_add_add (a : Addr) (i j : Nat) : (a.add i).add j = a.add (i + j) := by
  unfold Addr.add
  by_cases hi : i = 0 <;> by_cases hj : j = 0 <;> simp [hi, hj, Nat.add_assoc]
theorem list_of_each {α : Type} {Q : Nat → α → Prop} : ∀ n : Nat, (∀ i, i < n → ∃ c, Q i c) → ∃ l : List α, l.length = n ∧ ∀ i c, l[i]? = some c → Q i c
  | 0, _ => ⟨[], rfl, fun i c h => by simp at h⟩
  | n + 1, h => by
    obtain ⟨l, h1, h2⟩ := list_of_each n (fun i hi => h i (by omega))
    obtain ⟨c, hc⟩ := h n (by omega)
    refine ⟨l ++ [c], by simp [h1], fun i d hd => ?_⟩
    rcases Nat.lt_or_ge i l.length with hi | hi
    · rw [List.getElem?_append_left hi] at hd
      exact h2 i d hd
    · rw [List.getElem?_append_right hi] at hd
      have : i = n := by
        have := (List.getElem?_eq_some_iff.1 hd).1
        simp at this
        omega
      subst this
      rw [h1, Nat.sub_self] at hd
      cases hd
      exact hc

section
variable {H : Type} {enc : TypeId × Value → H} {W : World} {base : Nat} {spare : Nat → Bool} {held : Bool}

theorem nine (cs : List Value) (h : cs.length = 9) : ∃ c0 c1 c2 c3 c4 c5 c6 c7 c8, cs = [c0, c1, c2, c3, c4, c5, c6, c7, c8] := by
  match cs, h with
  | [c0, c1, c2, c3, c4, c5, c6, c7, c8], _ => exact ⟨c0, c1, c2, c3, c4, c5, c6, c7, c8, rfl⟩

theorem fall_cells {fuel : Nat} {cs : List Value} {x : DataW H × List MemPlace} (hf : DataW.trod enc Tryz.prog W base spare held fuel 78 cs = some x) : ∃ f : Fl, f.ok ∧ cs = fallCells f := by
  obtain ⟨xs, m, _, _, hcl, hxl, hx⟩ := DataW.trod_struct Tryz.underlying78 hf
  have hC : Tryz.prog.cellsOf 78 = 5 := by kernel_rfl
  rw [hC] at hcl
  obtain ⟨c0, c1, c2, c3, c4, rfl⟩ := five cs hcl
  have hci : Tryz.prog.cellsOf 3 = 1 := by kernel_rfl
  have hcu : Tryz.prog.cellsOf 30 = 1 := by kernel_rfl
  have hl : xs.length = 5 := hxl
  obtain ⟨y0, g0⟩ : ∃ y, xs[0]? = some y := ⟨_, List.getElem?_eq_getElem (by omega)⟩
  obtain ⟨y1, g1⟩ : ∃ y, xs[1]? = some y := ⟨_, List.getElem?_eq_getElem (by omega)⟩
  obtain ⟨y2, g2⟩ : ∃ y, xs[2]? = some y := ⟨_, List.getElem?_eq_getElem (by omega)⟩
  obtain ⟨y3, g3⟩ : ∃ y, xs[3]? = some y := ⟨_, List.getElem?_eq_getElem (by omega)⟩
  obtain ⟨y4, g4⟩ : ∃ y, xs[4]? = some y := ⟨_, List.getElem?_eq_getElem (by omega)⟩
  have h0 := hx 0 _ rfl
  have h1 := hx 1 _ rfl
  have h2 := hx 2 _ rfl
  have h3 := hx 3 _ rfl
  have h4 := hx 4 _ rfl
  rw [g0] at h0
  rw [g1] at h1
  rw [g2] at h2
  rw [g3] at h3
  rw [g4] at h4
  obtain ⟨x0, e0, _, w0⟩ := DataW.trod_int Tryz.underlying3 h0
  obtain ⟨x1, e1, _, w1⟩ := DataW.trod_int Tryz.underlying30 h1
  obtain ⟨x2, e2, _, w2⟩ := DataW.trod_int Tryz.underlying3 h2
  obtain ⟨x3, e3, _, w3⟩ := DataW.trod_int Tryz.underlying3 h3
  obtain ⟨x4, e4, _, w4⟩ := DataW.trod_int Tryz.underlying3 h4
  simp [hci, hcu] at e0 e1 e2 e3 e4
  subst e0 e1 e2 e3 e4
  have b0 := bounds_i64 w0
  have b1 := bounds_u64 w1
  have b2 := bounds_i64 w2
  have b3 := bounds_i64 w3
  have b4 := bounds_i64 w4
  exact ⟨⟨x0, x1, x2, x3, x4⟩, ⟨b0.1, b0.2, b1.1, b1.2, b2.1, b2.2, b3.1, b3.2, b4.1, b4.2⟩, rfl⟩

/-- a slice of acts that came in -/
def IsActs (w : World) (a : Option Addr) (len cap : Nat) (l : List Ac) : Prop :=
  (a = none ∧ len = 0 ∧ cap = 0 ∧ l = []) ∨
  ∃ x, a = some x ∧ len ≤ cap ∧ cap ≤ maxLen ∧ l.length = len ∧ (∀ (i : Nat) (c : Ac), l[i]? = some c → ∀ (j : Nat) (u : Value), (acCells c)[j]? = some u → w.cell? (x.add (i * 9 + j)) = some u) ∧ ∀ c ∈ l, c.ok
theorem IsActs.len_eq {w : World} {a : Option Addr} {len cap : Nat} {l : List Ac} (h : IsActs w a len cap l) : l.length = len := by
  rcases h with ⟨_, rfl, _, rfl⟩ | ⟨_, _, _, _, h, _⟩
  · rfl
  · exact h
theorem IsActs.len {w : World} {a : Option Addr} {len cap : Nat} {l : List Ac} (h : IsActs w a len cap l) : len ≤ maxLen := by
  rcases h with ⟨_, rfl, _⟩ | ⟨_, _, h1, h2, _⟩
  · exact Nat.zero_le _
  · omega
theorem IsActs.at_ {w wr : World} {a : Option Addr} {len cap : Nat} {l : List Ac} (h : IsActs w a len cap l) (hb : Below w.heap.size w wr) {k : Nat} {c : Ac} (hk : l[k]? = some c) :
    ∃ b off, a = some ⟨b, off, none⟩ ∧ len ≤ cap ∧ cap ≤ maxLen ∧ c.ok ∧ b < w.heap.size ∧ ∀ (j : Nat) (u : Value), (acCells c)[j]? = some u → wr.cell? ⟨b, off + k * 9 + j, none⟩ = some u := by
  rcases h with ⟨_, rfl, _, rfl⟩ | ⟨⟨b, off, sp⟩, rfl, h1, h2, h3, h5, h6⟩
  · simp at hk
  · have hkl := (List.getElem?_eq_some_iff.1 hk).1
    obtain ⟨c0, hc0⟩ : ∃ c0, l[0]? = some c0 := ⟨_, List.getElem?_eq_getElem (by omega)⟩
    have hs : sp = none := by simpa [Addr.add] using World.cell?_spot (h5 0 c0 hc0 0 _ rfl)
    subst hs
    have h0 := h5 k c hk 0 _ rfl
    have hlt : b < w.heap.size := by
      have := World.block_lt_of_cell? w _ h0
      rwa [add_lit] at this
    refine ⟨b, off, rfl, h1, h2, h6 c (List.mem_of_getElem? hk), hlt, fun j u hu => ?_⟩
    have hc := h5 k c hk j u hu
    rw [add_lit, ← Nat.add_assoc] at hc
    exact (hb.cell (p := ⟨b, off + k * 9 + j, none⟩) hlt).trans hc

end
end Go.Proofs.YtnghgkaoopcglaaGreat
