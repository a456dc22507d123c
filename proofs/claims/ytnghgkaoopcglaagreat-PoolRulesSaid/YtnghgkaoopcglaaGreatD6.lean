/-
  How a slice of girderlaw06.Act is opened: of each its kind and its page.
-/
import Derived.Test.YtnghgkaoopcglaaGreatKF
namespace Go.Proofs.YtnghgkaoopcglaaGreat
open Go.ChangeShapes Go.WideShapes Go.ChangeAt Go.RowKit

section
variable {H : Type} {enc : TypeId × Value → H} {W : World} {base : Nat} {spare : Nat → Bool} {held : Bool}
theorem nine6 (cs : List Value) (h : cs.length = 9) : ∃ c0 c1 c2 c3 c4 c5 c6 c7 c8, cs = [c0, c1, c2, c3, c4, c5, c6, c7, c8] := by
  match cs, h with
  | [c0, c1, c2, c3, c4, c5, c6, c7, c8], _ => exact ⟨c0, c1, c2, c3, c4, c5, c6, c7, c8, rfl⟩
def okA (a : Int × Int) : Prop := (-9223372036854775808 ≤ a.1 ∧ a.1 ≤ 9223372036854775807) ∧ (-9223372036854775808 ≤ a.2 ∧ a.2 ≤ 9223372036854775807)
theorem act6_cells {fuel : Nat} {cs : List Value} {x : DataW H × List MemPlace} (hf : DataW.trod enc Tryz.prog W base spare held fuel 80 cs = some x) : ∃ a : Int × Int, okA a ∧ cs.length = 9 ∧ cs[0]? = some (.int .i64 a.1) ∧ cs[1]? = some (.int .i64 a.2) := by
  obtain ⟨xs, m, _, _, hcl, hxl, hx⟩ := DataW.trod_struct Tryz.underlying80 hf
  have hC : Tryz.prog.cellsOf 80 = 9 := by kernel_rfl
  rw [hC] at hcl
  obtain ⟨c0, c1, c2, c3, c4, c5, c6, c7, c8, rfl⟩ := nine6 cs hcl
  have hci : Tryz.prog.cellsOf 3 = 1 := by kernel_rfl
  have hl : xs.length = 5 := hxl
  obtain ⟨y0, g0⟩ : ∃ y, xs[0]? = some y := ⟨_, List.getElem?_eq_getElem (by omega)⟩
  obtain ⟨y1, g1⟩ : ∃ y, xs[1]? = some y := ⟨_, List.getElem?_eq_getElem (by omega)⟩
  have h0 := hx 0 _ rfl
  have h1 := hx 1 _ rfl
  rw [g0] at h0
  rw [g1] at h1
  obtain ⟨x0, e0, _, w0⟩ := DataW.trod_int Tryz.underlying3 h0
  obtain ⟨x1, e1, _, w1⟩ := DataW.trod_int Tryz.underlying3 h1
  simp [hci] at e0 e1
  subst e0 e1
  exact ⟨(x0, x1), ⟨bounds_i64 w0, bounds_i64 w1⟩, rfl, rfl, rfl⟩
theorem addr_add_add6 (a : Addr) (i j : Nat) : (a.add i).add j = a.add (i + j) := by
  unfold Addr.add
  by_cases hi : i = 0 <;> by_cases hj : j = 0 <;> simp [hi, hj, Nat.add_assoc]
theorem list_of_each6 {α : Type} {Q : Nat → α → Prop} : ∀ n : Nat, (∀ i, i < n → ∃ c, Q i c) → ∃ l : List α, l.length = n ∧ ∀ i c, l[i]? = some c → Q i c
  | 0, _ => ⟨[], rfl, fun i c h => by simp at h⟩
  | n + 1, h => by
    obtain ⟨l, h1, h2⟩ := list_of_each6 n (fun i hi => h i (by omega))
    obtain ⟨c, hc⟩ := h n (by omega)
    refine ⟨l ++ [c], by simp [h1], fun i d hd => ?_⟩
    rcases Nat.lt_or_ge i l.length with hi | hi
    · rw [List.getElem?_append_left hi] at hd
      exact h2 i d hd
    · rw [List.getElem?_append_right hi] at hd
      have : i = n := by
        have := (List.getElem?_eq_some_iff.1 hd).1
        simp at this
        omega
      subst this
      rw [h1, Nat.sub_self] at hd
      cases hd
      exact hc
/-- a slice of acts that came in -/
def IsActs6 (w : World) (a : Option Addr) (len cap : Nat) (l : List (Int × Int)) : Prop :=
  (a = none ∧ len = 0 ∧ cap = 0 ∧ l = []) ∨
  ∃ x, a = some x ∧ len ≤ cap ∧ cap ≤ maxLen ∧ l.length = len ∧ ∀ (i : Nat) (c : Int × Int), l[i]? = some c → okA c ∧ w.cell? (x.add (i * 9)) = some (.int .i64 c.1) ∧ w.cell? (x.add (i * 9 + 1)) = some (.int .i64 c.2)
theorem IsActs6.len_eq {w : World} {a : Option Addr} {len cap : Nat} {l : List (Int × Int)} (h : IsActs6 w a len cap l) : l.length = len := by
  rcases h with ⟨_, rfl, _, rfl⟩ | ⟨_, _, _, _, h, _⟩
  · rfl
  · exact h
theorem IsActs6.len {w : World} {a : Option Addr} {len cap : Nat} {l : List (Int × Int)} (h : IsActs6 w a len cap l) : len ≤ maxLen := by
  rcases h with ⟨_, rfl, _⟩ | ⟨_, _, h1, h2, _⟩
  · exact Nat.zero_le _
  · omega
theorem IsActs6.at_ {w wr : World} {a : Option Addr} {len cap : Nat} {l : List (Int × Int)} (h : IsActs6 w a len cap l) (hb : Below w.heap.size w wr) {k : Nat} {c : Int × Int} (hk : l[k]? = some c) :
    ∃ b off, a = some ⟨b, off, none⟩ ∧ len ≤ cap ∧ cap ≤ maxLen ∧ okA c ∧ wr.cell? ⟨b, off + k * 9, none⟩ = some (.int .i64 c.1) ∧ wr.cell? ⟨b, off + k * 9 + 1, none⟩ = some (.int .i64 c.2) := by
  rcases h with ⟨_, rfl, _, rfl⟩ | ⟨⟨b, off, sp⟩, rfl, h1, h2, h3, h5⟩
  · simp at hk
  · have hkl := (List.getElem?_eq_some_iff.1 hk).1
    obtain ⟨c0, hc0⟩ : ∃ c0, l[0]? = some c0 := ⟨_, List.getElem?_eq_getElem (by omega)⟩
    have hs : sp = none := by simpa [Addr.add] using World.cell?_spot (h5 0 c0 hc0).2.1
    subst hs
    obtain ⟨h6, h7, h8⟩ := h5 k c hk
    rw [add_lit] at h7 h8
    have hlt := World.block_lt_of_cell? w _ h7
    refine ⟨b, off, rfl, h1, h2, h6, (hb.cell (p := ⟨b, off + k * 9, none⟩) hlt).trans h7, ?_⟩
    rw [← Nat.add_assoc] at h8
    exact (hb.cell (p := ⟨b, off + k * 9 + 1, none⟩) hlt).trans h8
theorem acts6_of {a : Option Addr} {len cap : Nat} {d : DataW H} {p : List MemPlace}
    (h : DataW.Trod enc Tryz.prog W 0 (fun _ => true) true 71 (.slice a len cap) d p) : ∃ l, IsActs6 W a len cap l := by
  obtain ⟨fuel, hf⟩ := h
  have hC : Tryz.prog.cellsOf 80 = 9 := by kernel_rfl
  rcases DataW.trod_slice Tryz.underlying71 hf with ⟨hcs, _⟩ | ⟨x, len', cap', elems, rest, n, _, hcs, _, hb, hl, hm, hlen, hel, _, _⟩
  · simp [Value.cells] at hcs
    obtain ⟨rfl, rfl, rfl⟩ := hcs
    exact ⟨[], .inl ⟨rfl, rfl, rfl, rfl⟩⟩
  · simp [Value.cells] at hcs
    obtain ⟨rfl, rfl, rfl⟩ := hcs
    have each : ∀ i, i < len → ∃ c : Int × Int, okA c ∧ W.cell? (x.add (i * 9)) = some (.int .i64 c.1) ∧ W.cell? (x.add (i * 9 + 1)) = some (.int .i64 c.2) := fun i hi => by
      have h1 := hel i hi
      obtain ⟨y, hy⟩ : ∃ y, elems[i]? = some y := ⟨_, List.getElem?_eq_getElem (by omega)⟩
      rw [hy, hC, Option.bind_eq_some_iff] at h1
      obtain ⟨cs, hcs, ht⟩ := h1
      obtain ⟨c, hc, hl9, q0, q1⟩ := act6_cells ht
      have k0 := (World.cells?_some hcs).2.2 0 (by omega)
      have k1 := (World.cells?_some hcs).2.2 1 (by omega)
      rw [addr_add_add6, q0] at k0
      rw [addr_add_add6, q1] at k1
      exact ⟨c, hc, k0, k1⟩
    obtain ⟨l, hl1, hl2⟩ := list_of_each6 len each
    exact ⟨l, .inr ⟨x, rfl, hl, hm, hl1, hl2⟩⟩
end
end Go.Proofs.YtnghgkaoopcglaaGreat
