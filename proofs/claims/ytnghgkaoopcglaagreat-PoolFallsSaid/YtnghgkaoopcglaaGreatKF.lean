/-
  KF: C0 C2 D0 D1.
-/
import Derived.Test.YtnghgkaoopcglaaGreatKD
import Derived.Test.YtnghgkaoopcglaaGreatRows
import Derived.ChangeOld
import Derived.OpenShut
import Derived.ProofKit
import Derived.ShutString
import Derived.SizedLaws
import Derived.SliceStrings
/-! What a walk is told of slices of strings that came in. -/
namespace Go.Proofs.YtnghgkaoopcglaaGreat
open Go.RowKit

/-- a slice of strings that came in: nil, or a row of cells -/
def IsStrs (w : World) (a : Option Addr) (len cap : Nat) (ss : List ByteArray) : Prop :=
  (a = none ∧ len = 0 ∧ cap = 0 ∧ ss = []) ∨
  ∃ x, a = some x ∧ len ≤ cap ∧ cap ≤ maxLen ∧ ss.length = cap ∧ (∀ i, i < cap → w.cell? (x.add i) = some (.string (ss.getD i ByteArray.empty))) ∧ ∀ s ∈ ss, s.size ≤ maxLen

theorem IsStrs.len {w : World} {a : Option Addr} {len cap : Nat} {ss : List ByteArray} (h : IsStrs w a len cap ss) : len ≤ maxLen := by
  rcases h with ⟨_, rfl, _⟩ | ⟨_, _, h1, h2, _⟩
  · exact Nat.zero_le _
  · omega

theorem IsStrs.at_ {w wr : World} {a : Option Addr} {len cap : Nat} {ss : List ByteArray} (h : IsStrs w a len cap ss) (hb : Below w.heap.size w wr) {k : Nat} (hk : k < len) :
    ∃ b off s, a = some ⟨b, off, none⟩ ∧ s = ss.getD k ByteArray.empty ∧ s.size ≤ maxLen ∧ wr.cell? ⟨b, off + k, none⟩ = some (.string s) := by
  rcases h with ⟨_, rfl, _⟩ | ⟨⟨b, off, sp⟩, rfl, h1, h2, h3, h5, h6⟩
  · omega
  · have h0 := h5 0 (by omega)
    have hs : sp = none := by simpa [Addr.add] using World.cell?_spot h0
    subst hs
    have hc := h5 k (by omega)
    rw [add_lit] at hc
    have hlt := World.block_lt_of_cell? w _ hc
    refine ⟨b, off, _, rfl, rfl, ?_, (hb.cell (p := ⟨b, off + k, none⟩) hlt).trans hc⟩
    have : k < ss.length := by omega
    simp only [List.getD, List.getElem?_eq_getElem this, Option.getD_some]
    exact h6 _ (List.getElem_mem _)

def cutTo (s : ByteArray) : ByteArray := if 1000 < s.size then s.extract 0 1000 else s
theorem cutTo_size (s : ByteArray) : (cutTo s).size ≤ 1000 := by
  unfold cutTo
  split
  · rw [ByteArray.size_extract]; omega
  · omega

theorem append_nil (a : ByteArray) : a ++ (⟨#[]⟩ : ByteArray) = a := by
  apply ByteArray.ext
  simp [ByteArray.data_append]

/-- a log of the disk: nothing else is loose -/
structure LogOnly (m : Dk) (l t : ByteArray) : Prop where
  dead : m.dead = false
  plan : m.plan = []
  loose : m.loose = []
  log : m.log = l
  tail : m.tail = t

theorem logFall_ok {keep : Int} (h1 : -9223372036854775808 ≤ keep) (h2 : keep ≤ 9223372036854775807) : Fl.ok ⟨0, 0, 0, 0, keep⟩ := by
  refine ⟨?_, ?_, ?_, ?_, ?_, ?_, ?_, ?_, h1, h2⟩
  all_goals
    dsimp only
    omega

theorem ret_bool {a b : Bool} (h : a = b) : Ending.returned (.bool a) = .returned (.bool b) := by rw [h]
theorem extract_all (a : ByteArray) : a.extract 0 a.size = a := by
  apply ByteArray.ext
  rw [ByteArray.data_extract]
  exact Array.extract_size

theorem beq_toList (a : ByteArray) : (a.toList == a.toList) = true := by simp
end Go.Proofs.YtnghgkaoopcglaaGreat

/-! What a walk is told of slices of integers that came in. -/
namespace Go.Proofs.YtnghgkaoopcglaaGreat
open Go.RowKit

/-- a slice of integers of one kind that came in -/
def IsInts (q : IntKind) (w : World) (a : Option Addr) (len cap : Nat) (zs : List Int) : Prop :=
  (a = none ∧ len = 0 ∧ cap = 0 ∧ zs = []) ∨
  ∃ x, a = some x ∧ len ≤ cap ∧ cap ≤ maxLen ∧ zs.length = cap ∧ (∀ i, i < cap → w.cell? (x.add i) = some (.int q (zs.getD i 0))) ∧ ∀ n ∈ zs, (Lit.int q n).wf = true

theorem IsInts.len {q : IntKind} {w : World} {a : Option Addr} {len cap : Nat} {ss : List Int} (h : IsInts q w a len cap ss) : len ≤ maxLen ∧ len ≤ cap ∧ cap ≤ maxLen := by
  rcases h with ⟨_, rfl, rfl, _⟩ | ⟨_, _, h1, h2, _⟩
  · exact ⟨Nat.zero_le _, Nat.le_refl _, Nat.zero_le _⟩
  · omega

theorem IsInts.at_ {q : IntKind} {w wr : World} {a : Option Addr} {len cap : Nat} {zs : List Int} (h : IsInts q w a len cap zs) (hb : Below w.heap.size w wr) {k : Nat} (hk : k < len) :
    ∃ b off z, a = some ⟨b, off, none⟩ ∧ z = zs.getD k 0 ∧ (Lit.int q z).wf = true ∧ wr.cell? ⟨b, off + k, none⟩ = some (.int q z) := by
  rcases h with ⟨_, rfl, _⟩ | ⟨⟨b, off, sp⟩, rfl, h1, h2, h3, h5, h6⟩
  · omega
  · have h0 := h5 0 (by omega)
    have hs : sp = none := by simpa [Addr.add] using World.cell?_spot h0
    subst hs
    have hc := h5 k (by omega)
    rw [add_lit] at hc
    have hlt := World.block_lt_of_cell? w _ hc
    refine ⟨b, off, _, rfl, rfl, ?_, (hb.cell (p := ⟨b, off + k, none⟩) hlt).trans hc⟩
    have : k < zs.length := by omega
    simp only [List.getD, List.getElem?_eq_getElem this, Option.getD_some]
    exact h6 _ (List.getElem_mem _)

end Go.Proofs.YtnghgkaoopcglaaGreat

/-! What every statement's proof shares: the program's own facts, and how arguments are opened. -/
namespace Go.Proofs.YtnghgkaoopcglaaGreat
open Go.ChangeShapes Go.WideShapes Go.ChangeAt Go.RowKit
open Go.ChangeMaps (open_string shut_string)

theorem own : ownKnob Tryz.prog.godebug = none := by kernel_rfl
theorem laidOut : laidOutB Tryz.prog = true := by kernel_rfl

/-- a slice of strings is opened -/
theorem strs_of {H : Type} {enc : TypeId × Value → H} {W : World} {a : Option Addr} {len cap : Nat} {d : DataW H} {p : List MemPlace} (hcells : Tryz.prog.cellsOf 9 = 1)
    (h : DataW.Trod enc Tryz.prog W 0 (fun _ => true) true 82 (.slice a len cap) d p) : ∃ ss, IsStrs W a len cap ss := by
  obtain ⟨fuel, hf⟩ := h
  rcases open_strings Tryz.underlying82 Tryz.underlying9 hcells hf with ⟨hcs, _⟩ | ⟨x, l, c, ss, hcs, _, hl, hm, hz, _, hcell, hws⟩
  · simp [Value.cells] at hcs
    obtain ⟨rfl, rfl, rfl⟩ := hcs
    exact ⟨[], .inl ⟨rfl, rfl, rfl, rfl⟩⟩
  · simp [Value.cells] at hcs
    obtain ⟨rfl, rfl, rfl⟩ := hcs
    exact ⟨ss, .inr ⟨x, rfl, hl, hm, by simpa using hz, fun i hi => hcell i (by rw [hz]; simpa using hi), hws⟩⟩
end Go.Proofs.YtnghgkaoopcglaaGreat

/-! How integers, arrays and structs among the arguments are opened. -/
namespace Go.Proofs.YtnghgkaoopcglaaGreat
open Go.ChangeShapes Go.WideShapes Go.ChangeAt Go.RowKit

section
variable {H : Type} {enc : TypeId × Value → H} {W : World}
theorem ints_of {t e : TypeId} {q : IntKind} (ht : Tryz.prog.underlying t = some (.slice e)) (he : Tryz.prog.underlying e = some (.int q)) (hc : Tryz.prog.cellsOf e = 1) {a : Option Addr} {len cap : Nat} {d : DataW H} {p : List MemPlace}
    (h : DataW.Trod enc Tryz.prog W 0 (fun _ => true) true t (.slice a len cap) d p) : ∃ zs, IsInts q W a len cap zs := by
  obtain ⟨fuel, hf⟩ := h
  rcases open_ints ht he hc hf with ⟨hcs, _⟩ | ⟨x, l, c, zs, hcs, _, hl, hm, hz, _, hcell, hws⟩
  · simp [Value.cells] at hcs
    obtain ⟨rfl, rfl, rfl⟩ := hcs
    exact ⟨[], .inl ⟨rfl, rfl, rfl, rfl⟩⟩
  · simp [Value.cells] at hcs
    obtain ⟨rfl, rfl, rfl⟩ := hcs
    exact ⟨zs, .inr ⟨x, rfl, hl, hm, by simpa using hz, fun i hi => hcell i (by rw [hz]; simpa using hi), hws⟩⟩

theorem okWide_array {P : Program} {w : World} {r : Reach} {base n : Nat} {t e : TypeId} {v : Value} (ht : P.underlying t = some (.array n e)) (h : Value.okWide P w r base t v) : ∃ cs, v = .agg cs ∧ cs.size = P.cellsOf t := by
  simp only [Value.okWide, ht] at h
  obtain ⟨cs, h1, h2, _⟩ := h
  exact ⟨cs, h1, h2⟩

theorem two (cs : List Value) (h : cs.length = 2) : ∃ c0 c1, cs = [c0, c1] := by
  match cs, h with
  | [c0, c1], _ => exact ⟨c0, c1, rfl⟩
theorem five (cs : List Value) (h : cs.length = 5) : ∃ c0 c1 c2 c3 c4, cs = [c0, c1, c2, c3, c4] := by
  match cs, h with
  | [c0, c1, c2, c3, c4], _ => exact ⟨c0, c1, c2, c3, c4, rfl⟩

set_option maxRecDepth 100000 in
/-- an array of two integers by value -/
theorem arr2_of {base : Nat} {t e : TypeId} {q : IntKind} {v : Value} {d : DataW H} {p : List MemPlace} (ht : Tryz.prog.underlying t = some (.array 2 e)) (he : Tryz.prog.underlying e = some (.int q)) (hC : Tryz.prog.cellsOf t = 2) (hc : Tryz.prog.cellsOf e = 1)
    (hv : Value.okWide Tryz.prog W .any base t v) (h : DataW.Trod enc Tryz.prog W 0 (fun _ => true) true t v d p) : ∃ x y, v = .agg #[.int q x, .int q y] ∧ (Lit.int q x).wf = true ∧ (Lit.int q y).wf = true := by
  obtain ⟨⟨cs⟩, rfl, hsz⟩ := okWide_array ht hv
  rw [hC] at hsz
  obtain ⟨c0, c1, rfl⟩ := two cs hsz
  obtain ⟨fuel, hf⟩ := h
  obtain ⟨xs, m, _, _, _, hxl, hx⟩ := DataW.trod_array ht hf
  have h0 := hx 0 (by omega)
  have h1 := hx 1 (by omega)
  have hg0 : ∃ y, xs[0]? = some y := ⟨_, List.getElem?_eq_getElem (by omega)⟩
  have hg1 : ∃ y, xs[1]? = some y := ⟨_, List.getElem?_eq_getElem (by omega)⟩
  obtain ⟨y0, hg0⟩ := hg0
  obtain ⟨y1, hg1⟩ := hg1
  rw [hc, hg0] at h0
  rw [hc, hg1] at h1
  obtain ⟨x, e0, _, w0⟩ := DataW.trod_int he h0
  obtain ⟨y, e1, _, w1⟩ := DataW.trod_int he h1
  simp [Value.cells] at e0 e1
  subst e0 e1
  exact ⟨x, y, rfl, w0, w1⟩

set_option maxRecDepth 100000 in
/-- a fall by value -/
theorem fall_of {base : Nat} {v : Value} {d : DataW H} {p : List MemPlace} (hv : Value.okWide Tryz.prog W .any base 78 v) (h : DataW.Trod enc Tryz.prog W 0 (fun _ => true) true 78 v d p) :
    ∃ f : Fl, f.ok ∧ v = .agg #[.int .i64 f.at_, .int .u64 f.keep, .int .i64 f.torn, .int .i64 f.bytes, .int .i64 f.log] := by
  obtain ⟨⟨cs⟩, rfl, hsz⟩ := okWide_struct Tryz.underlying78 hv
  have hC : Tryz.prog.cellsOf 78 = 5 := by kernel_rfl
  rw [hC] at hsz
  obtain ⟨c0, c1, c2, c3, c4, rfl⟩ := five cs hsz
  obtain ⟨fuel, hf⟩ := h
  obtain ⟨xs, m, _, _, _, hxl, hx⟩ := DataW.trod_struct Tryz.underlying78 hf
  have hci : Tryz.prog.cellsOf 3 = 1 := by kernel_rfl
  have hcu : Tryz.prog.cellsOf 30 = 1 := by kernel_rfl
  have hl : xs.length = 5 := hxl
  obtain ⟨y0, g0⟩ : ∃ y, xs[0]? = some y := ⟨_, List.getElem?_eq_getElem (by omega)⟩
  obtain ⟨y1, g1⟩ : ∃ y, xs[1]? = some y := ⟨_, List.getElem?_eq_getElem (by omega)⟩
  obtain ⟨y2, g2⟩ : ∃ y, xs[2]? = some y := ⟨_, List.getElem?_eq_getElem (by omega)⟩
  obtain ⟨y3, g3⟩ : ∃ y, xs[3]? = some y := ⟨_, List.getElem?_eq_getElem (by omega)⟩
  obtain ⟨y4, g4⟩ : ∃ y, xs[4]? = some y := ⟨_, List.getElem?_eq_getElem (by omega)⟩
  have h0 := hx 0 _ rfl
  have h1 := hx 1 _ rfl
  have h2 := hx 2 _ rfl
  have h3 := hx 3 _ rfl
  have h4 := hx 4 _ rfl
  rw [g0] at h0
  rw [g1] at h1
  rw [g2] at h2
  rw [g3] at h3
  rw [g4] at h4
  obtain ⟨x0, e0, _, w0⟩ := DataW.trod_int Tryz.underlying3 h0
  obtain ⟨x1, e1, _, w1⟩ := DataW.trod_int Tryz.underlying30 h1
  obtain ⟨x2, e2, _, w2⟩ := DataW.trod_int Tryz.underlying3 h2
  obtain ⟨x3, e3, _, w3⟩ := DataW.trod_int Tryz.underlying3 h3
  obtain ⟨x4, e4, _, w4⟩ := DataW.trod_int Tryz.underlying3 h4
  simp [Value.cells, hci, hcu] at e0 e1 e2 e3 e4
  subst e0 e1 e2 e3 e4
  have b0 := bounds_i64 w0
  have b1 := bounds_u64 w1
  have b2 := bounds_i64 w2
  have b3 := bounds_i64 w3
  have b4 := bounds_i64 w4
  exact ⟨⟨x0, x1, x2, x3, x4⟩, ⟨b0.1, b0.2, b1.1, b1.2, b2.1, b2.2, b3.1, b3.2, b4.1, b4.2⟩, rfl⟩
end
end Go.Proofs.YtnghgkaoopcglaaGreat
