/-
  Slices of strings that are read.
-/
import Derived.Test.YtnghgkaoopcglaaGreatKX
import Derived.Maps.AppendAt
import Derived.Deep.AppendLies
import Derived.OwnWalk
namespace Go.Proofs.YtnghgkaoopcglaaGreat
open Go Go.RowKit

/-- strings that can be read at a slice -/
def Reads (w : World) (v : Value) (l : List ByteArray) : Prop :=
  (v = .slice none 0 0 ∧ l = []) ∨ ∃ b cap, v = .slice (some ⟨b, 0, none⟩) l.length cap ∧ l.length ≤ cap ∧ cap ≤ maxLen ∧ b < w.heap.size ∧ ∀ (i : Nat) (s : ByteArray), l[i]? = some s → w.cell? ⟨b, i, none⟩ = some (.string s)
theorem Reads.below {w w' : World} {v : Value} {l : List ByteArray} (h : Reads w v l) (hb : Below w.heap.size w w') : Reads w' v l := by
  rcases h with h | ⟨b, cap, e, h1, h2, h3, h4⟩
  · exact .inl h
  · exact .inr ⟨b, cap, e, h1, h2, Nat.lt_of_lt_of_le h3 hb.size, fun i s hi => (hb.cell (p := ⟨b, i, none⟩) h3).trans (h4 i s hi)⟩
theorem Reads.form {w : World} {v : Value} {l : List ByteArray} (h : Reads w v l) : ∃ a cap, v = .slice a l.length cap := by
  rcases h with ⟨rfl, rfl⟩ | ⟨b, cap, rfl, _⟩
  · exact ⟨_, _, rfl⟩
  · exact ⟨_, _, rfl⟩
theorem Reads.at_ {w : World} {a : Option Addr} {n cap : Nat} {l : List ByteArray} (h : Reads w (.slice a n cap) l) {i : Nat} {s : ByteArray} (hi : l[i]? = some s) :
    ∃ b, a = some ⟨b, 0, none⟩ ∧ n = l.length ∧ n ≤ cap ∧ cap ≤ maxLen ∧ b < w.heap.size ∧ w.cell? ⟨b, i, none⟩ = some (.string s) := by
  rcases h with ⟨h, rfl⟩ | ⟨b, cap', e, h1, h2, h3, h4⟩
  · simp at hi
  · cases e
    exact ⟨b, rfl, rfl, h1, h2, h3, h4 i s hi⟩
theorem Reads.same {w w' : World} {v : Value} {l : List ByteArray} (h : Reads w v l) (hk : ∀ k, v.ownBlock = some k → w'.heap[k]? = w.heap[k]?) : Reads w' v l := by
  rcases h with h | ⟨b, cap, e, h1, h2, h3, h4⟩
  · exact .inl h
  · have hb : w'.heap[b]? = w.heap[b]? := hk b (by rw [e]; rfl)
    have hlt : b < w'.heap.size := by
      rw [Array.getElem?_eq_getElem h3] at hb
      exact (Array.getElem?_eq_some_iff.1 hb).1
    exact .inr ⟨b, cap, e, h1, h2, hlt, fun i s hi => (World.cell?_of_block (a := ⟨b, i, none⟩) hb).trans (h4 i s hi)⟩
theorem Reads.lt {w : World} {v : Value} {l : List ByteArray} (h : Reads w v l) : ∀ k, v.ownBlock = some k → k < w.heap.size := by
  intro k hk
  rcases h with ⟨rfl, _⟩ | ⟨b, cap, rfl, h1, h2, h3, h4⟩
  · simp [Value.ownBlock] at hk
  · simp [Value.ownBlock] at hk
    omega
theorem Reads.of_own {w : World} {B : Nat} {v : Value} {l : List ByteArray} (h : w.ownsRow B 9 1 v l.length (l.map Value.string)) : Reads w v l := by
  rcases h.2 with ⟨rfl, h0⟩ | ⟨g, cap, cur, e, _, hh, h1, h2, _⟩
  · exact .inl ⟨rfl, List.eq_nil_of_length_eq_zero h0⟩
  · refine .inr ⟨g, cap, e, h1, h2, (Array.getElem?_eq_some_iff.1 hh).1, fun i s hi => ?_⟩
    have := h.cells (g := g) (by rw [e]; rfl) i (.string s) (by rw [List.getElem?_map, hi]; rfl)
    rwa [addr_add] at this
section
variable {w W : World}
theorem Reads.take {la : Option Addr} {n lc k : Nat} {l : List ByteArray} (h : Reads w (.slice la n lc) l) (hk : k ≤ l.length) (hz : k ≤ maxLen) : Reads w (.slice la k k) (l.take k) := by
  have hl : (l.take k).length = k := by rw [List.length_take]; omega
  rcases h with ⟨e, hl⟩ | ⟨g, cap, e, h1, h2, h3, h4⟩
  · cases e
    subst hl
    have : k = 0 := by simpa using hk
    subst this
    exact .inl ⟨rfl, rfl⟩
  · cases e
    refine .inr ⟨g, k, by rw [hl], by omega, hz, h3, fun i s hi => h4 i s ?_⟩
    rw [List.getElem?_take] at hi
    split at hi
    · exact hi
    · cases hi
theorem Reads.cap {la : Option Addr} {n lc : Nat} {l : List ByteArray} (h : Reads w (.slice la n lc) l) : n ≤ lc ∧ lc ≤ maxLen := by
  rcases h with ⟨e, hl⟩ | ⟨g, cap, e, h1, h2, h3, h4⟩
  · cases e; exact ⟨Nat.le_refl _, Nat.zero_le _⟩
  · cases e; exact ⟨h1, h2⟩
end
/-- a source that may be nil -/
def SrcR (w : World) (A : Option Addr) (m size : Nat) (news : List Value) : Prop :=
  (A = none ∧ m = 0 ∧ news = []) ∨ ∃ ad, A = some ad ∧ news.length = m * size ∧ ∀ j u, news[j]? = some u → w.cell? (ad.add j) = some u

theorem Reads.src {w : World} {a : Option Addr} {n c : Nat} {l : List ByteArray} (h : Reads w (.slice a n c) l) : SrcR w a l.length 1 (l.map Value.string) := by
  rcases h with ⟨h, hl⟩ | ⟨b, cap, e, h1, h2, h3, h4⟩
  · cases h
    subst hl
    exact .inl ⟨rfl, rfl, rfl⟩
  · cases e
    refine .inr ⟨_, rfl, by simp, fun j u hu => ?_⟩
    rw [List.getElem?_map] at hu
    cases hj : l[j]? with
    | none => rw [hj] at hu; cases hu
    | some t =>
      rw [hj] at hu
      cases hu
      rw [addr_add]
      exact h4 j t hj

section
variable {P : Program} (w : World)
theorem run_append_of_nil (base : Nat) (t ty e : TypeId) (i : TypeInfo) (size : Nat) (ht : P.underlying t = some (.slice e)) (hi : P.info? e = some i)
    (v : Value) (n : Nat) (xs : List Value) (hown : w.ownsRow base e size v n xs) (c : Nat) : (Builtin.append_ #[t, t] ty #[v, .slice none 0 c]).run P w = .ok v w := by
  rcases hown.2 with ⟨rfl, rfl⟩ | ⟨g, cap, cur, rfl, _, _, hnc, _⟩
  · simp [Builtin.append_, run_underlying ht, sizeOf, typeInfo, hi, Builtin.lenOf, Builtin.firstCells]
  · simp [Builtin.append_, run_underlying ht, sizeOf, typeInfo, hi, Builtin.lenOf, Builtin.firstCells, hnc, storeCells]

theorem step_append_any {ops : Array Oper} {o : Oper} {a : Act} {K : Act → World → Prop} {Q : Exit → Act → World → Prop} {E : Prop} (hgd : o.guard = none) (s x : Operand) (t : TypeId)
    (ho : o.op = .call { callee := .builtin .append, args := #[s, x], argTypes := #[t, t] })
    (base : Nat) (e : TypeId) (i : TypeInfo) (z : Value) (size bytes : Nat) (ht : P.underlying t = some (.slice e)) (hi : P.info? e = some i) (hz : i.zero = some z)
    (hsize : i.size = size) (hby : i.bytes = bytes) (hzs : z.cells.size = size) (hsz : 0 < size)
    (v : Value) (n : Nat) (xs : List Value) (hs : a.eval s = v) (hown : w.ownsRow base e size v n xs)
    (A : Option Addr) (m c : Nat) (news : List Value) (hx : a.eval x = .slice A m c) (hr : SrcR w A m size news) (h1 : ∀ u ∈ news, u.oneCell' = true)
    (h63 : n + m ≤ maxLen) (hbytes : (n + m) * bytes ≤ 140737488355328) (hbase : base ≤ w.heap.size)
    (h : ∀ v' w', w'.ownsRow base e size v' (n + m) (xs ++ news) → w.grownBy w' v.ownBlock → (v'.ownBlock = v.ownBlock ∨ v'.ownBlock = some w.heap.size) → K (a.put o.dst v') w') :
    if Region.wanted o (yielded ops a.tmps) = true then Oper.wp P o a w K Q else E := by
  have hw : Region.wanted o (yielded ops a.tmps) = true := by simp [Region.wanted, hgd]
  rw [if_pos hw]
  have hrun : ∃ v' w', (Builtin.append_ #[t, t] o.type #[v, .slice A m c]).run P w = .ok v' w' ∧ w'.ownsRow base e size v' (n + m) (xs ++ news) ∧ w.grownBy w' v.ownBlock ∧
      (v'.ownBlock = v.ownBlock ∨ v'.ownBlock = some w.heap.size) := by
    rcases hr with ⟨rfl, rfl, rfl⟩ | ⟨ad, rfl, hl, hc⟩
    · exact ⟨v, w, run_append_of_nil w base t o.type e i size ht hi v n xs hown c, by simpa using hown, World.grownBy.refl w _, .inl rfl⟩
    · obtain ⟨v', w', hrun, h2, h3, _, h5⟩ := run_append_own_at (P := P) w base t o.type e i z size bytes ht hi hz hsize hby hzs hsz v n xs hown ad m c news hl hc h1 h63 hbytes hbase
      exact ⟨v', w', hrun, h2, h3, h5⟩
  obtain ⟨v', w', hrun, h2, h3, h4⟩ := hrun
  unfold Oper.wp execOp
  simp only [ho, resolve, invoke, builtin, Sem.run_bind, Sem.run_pure, Result.andThen_ok, List.map_toArray, List.map_cons, List.map_nil, hs, hx, hrun]
  exact h v' w' h2 h3 h4
end
/-- a literal without elements owns nothing -/
theorem own_lit_got {W : World} {B nb : Nat} {t : TypeId} {size : Nat} (h : Got W nb (.cells #[] t)) (hb : B ≤ nb) : W.ownsRow B t size (.slice (some ⟨nb, 0, none⟩) 0 0) 0 [] :=
  ⟨by simp, .inr ⟨nb, 0, #[], rfl, hb, h, Nat.le_refl _, Nat.zero_le _, by simp, by simp⟩⟩
theorem own_shape {w : World} {B n n' : Nat} {e : TypeId} {size : Nat} {v : Value} {xs ys : List Value} (h : w.ownsRow B e size v n xs) (hn : n = n') (hx : xs = ys) : w.ownsRow B e size v n' ys := by
  subst hn hx; exact h
end Go.Proofs.YtnghgkaoopcglaaGreat
