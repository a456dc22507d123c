/-
  KD: M0 M1 A0 A1 A2 A3 A4 A5 A6 A7 A8 A9 B0 B1 B2 B3.
-/
import Derived.Test.YtpnndlahfllbhaaGreatUShelf
import Derived.Below
import Derived.BigQuiet
import Derived.BigRegion
import Derived.Deep.AppendLies
import Derived.Deep.DeepCutAuto
import Derived.Deep.Draws
import Derived.Deep.QuietTactic
import Derived.Deep.RegionHeld3
import Derived.Deep.RegionLaw
import Derived.Lib.Hide
import Derived.Maps.AppendAt
import Derived.Maps.OwnOps
import Derived.StillTailTactics
import Derived.WalkKit
import Derived.WalkLawsBesides
import Derived.WalkSpells
import GoSem.Core.World
/-! The plain model of the disk: lists, bytes and numbers, no Go and no memory. -/
namespace Go.Proofs.YtpnndlahfllbhaaGreat

/-- a loose write -/
structure Wr where
  page : Int
  s : ByteArray
  mark : Int

/-- a fall -/
structure Fl where
  at_ : Int
  keep : Int
  torn : Int
  bytes : Int
  log : Int

structure Dk where
  room : Int
  pages : Int → Option ByteArray
  mark : Int
  loose : List Wr
  log : ByteArray
  tail : ByteArray
  calls : Int
  plan : List Fl
  dead : Bool

def blank : ByteArray := ⟨(List.replicate 512 (0 : UInt8)).toArray⟩

def Dk.fresh (n : Int) : Dk := { room := n, pages := fun _ => none, mark := 0, loose := [], log := ⟨#[]⟩, tail := ⟨#[]⟩, calls := 0, plan := [], dead := false }

def Dk.sure (m : Dk) (p : Int) : ByteArray := (m.pages p).getD blank

def putAt (f : Int → Option ByteArray) (p : Int) (s : ByteArray) : Int → Option ByteArray := fun q => if q = p then some s else f q

def Dk.land (m : Dk) (x : Wr) : Dk := if x.page = 0 then { m with mark := x.mark } else { m with pages := putAt m.pages x.page x.s }

def Dk.lands (m : Dk) : List Wr → Dk
  | [] => m
  | x :: l => (m.land x).lands l

def bitAt (n : Int) (i : Nat) : Bool := n / 2 ^ i % 2 == 1

def cutN (lo hi n : Int) : Int := min (max n lo) hi

def Dk.strike (f : Fl) (m : Dk) (i : Nat) (x : Wr) : Dk :=
  if 0 < f.torn ∧ (i : Int) = f.torn - 1 then
    (if x.page = 0 then m else
      { m with pages := putAt m.pages x.page (x.s.extract 0 (cutN 0 512 f.bytes).toNat ++ (m.sure x.page).extract (cutN 0 512 f.bytes).toNat (m.sure x.page).size) })
  else if bitAt f.keep (i % 64) then m.land x else m

def Dk.strikesFrom (f : Fl) (m : Dk) (i : Nat) : List Wr → Dk
  | [] => m
  | x :: l => (m.strike f i x).strikesFrom f (i + 1) l

def Dk.fell (m : Dk) (f : Fl) : Dk :=
  { m with log := m.log ++ m.tail.extract 0 (cutN 0 m.tail.size f.log).toNat, loose := [], tail := ⟨#[]⟩, dead := true }

def Dk.crash (m : Dk) (f : Fl) : Dk := if m.dead then m else (m.strikesFrom f 0 m.loose).fell f

/-- the last write of a page, or of the mark -/
def lastOf (p : Int) : List Wr → Option Wr
  | [] => none
  | x :: l => (lastOf p l).or (if x.page = p then some x else none)

def Dk.read (m : Dk) (p : Int) : ByteArray := match lastOf p m.loose with | some x => x.s | none => m.sure p
def Dk.markNow (m : Dk) : Int := match lastOf 0 m.loose with | some x => x.mark | none => m.mark

def wrapI (n : Int) : Int := (n + 9223372036854775808) % 18446744073709551616 - 9223372036854775808

/-- where the power fails next -/
def findAt (n : Int) : List Fl → Option Nat
  | [] => none
  | f :: l => if f.at_ = n then some 0 else (findAt n l).map (· + 1)

def Dk.strikes (m : Dk) : Bool × Dk :=
  match findAt m.calls m.plan with
  | some i => (true, { m with plan := m.plan.eraseIdx i }.crash ((m.plan[i]?).getD ⟨0, 0, 0, 0, 0⟩))
  | none => (false, { m with calls := wrapI (m.calls + 1) })

def Wr.ok (x : Wr) : Prop := 0 ≤ x.page ∧ x.page ≤ 4096 ∧ (x.page ≠ 0 → x.s.size = 512)

structure Fl.ok (f : Fl) : Prop where
  at1 : -9223372036854775808 ≤ f.at_
  at2 : f.at_ ≤ 9223372036854775807
  keep1 : 0 ≤ f.keep
  keep2 : f.keep ≤ 18446744073709551615
  torn1 : -9223372036854775808 ≤ f.torn
  torn2 : f.torn ≤ 9223372036854775807
  bytes1 : -9223372036854775808 ≤ f.bytes
  bytes2 : f.bytes ≤ 9223372036854775807
  log1 : -9223372036854775808 ≤ f.log
  log2 : f.log ≤ 9223372036854775807

structure Dk.ok (m : Dk) : Prop where
  room1 : 8 ≤ m.room
  room2 : m.room ≤ 2048
  calls1 : -9223372036854775808 ≤ m.calls
  calls2 : m.calls ≤ 9223372036854775807
  logs : m.log.size + m.tail.size ≤ 4194304
  loose : ∀ x ∈ m.loose, x.ok
  pages : ∀ p s, m.pages p = some s → s.size = 512

theorem blank_size : blank.size = 512 := by
  show (List.replicate 512 (0 : UInt8)).toArray.size = 512
  rw [List.size_toArray, List.length_replicate]

theorem Dk.sure_size (m : Dk) (h : ∀ p s, m.pages p = some s → s.size = 512) (p : Int) : (m.sure p).size = 512 := by
  unfold Dk.sure
  cases e : m.pages p with
  | none => exact blank_size
  | some s => simpa using h p s e

theorem cutN_bd {lo hi n : Int} (h : lo ≤ hi) : lo ≤ cutN lo hi n ∧ cutN lo hi n ≤ hi := by unfold cutN; omega

theorem size_extract0 (s : ByteArray) (k : Nat) (h : k ≤ s.size) : (s.extract 0 k).size = k := by simp [ByteArray.size_extract]; omega

theorem Dk.land_ok {m : Dk} (h : m.ok) {x : Wr} (hx : x.ok) : (m.land x).ok := by
  unfold Dk.land
  split
  · exact ⟨h.room1, h.room2, h.calls1, h.calls2, h.logs, h.loose, h.pages⟩
  · rename_i hp
    refine ⟨h.room1, h.room2, h.calls1, h.calls2, h.logs, h.loose, fun p s hs => ?_⟩
    simp only [putAt] at hs
    split at hs
    · cases hs; exact hx.2.2 hp
    · exact h.pages p s hs

theorem Dk.strike_ok {m : Dk} (h : m.ok) (f : Fl) (i : Nat) {x : Wr} (hx : x.ok) : (m.strike f i x).ok := by
  unfold Dk.strike
  split
  · split
    · exact h
    · rename_i hp
      refine ⟨h.room1, h.room2, h.calls1, h.calls2, h.logs, h.loose, fun p s hs => ?_⟩
      simp only [putAt] at hs
      split at hs
      · cases hs
        have h1 := hx.2.2 hp
        have h2 := m.sure_size h.pages x.page
        have h3 := cutN_bd (lo := 0) (hi := 512) (n := f.bytes) (by omega)
        simp [ByteArray.size_extract, h1, h2]
        omega
      · exact h.pages p s hs
  · split
    · exact Dk.land_ok h hx
    · exact h

theorem Dk.land_loose (m : Dk) (x : Wr) : (m.land x).loose = m.loose ∧ (m.land x).log = m.log ∧ (m.land x).tail = m.tail ∧ (m.land x).room = m.room ∧ (m.land x).calls = m.calls ∧ (m.land x).plan = m.plan ∧ (m.land x).dead = m.dead := by
  unfold Dk.land; split <;> simp

theorem Dk.strike_loose (m : Dk) (f : Fl) (i : Nat) (x : Wr) : (m.strike f i x).loose = m.loose ∧ (m.strike f i x).log = m.log ∧ (m.strike f i x).tail = m.tail ∧ (m.strike f i x).room = m.room ∧ (m.strike f i x).calls = m.calls ∧ (m.strike f i x).plan = m.plan ∧ (m.strike f i x).dead = m.dead := by
  unfold Dk.strike
  split
  · split <;> simp
  · split
    · exact m.land_loose x
    · simp

theorem Dk.strikesFrom_ok (f : Fl) : ∀ (l : List Wr) (m : Dk) (i : Nat), m.ok → (∀ x ∈ l, x.ok) → (m.strikesFrom f i l).ok
  | [], _, _, h, _ => h
  | x :: l, m, i, h, hl => Dk.strikesFrom_ok f l _ _ (Dk.strike_ok h f i (hl x (by simp))) (fun y hy => hl y (by simp [hy]))

theorem Dk.strikesFrom_loose (f : Fl) : ∀ (l : List Wr) (m : Dk) (i : Nat), (m.strikesFrom f i l).loose = m.loose ∧ (m.strikesFrom f i l).log = m.log ∧ (m.strikesFrom f i l).tail = m.tail ∧ (m.strikesFrom f i l).room = m.room ∧ (m.strikesFrom f i l).calls = m.calls ∧ (m.strikesFrom f i l).plan = m.plan ∧ (m.strikesFrom f i l).dead = m.dead
  | [], _, _ => by simp [Dk.strikesFrom]
  | x :: l, m, i => by
    have h1 := m.strike_loose f i x
    have h2 := Dk.strikesFrom_loose f l (m.strike f i x) (i + 1)
    simp only [Dk.strikesFrom]
    simp [h1, h2]

theorem Dk.lands_loose : ∀ (l : List Wr) (m : Dk), (m.lands l).loose = m.loose ∧ (m.lands l).log = m.log ∧ (m.lands l).tail = m.tail ∧ (m.lands l).room = m.room ∧ (m.lands l).calls = m.calls ∧ (m.lands l).plan = m.plan ∧ (m.lands l).dead = m.dead
  | [], _ => by simp [Dk.lands]
  | x :: l, m => by
    have h1 := m.land_loose x
    have h2 := Dk.lands_loose l (m.land x)
    simp only [Dk.lands]
    simp [h1, h2]

theorem Dk.strikesFrom_snoc (f : Fl) (x : Wr) : ∀ (l : List Wr) (m : Dk) (i : Nat), m.strikesFrom f i (l ++ [x]) = (m.strikesFrom f i l).strike f (i + l.length) x
  | [], _, _ => by simp [Dk.strikesFrom]
  | y :: l, m, i => by
    simp only [List.cons_append, Dk.strikesFrom, List.length_cons]
    rw [Dk.strikesFrom_snoc f x l]
    congr 1
    omega

theorem Dk.strikesFrom_next (m : Dk) (f : Fl) {k : Nat} {x : Wr} (hx : m.loose[k]? = some x) : m.strikesFrom f 0 (m.loose.take (k + 1)) = (m.strikesFrom f 0 (m.loose.take k)).strike f k x := by
  have hk : k < m.loose.length := (List.getElem?_eq_some_iff.1 hx).1
  rw [List.take_add_one, hx]
  show m.strikesFrom f 0 (m.loose.take k ++ [x]) = _
  rw [Dk.strikesFrom_snoc]
  congr 1
  rw [List.length_take]
  omega

theorem Dk.lands_snoc (x : Wr) : ∀ (l : List Wr) (m : Dk), m.lands (l ++ [x]) = (m.lands l).land x
  | [], _ => by simp [Dk.lands]
  | y :: l, m => by
    simp only [List.cons_append, Dk.lands]
    rw [Dk.lands_snoc x l]

theorem Dk.fell_ok {m : Dk} (h : m.ok) (f : Fl) : (m.fell f).ok := by
  refine ⟨h.room1, h.room2, h.calls1, h.calls2, ?_, by simp [Dk.fell], h.pages⟩
  have h3 := cutN_bd (lo := 0) (hi := m.tail.size) (n := f.log) (by omega)
  have h4 := h.logs
  show (m.log ++ m.tail.extract 0 (cutN 0 m.tail.size f.log).toNat).size + ByteArray.size ⟨#[]⟩ ≤ _
  rw [ByteArray.size_append, size_extract0 _ _ (by omega)]
  show _ + _ + 0 ≤ _
  omega

theorem Dk.crash_ok {m : Dk} (h : m.ok) (f : Fl) : (m.crash f).ok := by
  unfold Dk.crash
  split
  · exact h
  · exact Dk.fell_ok (Dk.strikesFrom_ok f _ _ _ h h.loose) f

theorem Dk.fresh_ok (n : Int) (h1 : 8 ≤ n) (h2 : n ≤ 2048) : (Dk.fresh n).ok :=
  ⟨h1, h2, by simp [Dk.fresh], by simp [Dk.fresh], by simp [Dk.fresh, ByteArray.size], by simp [Dk.fresh], by simp [Dk.fresh]⟩
end Go.Proofs.YtpnndlahfllbhaaGreat

/-! Memory: blocks known whole, steps that leave all but a set of blocks alone, maps keyed by integers. -/
namespace Go.Proofs.YtpnndlahfllbhaaGreat
open Go.RowKit

/-- a block that is known whole -/
def Blk (w : World) (g : Nat) (t : TypeId) (cs : Array Value) : Prop := w.heap[g]? = some (.cells cs t (0, 0))

section
variable {w w' : World} {g : Nat} {t : TypeId} {cs : Array Value}
theorem Blk.lt (h : Blk w g t cs) : g < w.heap.size := by
  rcases Nat.lt_or_ge g w.heap.size with hlt | hge
  · exact hlt
  · unfold Blk at h; rw [Array.getElem?_eq_none hge] at h; cases h
theorem Blk.cell (h : Blk w g t cs) (i : Nat) : w.cell? ⟨g, i, none⟩ = cs[i]? := cell_of_row w g i cs t (0, 0) h
theorem Blk.frozen (h : Blk w g t cs) (i : Nat) : w.frozen? ⟨g, i, none⟩ = false := by
  unfold Blk at h
  simp [World.frozen?, h]
theorem Blk.new (w : World) (t : TypeId) (cs : Array Value) : Blk (w.alloc (.cells cs t)) w.heap.size t cs := heap_alloc_new w _
theorem Blk.same (h : Blk w g t cs) (e : w'.heap[g]? = w.heap[g]?) : Blk w' g t cs := e.trans h
theorem Blk.drewN (h : Blk w g t cs) (n : Nat) : Blk (w.drewN n) g t cs := h
theorem Blk.alloc (h : Blk w g t cs) (o : Obj) : Blk (w.alloc o) g t cs := (Below.heap_alloc w o g h.lt).trans h
theorem Blk.set_ (h : Blk w g t cs) (i : Nat) (u : Value) : Blk (w.setCell ⟨g, i, none⟩ u) g t (cs.setIfInBounds i u) := by
  unfold Blk at h ⊢
  simp [World.setCell, Array.getElem?_modify, h]
theorem Blk.ne_ {g' : Nat} {t' : TypeId} {cs' : Array Value} (h : Blk w g t cs) (h' : Blk w g' t' cs') (hne : t ≠ t') : g ≠ g' := by
  rintro rfl
  unfold Blk at h h'
  rw [h] at h'
  injection h' with h'
  injection h' with _ ht
  exact hne ht
theorem own_blk_ne {base : Nat} {e : TypeId} {size n : Nat} {v : Value} {xs : List Value} (h : w.ownsRow base e size v n xs) (hg : Blk w g t cs) (hne : e ≠ t) : v.ownBlock ≠ some g := by
  rcases h.2 with ⟨rfl, _⟩ | ⟨g', cap, cur, rfl, _, hh, _⟩
  · simp [Value.ownBlock]
  · intro he
    have : g' = g := by simpa [Value.ownBlock] using he
    subst this
    exact Blk.ne_ (t := e) hh hg hne rfl
theorem own_own_ne {base base' : Nat} {e e' : TypeId} {size n size' n' : Nat} {v v' : Value} {xs xs' : List Value} (h : w.ownsRow base e size v n xs) (h' : w.ownsRow base' e' size' v' n' xs') (hne : e ≠ e') {k : Nat} (hk : v.ownBlock = some k) : v'.ownBlock ≠ some k := by
  rcases h.2 with ⟨rfl, _⟩ | ⟨g', cap, cur, rfl, _, hh, _⟩
  · simp [Value.ownBlock] at hk
  · have : g' = k := by simpa [Value.ownBlock] using hk
    subst this
    exact own_blk_ne h' (t := e) hh (fun q => hne q.symm)
theorem own_same {base : Nat} {e : TypeId} {size n : Nat} {v : Value} {xs : List Value} (h : w.ownsRow base e size v n xs) (hk : ∀ k, v.ownBlock = some k → w'.heap[k]? = w.heap[k]?) : w'.ownsRow base e size v n xs := by
  refine ⟨h.1, ?_⟩
  rcases h.2 with h2 | ⟨g, cap, cur, rfl, hg, hh, r⟩
  · exact .inl h2
  · exact .inr ⟨g, cap, cur, rfl, hg, (hk g rfl).trans hh, r⟩
end

/-- w' is w, but for the blocks of F and new ones -/
structure Step (F : Nat → Prop) (w w' : World) : Prop where
  os : w'.os = w.os
  tape : w'.tape = w.tape
  output : w'.output = w.output
  size : w.heap.size ≤ w'.heap.size
  block : ∀ r, r < w.heap.size → ¬ F r → w'.heap[r]? = w.heap[r]?

/-- what F' has beside F is new -/
def More (F F' : Nat → Prop) (w : World) : Prop := ∀ r, F' r → F r ∨ w.heap.size ≤ r

theorem More.refl (F : Nat → Prop) (w : World) : More F F w := fun _ h => .inl h
theorem Step.refl (F : Nat → Prop) (w : World) : Step F w w := ⟨rfl, rfl, rfl, Nat.le_refl _, fun _ _ _ => rfl⟩
theorem Step.trans {F F' : Nat → Prop} {a b c : World} (h : Step F a b) (hm : More F F' a) (k : Step F' b c) : Step F a c :=
  ⟨k.os.trans h.os, k.tape.trans h.tape, k.output.trans h.output, Nat.le_trans h.size k.size, fun r hr hn =>
    (k.block r (Nat.lt_of_lt_of_le hr h.size) (fun hf => by rcases hm r hf with h1 | h1; exact hn h1; omega)).trans (h.block r hr hn)⟩
theorem More.trans {F F' F'' : Nat → Prop} {a b : World} (h : More F F' a) (hs : a.heap.size ≤ b.heap.size) (k : More F' F'' b) : More F F'' a :=
  fun r hr => by rcases k r hr with h1 | h1; exact h r h1; right; omega
theorem Step.below {F : Nat → Prop} {w w' : World} (h : Below w.heap.size w w') : Step F w w' := ⟨h.os, h.tape, h.output, h.size, fun r hr _ => h.block r hr⟩
theorem Step.drewN {F : Nat → Prop} {a w : World} (h : Step F a w) (n : Nat) : Step F a (w.drewN n) := ⟨h.os, h.tape, h.output, h.size, h.block⟩
theorem Step.alloc {F : Nat → Prop} {a w : World} (h : Step F a w) (o : Obj) : Step F a (w.alloc o) :=
  ⟨h.os, h.tape, h.output, Nat.le_trans h.size (by simp), fun r hr hn => (Below.heap_alloc w o r (Nat.lt_of_lt_of_le hr h.size)).trans (h.block r hr hn)⟩
theorem Step.setCell {F : Nat → Prop} {a w : World} (h : Step F a w) {p : Addr} (hp : F p.block ∨ a.heap.size ≤ p.block) (u : Value) : Step F a (w.setCell p u) :=
  ⟨h.os, h.tape, h.output, by simpa [World.setCell] using h.size, fun r hr hn => (Below.heap_setCell w p u r (by
    rintro rfl
    rcases hp with hp | hp
    · exact hn hp
    · omega)).trans (h.block r hr hn)⟩
theorem Step.grown {F : Nat → Prop} {a w w' : World} {row : Option Nat} (h : Step F a w) (hg : w.grownBy w' row) (hr : ∀ k, row = some k → F k ∨ a.heap.size ≤ k) : Step F a w' :=
  ⟨hg.os.trans h.os, hg.tape.trans h.tape, hg.output.trans h.output, Nat.le_trans h.size hg.size, fun r hlt hn =>
    (hg.block r (Nat.lt_of_lt_of_le hlt h.size) (fun e => by rcases hr r e.symm with h1 | h1; exact hn h1; omega)).trans (h.block r hlt hn)⟩
theorem Step.belowB {F : Nat → Prop} {w w' : World} {B : Nat} (h : Step F w w') (hF : ∀ r, F r → B ≤ r) (hB : B ≤ w.heap.size) : Below B w w' :=
  ⟨h.os, h.tape, h.output, h.size, fun k hk => h.block k (Nat.lt_of_lt_of_le hk hB) (fun hf => by have := hF k hf; omega)⟩
theorem Step.cell {F : Nat → Prop} {w w' : World} (h : Step F w w') {p : Addr} {v : Value} (hc : w.cell? p = some v) (hn : ¬ F p.block) : w'.cell? p = some v :=
  (World.cell?_of_block (h.block p.block (World.block_lt_of_cell? w p hc) hn)).trans hc

/-! maps keyed by integers of one kind -/
def lookE (q : IntKind) (k : Int) : List MapEntry → Option Value
  | [] => none
  | e :: l => match e.key with
    | .int _ a => if k = a then some e.val else lookE q k l
    | _ => none

/-- block b is a map that holds f -/
def MapI (q : IntKind) (w : World) (b : Nat) (f : Int → Option Value) : Prop :=
  ∃ es clock, w.heap[b]? = some (.map es clock) ∧ (∀ e ∈ es.toList, ∃ a, e.key = .int q a) ∧ ∀ k, lookE q k es.toList = f k

section
variable {P : Program} {w : World} {q : IntKind} {b : Nat} {f : Int → Option Value}

theorem MapI.lt (h : MapI q w b f) : b < w.heap.size := by
  obtain ⟨es, clock, hb, _⟩ := h
  exact (Array.getElem?_eq_some_iff.1 hb).1
theorem MapI.same {w' : World} (h : MapI q w b f) (e : w'.heap[b]? = w.heap[b]?) : MapI q w' b f := by
  obtain ⟨es, clock, hb, r⟩ := h
  exact ⟨es, clock, e.trans hb, r⟩
theorem MapI.made (w : World) : MapI q (w.alloc (.map #[] 0)) w.heap.size (fun _ => none) :=
  ⟨#[], 0, heap_alloc_new w _, by simp, fun _ => rfl⟩

theorem findNow_int (k : Int) : ∀ (l : List MapEntry) (i : Nat), (∀ e ∈ l, ∃ a, e.key = .int q a) →
    (lookE q k l = none ∧ Instr.findNow (.int q) (.int q k) l i = some none) ∨
    ∃ j e, l[j]? = some e ∧ e.key = .int q k ∧ lookE q k l = some e.val ∧ Instr.findNow (.int q) (.int q k) l i = some (some (i + j, e.val)) ∧ ∀ j', j' < j → ∀ e', l[j']? = some e' → e'.key ≠ .int q k
  | [], i, _ => .inl ⟨rfl, rfl⟩
  | e :: l, i, h => by
    obtain ⟨a, ha⟩ := h e (by simp)
    by_cases hk : k = a
    · subst hk
      refine .inr ⟨0, e, rfl, ha, by simp [lookE, ha], ?_, by omega⟩
      simp [Instr.findNow, Instr.sameNow, ha]
    · have hb : (k == a) = false := by simpa using hk
      rcases findNow_int k l (i + 1) (fun x hx => h x (by simp [hx])) with ⟨h1, h2⟩ | ⟨j, x, h1, h2, h3, h4, h5⟩
      · exact .inl ⟨by simp [lookE, ha, hk, h1], by simp [Instr.findNow, Instr.sameNow, ha, hb, h2]⟩
      · refine .inr ⟨j + 1, x, by simpa using h1, h2, by simp [lookE, ha, hk, h3], by simp [Instr.findNow, Instr.sameNow, ha, hb, h4]; omega, ?_⟩
        intro j' hj' e' he'
        cases j' with
        | zero =>
          simp at he'
          subst he'
          rw [ha]
          intro e; injection e with _ e; exact hk e.symm
        | succ j' => exact h5 j' (by omega) e' (by simpa using he')

theorem run_checkKey_int {kt : TypeId} (hk : P.underlying kt = some (.int q)) (em : Bool) (v : Value) : (Instr.checkKey em 10000 kt v).run P w = .ok () w := by
  unfold Instr.checkKey
  simp [run_underlying hk]

theorem MapI.look (h : MapI q w b f) {t kt e : TypeId} (ht : P.underlying t = some (.map kt e)) (hk : P.underlying kt = some (.int q)) (k : Int) {z : Value} (hz : (zeroValue e).run P w = .ok z w) (ok : Bool) :
    (Instr.lookup t (.map (some b)) (.int q k) ok).run P w = .ok (if ok then .tuple #[(f k).getD z, .bool (f k).isSome] else (f k).getD z) w := by
  obtain ⟨es, clock, hb, hes, hf⟩ := h
  rw [← hf k]
  rcases findNow_int k es.toList 0 hes with ⟨h1, h2⟩ | ⟨j, x, _, _, h3, h4, _⟩
  · rw [h1]
    simp [Instr.lookup, run_underlying ht, run_underlying hk, getObj, Sem.run, hb, run_checkKey_int hk, Instr.findKey, h2, hz]
  · rw [h3]
    simp [Instr.lookup, run_underlying ht, run_underlying hk, getObj, Sem.run, hb, run_checkKey_int hk, Instr.findKey, h4]

theorem lookE_push (k a : Int) (e : MapEntry) (he : e.key = .int q a) : ∀ (l : List MapEntry), (∀ x ∈ l, ∃ a, x.key = .int q a) → lookE q k (l ++ [e]) = (lookE q k l).or (if k = a then some e.val else none)
  | [], _ => by simp [lookE, he]
  | x :: l, h => by
    obtain ⟨c, hc⟩ := h x (by simp)
    have ih := lookE_push k a e he l (fun y hy => h y (by simp [hy]))
    simp only [List.cons_append, lookE, hc]
    split
    · simp
    · exact ih

theorem lookE_modify (v : Value) (k : Int) : ∀ (l : List MapEntry) (j : Nat) (e : MapEntry) (c : Int), (∀ x ∈ l, ∃ a, x.key = .int q a) → l[j]? = some e → e.key = .int q c → (∀ j', j' < j → ∀ e', l[j']? = some e' → e'.key ≠ .int q c) →
    lookE q k (l.modify j fun e => { e with key := .int q c, val := v }) = if k = c then some v else lookE q k l
  | [], j, e, c, _, h, _, _ => by simp at h
  | x :: l, 0, e, c, hl, h, hk, _ => by
    simp at h
    subst h
    simp only [List.modify_zero_cons, lookE, hk]
    split <;> rfl
  | x :: l, j + 1, e, c, hl, h, hk, hn => by
    obtain ⟨a, ha⟩ := hl x (by simp)
    have hac : a ≠ c := fun e' => hn 0 (by omega) x (by simp) (by rw [ha, e'])
    have ih := lookE_modify v k l j e c (fun y hy => hl y (by simp [hy])) (by simpa using h) hk (fun j' hj' e' he' => hn (j' + 1) (by omega) e' (by simpa using he'))
    simp only [List.modify_succ_cons, lookE, ha]
    by_cases h1 : k = a
    · subst h1
      simp [hac]
    · simp only [h1, if_false]
      exact ih

theorem MapI.store (h : MapI q w b f) {t kt e : TypeId} (ht : P.underlying t = some (.map kt e)) (hk : P.underlying kt = some (.int q)) (k : Int) (v : Value) :
    ∃ w', (Instr.mapUpdate t (.map (some b)) (.int q k) v).run P w = .ok () w' ∧ MapI q w' b (fun x => if x = k then some v else f x) ∧ w.grownBy w' (some b) := by
  obtain ⟨es, clock, hb, hes, hf⟩ := h
  have hlt := (Array.getElem?_eq_some_iff.1 hb).1
  have hset : ∀ (es' : Array MapEntry) (c : Nat), (∀ e ∈ es'.toList, ∃ a, e.key = .int q a) → (∀ x, lookE q x es'.toList = if x = k then some v else f x) →
      MapI q { w with heap := w.heap.setIfInBounds b (.map es' c) } b (fun x => if x = k then some v else f x) ∧ w.grownBy { w with heap := w.heap.setIfInBounds b (.map es' c) } (some b) := by
    intro es' c h1 h2
    refine ⟨⟨es', c, by simp [hlt], h1, h2⟩, ⟨rfl, rfl, rfl, by simp, fun i _ hi => ?_⟩⟩
    have : i ≠ b := fun e => hi (by rw [e])
    simp [Ne.symm this]
  rcases findNow_int k es.toList 0 hes with ⟨h1, h2⟩ | ⟨j, x, hj, hx, h3, h4, h5⟩
  · refine ⟨_, ?_, hset (es.push { key := .int q k, val := v, born := clock }) (clock + 1) ?_ ?_⟩
    · simp [Instr.mapUpdate, run_underlying ht, run_underlying hk, getObj, setObj, Sem.run, hb, run_checkKey_int hk, Instr.findKey, h2]
    · intro e he
      simp at he
      rcases he with he | rfl
      · exact hes e (by simpa using he)
      · exact ⟨k, rfl⟩
    · intro y
      rw [Array.toList_push, lookE_push y k { key := .int q k, val := v, born := clock } rfl _ hes, hf y]
      by_cases hy : y = k
      · subst hy
        rw [hf y] at h1
        simp [h1]
      · simp [hy]
  · simp only [Nat.zero_add] at h4
    have hj' : es[j]? = some x := by simpa using hj
    refine ⟨_, ?_, hset (es.modify j fun e => { e with key := .int q k, val := v }) clock ?_ ?_⟩
    · simp [Instr.mapUpdate, run_underlying ht, run_underlying hk, getObj, setObj, Sem.run, hb, run_checkKey_int hk, Instr.findKey, h4, hj', hx, Instr.keyThatStays, Instr.sameBits]
    · intro e he
      simp only [Array.toList_modify] at he
      obtain ⟨n, hn⟩ := List.getElem?_of_mem he
      rw [List.getElem?_modify] at hn
      cases hc : es.toList[n]? with
      | none => simp [hc] at hn
      | some y =>
        have hy : y ∈ es.toList := List.mem_of_getElem? hc
        rw [hc] at hn
        by_cases e' : j = n
        · subst e'
          simp at hn
          subst hn
          exact ⟨k, rfl⟩
        · simp [e'] at hn
          subst hn
          exact hes _ hy
    · intro y
      rw [Array.toList_modify, lookE_modify v y es.toList j x k hes hj hx h5, hf y]
end

end Go.Proofs.YtpnndlahfllbhaaGreat

/-! The disk in memory, and the small functions on it. -/
namespace Go.Proofs.YtpnndlahfllbhaaGreat
open Go.RowKit

def wrCells (x : Wr) : List Value := [.int .u32 x.page, .string x.s, .int .u64 x.mark]
def wrsCells (l : List Wr) : List Value := l.flatMap wrCells
def flCells (f : Fl) : List Value := [.int .i64 f.at_, .int .u64 f.keep, .int .i64 f.torn, .int .i64 f.bytes, .int .i64 f.log]
def flsCells (l : List Fl) : List Value := l.flatMap flCells

/-- the disk m lies at block b, in the blocks of F -/
structure DiskIn (w : World) (F : Nat → Prop) (b mb : Nat) (lv pv : Value) (m : Dk) : Prop where
  blk : Blk w b 279 #[.int .i64 m.room, .map (some mb), .int .u64 m.mark, lv, .string m.log, .string m.tail, .int .i64 m.calls, pv, .bool m.dead]
  map : MapI .u32 w mb (fun p => (m.pages p).map Value.string)
  loose : w.ownsRow 0 310 3 lv m.loose.length (wrsCells m.loose)
  plan : w.ownsRow 0 79 5 pv m.plan.length (flsCells m.plan)
  fb : F b
  fm : F mb
  fl : ∀ g, lv.ownBlock = some g → F g
  fp : ∀ g, pv.ownBlock = some g → F g
  ok : m.ok
  lt : ∀ r, F r → r < w.heap.size

def DiskAt (w : World) (F : Nat → Prop) (b : Nat) (m : Dk) : Prop := ∃ mb lv pv, DiskIn w F b mb lv pv m

section
variable {w w' : World} {F : Nat → Prop} {b mb : Nat} {lv pv : Value} {m : Dk}

theorem DiskIn.keep (h : DiskIn w F b mb lv pv m) (hk : ∀ r, F r → w'.heap[r]? = w.heap[r]?) (hs : w.heap.size ≤ w'.heap.size) : DiskIn w' F b mb lv pv m :=
  ⟨h.blk.same (hk _ h.fb), h.map.same (hk _ h.fm), own_same h.loose (fun g hg => hk _ (h.fl g hg)), own_same h.plan (fun g hg => hk _ (h.fp g hg)), h.fb, h.fm, h.fl, h.fp, h.ok, fun r hr => Nat.lt_of_lt_of_le (h.lt r hr) hs⟩
theorem DiskAt.keep (h : DiskAt w F b m) (hk : ∀ r, F r → w'.heap[r]? = w.heap[r]?) (hs : w.heap.size ≤ w'.heap.size) : DiskAt w' F b m := by
  obtain ⟨mb, lv, pv, h⟩ := h
  exact ⟨mb, lv, pv, h.keep hk hs⟩
theorem DiskAt.below (h : DiskAt w F b m) (hb : Below w.heap.size w w') : DiskAt w' F b m := h.keep (fun r hr => hb.block r (by obtain ⟨_, _, _, h⟩ := h; exact h.lt r hr)) hb.size
theorem DiskAt.ok (h : DiskAt w F b m) : m.ok := by obtain ⟨_, _, _, h⟩ := h; exact h.ok
theorem DiskAt.lt (h : DiskAt w F b m) : ∀ r, F r → r < w.heap.size := by obtain ⟨_, _, _, h⟩ := h; exact h.lt

/-- all that a walk reads of the disk's own block -/
theorem DiskIn.cells (h : DiskIn w F b mb lv pv m) :
    w.cell? ⟨b, 0, none⟩ = some (.int .i64 m.room) ∧ w.cell? ⟨b, 1, none⟩ = some (.map (some mb)) ∧ w.cell? ⟨b, 2, none⟩ = some (.int .u64 m.mark) ∧ w.cell? ⟨b, 3, none⟩ = some lv ∧
    w.cell? ⟨b, 4, none⟩ = some (.string m.log) ∧ w.cell? ⟨b, 5, none⟩ = some (.string m.tail) ∧ w.cell? ⟨b, 6, none⟩ = some (.int .i64 m.calls) ∧ w.cell? ⟨b, 7, none⟩ = some pv ∧ w.cell? ⟨b, 8, none⟩ = some (.bool m.dead) ∧
    ∀ i, w.frozen? ⟨b, i, none⟩ = false :=
  ⟨h.blk.cell 0, h.blk.cell 1, h.blk.cell 2, h.blk.cell 3, h.blk.cell 4, h.blk.cell 5, h.blk.cell 6, h.blk.cell 7, h.blk.cell 8, h.blk.frozen⟩
end

section
variable {w w' : World} {F : Nat → Prop} {b mb : Nat} {lv pv : Value} {m : Dk}
def dkCells (mb : Nat) (lv pv : Value) (m : Dk) : Array Value := #[.int .i64 m.room, .map (some mb), .int .u64 m.mark, lv, .string m.log, .string m.tail, .int .i64 m.calls, pv, .bool m.dead]

/-- a store into one of the disk's own cells -/
theorem DiskIn.set (h : DiskIn w F b mb lv pv m) (i : Nat) (u : Value) (m' : Dk) (hcs : (dkCells mb lv pv m).setIfInBounds i u = dkCells mb lv pv m') (hp : m'.pages = m.pages) (hl : m'.loose = m.loose) (hpl : m'.plan = m.plan) (hok : m'.ok) :
    DiskIn (w.setCell ⟨b, i, none⟩ u) F b mb lv pv m' := by
  have hm : mb ≠ b := by
    rintro rfl
    obtain ⟨es, c, h1, _⟩ := h.map
    have h2 := h.blk
    unfold Blk at h2
    rw [h1] at h2
    cases h2
  have ho : ∀ r, r ≠ b → (w.setCell ⟨b, i, none⟩ u).heap[r]? = w.heap[r]? := fun r hr => Below.heap_setCell w _ u r hr
  refine ⟨?_, ?_, ?_, ?_, h.fb, h.fm, h.fl, h.fp, hok, fun r hr => by have := h.lt r hr; simpa [World.setCell] using this⟩
  · have := h.blk.set_ i u
    have e : (#[.int .i64 m.room, .map (some mb), .int .u64 m.mark, lv, .string m.log, .string m.tail, .int .i64 m.calls, pv, .bool m.dead] : Array Value).setIfInBounds i u = dkCells mb lv pv m' := hcs
    rw [e] at this
    exact this
  · rw [hp]; exact h.map.same (ho _ hm)
  · rw [hl]; exact own_same h.loose (fun g hg => ho g (fun e => own_blk_ne h.loose h.blk (by decide) (by rw [hg, e])))
  · rw [hpl]; exact own_same h.plan (fun g hg => ho g (fun e => own_blk_ne h.plan h.blk (by decide) (by rw [hg, e])))

theorem DiskIn.drewN (h : DiskIn w F b mb lv pv m) (n : Nat) : DiskIn (w.drewN n) F b mb lv pv m := h.keep (fun _ _ => rfl) (Nat.le_refl _)
theorem DiskIn.below (h : DiskIn w F b mb lv pv m) (hb : Below w.heap.size w w') : DiskIn w' F b mb lv pv m := h.keep (fun r hr => hb.block r (h.lt r hr)) hb.size
end

/-- what a call that works on the disk leaves -/
def DPost (w : World) (F : Nat → Prop) (b : Nat) (m : Dk) (w' : World) : Prop := ∃ F', DiskAt w' F' b m ∧ Step F w w' ∧ More F F' w

theorem DPost.mk' {w w' : World} {F : Nat → Prop} {b mb : Nat} {lv pv : Value} {m : Dk} (h : DiskIn w' F b mb lv pv m) (hs : Step F w w') : DPost w F b m w' := ⟨F, ⟨mb, lv, pv, h⟩, hs, More.refl F w⟩

section
variable {w : World} {F : Nat → Prop} {b : Nat} {m : Dk}
theorem dead_c (h : DiskAt w F b m) : Calls Tryz.prog 96 #[.pointer (some ⟨b, 0, none⟩)] w fun e w' => e = .returned (.bool m.dead) ∧ w = w' := by
  obtain ⟨mb, lv, pv, h⟩ := h
  have c8 := h.cells.2.2.2.2.2.2.2.2.1
  clear h
  go_enter Tryz.func96, Tryz.ntmps96
  go_wp2
  go_ret
  exact ⟨rfl, rfl⟩

theorem readLog_c (h : DiskAt w F b m) (hd : m.dead = false) : Calls Tryz.prog 153 #[.pointer (some ⟨b, 0, none⟩)] w fun e w' => e = .returned (.tuple #[.string (m.log ++ m.tail), .int .i64 0]) ∧ Below w.heap.size w w' := by
  have hc := dead_c h
  rw [hd] at hc
  have HC := Lib.hid hc
  obtain ⟨mb, lv, pv, h⟩ := h
  have c4 := h.cells.2.2.2.2.1
  have c5 := h.cells.2.2.2.2.2.1
  have hs := h.ok.logs
  clear h hd hc
  go_enter Tryz.func153, Tryz.ntmps153
  go_wp2_with (go_at_call 96; refine (HC.out).mono ?_; rintro e w' ⟨rfl, rfl⟩)
  go_quiet (fail)
  go_wp2
  go_ret2
  exact ⟨rfl, ⟨rfl, rfl, rfl, Nat.le_refl _, fun _ _ => rfl⟩⟩

theorem zero_string (w : World) : (zeroValue 9).run Tryz.prog w = .ok (.string ⟨#[]⟩) w := by kernel_rfl

theorem repeatL_one (c : UInt8) : ∀ n, Lib.repeatL [c] n = List.replicate n c
  | 0 => rfl
  | n + 1 => by simp [Lib.repeatL, repeatL_one c n, List.replicate_succ]

theorem repeat_blank : (⟨(Lib.repeatL [0] 512).toArray⟩ : ByteArray) = blank := by
  rw [repeatL_one]
  rfl

theorem sure_c (h : DiskAt w F b m) (p : Int) : Calls Tryz.prog 193 #[.pointer (some ⟨b, 0, none⟩), .int .u32 p] w fun e w' => e = .returned (.string (m.sure p)) ∧ Below w.heap.size w w' := by
  obtain ⟨mb, lv, pv, h⟩ := h
  have c1 := h.cells.2.1
  have hl := h.map.look (P := Tryz.prog) Tryz.underlying275 Tryz.underlying48 p (zero_string w) true
  cases hp : m.pages p with
  | none =>
    have e1 : m.sure p = blank := by simp [Dk.sure, hp]
    rw [e1]
    simp only [hp, Option.map_none, Option.getD_none, Option.isSome_none, if_true] at hl
    have HR : ∀ W, Hid (Calls Tryz.prog 183 #[.string ⟨#[0]⟩, .int .i64 512] W fun e w' => e = .returned (.string blank) ∧ Below W.heap.size W w') := fun W => by
      have := Tryz.strings_Repeat ⟨#[0]⟩ 512 W (by omega) (by simp [ByteArray.size])
      have e2 : (⟨(Lib.repeatL (⟨#[0]⟩ : ByteArray).data.toList 512).toArray⟩ : ByteArray) = blank := repeat_blank
      rw [e2] at this
      exact this
    clear h hp e1
    go_enter Tryz.func193, Tryz.ntmps193
    go_wp2_with (go_at_call 183; refine ((HR _).out).mono ?_; rintro e w' ⟨rfl, hb⟩)
    go_ret
    exact ⟨rfl, by assumption⟩
  | some s =>
    have e1 : m.sure p = s := by simp [Dk.sure, hp]
    rw [e1]
    simp only [hp, Option.map_some, Option.getD_some, Option.isSome_some, if_true] at hl
    clear h hp e1
    go_enter Tryz.func193, Tryz.ntmps193
    go_wp2
    go_ret
    exact ⟨rfl, Below.refl _ _⟩
end
end Go.Proofs.YtpnndlahfllbhaaGreat

/-! The disk: a loose write lands; the power fails. -/
namespace Go.Proofs.YtpnndlahfllbhaaGreat
open Go.RowKit

theorem putAt_map (f : Int → Option ByteArray) (p : Int) (s : ByteArray) : (fun q => if q = p then some (Value.string s) else (f q).map Value.string) = fun q => (putAt f p s q).map Value.string := by
  funext q
  simp only [putAt]
  split <;> rfl

section
variable {w w' : World} {F : Nat → Prop} {b mb : Nat} {lv pv : Value} {m : Dk}

theorem DiskIn.b_ne (h : DiskIn w F b mb lv pv m) : mb ≠ b := by
  rintro rfl
  obtain ⟨es, c, h1, _⟩ := h.map
  have h2 := h.blk
  unfold Blk at h2
  rw [h1] at h2
  cases h2

/-- all but the disk's own block stands; that block is rewritten; the slices may be others -/
theorem DiskIn.anew (h : DiskIn w F b mb lv pv m) (ho : ∀ r, r ≠ b → r < w.heap.size → w'.heap[r]? = w.heap[r]?) (_hs : w.heap.size ≤ w'.heap.size) {F' : Nat → Prop} {lv' pv' : Value} {m' : Dk} (hb : Blk w' b 279 (dkCells mb lv' pv' m')) (hp : m'.pages = m.pages)
    (hl : w'.ownsRow 0 310 3 lv' m'.loose.length (wrsCells m'.loose)) (hpl : w'.ownsRow 0 79 5 pv' m'.plan.length (flsCells m'.plan))
    (f0 : ∀ r, F r → F' r) (f1 : ∀ g, lv'.ownBlock = some g → F' g) (f2 : ∀ g, pv'.ownBlock = some g → F' g) (hok : m'.ok) (hlt : ∀ r, F' r → r < w'.heap.size) : DiskIn w' F' b mb lv' pv' m' :=
  ⟨hb, by rw [hp]; exact h.map.same (ho _ h.b_ne h.map.lt), hl, hpl, f0 _ h.fb, f0 _ h.fm, f1, f2, hok, hlt⟩

theorem DiskIn.loose_ne (h : DiskIn w F b mb lv pv m) : ∀ g, lv.ownBlock = some g → g ≠ b := fun g hg e => own_blk_ne h.loose h.blk (by decide) (by rw [hg, e])
theorem DiskIn.plan_ne (h : DiskIn w F b mb lv pv m) : ∀ g, pv.ownBlock = some g → g ≠ b := fun g hg e => own_blk_ne h.plan h.blk (by decide) (by rw [hg, e])

/-- a store into the disk's map -/
theorem DiskIn.stored (h : DiskIn w F b mb lv pv m) (p : Int) (s : ByteArray) (hs : s.size = 512) (hm : MapI .u32 w' mb (fun q => if q = p then some (.string s) else (m.pages q).map Value.string)) (hg : w.grownBy w' (some mb)) :
    DiskIn w' F b mb lv pv { m with pages := putAt m.pages p s } := by
  have hb : b ≠ mb := by
    rintro rfl
    obtain ⟨es, c, h1, _⟩ := h.map
    have h2 := h.blk
    unfold Blk at h2
    rw [h1] at h2
    cases h2
  have own_ne : ∀ {e : TypeId} {size n : Nat} {v : Value} {xs : List Value}, w.ownsRow 0 e size v n xs → ∀ g, v.ownBlock = some g → g ≠ mb := by
    intro e size n v xs hown g hg hgm
    subst hgm
    rcases hown.2 with ⟨rfl, _⟩ | ⟨g', cap, cur, rfl, _, hh, _⟩
    · simp [Value.ownBlock] at hg
    · obtain rfl : g' = g := by simpa [Value.ownBlock] using hg
      obtain ⟨es, c, h1, _⟩ := h.map
      rw [h1] at hh
      cases hh
  have ho : ∀ r, F r → r ≠ mb → w'.heap[r]? = w.heap[r]? := fun r hr hne => hg.block r (h.lt r hr) (by simpa using hne)
  refine ⟨h.blk.same (ho _ h.fb hb), ?_, own_same h.loose (fun g hgg => ho g (h.fl g hgg) (own_ne h.loose g hgg)), own_same h.plan (fun g hgg => ho g (h.fp g hgg) (own_ne h.plan g hgg)), h.fb, h.fm, h.fl, h.fp, ?_, fun r hr => Nat.lt_of_lt_of_le (h.lt r hr) hg.size⟩
  · rw [putAt_map] at hm
    exact hm
  · refine ⟨h.ok.room1, h.ok.room2, h.ok.calls1, h.ok.calls2, h.ok.logs, h.ok.loose, fun q t hq => ?_⟩
    simp only [putAt] at hq
    split at hq
    · cases hq; exact hs
    · exact h.ok.pages q t hq
end

/-- what land leaves: the disk's slices are as they were -/
def LandPost (w : World) (F : Nat → Prop) (b mb : Nat) (lv pv : Value) (m : Dk) (w' : World) : Prop := DiskIn w' F b mb lv pv m ∧ Step F w w'

section
variable {w : World} {F : Nat → Prop} {b mb : Nat} {lv pv : Value} {m : Dk}
set_option maxRecDepth 100000 in
set_option maxHeartbeats 400000 in
theorem land_c (h : DiskIn w F b mb lv pv m) (x : Wr) (hx : x.ok) : Calls Tryz.prog 180 #[.pointer (some ⟨b, 0, none⟩), .agg #[.int .u32 x.page, .string x.s, .int .u64 x.mark]] w
    fun e w' => e = .returned (.tuple #[]) ∧ LandPost w F b mb lv pv (m.land x) w' := by
  have hb := h.lt b h.fb
  obtain ⟨p, s, mk⟩ := x
  by_cases hp : p = 0
  · subst hp
    have h1 := h.set 2 (.int .u64 mk) { m with mark := mk } rfl rfl rfl rfl ⟨h.ok.room1, h.ok.room2, h.ok.calls1, h.ok.calls2, h.ok.logs, h.ok.loose, h.ok.pages⟩
    have h2 := h1.below ((Below.refl _ _).alloc (Nat.le_refl _) (.cells #[.int .u32 0, .string s, .int .u64 mk] 310))
    have hs := ((Step.refl F w).setCell (p := ⟨b, 2, none⟩) (.inl h.fb) (.int .u64 mk)).alloc (.cells #[.int .u32 0, .string s, .int .u64 mk] 310)
    have c2 := h.cells.2.2.1
    have f2 := h.cells.2.2.2.2.2.2.2.2.2 2
    have HE : Hid (LandPost w F b mb lv pv (m.land ⟨0, s, mk⟩) ((w.setCell ⟨b, 2, none⟩ (.int .u64 mk)).alloc (.cells #[.int .u32 0, .string s, .int .u64 mk] 310))) := ⟨by simpa [Dk.land] using h2, hs⟩
    clear h h1 h2 hs
    go_enter Tryz.func180, Tryz.ntmps180
    go_wp2
    go_end0
    exact ⟨rfl, HE.out⟩
  · have c1 := h.cells.2.1
    have hpb : ((p : Int) == 0) = false := by simpa using hp
    have hmap := h.map
    have HS : ∀ w2, Hid (MapI .u32 w2 mb (fun q => if q = p then some (.string s) else (m.pages q).map Value.string) → (w.alloc (.cells #[.int .u32 p, .string s, .int .u64 mk] 310)).grownBy w2 (some mb) → LandPost w F b mb lv pv (m.land ⟨p, s, mk⟩) w2) := fun w2 hm hg => by
      have h1 : DiskIn (w.alloc (.cells #[.int .u32 p, .string s, .int .u64 mk] 310)) F b mb lv pv m := h.below ((Below.refl _ _).alloc (Nat.le_refl _) _)
      have h2 := h1.stored p s (hx.2.2 hp) hm hg
      refine ⟨by simpa [Dk.land, hp] using h2, ((Step.refl F w).alloc _).grown hg (fun k hk => .inl ?_)⟩
      cases hk
      exact h.fm
    have hm0 : MapI .u32 (w.alloc (.cells #[.int .u32 p, .string s, .int .u64 mk] 310)).drew mb (fun q => (m.pages q).map Value.string) := hmap.same (Below.heap_alloc w _ mb hmap.lt)
    obtain ⟨w2, hrun, hm2, hg2⟩ := hm0.store (P := Tryz.prog) Tryz.underlying275 Tryz.underlying48 p (.string s)
    have HE : Hid (LandPost w F b mb lv pv (m.land ⟨p, s, mk⟩) w2) := (HS w2).out hm2 ⟨hg2.os, hg2.tape, hg2.output, hg2.size, hg2.block⟩
    have k1 : w2.cell? ⟨b, 1, none⟩ = some (.map (some mb)) := hg2.cell (by go_simp) (by simpa using fun e => DiskIn.b_ne h (e.symm))
    have k2 : w2.cell? ⟨w.heap.size, 0, none⟩ = some (.int .u32 p) := hg2.cell (by go_simp) (by have := hmap.lt; simp; omega)
    have k3 : w2.cell? ⟨w.heap.size, 1, none⟩ = some (.string s) := hg2.cell (by go_simp) (by have := hmap.lt; simp; omega)
    clear h hmap hx HS hm0 hm2 hg2
    go_enter Tryz.func180, Tryz.ntmps180
    go_wp2
    go_region_held3 (fun w' => w'.cell? ⟨b, 1, none⟩ = some (.map (some mb)) ∧ w'.cell? ⟨w.heap.size, 0, none⟩ = some (.int .u32 p) ∧ w'.cell? ⟨w.heap.size, 1, none⟩ = some (.string s)) (go_keep) ((fail))
    go_wp2
    go_outline
    go_end0
    exact ⟨rfl, HE.out⟩
end
end Go.Proofs.YtpnndlahfllbhaaGreat

/-! The disk: the power fails. -/
namespace Go.Proofs.YtpnndlahfllbhaaGreat
open Go.RowKit

theorem addr_add (g n : Nat) : (⟨g, 0, none⟩ : Addr).add n = ⟨g, n, none⟩ := by unfold Addr.add; split <;> simp_all

/-- element k of a row of loose writes -/
theorem wrsCells_at : ∀ (l : List Wr) (k : Nat) (x : Wr), l[k]? = some x → (wrsCells l)[k * 3]? = some (.int .u32 x.page) ∧ (wrsCells l)[k * 3 + 1]? = some (.string x.s) ∧ (wrsCells l)[k * 3 + 2]? = some (.int .u64 x.mark)
  | [], _, _, h => by simp at h
  | y :: l, 0, x, h => by
    simp at h
    subst h
    simp [wrsCells, wrCells]
  | y :: l, k + 1, x, h => by
    have ih := wrsCells_at l k x (by simpa using h)
    have e1 : (k + 1) * 3 = k * 3 + 3 := by omega
    have e0 : wrsCells (y :: l) = .int .u32 y.page :: .string y.s :: .int .u64 y.mark :: wrsCells l := by simp [wrsCells, wrCells]
    rw [e1, e0]
    exact ih

theorem DiskIn.loose_at {w : World} {F : Nat → Prop} {b mb : Nat} {lv pv : Value} {m : Dk} (h : DiskIn w F b mb lv pv m) {k : Nat} {x : Wr} (hx : m.loose[k]? = some x) :
    ∃ g cap, lv = .slice (some ⟨g, 0, none⟩) m.loose.length cap ∧ F g ∧ m.loose.length ≤ cap ∧ cap ≤ maxLen ∧ w.cell? ⟨g, k * 3, none⟩ = some (.int .u32 x.page) ∧ w.cell? ⟨g, k * 3 + 1, none⟩ = some (.string x.s) ∧ w.cell? ⟨g, k * 3 + 2, none⟩ = some (.int .u64 x.mark) := by
  have hk : k < m.loose.length := (List.getElem?_eq_some_iff.1 hx).1
  have hc := wrsCells_at _ _ _ hx
  rcases h.loose.2 with ⟨_, h0⟩ | ⟨g, cap, cur, e, _, hh, h1, h2, _⟩
  · omega
  · have hcells := h.loose.cells (g := g) (by rw [e]; rfl)
    refine ⟨g, cap, e, h.fl g (by rw [e]; rfl), h1, h2, ?_, ?_, ?_⟩
    · have := hcells _ _ hc.1; rwa [addr_add] at this
    · have := hcells _ _ hc.2.1; rwa [addr_add] at this
    · have := hcells _ _ hc.2.2; rwa [addr_add] at this

theorem own_form {w : World} {base : Nat} {e : TypeId} {size n : Nat} {v : Value} {xs : List Value} (h : w.ownsRow base e size v n xs) : ∃ a cap, v = .slice a n cap := by
  rcases h.2 with ⟨rfl, rfl⟩ | ⟨g, cap, cur, rfl, _⟩
  · exact ⟨_, _, rfl⟩
  · exact ⟨_, _, rfl⟩

/-- how the world stands before loose write k is looked at -/
def CrashRel (w0 : World) (F : Nat → Prop) (b mb : Nat) (lv pv : Value) (m : Dk) (f : Fl) (k : Nat) (wr : World) : Prop := DiskIn wr F b mb lv pv (m.strikesFrom f 0 (m.loose.take k)) ∧ Step F w0 wr

section
variable {w0 wr w' : World} {F : Nat → Prop} {b mb : Nat} {lv pv : Value} {m : Dk} {f : Fl} {k : Nat} {x : Wr}
theorem CrashRel.stays (h : CrashRel w0 F b mb lv pv m f k wr) (hx : m.loose[k]? = some x) (hs : (m.strikesFrom f 0 (m.loose.take k)).strike f k x = m.strikesFrom f 0 (m.loose.take k)) (hb : Below wr.heap.size wr w') : CrashRel w0 F b mb lv pv m f (k + 1) w' := by
  refine ⟨?_, h.2.trans (More.refl _ _) (Step.below hb)⟩
  rw [Dk.strikesFrom_next m f hx, hs]
  exact h.1.below hb
theorem CrashRel.goes (h : CrashRel w0 F b mb lv pv m f k wr) (hx : m.loose[k]? = some x) (hd : DiskIn w' F b mb lv pv ((m.strikesFrom f 0 (m.loose.take k)).strike f k x)) (hs : Step F wr w') : CrashRel w0 F b mb lv pv m f (k + 1) w' := by
  refine ⟨?_, h.2.trans (More.refl _ _) hs⟩
  rw [Dk.strikesFrom_next m f hx]
  exact hd
theorem bit_of (n : Int) (i : Nat) (h0 : 0 ≤ n) (h1 : n ≤ 18446744073709551615) : (bits BinOp.and IntKind.u64 (n / 2 ^ i) 1 == 1) = bitAt n i := by
  have h2 : n / 2 ^ i ≤ n := Int.ediv_le_self _ h0
  have h3 : 0 ≤ n / 2 ^ i := Int.ediv_nonneg h0 (by have := Int.pow_pos (n := 2) (m := i) (by decide); omega)
  rw [and_one_u64 _ h3 (by omega)]
  rfl
end

section
variable {w : World} {F : Nat → Prop} {b mb : Nat} {lv pv : Value} {m : Dk}
set_option maxRecDepth 100000 in
set_option maxHeartbeats 1000000 in
theorem crash_live (h : DiskIn w F b mb lv pv m) (f : Fl) (hf : f.ok) (hd : m.dead = false) (hn : m.loose.length ≤ 1000000000) : Calls Tryz.prog 120 #[.pointer (some ⟨b, 0, none⟩), .agg (flCells f).toArray] w
    fun e w' => e = .returned (.tuple #[]) ∧ DPost w F b (m.crash f) w' := by
  have hc : ∀ W, DiskIn W F b mb lv pv m → Hid (Calls Tryz.prog 96 #[.pointer (some ⟨b, 0, none⟩)] W fun e w' => e = .returned (.bool false) ∧ W = w') := fun W hW => by
    have := dead_c (⟨mb, lv, pv, hW⟩ : DiskAt W F b m)
    rw [hd] at this
    exact this
  obtain ⟨fa, fk, ft, fb, fl⟩ := f
  simp only [flCells]
  have c3 := h.cells.2.2.2.1
  obtain ⟨la, lc, rfl⟩ := own_form h.loose
  have H := Lib.hid h
  have HD := Lib.hid hd
  have HF : Hid (∀ r, F r → r < w.heap.size) := h.lt
  have hbw := h.lt b h.fb
  clear h hd
  go_enter Tryz.func120, Tryz.ntmps120
  go_wp2_with (go_at_call 96; refine (hc _ (H.out.below ((Below.refl _ _).alloc (Nat.le_refl _) _))).mono ?_; rintro e w' ⟨rfl, rfl⟩)
  go_loopw [14] (fun i wr => ∃ k : Nat, k ≤ m.loose.length ∧ i = .int .i64 k ∧ CrashRel (w.alloc (.cells #[.int .i64 fa, .int .u64 fk, .int .i64 ft, .int .i64 fb, .int .i64 fl] 79)) F b mb (.slice la m.loose.length lc) pv m ⟨fa, fk, ft, fb, fl⟩ k wr) (fun i _ => m.loose.length - (intOf i).toNat)
  case atStart => exact ⟨0, Nat.zero_le _, rfl, H.out.below ((Below.refl _ _).alloc (Nat.le_refl _) _), Step.refl _ _⟩
  case round =>
    obtain ⟨k, hk, rfl, hR⟩ := hrel
    by_cases hlt : k < m.loose.length
    · obtain ⟨x, hx⟩ : ∃ x, m.loose[k]? = some x := ⟨_, List.getElem?_eq_getElem hlt⟩
      have hml := Dk.strikesFrom_loose ⟨fa, fk, ft, fb, fl⟩ (m.loose.take k) m 0
      obtain ⟨g, cap, e, hFg, hcap, hmx, x0, x1, x2⟩ := hR.1.loose_at (k := k) (x := x) (by rw [hml.1]; exact hx)
      rw [hml.1] at e
      simp only [Value.slice.injEq] at e
      obtain ⟨rfl, -, rfl⟩ := e
      have hbox : ∀ i v, (#[.int .i64 fa, .int .u64 fk, .int .i64 ft, .int .i64 fb, .int .i64 fl] : Array Value)[i]? = some v → wr.cell? ⟨w.heap.size, i, none⟩ = some v := fun i v hv =>
        hR.2.cell (p := ⟨w.heap.size, i, none⟩) (by rw [(Blk.new w _ _).cell, hv]) (fun hf => by have := HF.out _ hf; simp at this)
      have b1 : wr.cell? ⟨w.heap.size, 1, none⟩ = some (.int .u64 fk) := hbox 1 _ rfl
      have b2 : wr.cell? ⟨w.heap.size, 2, none⟩ = some (.int .i64 ft) := hbox 2 _ rfl
      have b3 : wr.cell? ⟨w.heap.size, 3, none⟩ = some (.int .i64 fb) := hbox 3 _ rfl
      have hgw : g < wr.heap.size := hR.1.lt g hFg
      have hwb : w.heap.size < wr.heap.size := by have := hR.2.size; simp at this; omega
      have HH := Lib.hid hR
      have hR1 := hR
      clear hbox hml hR hcap hmx
      have HX := Lib.hid hx
      have hR0 := Lib.hid hR1
      clear hR1
      have hxo : x.ok := H.out.ok.loose x (List.mem_of_getElem? hx)
      have HO : Hid x.ok := hxo
      have HB := Lib.hid (bit_of fk (k % 64) hf.keep1 hf.keep2)
      have hft : ft ≤ 9223372036854775807 := hf.torn2
      have hfb1 : -9223372036854775808 ≤ fb := hf.bytes1
      have hfb2 : fb ≤ 9223372036854775807 := hf.bytes2
      by_cases t : 0 < ft ∧ (k : Int) = ft - 1
      · obtain ⟨t1, t2⟩ := t
        have t2' : ((k : Int) == ft - 1) = true := by simpa using t2
        have TT : Hid (0 < ft ∧ (k : Int) = ft - 1) := ⟨t1, t2⟩
        by_cases hp : x.page = 0
        · have hp' : (x.page != 0) = false := by simpa using hp
          have HS : Hid ((m.strikesFrom ⟨fa, fk, ft, fb, fl⟩ 0 (m.loose.take k)).strike ⟨fa, fk, ft, fb, fl⟩ k x = m.strikesFrom ⟨fa, fk, ft, fb, fl⟩ 0 (m.loose.take k)) := by
            show Dk.strike _ _ _ _ = _
            unfold Dk.strike
            rw [if_pos TT.out, if_pos hp]
          clear hx hxo t2 hp hf
          go_wp2_with (fail)
          go_roundw
          case rel => exact ⟨k + 1, by omega, by go_num, HH.out.stays HX.out HS.out ((Below.refl _ _).alloc (Nat.le_refl _) _)⟩
          case measure => simp [intOf]; omega
        · have hp' : (x.page != 0) = true := by simpa using hp
          have hs1 : 512 ≤ x.s.size := by have := hxo.2.2 hp; omega
          have hs2 : x.s.size ≤ 512 := by have := hxo.2.2 hp; omega
          have hS1 := Dk.sure_size (m.strikesFrom ⟨fa, fk, ft, fb, fl⟩ 0 (m.loose.take k)) hR0.out.1.ok.pages x.page
          have hS2 : 512 ≤ ((m.strikesFrom ⟨fa, fk, ft, fb, fl⟩ 0 (m.loose.take k)).sure x.page).size := by omega
          have hS3 : ((m.strikesFrom ⟨fa, fk, ft, fb, fl⟩ 0 (m.loose.take k)).sure x.page).size ≤ 512 := by omega
          have a1 := HH.out.1.cells.2.1
          have hbr := HH.out.1.lt b HH.out.1.fb
          have HSu : ∀ W, Hid (Below wr.heap.size wr W → Calls Tryz.prog 193 #[.pointer (some ⟨b, 0, none⟩), .int .u32 x.page] W fun e w' => e = .returned (.string ((m.strikesFrom ⟨fa, fk, ft, fb, fl⟩ 0 (m.loose.take k)).sure x.page)) ∧ Below W.heap.size W w') := fun W hW => sure_c ⟨_, _, _, HH.out.1.below hW⟩ x.page
          have HP := Lib.hid hp
          clear hx t2 hf hxo hS1 hp
          generalize hSu : (m.strikesFrom ⟨fa, fk, ft, fb, fl⟩ 0 (m.loose.take k)).sure x.page = su at *
          have HSS := Lib.hid hSu
          clear hSu
          have HM : ∀ W W', Below wr.heap.size wr W → Below W.heap.size W W' → Hid (MapI .u32 W' mb (fun q => ((m.strikesFrom ⟨fa, fk, ft, fb, fl⟩ 0 (m.loose.take k)).pages q).map Value.string)) := fun W W' h1 h2 => (HH.out.1.below (h1.trans (h2.mono h1.size))).map
          obtain ⟨nn, hnn, hn5⟩ : ∃ n : Nat, min (max fb 0) 512 = (n : Int) ∧ n ≤ 512 := ⟨(min (max fb 0) 512).toNat, by omega, by omega⟩
          have HN := Lib.hid hnn
          have hbm : b ≠ mb := fun e => HH.out.1.b_ne e.symm
          have hmw : mb < wr.heap.size := HH.out.1.map.lt
          have q6 : ∀ W : World, (Op.stringOp .add (x.s.extract 0 nn) (su.extract nn su.size)).run Tryz.prog W = .ok (.string (x.s.extract 0 nn ++ su.extract nn su.size)) W := fun W => run_string_add_sum W _ _ (by simp only [ByteArray.size_extract]; omega)
          have q1 : nn ≤ x.s.size := by omega
          have q2 : nn ≤ su.size := by omega
          have q3 : (nn : Int) ≤ (x.s.size : Int) := by omega
          have q4 : (nn : Int) ≤ (su.size : Int) := by omega
          have q5 : (0 : Int) ≤ (nn : Int) := by omega
          clear hnn
          go_wp2_with (fail)
          rw [HN.out]
          go_region_held3 (fun w' => w'.cell? ⟨b, 1, none⟩ = some (.map (some mb)) ∧ w'.cell? ⟨wr.heap.size, 0, none⟩ = some (.int .u32 x.page) ∧ w'.cell? ⟨wr.heap.size, 1, none⟩ = some (.string x.s)) (first
              | go_keep
              | exact ⟨(hb9.cell (by simp; omega)).trans (by go_simp), (hb9.cell (by simp)).trans (by go_simp), (hb9.cell (by simp)).trans (by go_simp)⟩)
            ((go_at_call 193; refine ((HSu _).out (Below.drew ((Below.refl _ _).alloc (Nat.le_refl _) _))).mono ?_; rintro e w9 ⟨rfl, hb9⟩; obtain ⟨w2, hrun2, hm2, hg2⟩ := ((HM _ _ (Below.drew ((Below.refl _ _).alloc (Nat.le_refl _) _)) hb9).out).store (P := Tryz.prog) Tryz.underlying275 Tryz.underlying48 x.page (.string (x.s.extract 0 nn ++ su.extract nn su.size)); have k1 : w2.cell? ⟨b, 1, none⟩ = some (.map (some mb)) := hg2.cell ((hb9.cell (by simp; omega)).trans (by go_simp)) (by simp; omega); have k2 : w2.cell? ⟨wr.heap.size, 0, none⟩ = some (.int .u32 x.page) := hg2.cell ((hb9.cell (by simp)).trans (by go_simp)) (by simp; omega); have k3 : w2.cell? ⟨wr.heap.size, 1, none⟩ = some (.string x.s) := hg2.cell ((hb9.cell (by simp)).trans (by go_simp)) (by simp; omega)))
          go_wp2_with (fail)
          go_roundw
          case rel =>
            have hd9 := HH.out.1.below ((Below.drew ((Below.refl _ _).alloc (Nat.le_refl _) _)).trans (hb9.mono (by simp)))
            have hd2 := hd9.stored x.page _ (by simp only [ByteArray.size_append, ByteArray.size_extract]; omega) hm2 hg2
            refine ⟨k + 1, by omega, by go_num, HH.out.goes HX.out ?_ ?_⟩
            · have e1 : Dk.strike ⟨fa, fk, ft, fb, fl⟩ (m.strikesFrom ⟨fa, fk, ft, fb, fl⟩ 0 (m.loose.take k)) k x = { m.strikesFrom ⟨fa, fk, ft, fb, fl⟩ 0 (m.loose.take k) with pages := putAt (m.strikesFrom ⟨fa, fk, ft, fb, fl⟩ 0 (m.loose.take k)).pages x.page (x.s.extract 0 nn ++ su.extract nn su.size) } := by
                unfold Dk.strike
                rw [if_pos TT.out, if_neg HP.out, HSS.out]
                have e2 : (cutN 0 512 fb).toNat = nn := by have := HN.out; unfold cutN; omega
                simp only [e2]
              rw [e1]
              exact hd2
            · exact (Step.below ((Below.drew ((Below.refl _ _).alloc (Nat.le_refl _) _)).trans (hb9.mono (by simp)))).grown hg2 (fun q hq => .inl (by cases hq; exact HH.out.1.fm))
          case measure => simp [intOf]; omega
      · by_cases hb : bitAt fk (k % 64) = true
        · have HS : Hid ((m.strikesFrom ⟨fa, fk, ft, fb, fl⟩ 0 (m.loose.take k)).strike ⟨fa, fk, ft, fb, fl⟩ k x = (m.strikesFrom ⟨fa, fk, ft, fb, fl⟩ 0 (m.loose.take k)).land x) := by
            show Dk.strike _ _ _ _ = _
            unfold Dk.strike
            rw [if_neg t, if_pos hb]
          have hb' : (bits BinOp.and IntKind.u64 (fk / 2 ^ (k % 64)) 1 == 1) = true := by rw [HB.out]; exact hb
          clear hx hxo hf hb
          have HL : ∀ W, DiskIn W F b mb (.slice (some ⟨g, 0, none⟩) m.loose.length lc) pv (m.strikesFrom ⟨fa, fk, ft, fb, fl⟩ 0 (m.loose.take k)) → Hid (Calls Tryz.prog 180 #[.pointer (some ⟨b, 0, none⟩), .agg #[.int .u32 x.page, .string x.s, .int .u64 x.mark]] W
              fun e w' => e = .returned (.tuple #[]) ∧ LandPost W F b mb (.slice (some ⟨g, 0, none⟩) m.loose.length lc) pv ((m.strikesFrom ⟨fa, fk, ft, fb, fl⟩ 0 (m.loose.take k)).land x) w') := fun W hW => land_c hW x HO.out
          by_cases t1 : 0 < ft
          · have t2' : ((k : Int) == ft - 1) = false := by simpa [t1] using t
            clear t
            go_wp2_with (go_at_call 180; refine ((HL _ (HH.out.1.below ((Below.refl _ _).alloc (Nat.le_refl _) _))).out).mono ?_; rintro e w' ⟨rfl, hL⟩)
            go_roundw
            case rel => exact ⟨k + 1, by omega, by go_num, HH.out.goes HX.out (HS.out ▸ hL.1) ((Step.below ((Below.refl _ _).alloc (Nat.le_refl _) _)).trans (More.refl _ _) hL.2)⟩
            case measure => simp [intOf]; omega
          · clear t
            go_wp2_with (go_at_call 180; refine ((HL _ (HH.out.1.below ((Below.refl _ _).alloc (Nat.le_refl _) _))).out).mono ?_; rintro e w' ⟨rfl, hL⟩)
            go_roundw
            case rel => exact ⟨k + 1, by omega, by go_num, HH.out.goes HX.out (HS.out ▸ hL.1) ((Step.below ((Below.refl _ _).alloc (Nat.le_refl _) _)).trans (More.refl _ _) hL.2)⟩
            case measure => simp [intOf]; omega
        · have HS : Hid ((m.strikesFrom ⟨fa, fk, ft, fb, fl⟩ 0 (m.loose.take k)).strike ⟨fa, fk, ft, fb, fl⟩ k x = m.strikesFrom ⟨fa, fk, ft, fb, fl⟩ 0 (m.loose.take k)) := by
            show Dk.strike _ _ _ _ = _
            unfold Dk.strike
            rw [if_neg t, if_neg hb]
          have hb' : (bits BinOp.and IntKind.u64 (fk / 2 ^ (k % 64)) 1 == 1) = false := by rw [HB.out]; simpa using hb
          clear hx hxo hf hb
          by_cases t1 : 0 < ft
          · have t2' : ((k : Int) == ft - 1) = false := by simpa [t1] using t
            clear t
            go_wp2_with (fail)
            go_roundw
            case rel => exact ⟨k + 1, by omega, by go_num, HH.out.stays HX.out HS.out ((Below.refl _ _).alloc (Nat.le_refl _) _)⟩
            case measure => simp [intOf]; omega
          · clear t
            go_wp2_with (fail)
            go_roundw
            case rel => exact ⟨k + 1, by omega, by go_num, HH.out.stays HX.out HS.out ((Below.refl _ _).alloc (Nat.le_refl _) _)⟩
            case measure => simp [intOf]; omega
    · obtain rfl : k = m.loose.length := by omega
      unfold CrashRel at hR
      rw [List.take_length] at hR
      have hbox : wr.cell? ⟨w.heap.size, 4, none⟩ = some (.int .i64 fl) := hR.2.cell (p := ⟨w.heap.size, 4, none⟩) (by rw [(Blk.new w _ _).cell]; rfl) (fun hf => by have := HF.out _ hf; simp at this)
      have hml := Dk.strikesFrom_loose ⟨fa, fk, ft, fb, fl⟩ m.loose m 0
      have b4 := hR.1.cells.2.2.2.2.1
      have b5 := hR.1.cells.2.2.2.2.2.1
      have b3 := hR.1.cells.2.2.2.1
      have b8 := hR.1.cells.2.2.2.2.2.2.2.2.1
      have bf := hR.1.cells.2.2.2.2.2.2.2.2.2
      rw [hml.2.1] at b4
      rw [hml.2.2.1] at b5
      have hwb : w.heap.size < wr.heap.size := by have := hR.2.size; simp at this; omega
      have hbr := hR.1.lt b hR.1.fb
      have hlg : m.log.size + m.tail.size ≤ 4194304 := H.out.ok.logs
      obtain ⟨nn, hnn, hn5⟩ : ∃ n : Nat, min (max fl 0) (m.tail.size : Int) = (n : Int) ∧ n ≤ m.tail.size := ⟨(min (max fl 0) (m.tail.size : Int)).toNat, by omega, by omega⟩
      have q6 : ∀ W : World, (Op.stringOp .add m.log (m.tail.extract 0 nn)).run Tryz.prog W = .ok (.string (m.log ++ m.tail.extract 0 nn)) W := fun W => run_string_add_sum W _ _ (by simp only [ByteArray.size_extract]; omega)
      have HH := Lib.hid hR
      have hfl1 : -9223372036854775808 ≤ fl := hf.log1
      have hfl2 : fl ≤ 9223372036854775807 := hf.log2
      clear hR hml hf hc c3
      go_wp2_with (fail)
      go_region
      all_goals
        go_wp2
        go_end0
        refine ⟨rfl, ?_⟩
        have hM := HH.out.1
        have hml := Dk.strikesFrom_loose ⟨fa, fk, ft, fb, fl⟩ m.loose m 0
        have hbk := ((((hM.blk.set_ 4 (.string (m.log ++ m.tail.extract 0 nn))).set_ 3 (.slice none 0 0)).set_ 5 (.string ⟨#[]⟩)).set_ 8 (.bool true))
        have ho : ∀ r, r ≠ b → ((((wr.setCell ⟨b, 4, none⟩ (.string (m.log ++ m.tail.extract 0 nn))).setCell ⟨b, 3, none⟩ (.slice none 0 0)).setCell ⟨b, 5, none⟩ (.string ⟨#[]⟩)).setCell ⟨b, 8, none⟩ (.bool true)).drew.heap[r]? = wr.heap[r]? := fun r hr =>
          (Below.heap_setCell _ _ _ r hr).trans ((Below.heap_setCell _ _ _ r hr).trans ((Below.heap_setCell _ _ _ r hr).trans (Below.heap_setCell _ _ _ r hr)))
        have e1 : m.crash ⟨fa, fk, ft, fb, fl⟩ = { m.strikesFrom ⟨fa, fk, ft, fb, fl⟩ 0 m.loose with log := m.log ++ m.tail.extract 0 nn, loose := [], tail := ⟨#[]⟩, dead := true } := by
          have e2 : (cutN 0 m.tail.size fl).toNat = nn := by unfold cutN; omega
          simp only [Dk.crash, HD.out, Dk.fell, hml, e2]
          rfl
        have hok := Dk.crash_ok H.out.ok ⟨fa, fk, ft, fb, fl⟩
        rw [e1] at hok ⊢
        refine ⟨F, ⟨mb, .slice none 0 0, pv, hM.anew (fun r hr _ => ho r hr) (by simp [World.drew, World.setCell]) hbk rfl (World.ownsRow_nil _ _ _ _) (own_same hM.plan (fun g hg => ho g (hM.plan_ne g hg))) (fun _ h => h) (by simp [Value.ownBlock]) hM.fp hok (fun r hr => by have := hM.lt r hr; simpa [World.drew, World.setCell] using this)⟩, ?_, More.refl _ _⟩
        exact ((Step.below ((Below.refl _ _).alloc (Nat.le_refl _) _)).trans (More.refl _ _) HH.out.2).trans (More.refl _ _) ((((((Step.refl F wr).setCell (.inl hM.fb) _).setCell (.inl hM.fb) _).setCell (.inl hM.fb) _).setCell (.inl hM.fb) _).drewN 1)
end
end Go.Proofs.YtpnndlahfllbhaaGreat

/-! The disk: where the power fails is found in the plan. -/
namespace Go.Proofs.YtpnndlahfllbhaaGreat
open Go.RowKit

/-- element k of a row of falls -/
theorem flsCells_at : ∀ (l : List Fl) (k : Nat) (f : Fl), l[k]? = some f → ∀ j, j < 5 → (flsCells l)[k * 5 + j]? = (flCells f)[j]?
  | [], _, _, h => by simp at h
  | y :: l, 0, x, h => by
    simp at h
    subst h
    intro j hj
    simp only [flsCells, List.flatMap_cons, Nat.zero_mul, Nat.zero_add]
    rw [List.getElem?_append_left (by simp [flCells]; omega)]
  | y :: l, k + 1, x, h => by
    intro j hj
    have ih := flsCells_at l k x (by simpa using h) j hj
    have e1 : (k + 1) * 5 + j = (flCells y).length + (k * 5 + j) := by simp [flCells]; omega
    simp only [flsCells, List.flatMap_cons]
    rw [e1, List.getElem?_append_right (by omega)]
    simpa [flsCells] using ih

theorem flsCells_length (l : List Fl) : (flsCells l).length = l.length * 5 := by
  induction l with
  | nil => rfl
  | cons x l ih => simp only [flsCells, List.flatMap_cons, List.length_append, List.length_cons] at ih ⊢; rw [ih]; simp [flCells]; omega

/-- a slice value that reads as falls -/
def FlsAt (w : World) (pv : Value) (l : List Fl) : Prop := (∃ a cap, pv = .slice a l.length cap ∧ l.length ≤ cap) ∧ ∀ k f, l[k]? = some f → ∃ g off cap, pv = .slice (some ⟨g, off, none⟩) l.length cap ∧ g < w.heap.size ∧ ∀ j, j < 5 → w.cell? ⟨g, off + k * 5 + j, none⟩ = (flCells f)[j]?

theorem FlsAt.keep {w w' : World} {pv : Value} {l : List Fl} (h : FlsAt w pv l) (hb : Below w.heap.size w w') : FlsAt w' pv l := by
  refine ⟨h.1, fun k f hk => ?_⟩
  obtain ⟨g, off, cap, e, hg, hc⟩ := h.2 k f hk
  exact ⟨g, off, cap, e, Nat.lt_of_lt_of_le hg hb.size, fun j hj => (hb.cell (p := ⟨g, off + k * 5 + j, none⟩) hg).trans (hc j hj)⟩

theorem FlsAt.of_own {w : World} {B : Nat} {pv : Value} {l : List Fl} (h : w.ownsRow B 79 5 pv l.length (flsCells l)) : FlsAt w pv l := by
  refine ⟨?_, fun k f hk => ?_⟩
  · rcases h.2 with ⟨rfl, e⟩ | ⟨g, cap, cur, e, _, hh, h1, h2, _⟩
    · exact ⟨none, 0, by rw [e], by omega⟩
    · exact ⟨_, cap, e, h1⟩
  rcases h.2 with ⟨_, h0⟩ | ⟨g, cap, cur, e, _, hh, h1, h2, _⟩
  · have := (List.getElem?_eq_some_iff.1 hk).1; omega
  · refine ⟨g, 0, cap, e, (Array.getElem?_eq_some_iff.1 hh).1, fun j hj => ?_⟩
    have hcells := h.cells (g := g) (by rw [e]; rfl)
    rw [← flsCells_at l k f hk j hj]
    cases hv : (flCells f)[j]? with
    | none => simp [flCells] at hv; omega
    | some v =>
      have h3 := flsCells_at l k f hk j hj
      rw [hv] at h3
      rw [h3]
      have := hcells _ _ h3
      rw [addr_add] at this
      simpa using this

theorem strikes1_c (f : Fl) (b bx : Nat) (n : Int) (w : World) (hx : w.cell? ⟨bx, 0, none⟩ = some (.pointer (some ⟨b, 0, none⟩))) (hn : w.cell? ⟨b, 6, none⟩ = some (.int .i64 n)) :
    Calls Tryz.prog 221 #[.agg (flCells f).toArray, .pointer (some ⟨bx, 0, none⟩)] w fun e w' => e = .returned (.bool (f.at_ == n)) ∧ Below w.heap.size w w' := by
  obtain ⟨fa, fk, ft, fb, fl⟩ := f
  simp only [flCells]
  have h1 := World.block_lt_of_cell? w _ hx
  have h2 := World.block_lt_of_cell? w _ hn
  simp only at h1 h2
  go_enter Tryz.func221, Tryz.ntmps221
  go_wp2
  go_quiet (fail)
  go_wp2
  go_ret
  exact ⟨rfl, ((Below.refl _ _).alloc (Nat.le_refl _) _).trans ⟨rfl, rfl, rfl, Nat.le_refl _, fun _ _ => rfl⟩⟩

def idxOf (n : Int) (l : List Fl) : Int := match findAt n l with | some i => i | none => -1

theorem findAt_none {n : Int} : ∀ {l : List Fl}, (∀ (k : Nat) (f : Fl), l[k]? = some f → f.at_ ≠ n) → findAt n l = none
  | [], _ => rfl
  | x :: l, h => by
    have h0 := h 0 x rfl
    have ih := findAt_none (l := l) (fun k f hk => h (k + 1) f (by simpa using hk))
    simp [findAt, h0, ih]

theorem findAt_some {n : Int} : ∀ {l : List Fl} {k : Nat} {f : Fl}, l[k]? = some f → f.at_ = n → (∀ (j : Nat) (g : Fl), j < k → l[j]? = some g → g.at_ ≠ n) → findAt n l = some k
  | [], _, _, h, _, _ => by simp at h
  | x :: l, 0, f, h, hf, _ => by
    simp at h
    subst h
    simp [findAt, hf]
  | x :: l, k + 1, f, h, hf, hn => by
    have h0 := hn 0 x (by omega) rfl
    have ih := findAt_some (l := l) (k := k) (by simpa using h) hf (fun j g hj hg => hn (j + 1) g (by omega) (by simpa using hg))
    simp [findAt, h0, ih]

theorem idxOf_some {n : Int} {l : List Fl} {k : Nat} (h : findAt n l = some k) : (k : Int) = idxOf n l := by unfold idxOf; rw [h]
theorem idxOf_none {n : Int} {l : List Fl} (h : findAt n l = none) : (-1 : Int) = idxOf n l := by unfold idxOf; rw [h]
theorem ret_int {k : IntKind} {a b : Int} (h : a = b) : Ending.returned (.int k a) = .returned (.int k b) := by rw [h]

set_option maxHeartbeats 1000000 in
theorem indexFall_c (l : List Fl) (pv : Value) (b bx : Nat) (n : Int) (w : World) (hl : FlsAt w pv l) (hlen : l.length ≤ 1000000000000) (hx : w.cell? ⟨bx, 0, none⟩ = some (.pointer (some ⟨b, 0, none⟩))) (hn : w.cell? ⟨b, 6, none⟩ = some (.int .i64 n)) :
    Calls Tryz.prog 220 #[pv, .func (.func 221) #[] #[.pointer (some ⟨bx, 0, none⟩)]] w fun e w' => e = .returned (.int .i64 (idxOf n l)) ∧ Below w.heap.size w w' := by
  have eg := enters_of (P := Tryz.prog) Tryz.func221 (by kernel_rfl) rfl
  obtain ⟨⟨pa, pc, rfl, hcap⟩, hl⟩ := hl
  have h1 := World.block_lt_of_cell? w _ hx
  have h2 := World.block_lt_of_cell? w _ hn
  simp only at h1 h2
  have HL := Lib.hid hl
  have HX := Lib.hid hx
  have HN := Lib.hid hn
  clear hl hx hn
  go_enter Tryz.func220, Tryz.ntmps220
  go_wp2
  go_loopw [8] (fun i wr => ∃ k : Nat, k ≤ l.length ∧ i = .int .i64 k ∧ Below w.heap.size w wr ∧ Hid (∀ (j : Nat) (g : Fl), j < k → l[j]? = some g → g.at_ ≠ n)) (fun i _ => l.length - (intOf i).toNat)
  case atStart => exact ⟨0, Nat.zero_le _, rfl, Below.refl _ _, fun j g hj => absurd hj (by omega)⟩
  case round =>
    obtain ⟨k, hk, rfl, hB, hA⟩ := hrel
    by_cases hlt : k < l.length
    · obtain ⟨f, hf⟩ : ∃ f, l[k]? = some f := ⟨_, List.getElem?_eq_getElem hlt⟩
      obtain ⟨g, off, cap, e, hg, hc⟩ := HL.out k f hf
      simp only [Value.slice.injEq] at e
      obtain ⟨rfl, -, rfl⟩ := e
      have cell : ∀ j, j < 5 → wr.cell? ⟨g, off + k * 5 + j, none⟩ = (flCells f)[j]? := fun j hj => (hB.cell (p := ⟨g, off + k * 5 + j, none⟩) hg).trans (hc j hj)
      have c0 : wr.cell? ⟨g, off + k * 5, none⟩ = some (.int .i64 f.at_) := cell 0 (by omega)
      have c1 : wr.cell? ⟨g, off + k * 5 + 1, none⟩ = some (.int .u64 f.keep) := cell 1 (by omega)
      have c2 : wr.cell? ⟨g, off + k * 5 + 2, none⟩ = some (.int .i64 f.torn) := cell 2 (by omega)
      have c3 : wr.cell? ⟨g, off + k * 5 + 3, none⟩ = some (.int .i64 f.bytes) := cell 3 (by omega)
      have c4 : wr.cell? ⟨g, off + k * 5 + 4, none⟩ = some (.int .i64 f.log) := cell 4 (by omega)
      have hcall := Lib.hid (strikes1_c f b bx n wr ((hB.cell (p := ⟨bx, 0, none⟩) h1).trans HX.out) ((hB.cell (p := ⟨b, 6, none⟩) h2).trans HN.out))
      have HF := Lib.hid hf
      have HB := Lib.hid hB
      simp only [flCells] at hcall
      by_cases hq : f.at_ = n
      · have hq' : (f.at_ == n) = true := by simpa using hq
        rw [hq'] at hcall
        have HE := Lib.hid (idxOf_some (findAt_some HF.out hq hA.out))
        clear hc cell hf hB hq hq'
        go_wp2_with (go_at_call 221; refine hcall.out.mono ?_; rintro e w' ⟨rfl, hb'⟩)
        go_ret
        exact ⟨ret_int HE.out, HB.out.trans (hb'.mono HB.out.size)⟩
      · have hq' : (f.at_ == n) = false := by simpa using hq
        rw [hq'] at hcall
        have HA : Hid (∀ (j : Nat) (g : Fl), j < k + 1 → l[j]? = some g → g.at_ ≠ n) := fun j g hj hg => by
          by_cases e : j = k
          · subst e
            rw [HF.out] at hg
            cases hg
            exact hq
          · exact hA.out j g (by omega) hg
        clear hc cell hf hB hq hq' hA
        go_wp2_with (go_at_call 221; refine hcall.out.mono ?_; rintro e w' ⟨rfl, hb'⟩)
        go_roundw
        case rel => exact ⟨k + 1, by omega, by go_num, HB.out.trans (hb'.mono HB.out.size), HA⟩
        case measure => simp [intOf]; omega
    · obtain rfl : k = l.length := by omega
      have HE := Lib.hid (idxOf_none (findAt_none (fun k f hk => hA.out k f (List.getElem?_eq_some_iff.1 hk).1 hk)))
      have HB := Lib.hid hB
      clear hA hB
      go_wp2
      go_ret
      exact ⟨ret_int HE.out, HB.out⟩
end Go.Proofs.YtpnndlahfllbhaaGreat

/-! The disk: plans are copied, and struck out of. -/
namespace Go.Proofs.YtpnndlahfllbhaaGreat
open Go.RowKit

theorem infoWrite : (Tryz.prog.info? 310).map (fun i => (i.zero, i.size, i.bytes)) = some (some (.agg #[.int .u32 0, .string ⟨#[]⟩, .int .u64 0]), 3, 32) := by kernel_rfl

theorem add_lit (g off n : Nat) : (⟨g, off, none⟩ : Addr).add n = ⟨g, off + n, none⟩ := by unfold Addr.add; split <;> simp_all

theorem FlsAt.cells {w : World} {g off n cap : Nat} {l : List Fl} (h : FlsAt w (.slice (some ⟨g, off, none⟩) n cap) l) : ∀ j u, (flsCells l)[j]? = some u → w.cell? ((⟨g, off, none⟩ : Addr).add j) = some u := by
  intro j u hu
  have hj : j < l.length * 5 := by rw [← flsCells_length]; exact (List.getElem?_eq_some_iff.1 hu).1
  obtain ⟨f, hf⟩ : ∃ f, l[j / 5]? = some f := ⟨_, List.getElem?_eq_getElem (by omega)⟩
  obtain ⟨g', off', cap', e, _, hc⟩ := h.2 _ f hf
  simp only [Value.slice.injEq, Option.some.injEq, Addr.mk.injEq] at e
  obtain ⟨⟨rfl, rfl, -⟩, -, -⟩ := e
  have h1 := flsCells_at l _ f hf (j % 5) (by omega)
  have h2 := hc (j % 5) (by omega)
  have e1 : j / 5 * 5 + j % 5 = j := by omega
  rw [e1] at h1
  rw [add_lit, show off + j = off + j / 5 * 5 + j % 5 by omega, h2, ← h1, hu]

end Go.Proofs.YtpnndlahfllbhaaGreat

/-! The disk: a call is counted, or the power fails at it. -/
namespace Go.Proofs.YtpnndlahfllbhaaGreat
open Go.RowKit

/-- what strikes does on a disk that stands as m -/
def StrikesOk (b : Nat) (m : Dk) : Prop := ∀ (W : World) (F : Nat → Prop), DiskAt W F b m → Calls Tryz.prog 178 #[.pointer (some ⟨b, 0, none⟩)] W fun e w' => e = .returned (.bool m.strikes.1) ∧ DPost W F b m.strikes.2 w'

set_option maxRecDepth 100000 in
set_option maxHeartbeats 400000 in
theorem strikes_no (b : Nat) (m : Dk) (hn : findAt m.calls m.plan = none) (hp : m.plan.length ≤ 1000000000000) : StrikesOk b m := by
  intro w F h
  obtain ⟨mb, lv, pv, h⟩ := h
  have hs : m.strikes = (false, { m with calls := wrapI (m.calls + 1) }) := by unfold Dk.strikes; rw [hn]
  rw [hs]
  have c6 := h.cells.2.2.2.2.2.2.1
  have c7 := h.cells.2.2.2.2.2.2.2.1
  have f6 := h.cells.2.2.2.2.2.2.2.2.2 6
  have hb := h.lt b h.fb
  have hfl : FlsAt (w.alloc (.cells #[.pointer (some ⟨b, 0, none⟩)] 73)) pv m.plan := (FlsAt.of_own h.plan).keep ((Below.refl _ _).alloc (Nat.le_refl _) _)
  have hi := indexFall_c m.plan pv b w.heap.size m.calls (w.alloc (.cells #[.pointer (some ⟨b, 0, none⟩)] 73)) hfl hp (by go_simp) (by go_simp)
  rw [← idxOf_none hn] at hi
  have HI := Lib.hid hi
  have H := Lib.hid h
  have hc1 : m.calls ≤ 9223372036854775807 := h.ok.calls2
  have hc2 : -9223372036854775808 ≤ m.calls := h.ok.calls1
  have hok : Hid (Dk.ok { m with calls := wrapI (m.calls + 1) }) := ⟨h.ok.room1, h.ok.room2, by simp only [wrapI]; omega, by simp only [wrapI]; omega, h.ok.logs, h.ok.loose, h.ok.pages⟩
  have hw : wrap64 (m.calls + 1) = wrapI (m.calls + 1) := by unfold wrap64 wrapI; rfl
  have HW := Lib.hid hw
  clear h hi hfl hs hn hw
  go_enter Tryz.func178, Tryz.ntmps178
  go_wp2_with (go_at_call 220; refine HI.out.mono ?_; rintro e w1 ⟨rfl, hb1⟩; have d6 : w1.cell? ⟨b, 6, none⟩ = some (.int .i64 m.calls) := (hb1.cell (by simp; omega)).trans (by go_simp); have d0 : w1.cell? ⟨w.heap.size, 0, none⟩ = some (.pointer (some ⟨b, 0, none⟩)) := (hb1.cell (by simp)).trans (by go_simp); have g6 : w1.frozen? ⟨b, 6, none⟩ = false := (hb1.frozen (by simp; omega)).trans (by go_simp))
  go_ret
  refine ⟨rfl, ?_⟩
  have h1 := (H.out.below ((Below.refl _ _).alloc (Nat.le_refl _) (.cells #[.pointer (some ⟨b, 0, none⟩)] 73))).below (by simpa using hb1)
  have h2 := h1.set 6 (.int .i64 (wrapI (m.calls + 1))) { m with calls := wrapI (m.calls + 1) } rfl rfl rfl rfl hok.out
  rw [HW.out]
  exact DPost.mk' h2 (((Step.below ((Below.refl _ _).alloc (Nat.le_refl _) (.cells #[.pointer (some ⟨b, 0, none⟩)] 73))).trans (More.refl _ _) (Step.below (by simpa using hb1))).setCell (.inl h1.fb) _)
end Go.Proofs.YtpnndlahfllbhaaGreat

/-! The disk: the log's calls, writes, the mark. -/
namespace Go.Proofs.YtpnndlahfllbhaaGreat
open Go.RowKit

def Dk.appendLog (m : Dk) (s : ByteArray) : Int × Dk :=
  if m.dead then (7, m) else if (4194304 : Int) - m.log.size - m.tail.size < s.size then (20, m) else if m.strikes.1 then (7, m.strikes.2) else (0, { m.strikes.2 with tail := m.strikes.2.tail ++ s })

def Dk.syncLog (m : Dk) : Int × Dk :=
  if m.dead then (7, m) else if m.strikes.1 then (7, m.strikes.2) else (0, { m.strikes.2 with log := m.strikes.2.log ++ m.strikes.2.tail, tail := ⟨#[]⟩ })

theorem Dk.strikes_no {m : Dk} (h : m.strikes.1 = false) : m.strikes.2 = { m with calls := wrapI (m.calls + 1) } := by
  unfold Dk.strikes at *
  split
  · rename_i heq; rw [heq] at h; cases h
  · rfl

theorem DPost.refl {w : World} {F : Nat → Prop} {b : Nat} {m : Dk} (h : DiskAt w F b m) : DPost w F b m w := ⟨F, h, Step.refl F w, More.refl F w⟩
theorem DPost.trans {w w' w'' : World} {F F' : Nat → Prop} {b : Nat} {m : Dk} (hs : Step F w w') (hm : More F F' w) (h : DPost w' F' b m w'') : DPost w F b m w'' := by
  obtain ⟨F2, h1, h2, h3⟩ := h
  exact ⟨F2, h1, hs.trans hm h2, hm.trans hs.size h3⟩

section
variable {w : World} {F : Nat → Prop} {b : Nat} {m : Dk}

set_option maxRecDepth 100000 in
set_option maxHeartbeats 400000 in
theorem appendLog_c (h : DiskAt w F b m) (hst : StrikesOk b m) (s : ByteArray) (hsz : s.size ≤ 9223372036854775807) : Calls Tryz.prog 98 #[.pointer (some ⟨b, 0, none⟩), .string s] w
    fun e w' => e = .returned (.int .i64 (m.appendLog s).1) ∧ DPost w F b (m.appendLog s).2 w' := by
  have hD := dead_c h
  have hS := hst w F h
  have HP := Lib.hid (DPost.refl h)
  have hlg := h.ok.logs
  by_cases hd : m.dead = true
  · have e1 : m.appendLog s = (7, m) := by unfold Dk.appendLog; rw [if_pos hd]
    rw [e1]
    rw [hd] at hD
    have HD := Lib.hid hD
    clear hD hS hst h hd e1
    go_enter Tryz.func98, Tryz.ntmps98
    go_wp2_with (go_at_call 96; refine HD.out.mono ?_; rintro e w' ⟨rfl, rfl⟩)
    go_ret
    exact ⟨rfl, HP.out⟩
  have hd' : m.dead = false := by simpa using hd
  rw [hd'] at hD
  have HD := Lib.hid hD
  obtain ⟨mb, lv, pv, h⟩ := h
  have c4 := h.cells.2.2.2.2.1
  have c5 := h.cells.2.2.2.2.2.1
  have H := Lib.hid h
  have HT := Lib.hid hst
  by_cases hb : (4194304 : Int) - m.log.size - m.tail.size < s.size
  · have e1 : m.appendLog s = (20, m) := by unfold Dk.appendLog; rw [if_neg hd, if_pos hb]
    rw [e1]
    clear hD hS hst h hd e1 hd'
    go_enter Tryz.func98, Tryz.ntmps98
    go_wp2_with (go_at_call 96; refine HD.out.mono ?_; rintro e w' ⟨rfl, rfl⟩)
    go_quiet (fail)
    go_wp2
    go_ret
    exact ⟨rfl, DPost.mk' (H.out.drewN _) ((Step.refl F w).drewN _)⟩
  · have HR : ∀ n, Hid (Calls Tryz.prog 178 #[.pointer (some ⟨b, 0, none⟩)] (w.drewN n) fun e w' => e = .returned (.bool m.strikes.1) ∧ DPost (w.drewN n) F b m.strikes.2 w') := fun n => HT.out _ F ⟨mb, lv, pv, H.out.drewN n⟩
    cases hq : m.strikes.1 with
    | true =>
      have e1 : m.appendLog s = (7, m.strikes.2) := by unfold Dk.appendLog; rw [if_neg hd, if_neg hb, if_pos hq]
      rw [e1]
      rw [hq] at HR
      clear hD hS hst h hd e1 hd'
      go_enter Tryz.func98, Tryz.ntmps98
      go_wp2_with (go_at_call 96; refine HD.out.mono ?_; rintro e w' ⟨rfl, rfl⟩)
      go_quiet (fail)
      go_wp2_with (go_at_call 178; refine (HR _).out.mono ?_; rintro e w1 ⟨rfl, hP⟩)
      go_ret
      exact ⟨rfl, DPost.trans ((Step.refl F w).drewN _) (More.refl F w) hP⟩
    | false =>
      have e2 := Dk.strikes_no hq
      have e1 : m.appendLog s = (0, { m with calls := wrapI (m.calls + 1), tail := m.tail ++ s }) := by unfold Dk.appendLog; rw [if_neg hd, if_neg hb, hq, e2]; rfl
      rw [e1]
      rw [hq, e2] at HR
      clear e2
      clear hD hS hst h hd e1 hd' hq
      go_enter Tryz.func98, Tryz.ntmps98
      go_wp2_with (go_at_call 96; refine HD.out.mono ?_; rintro e w' ⟨rfl, rfl⟩)
      go_quiet (fail)
      go_wp2_with (fail)
      refine (HR _).out.mono ?_
      rintro e w1 ⟨rfl, hP⟩
      obtain ⟨F1, ⟨mb1, lv1, pv1, h1⟩, hs1, hm1⟩ := hP
      have d5 := h1.cells.2.2.2.2.2.1
      have g5 := h1.cells.2.2.2.2.2.2.2.2.2 5
      have hcat : m.tail.size + s.size ≤ 9223372036854775807 := by omega
      have H1 := Lib.hid h1
      have HS1 := Lib.hid hs1
      have HM1 := Lib.hid hm1
      have hn := h1.set 5 (.string (m.tail ++ s)) { m with calls := wrapI (m.calls + 1), tail := m.tail ++ s } rfl rfl rfl rfl ⟨h1.ok.room1, h1.ok.room2, h1.ok.calls1, h1.ok.calls2, by show m.log.size + (m.tail ++ s).size ≤ _; rw [ByteArray.size_append]; omega, h1.ok.loose, h1.ok.pages⟩
      have HN := Lib.hid hn
      clear h1 hs1 hm1 hn
      simp only [] at d5
      go_wp2
      go_ret
      exact ⟨rfl, DPost.trans ((Step.refl F w).drewN _) (More.refl F w) ⟨F1, ⟨mb1, lv1, pv1, HN.out⟩, HS1.out.trans HM1.out ((Step.refl F1 w1).setCell (.inl H1.out.fb) _), HM1.out⟩⟩
end
end Go.Proofs.YtpnndlahfllbhaaGreat

/-! The disk: the log is synced and cut. -/
namespace Go.Proofs.YtpnndlahfllbhaaGreat
open Go.RowKit

def Dk.cutLog (m : Dk) (n : Int) : Int × Dk :=
  if m.dead then (7, m) else if n < 0 ∨ (m.log.size : Int) + m.tail.size < n then (1, m) else if m.strikes.1 then (7, m.strikes.2) else (0, { m.strikes.2 with log := (m.strikes.2.log ++ m.strikes.2.tail).extract 0 n.toNat, tail := ⟨#[]⟩ })

section
variable {w w1 w' : World} {F F1 : Nat → Prop} {b mb : Nat} {lv pv : Value} {m : Dk}

/-- the log and its tail are rewritten -/
theorem DiskIn.logs (h : DiskIn w F b mb lv pv m) (l t : ByteArray) (hs : l.size + t.size ≤ 4194304) : DiskIn ((w.setCell ⟨b, 4, none⟩ (.string l)).setCell ⟨b, 5, none⟩ (.string t)).drew F b mb lv pv { m with log := l, tail := t } ∧ Step F w ((w.setCell ⟨b, 4, none⟩ (.string l)).setCell ⟨b, 5, none⟩ (.string t)).drew := by
  have ho : ∀ r, r ≠ b → ((w.setCell ⟨b, 4, none⟩ (.string l)).setCell ⟨b, 5, none⟩ (.string t)).drew.heap[r]? = w.heap[r]? := fun r hr => (Below.heap_setCell _ _ _ r hr).trans (Below.heap_setCell _ _ _ r hr)
  refine ⟨h.anew (fun r hr _ => ho r hr) (by simp [World.drew, World.setCell]) ((h.blk.set_ 4 (.string l)).set_ 5 (.string t)) rfl (own_same h.loose (fun g hg => ho g (h.loose_ne g hg))) (own_same h.plan (fun g hg => ho g (h.plan_ne g hg))) (fun _ h => h) h.fl h.fp ⟨h.ok.room1, h.ok.room2, h.ok.calls1, h.ok.calls2, hs, h.ok.loose, h.ok.pages⟩ (fun r hr => by have := h.lt r hr; simpa [World.drew, World.setCell] using this), ?_⟩
  exact (((Step.refl F w).setCell (.inl h.fb) _).setCell (.inl h.fb) _).drewN 1

set_option maxRecDepth 100000 in
set_option maxHeartbeats 1000000 in
theorem syncLog_c (h : DiskAt w F b m) (hst : StrikesOk b m) : Calls Tryz.prog 99 #[.pointer (some ⟨b, 0, none⟩)] w
    fun e w' => e = .returned (.int .i64 m.syncLog.1) ∧ DPost w F b m.syncLog.2 w' := by
  have hD := dead_c h
  have HP := Lib.hid (DPost.refl h)
  by_cases hd : m.dead = true
  · have e1 : m.syncLog = (7, m) := by unfold Dk.syncLog; rw [if_pos hd]
    rw [e1]
    rw [hd] at hD
    have HD := Lib.hid hD
    clear hD hst h hd e1
    go_enter Tryz.func99, Tryz.ntmps99
    go_wp2_with (go_at_call 96; refine HD.out.mono ?_; rintro e w' ⟨rfl, rfl⟩)
    go_ret
    exact ⟨rfl, HP.out⟩
  have hd' : m.dead = false := by simpa using hd
  rw [hd'] at hD
  have HD := Lib.hid hD
  have HR : Hid (Calls Tryz.prog 178 #[.pointer (some ⟨b, 0, none⟩)] w fun e w' => e = .returned (.bool m.strikes.1) ∧ DPost w F b m.strikes.2 w') := hst w F h
  cases hq : m.strikes.1 with
  | true =>
    have e1 : m.syncLog = (7, m.strikes.2) := by unfold Dk.syncLog; rw [if_neg hd, if_pos hq]
    rw [e1]
    rw [hq] at HR
    clear hD hst h hd e1 hd'
    go_enter Tryz.func99, Tryz.ntmps99
    go_wp2_with (first | (go_at_call 96; refine HD.out.mono ?_; rintro e w' ⟨rfl, rfl⟩) | (go_at_call 178; refine HR.out.mono ?_; rintro e w1 ⟨rfl, hP⟩))
    go_ret
    exact ⟨rfl, hP⟩
  | false =>
    have e2 := Dk.strikes_no hq
    have e1 : m.syncLog = (0, { m with calls := wrapI (m.calls + 1), log := m.log ++ m.tail, tail := ⟨#[]⟩ }) := by unfold Dk.syncLog; rw [if_neg hd, hq, e2]; rfl
    rw [e1]
    rw [hq, e2] at HR
    clear hD hst h hd e1 hd' hq e2
    go_enter Tryz.func99, Tryz.ntmps99
    go_wp2_with (go_at_call 96; refine HD.out.mono ?_; rintro e w' ⟨rfl, rfl⟩)
    refine HR.out.mono ?_
    rintro e w1 ⟨rfl, hP⟩
    obtain ⟨F1, ⟨mb1, lv1, pv1, h1⟩, hs1, hm1⟩ := hP
    have d4 : w1.cell? ⟨b, 4, none⟩ = some (.string m.log) := h1.cells.2.2.2.2.1
    have d5 : w1.cell? ⟨b, 5, none⟩ = some (.string m.tail) := h1.cells.2.2.2.2.2.1
    have g4 := h1.cells.2.2.2.2.2.2.2.2.2 4
    have g5 := h1.cells.2.2.2.2.2.2.2.2.2 5
    have hcat : m.log.size + m.tail.size ≤ 4194304 := h1.ok.logs
    have HN := Lib.hid (h1.logs (m.log ++ m.tail) ⟨#[]⟩ (by rw [ByteArray.size_append]; exact hcat))
    have HS1 := Lib.hid hs1
    have HM1 := Lib.hid hm1
    clear h1 hs1 hm1
    go_wp2_with (fail)
    go_region
    all_goals
      go_wp2
      go_ret
      exact ⟨rfl, F1, ⟨mb1, lv1, pv1, HN.out.1⟩, HS1.out.trans HM1.out HN.out.2, HM1.out⟩

set_option maxRecDepth 100000 in
set_option maxHeartbeats 1000000 in
theorem cutLog_c (h : DiskAt w F b m) (hst : StrikesOk b m) (n : Int) (hn : n ≤ 4194304) (hn1 : -9223372036854775808 ≤ n) : Calls Tryz.prog 156 #[.pointer (some ⟨b, 0, none⟩), .int .i64 n] w
    fun e w' => e = .returned (.int .i64 (m.cutLog n).1) ∧ DPost w F b (m.cutLog n).2 w' := by
  have hD := dead_c h
  have HP := Lib.hid (DPost.refl h)
  by_cases hd : m.dead = true
  · have e1 : m.cutLog n = (7, m) := by unfold Dk.cutLog; rw [if_pos hd]
    rw [e1]
    rw [hd] at hD
    have HD := Lib.hid hD
    clear hD hst h hd e1
    go_enter Tryz.func156, Tryz.ntmps156
    go_wp2_with (go_at_call 96; refine HD.out.mono ?_; rintro e w' ⟨rfl, rfl⟩)
    go_ret
    exact ⟨rfl, HP.out⟩
  have hd' : m.dead = false := by simpa using hd
  rw [hd'] at hD
  have HD := Lib.hid hD
  have HR : ∀ k, Hid (Calls Tryz.prog 178 #[.pointer (some ⟨b, 0, none⟩)] (w.drewN k) fun e w' => e = .returned (.bool m.strikes.1) ∧ DPost (w.drewN k) F b m.strikes.2 w') := fun k => hst _ F (by obtain ⟨mb, lv, pv, h⟩ := h; exact ⟨mb, lv, pv, h.drewN k⟩)
  obtain ⟨mb, lv, pv, h⟩ := h
  have H := Lib.hid h
  have c4 := h.cells.2.2.2.2.1
  have c5 := h.cells.2.2.2.2.2.1
  have hlg := h.ok.logs
  by_cases hb1 : n < 0
  · have e1 : m.cutLog n = (1, m) := by unfold Dk.cutLog; rw [if_neg hd, if_pos (.inl hb1)]
    rw [e1]
    have hbb : decide (n < 0) = true := by simpa using hb1
    clear hD hst h hd e1 hd'
    go_enter Tryz.func156, Tryz.ntmps156
    go_wp2_with (go_at_call 96; refine HD.out.mono ?_; rintro e w' ⟨rfl, rfl⟩)
    go_quiet (fail)
    go_wp2
    go_ret
    exact ⟨rfl, DPost.mk' (H.out.drewN _) ((Step.refl F w).drewN _)⟩
  have hbb : decide (n < 0) = false := by simpa using hb1
  by_cases hb2 : (m.log.size : Int) + m.tail.size < n
  · have e1 : m.cutLog n = (1, m) := by unfold Dk.cutLog; rw [if_neg hd, if_pos (.inr hb2)]
    rw [e1]
    clear hD hst h hd e1 hd'
    go_enter Tryz.func156, Tryz.ntmps156
    go_wp2_with (go_at_call 96; refine HD.out.mono ?_; rintro e w' ⟨rfl, rfl⟩)
    go_quiet (fail)
    go_wp2
    go_ret
    exact ⟨rfl, DPost.mk' (H.out.drewN _) ((Step.refl F w).drewN _)⟩
  have hbo : ¬ (n < 0 ∨ (m.log.size : Int) + m.tail.size < n) := by omega
  cases hq : m.strikes.1 with
  | true =>
    have e1 : m.cutLog n = (7, m.strikes.2) := by unfold Dk.cutLog; rw [if_neg hd, if_neg hbo, if_pos hq]
    rw [e1]
    rw [hq] at HR
    clear hD hst h hd e1 hd' hbo
    go_enter Tryz.func156, Tryz.ntmps156
    go_wp2_with (go_at_call 96; refine HD.out.mono ?_; rintro e w' ⟨rfl, rfl⟩)
    go_quiet (fail)
    go_wp2_with (go_at_call 178; refine (HR _).out.mono ?_; rintro e w1 ⟨rfl, hP⟩)
    go_ret
    exact ⟨rfl, DPost.trans ((Step.refl F w).drewN _) (More.refl F w) hP⟩
  | false =>
    have e2 := Dk.strikes_no hq
    have e1 : m.cutLog n = (0, { m with calls := wrapI (m.calls + 1), log := (m.log ++ m.tail).extract 0 n.toNat, tail := ⟨#[]⟩ }) := by unfold Dk.cutLog; rw [if_neg hd, if_neg hbo, hq, e2]; rfl
    rw [e1]
    rw [hq, e2] at HR
    clear hD hst h hd e1 hd' hq e2 hbo
    obtain ⟨k, rfl⟩ : ∃ k : Nat, n = k := ⟨n.toNat, by omega⟩
    have hk : k ≤ m.log.size + m.tail.size := by omega
    have hk2 : (k : Int) ≤ (m.log.size : Int) + (m.tail.size : Int) := by omega
    have hk3 : (0 : Int) ≤ (k : Int) := by omega
    have hk4 : (k : Int) ≤ (((m.log.size + m.tail.size : Nat)) : Int) := by omega
    go_enter Tryz.func156, Tryz.ntmps156
    go_wp2_with (go_at_call 96; refine HD.out.mono ?_; rintro e w' ⟨rfl, rfl⟩)
    go_quiet (fail)
    go_wp2_with (fail)
    refine (HR _).out.mono ?_
    rintro e w1 ⟨rfl, hP⟩
    obtain ⟨F1, ⟨mb1, lv1, pv1, h1⟩, hs1, hm1⟩ := hP
    have d4 : w1.cell? ⟨b, 4, none⟩ = some (.string m.log) := h1.cells.2.2.2.2.1
    have d5 : w1.cell? ⟨b, 5, none⟩ = some (.string m.tail) := h1.cells.2.2.2.2.2.1
    have g4 := h1.cells.2.2.2.2.2.2.2.2.2 4
    have g5 := h1.cells.2.2.2.2.2.2.2.2.2 5
    have HN := Lib.hid (h1.logs ((m.log ++ m.tail).extract 0 k) ⟨#[]⟩ (by rw [ByteArray.size_extract, ByteArray.size_append]; show _ + 0 ≤ _; omega))
    have HS1 := Lib.hid hs1
    have HM1 := Lib.hid hm1
    clear h1 hs1 hm1
    go_wp2_with (fail)
    go_region
    all_goals
      go_wp2
      go_ret
      exact ⟨rfl, DPost.trans ((Step.refl F w).drewN _) (More.refl F w) ⟨F1, ⟨mb1, lv1, pv1, HN.out.1⟩, HS1.out.trans HM1.out HN.out.2, HM1.out⟩⟩
end
end Go.Proofs.YtpnndlahfllbhaaGreat

/-! The disk: a page is written, and the mark. -/
namespace Go.Proofs.YtpnndlahfllbhaaGreat
open Go.RowKit

def Dk.setMark (m : Dk) (n : Int) : Int × Dk :=
  if m.dead then (7, m) else if m.strikes.1 then (7, m.strikes.2) else (0, { m.strikes.2 with loose := m.strikes.2.loose ++ [⟨0, ⟨#[]⟩, n⟩] })

theorem wrsCells_snoc (l : List Wr) (x : Wr) : wrsCells (l ++ [x]) = wrsCells l ++ wrCells x := by simp [wrsCells]

section
variable {w w1 w2 w' : World} {F F1 : Nat → Prop} {b mb : Nat} {lv pv : Value} {m : Dk}

/-- a loose write is put behind the others: w2 is behind the append, and the field is set -/
theorem DiskIn.pushed (h : DiskIn w F b mb lv pv m) {x : Wr} (hx : x.ok) {o : Obj} {v : Value} (hown : w2.ownsRow 0 310 3 v (m.loose.length + 1) (wrsCells m.loose ++ wrCells x)) (hg : (w.alloc o).grownBy w2 lv.ownBlock)
    (hv : v.ownBlock = lv.ownBlock ∨ v.ownBlock = some (w.alloc o).heap.size) : DPost w F b { m with loose := m.loose ++ [x] } (w2.setCell ⟨b, 3, none⟩ v) := by
  have hbw : b < w.heap.size := h.lt b h.fb
  have hsz : w.heap.size + 1 ≤ w2.heap.size := by have := hg.size; simpa using this
  have hbl : some b ≠ lv.ownBlock := fun e => h.loose_ne b e.symm rfl
  have hold : ∀ r, r < w.heap.size → some r ≠ lv.ownBlock → w2.heap[r]? = w.heap[r]? := fun r hr hne => (hg.block r (by simp; omega) hne).trans (Below.heap_alloc w o r hr)
  have hb2 : Blk w2 b 279 (dkCells mb lv pv m) := h.blk.same (hold b hbw hbl)
  have hvb : ∀ g, v.ownBlock = some g → g < w2.heap.size := fun g hg' => (hown.lt g hg').2
  have hvne : ∀ g, v.ownBlock = some g → g ≠ b := fun g hg' e => own_blk_ne hown hb2 (by decide) (by rw [hg', e])
  have ho : ∀ r, r ≠ b → (w2.setCell ⟨b, 3, none⟩ v).heap[r]? = w2.heap[r]? := fun r hr => Below.heap_setCell _ _ _ r hr
  have hmne : some mb ≠ lv.ownBlock := by
    intro e
    rcases h.loose.2 with ⟨e1, _⟩ | ⟨g', cap, cur, e1, _, hh, _⟩
    · rw [e1] at e; simp [Value.ownBlock] at e
    · rw [e1] at e
      obtain rfl : mb = g' := by simpa [Value.ownBlock] using e
      obtain ⟨es, c, h2, _⟩ := h.map
      rw [h2] at hh
      cases hh
  refine ⟨fun r => F r ∨ v.ownBlock = some r, ⟨mb, v, pv, ?_⟩, ?_, ?_⟩
  · refine ⟨hb2.set_ 3 v, h.map.same ((ho mb h.b_ne).trans (hold mb h.map.lt hmne)), ?_, ?_, .inl h.fb, .inl h.fm, fun g hg' => .inr hg', fun g hg' => .inl (h.fp g hg'), ?_, ?_⟩
    · show (w2.setCell ⟨b, 3, none⟩ v).ownsRow 0 310 3 v (m.loose ++ [x]).length (wrsCells (m.loose ++ [x]))
      rw [wrsCells_snoc, List.length_append]
      exact own_same hown (fun g hg' => ho g (hvne g hg'))
    · refine own_same h.plan (fun g hg' => (ho g (h.plan_ne g hg')).trans (hold g (h.lt g (h.fp g hg')) (fun e => ?_)))
      exact own_own_ne h.plan h.loose (by decide) hg' e.symm
    · exact ⟨h.ok.room1, h.ok.room2, h.ok.calls1, h.ok.calls2, h.ok.logs, fun y hy => by
        rcases List.mem_append.1 hy with h1 | h1
        · exact h.ok.loose y h1
        · simp at h1; subst h1; exact hx, h.ok.pages⟩
    · intro r hr
      have e : (w2.setCell ⟨b, 3, none⟩ v).heap.size = w2.heap.size := by simp [World.setCell]
      rw [e]
      rcases hr with hr | hr
      · have := h.lt r hr; omega
      · exact hvb r hr
  · exact (((Step.refl F w).alloc o).grown hg (fun k hk => .inl (h.fl k hk))).setCell (.inl h.fb) _
  · intro r hr
    rcases hr with hr | hr
    · exact .inl hr
    · rcases hv with e | e
      · rw [e] at hr; exact .inl (h.fl r hr)
      · rw [e] at hr; right; simp at hr; omega

set_option maxRecDepth 100000 in
set_option maxHeartbeats 1000000 in
theorem setMark_c (h : DiskAt w F b m) (hst : StrikesOk b m) (n : Int) (hl : m.loose.length ≤ 1000000000) : Calls Tryz.prog 101 #[.pointer (some ⟨b, 0, none⟩), .int .u64 n] w
    fun e w' => e = .returned (.int .i64 (m.setMark n).1) ∧ DPost w F b (m.setMark n).2 w' := by
  have hD := dead_c h
  have HP := Lib.hid (DPost.refl h)
  by_cases hd : m.dead = true
  · have e1 : m.setMark n = (7, m) := by unfold Dk.setMark; rw [if_pos hd]
    rw [e1]
    rw [hd] at hD
    have HD := Lib.hid hD
    clear hD hst h hd e1
    go_enter Tryz.func101, Tryz.ntmps101
    go_wp2_with (go_at_call 96; refine HD.out.mono ?_; rintro e w' ⟨rfl, rfl⟩)
    go_ret
    exact ⟨rfl, HP.out⟩
  have hd' : m.dead = false := by simpa using hd
  rw [hd'] at hD
  have HD := Lib.hid hD
  have HR : Hid (Calls Tryz.prog 178 #[.pointer (some ⟨b, 0, none⟩)] w fun e w' => e = .returned (.bool m.strikes.1) ∧ DPost w F b m.strikes.2 w') := hst w F h
  cases hq : m.strikes.1 with
  | true =>
    have e1 : m.setMark n = (7, m.strikes.2) := by unfold Dk.setMark; rw [if_neg hd, if_pos hq]
    rw [e1]
    rw [hq] at HR
    clear hD hst h hd e1 hd'
    go_enter Tryz.func101, Tryz.ntmps101
    go_wp2_with (first | (go_at_call 96; refine HD.out.mono ?_; rintro e w' ⟨rfl, rfl⟩) | (go_at_call 178; refine HR.out.mono ?_; rintro e w1 ⟨rfl, hP⟩))
    go_ret
    exact ⟨rfl, hP⟩
  | false =>
    have e2 := Dk.strikes_no hq
    have e1 : m.setMark n = (0, { m with calls := wrapI (m.calls + 1), loose := m.loose ++ [⟨0, ⟨#[]⟩, n⟩] }) := by unfold Dk.setMark; rw [if_neg hd, hq, e2]; rfl
    rw [e1]
    rw [hq, e2] at HR
    clear hD hst h hd e1 hd' hq e2
    obtain ⟨i0, hi, hz0, hz1, hz2⟩ := info_parts infoWrite
    go_enter Tryz.func101, Tryz.ntmps101
    go_wp2_with (go_at_call 96; refine HD.out.mono ?_; rintro e w' ⟨rfl, rfl⟩)
    refine HR.out.mono ?_
    rintro e w1 ⟨rfl, hP⟩
    obtain ⟨F1, ⟨mb1, lv1, pv1, h1⟩, hs1, hm1⟩ := hP
    obtain ⟨la, lc, rfl⟩ := own_form h1.loose
    have d3 : w1.cell? ⟨b, 3, none⟩ = some (.slice la m.loose.length lc) := h1.cells.2.2.2.1
    have g3 := h1.cells.2.2.2.2.2.2.2.2.2 3
    have hbw := h1.lt b h1.fb
    have hlo : w1.ownsRow 0 310 3 (.slice la m.loose.length lc) m.loose.length (wrsCells m.loose) := h1.loose
    have HL : Hid ((w1.alloc (.cells #[.int .u32 0, .string ⟨#[]⟩, .int .u64 n] 310)).ownsRow 0 310 3 (.slice la m.loose.length lc) m.loose.length (wrsCells m.loose)) := hlo.alloc _
    have H1 := Lib.hid h1
    have HS1 := Lib.hid hs1
    have HM1 := Lib.hid hm1
    have hbl : some b ≠ (Value.slice la m.loose.length lc).ownBlock := fun e => h1.loose_ne b e.symm rfl
    have HB := Lib.hid hbl
    have HL1 : Hid (m.loose.length + 1 ≤ maxLen) := by show m.loose.length + 1 ≤ maxLen; simp only [maxLen]; omega
    have HL2 : Hid ((m.loose.length + 1) * 32 ≤ 140737488355328) := by show (m.loose.length + 1) * 32 ≤ 140737488355328; omega
    have HL4 : Hid (∀ u ∈ ([.int .u32 0, .string ⟨#[]⟩, .int .u64 n] : List Value), u.oneCell' = true) := by intro u hu; simp at hu; rcases hu with rfl | rfl | rfl <;> rfl
    clear h1 hs1 hm1 hlo hbl
    go_wp2_with (at_builtin; refine wpList_append_own_at _ rfl _ _ 276 rfl 0 310 i0 _ 3 32 Tryz.underlying276 hi hz0 hz1 hz2 rfl (by omega) _ m.loose.length (wrsCells m.loose) rfl HL.out ⟨w1.heap.size, 0, none⟩ 1 1 [.int .u32 0, .string ⟨#[]⟩, .int .u64 n] rfl rfl (World.news_of_block (cs := #[.int .u32 0, .string ⟨#[]⟩, .int .u64 n]) (t := 310) (fr := (0, 0)) (heap_alloc_new w1 _)) HL4.out HL1.out HL2.out (Nat.zero_le _) ?_; intro v' w2 h1 h2 _ h4; obtain ⟨va, vc, rfl⟩ := own_form h1; have k3 : w2.cell? ⟨b, 3, none⟩ = some (.slice la m.loose.length lc) := h2.cell (by go_simp) HB.out; have k4 : w2.frozen? ⟨b, 3, none⟩ = false := (World.frozen?_of_block (h2.block b (by simp; omega) HB.out)).trans (by go_simp); have J1 := Lib.hid h1; have J2 := Lib.hid h2; have J4 := Lib.hid h4; clear h1 h2 h4)
    go_ret
    exact ⟨rfl, DPost.trans HS1.out HM1.out (H1.out.pushed (x := ⟨0, ⟨#[]⟩, n⟩) ⟨Int.le_refl 0, by show (0 : Int) ≤ 4096; decide, fun h => absurd rfl h⟩ J1.out J2.out J4.out)⟩

end
end Go.Proofs.YtpnndlahfllbhaaGreat

/-! The disk: all writes are made sure; a page is read, and the mark. -/
namespace Go.Proofs.YtpnndlahfllbhaaGreat
open Go.RowKit

def Dk.sync (m : Dk) : Int × Dk :=
  if m.dead then (7, m) else if m.strikes.1 then (7, m.strikes.2) else (0, { m.strikes.2.lands m.strikes.2.loose with loose := [] })

theorem Dk.lands_next (m : Dk) {k : Nat} {x : Wr} (l : List Wr) (hx : l[k]? = some x) : m.lands (l.take (k + 1)) = (m.lands (l.take k)).land x := by
  rw [List.take_add_one, hx]
  show m.lands (l.take k ++ [x]) = _
  rw [Dk.lands_snoc]

theorem lastOf_none {p : Int} : ∀ {l : List Wr}, (∀ (j : Nat) (x : Wr), l[j]? = some x → x.page ≠ p) → lastOf p l = none
  | [], _ => rfl
  | x :: l, h => by
    have h0 := h 0 x rfl
    have ih := lastOf_none (l := l) (fun j y hy => h (j + 1) y (by simpa using hy))
    simp [lastOf, h0, ih]

theorem lastOf_some {p : Int} : ∀ {l : List Wr} {k : Nat} {x : Wr}, l[k]? = some x → x.page = p → (∀ (j : Nat) (y : Wr), k < j → l[j]? = some y → y.page ≠ p) → lastOf p l = some x
  | [], _, _, h, _, _ => by simp at h
  | y :: l, 0, x, h, hx, hn => by
    simp at h
    subst h
    have ih := lastOf_none (p := p) (l := l) (fun j z hz => hn (j + 1) z (by omega) (by simpa using hz))
    simp [lastOf, ih, hx]
  | y :: l, k + 1, x, h, hx, hn => by
    have ih := lastOf_some (p := p) (l := l) (k := k) (by simpa using h) hx (fun j z hj hz => hn (j + 1) z (by omega) (by simpa using hz))
    simp [lastOf, ih]

section
variable {w : World} {F : Nat → Prop} {b mb : Nat} {lv pv : Value} {m : Dk}

def SyncRel (w0 : World) (F : Nat → Prop) (b mb : Nat) (lv pv : Value) (m : Dk) (k : Nat) (wr : World) : Prop := DiskIn wr F b mb lv pv (m.lands (m.loose.take k)) ∧ Step F w0 wr

set_option maxRecDepth 100000 in
set_option maxHeartbeats 1000000 in
theorem sync_c (h : DiskAt w F b m) (hst : StrikesOk b m) (hl : m.loose.length ≤ 1000000000) : Calls Tryz.prog 102 #[.pointer (some ⟨b, 0, none⟩)] w
    fun e w' => e = .returned (.int .i64 m.sync.1) ∧ DPost w F b m.sync.2 w' := by
  have hD := dead_c h
  have HP := Lib.hid (DPost.refl h)
  by_cases hd : m.dead = true
  · have e1 : m.sync = (7, m) := by unfold Dk.sync; rw [if_pos hd]
    rw [e1]
    rw [hd] at hD
    have HD := Lib.hid hD
    clear hD hst h hd e1
    go_enter Tryz.func102, Tryz.ntmps102
    go_wp2_with (go_at_call 96; refine HD.out.mono ?_; rintro e w' ⟨rfl, rfl⟩)
    go_ret
    exact ⟨rfl, HP.out⟩
  have hd' : m.dead = false := by simpa using hd
  rw [hd'] at hD
  have HD := Lib.hid hD
  have HR : Hid (Calls Tryz.prog 178 #[.pointer (some ⟨b, 0, none⟩)] w fun e w' => e = .returned (.bool m.strikes.1) ∧ DPost w F b m.strikes.2 w') := hst w F h
  cases hq : m.strikes.1 with
  | true =>
    have e1 : m.sync = (7, m.strikes.2) := by unfold Dk.sync; rw [if_neg hd, if_pos hq]
    rw [e1]
    rw [hq] at HR
    clear hD hst h hd e1 hd'
    go_enter Tryz.func102, Tryz.ntmps102
    go_wp2_with (first | (go_at_call 96; refine HD.out.mono ?_; rintro e w' ⟨rfl, rfl⟩) | (go_at_call 178; refine HR.out.mono ?_; rintro e w1 ⟨rfl, hP⟩))
    go_ret
    exact ⟨rfl, hP⟩
  | false =>
    have e2 := Dk.strikes_no hq
    have e1 : m.sync = (0, { Dk.lands { m with calls := wrapI (m.calls + 1) } m.loose with loose := [] }) := by unfold Dk.sync; rw [if_neg hd, hq, e2]; rfl
    rw [e1]
    rw [hq, e2] at HR
    clear hD hst h hd e1 hd' hq e2
    generalize hm1 : ({ m with calls := wrapI (m.calls + 1) } : Dk) = m1 at *
    have el : m.loose = m1.loose := by rw [← hm1]
    rw [el]
    rw [el] at hl
    clear hm1 el
    go_enter Tryz.func102, Tryz.ntmps102
    go_wp2_with (go_at_call 96; refine HD.out.mono ?_; rintro e w' ⟨rfl, rfl⟩)
    refine HR.out.mono ?_
    rintro e w1 ⟨rfl, hP⟩
    obtain ⟨F1, ⟨mb1, lv1, pv1, h1⟩, hs1, hm1⟩ := hP
    obtain ⟨la, lc, rfl⟩ := own_form h1.loose
    have d3 : w1.cell? ⟨b, 3, none⟩ = some (.slice la m1.loose.length lc) := h1.cells.2.2.2.1
    have H1 := Lib.hid h1
    have HS1 := Lib.hid hs1
    have HM1 := Lib.hid hm1
    clear h1 hs1 hm1
    go_wp2_with (fail)
    go_loopw [16] (fun i wr => ∃ k : Nat, k ≤ m1.loose.length ∧ i = .int .i64 k ∧ SyncRel w1 F1 b mb1 (.slice la m1.loose.length lc) pv1 m1 k wr) (fun i _ => m1.loose.length - (intOf i).toNat)
    case atStart => exact ⟨0, Nat.zero_le _, rfl, H1.out, Step.refl _ _⟩
    case round =>
      obtain ⟨k, hk, rfl, hR⟩ := hrel
      by_cases hlt : k < m1.loose.length
      · obtain ⟨x, hx⟩ : ∃ x, m1.loose[k]? = some x := ⟨_, List.getElem?_eq_getElem hlt⟩
        have hml := Dk.lands_loose (m1.loose.take k) m1
        obtain ⟨g, cap, e, hFg, hcap, hmx, x0, x1, x2⟩ := hR.1.loose_at (k := k) (x := x) (by rw [hml.1]; exact hx)
        rw [hml.1] at e
        simp only [Value.slice.injEq] at e
        obtain ⟨rfl, -, rfl⟩ := e
        have hgw : g < wr.heap.size := hR.1.lt g hFg
        have HH := Lib.hid hR
        have HX := Lib.hid hx
        have HO : Hid x.ok := H1.out.ok.loose x (List.mem_of_getElem? hx)
        have HL : ∀ W, DiskIn W F1 b mb1 (.slice (some ⟨g, 0, none⟩) m1.loose.length lc) pv1 (m1.lands (m1.loose.take k)) → Hid (Calls Tryz.prog 180 #[.pointer (some ⟨b, 0, none⟩), .agg #[.int .u32 x.page, .string x.s, .int .u64 x.mark]] W
              fun e w' => e = .returned (.tuple #[]) ∧ LandPost W F1 b mb1 (.slice (some ⟨g, 0, none⟩) m1.loose.length lc) pv1 ((m1.lands (m1.loose.take k)).land x) w') := fun W hW => land_c hW x HO.out
        clear hml hR hcap hmx hx
        go_wp2_with (go_at_call 180; refine ((HL _ (HH.out.1.below ((Below.refl _ _).alloc (Nat.le_refl _) _))).out).mono ?_; rintro e w' ⟨rfl, hL⟩)
        go_roundw
        case rel => exact ⟨k + 1, by omega, by go_num, (Dk.lands_next m1 _ HX.out) ▸ hL.1, HH.out.2.trans (More.refl _ _) ((Step.below ((Below.refl _ _).alloc (Nat.le_refl _) _)).trans (More.refl _ _) hL.2)⟩
        case measure => simp [intOf]; omega
      · obtain rfl : k = m1.loose.length := by omega
        unfold SyncRel at hR
        rw [List.take_length] at hR
        have b3 := hR.1.cells.2.2.2.1
        have bf := hR.1.cells.2.2.2.2.2.2.2.2.2 3
        have HH := Lib.hid hR
        clear hR
        go_wp2_with (fail)
        go_ret
        have hM := HH.out.1
        have ho : ∀ r, r ≠ b → (wr.setCell ⟨b, 3, none⟩ (.slice none 0 0)).heap[r]? = wr.heap[r]? := fun r hr => Below.heap_setCell _ _ _ r hr
        refine ⟨rfl, F1, ⟨mb1, .slice none 0 0, pv1, hM.anew (fun r hr _ => ho r hr) (by simp [World.setCell]) (hM.blk.set_ 3 (.slice none 0 0)) rfl (World.ownsRow_nil _ _ _ _) (own_same hM.plan (fun g hg => ho g (hM.plan_ne g hg))) (fun _ h => h) (by simp [Value.ownBlock]) hM.fp ⟨hM.ok.room1, hM.ok.room2, hM.ok.calls1, hM.ok.calls2, hM.ok.logs, by simp, hM.ok.pages⟩ (fun r hr => by have := hM.lt r hr; simpa [World.setCell] using this)⟩, ?_, HM1.out⟩
        exact HS1.out.trans HM1.out (HH.out.2.trans (More.refl _ _) ((Step.refl F1 wr).setCell (.inl hM.fb) _))

end
end Go.Proofs.YtpnndlahfllbhaaGreat

/-! The statements of layer 2: pages of one byte, and that the disk is awake. -/
namespace Go.Proofs.YtpnndlahfllbhaaGreat
open Go.RowKit

theorem infoByte : (Tryz.prog.info? 5).map (fun i => (i.zero, i.size, i.bytes)) = some (some (.int .u8 0), 1, 1) := by kernel_rfl

end Go.Proofs.YtpnndlahfllbhaaGreat

/-! The disk while it lives above a world: contracts in a form for callers; layer 2 is awake. -/
namespace Go.Proofs.YtpnndlahfllbhaaGreat
open Go.RowKit

theorem crash_c {w : World} {F : Nat → Prop} {b : Nat} {m : Dk} (h : DiskAt w F b m) (f : Fl) (hf : f.ok) (hn : m.loose.length ≤ 1000000000) : Calls Tryz.prog 120 #[.pointer (some ⟨b, 0, none⟩), .agg #[.int .i64 f.at_, .int .u64 f.keep, .int .i64 f.torn, .int .i64 f.bytes, .int .i64 f.log]] w
    fun e w' => e = .returned (.tuple #[]) ∧ DPost w F b (m.crash f) w' := by
  by_cases hd : m.dead = true
  · have e : m.crash f = m := by unfold Dk.crash; rw [if_pos hd]
    rw [e]
    obtain ⟨mb, lv, pv, h⟩ := h
    have hc : ∀ W, DiskIn W F b mb lv pv m → Hid (Calls Tryz.prog 96 #[.pointer (some ⟨b, 0, none⟩)] W fun e w' => e = .returned (.bool true) ∧ W = w') := fun W hW => by
      have := dead_c (⟨mb, lv, pv, hW⟩ : DiskAt W F b m)
      rw [hd] at this
      exact this
    have H := Lib.hid h
    obtain ⟨fa, fk, ft, fb, fl⟩ := f
    simp only []
    clear h hd e
    go_enter Tryz.func120, Tryz.ntmps120
    go_wp2_with (go_at_call 96; refine (hc _ (H.out.below ((Below.refl _ _).alloc (Nat.le_refl _) _))).mono ?_; rintro e w' ⟨rfl, rfl⟩)
    first | go_end0 | (simp only [Exit.inBlock, Exit.then]; refine bodyPost_ret (results_none rfl _ _ _) rfl ?_) | refine bodyPost_ret (results_none rfl _ _ _) rfl ?_
    exact ⟨rfl, DPost.mk' (H.out.below ((Below.refl _ _).alloc (Nat.le_refl _) _)) ((Step.refl F w).alloc _)⟩
  · obtain ⟨mb, lv, pv, h⟩ := h
    exact crash_live h f hf (by simpa using hd) hn

/-- the disk m lives at block b; below w0 nothing has turned -/
def Live (w0 : World) (b : Nat) (m : Dk) (w : World) : Prop := ∃ F, DiskAt w F b m ∧ (∀ r, F r → w0.heap.size ≤ r) ∧ Below w0.heap.size w0 w

section
variable {w0 w w' : World} {b : Nat} {m m' : Dk}
theorem Live.of_post (_h : Live w0 b m w) {F : Nat → Prop} (hF : ∀ r, F r → w0.heap.size ≤ r) (hb : Below w0.heap.size w0 w) (hp : DPost w F b m' w') : Live w0 b m' w' := by
  obtain ⟨F', h1, h2, h3⟩ := hp
  refine ⟨F', h1, fun r hr => ?_, hb.trans (h2.belowB hF hb.size)⟩
  rcases h3 r hr with h4 | h4
  · exact hF r h4
  · have := hb.size; omega
theorem Live.calls (h : Live w0 b m w) {f : FuncId} {args : Array Value} {v : Ending} (hc : ∀ F, DiskAt w F b m → Calls Tryz.prog f args w fun e w' => e = v ∧ DPost w F b m' w') : Calls Tryz.prog f args w fun e w' => e = v ∧ Live w0 b m' w' := by
  obtain ⟨F, h1, h2, h3⟩ := id h
  exact (hc F h1).mono fun e w' ⟨he, hp⟩ => ⟨he, h.of_post h2 h3 hp⟩
theorem Live.below (h : Live w0 b m w) (hb : Below w.heap.size w w') : Live w0 b m w' := by
  obtain ⟨F, h1, h2, h3⟩ := h
  exact ⟨F, h1.below hb, h2, h3.trans (hb.mono h3.size)⟩
theorem Live.ok (h : Live w0 b m w) : m.ok := by obtain ⟨F, h1, _⟩ := h; exact h1.ok
theorem Live.base (h : Live w0 b m w) : Below w0.heap.size w0 w := by obtain ⟨F, _, _, h1⟩ := h; exact h1
end

theorem fresh_live (w : World) (n : Int) (h1 : 8 ≤ n) (h2 : n ≤ 2048) : Live w (w.heap.size + 1) (Dk.fresh n) ((w.alloc (.map #[] 0)).alloc (.cells #[.int .i64 n, .map (some w.heap.size), .int .u64 0, .slice none 0 0, .string ⟨#[]⟩, .string ⟨#[]⟩, .int .i64 0, .slice none 0 0, .bool false] 279)) := by
  refine ⟨fun r => r = w.heap.size ∨ r = w.heap.size + 1, ⟨w.heap.size, .slice none 0 0, .slice none 0 0, ?_⟩, fun r hr => by omega, ((Below.refl _ _).alloc (Nat.le_refl _) _).alloc (by simp) _⟩
  refine ⟨?_, ?_, World.ownsRow_nil _ _ _ _, World.ownsRow_nil _ _ _ _, .inr rfl, .inl rfl, by simp [Value.ownBlock], by simp [Value.ownBlock], Dk.fresh_ok n h1 h2, fun r hr => by simp; omega⟩
  · have := Blk.new (w.alloc (.map #[] 0)) 279 #[.int .i64 n, .map (some w.heap.size), .int .u64 0, .slice none 0 0, .string ⟨#[]⟩, .string ⟨#[]⟩, .int .i64 0, .slice none 0 0, .bool false]
    have e : (w.alloc (.map #[] 0)).heap.size = w.heap.size + 1 := by simp
    rw [e] at this
    exact this
  · have h3 : MapI .u32 (w.alloc (.map #[] 0)) w.heap.size (fun _ => none) := MapI.made w
    exact h3.same (Below.heap_alloc _ _ _ (by simp))

theorem new_c (w : World) (n : Int) (h1 : 8 ≤ n) (h2 : n ≤ 2048) : Calls Tryz.prog 75 #[.int .i64 n] w fun e w' => e = .returned (.tuple #[.pointer (some ⟨w.heap.size + 1, 0, none⟩), .int .i64 0]) ∧ Live w (w.heap.size + 1) (Dk.fresh n) w' := by
  have hmm := @run_makeMap Tryz.prog
  have HF := Lib.hid (fresh_live w n h1 h2)
  go_enter Tryz.func75, Tryz.ntmps75
  go_wp2
  go_ret2
  exact ⟨rfl, HF.out⟩

section
variable {w0 w w' : World} {b : Nat} {m m' : Dk}
end
end Go.Proofs.YtpnndlahfllbhaaGreat

/-! Layer 2 is awake: what is synced stays. -/
namespace Go.Proofs.YtpnndlahfllbhaaGreat
open Go.RowKit

end Go.Proofs.YtpnndlahfllbhaaGreat

/-! The disk's contracts for whoever hosts a disk: a predicate of the model and the world that every call on the disk hands on. -/
namespace Go.Proofs.YtpnndlahfllbhaaGreat
open Go.RowKit

section
variable {b : Nat} {S : Dk → World → Prop} {w w' : World} {m m' : Dk}
end

section
variable {w0 w w' : World} {b g : Nat} {o o' : Obj} {m m' : Dk}
end
end Go.Proofs.YtpnndlahfllbhaaGreat
