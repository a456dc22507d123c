/-
  The plain model of the disk: lists, bytes and numbers, no Go and no memory.
-/
import GoSem.Core.World
namespace Go.Proofs.Ytnobiekgifjaeaa

/-- a loose write -/
structure Wr where
  page : Int
  s : ByteArray
  mark : Int

/-- a fall -/
structure Fl where
  at_ : Int
  keep : Int
  torn : Int
  bytes : Int
  log : Int

structure Dk where
  room : Int
  pages : Int → Option ByteArray
  mark : Int
  loose : List Wr
  log : ByteArray
  tail : ByteArray
  calls : Int
  plan : List Fl
  dead : Bool

def noBytes : ByteArray := ⟨#[]⟩
def blank : ByteArray := ⟨(List.replicate 512 (0 : UInt8)).toArray⟩

def Dk.fresh (n : Int) : Dk := { room := n, pages := fun _ => none, mark := 0, loose := [], log := ⟨#[]⟩, tail := ⟨#[]⟩, calls := 0, plan := [], dead := false }

def Dk.may (m : Dk) (p : Int) : Int := if p < 1 ∨ 4096 < p then 1 else if m.room ≤ (p - 1) % 2048 then 20 else 0

def Dk.sure (m : Dk) (p : Int) : ByteArray := (m.pages p).getD blank

def putAt (f : Int → Option ByteArray) (p : Int) (s : ByteArray) : Int → Option ByteArray := fun q => if q = p then some s else f q

def Dk.land (m : Dk) (x : Wr) : Dk := if x.page = 0 then { m with mark := x.mark } else { m with pages := putAt m.pages x.page x.s }

def Dk.lands (m : Dk) : List Wr → Dk
  | [] => m
  | x :: l => (m.land x).lands l

def bitAt (n : Int) (i : Nat) : Bool := n / 2 ^ i % 2 == 1

def cutN (lo hi n : Int) : Int := min (max n lo) hi

def Dk.strike (f : Fl) (m : Dk) (i : Nat) (x : Wr) : Dk :=
  if 0 < f.torn ∧ (i : Int) = f.torn - 1 then
    (if x.page = 0 then m else
      { m with pages := putAt m.pages x.page (x.s.extract 0 (cutN 0 512 f.bytes).toNat ++ (m.sure x.page).extract (cutN 0 512 f.bytes).toNat (m.sure x.page).size) })
  else if bitAt f.keep (i % 64) then m.land x else m

def Dk.strikesFrom (f : Fl) (m : Dk) (i : Nat) : List Wr → Dk
  | [] => m
  | x :: l => (m.strike f i x).strikesFrom f (i + 1) l

def Dk.fell (m : Dk) (f : Fl) : Dk :=
  { m with log := m.log ++ m.tail.extract 0 (cutN 0 m.tail.size f.log).toNat, loose := [], tail := ⟨#[]⟩, dead := true }

def Dk.crash (m : Dk) (f : Fl) : Dk := if m.dead then m else (m.strikesFrom f 0 m.loose).fell f

/-- the last write of a page, or of the mark -/
def lastOf (p : Int) : List Wr → Option Wr
  | [] => none
  | x :: l => (lastOf p l).or (if x.page = p then some x else none)

def Dk.read (m : Dk) (p : Int) : ByteArray := match lastOf p m.loose with | some x => x.s | none => m.sure p
def Dk.markNow (m : Dk) : Int := match lastOf 0 m.loose with | some x => x.mark | none => m.mark

def wrapI (n : Int) : Int := (n + 9223372036854775808) % 18446744073709551616 - 9223372036854775808

/-- where the power fails next -/
def findAt (n : Int) : List Fl → Option Nat
  | [] => none
  | f :: l => if f.at_ = n then some 0 else (findAt n l).map (· + 1)

def Dk.strikes (m : Dk) : Bool × Dk :=
  match findAt m.calls m.plan with
  | some i => (true, { m with plan := m.plan.eraseIdx i }.crash ((m.plan[i]?).getD ⟨0, 0, 0, 0, 0⟩))
  | none => (false, { m with calls := wrapI (m.calls + 1) })

def Wr.ok (x : Wr) : Prop := 0 ≤ x.page ∧ x.page ≤ 4096 ∧ (x.page ≠ 0 → x.s.size = 512)

structure Fl.ok (f : Fl) : Prop where
  at1 : -9223372036854775808 ≤ f.at_
  at2 : f.at_ ≤ 9223372036854775807
  keep1 : 0 ≤ f.keep
  keep2 : f.keep ≤ 18446744073709551615
  torn1 : -9223372036854775808 ≤ f.torn
  torn2 : f.torn ≤ 9223372036854775807
  bytes1 : -9223372036854775808 ≤ f.bytes
  bytes2 : f.bytes ≤ 9223372036854775807
  log1 : -9223372036854775808 ≤ f.log
  log2 : f.log ≤ 9223372036854775807

structure Dk.ok (m : Dk) : Prop where
  room1 : 8 ≤ m.room
  room2 : m.room ≤ 2048
  calls1 : -9223372036854775808 ≤ m.calls
  calls2 : m.calls ≤ 9223372036854775807
  logs : m.log.size + m.tail.size ≤ 4194304
  loose : ∀ x ∈ m.loose, x.ok
  pages : ∀ p s, m.pages p = some s → s.size = 512

theorem blank_size : blank.size = 512 := by
  show (List.replicate 512 (0 : UInt8)).toArray.size = 512
  rw [List.size_toArray, List.length_replicate]

theorem Dk.sure_size (m : Dk) (h : ∀ p s, m.pages p = some s → s.size = 512) (p : Int) : (m.sure p).size = 512 := by
  unfold Dk.sure
  cases e : m.pages p with
  | none => exact blank_size
  | some s => simpa using h p s e

theorem cutN_bd {lo hi n : Int} (h : lo ≤ hi) : lo ≤ cutN lo hi n ∧ cutN lo hi n ≤ hi := by unfold cutN; omega

theorem size_extract0 (s : ByteArray) (k : Nat) (h : k ≤ s.size) : (s.extract 0 k).size = k := by simp [ByteArray.size_extract]; omega

theorem Dk.land_ok {m : Dk} (h : m.ok) {x : Wr} (hx : x.ok) : (m.land x).ok := by
  unfold Dk.land
  split
  · exact ⟨h.room1, h.room2, h.calls1, h.calls2, h.logs, h.loose, h.pages⟩
  · rename_i hp
    refine ⟨h.room1, h.room2, h.calls1, h.calls2, h.logs, h.loose, fun p s hs => ?_⟩
    simp only [putAt] at hs
    split at hs
    · cases hs; exact hx.2.2 hp
    · exact h.pages p s hs

theorem Dk.strike_ok {m : Dk} (h : m.ok) (f : Fl) (i : Nat) {x : Wr} (hx : x.ok) : (m.strike f i x).ok := by
  unfold Dk.strike
  split
  · split
    · exact h
    · rename_i hp
      refine ⟨h.room1, h.room2, h.calls1, h.calls2, h.logs, h.loose, fun p s hs => ?_⟩
      simp only [putAt] at hs
      split at hs
      · cases hs
        have h1 := hx.2.2 hp
        have h2 := m.sure_size h.pages x.page
        have h3 := cutN_bd (lo := 0) (hi := 512) (n := f.bytes) (by omega)
        simp [ByteArray.size_extract, h1, h2]
        omega
      · exact h.pages p s hs
  · split
    · exact Dk.land_ok h hx
    · exact h

theorem Dk.land_loose (m : Dk) (x : Wr) : (m.land x).loose = m.loose ∧ (m.land x).log = m.log ∧ (m.land x).tail = m.tail ∧ (m.land x).room = m.room ∧ (m.land x).calls = m.calls ∧ (m.land x).plan = m.plan ∧ (m.land x).dead = m.dead := by
  unfold Dk.land; split <;> simp

theorem Dk.strike_loose (m : Dk) (f : Fl) (i : Nat) (x : Wr) : (m.strike f i x).loose = m.loose ∧ (m.strike f i x).log = m.log ∧ (m.strike f i x).tail = m.tail ∧ (m.strike f i x).room = m.room ∧ (m.strike f i x).calls = m.calls ∧ (m.strike f i x).plan = m.plan ∧ (m.strike f i x).dead = m.dead := by
  unfold Dk.strike
  split
  · split <;> simp
  · split
    · exact m.land_loose x
    · simp

theorem Dk.strikesFrom_ok (f : Fl) : ∀ (l : List Wr) (m : Dk) (i : Nat), m.ok → (∀ x ∈ l, x.ok) → (m.strikesFrom f i l).ok
  | [], _, _, h, _ => h
  | x :: l, m, i, h, hl => Dk.strikesFrom_ok f l _ _ (Dk.strike_ok h f i (hl x (by simp))) (fun y hy => hl y (by simp [hy]))

theorem Dk.lands_ok : ∀ (l : List Wr) (m : Dk), m.ok → (∀ x ∈ l, x.ok) → (m.lands l).ok
  | [], _, h, _ => h
  | x :: l, m, h, hl => Dk.lands_ok l _ (Dk.land_ok h (hl x (by simp))) (fun y hy => hl y (by simp [hy]))

theorem Dk.strikesFrom_loose (f : Fl) : ∀ (l : List Wr) (m : Dk) (i : Nat), (m.strikesFrom f i l).loose = m.loose ∧ (m.strikesFrom f i l).log = m.log ∧ (m.strikesFrom f i l).tail = m.tail ∧ (m.strikesFrom f i l).room = m.room ∧ (m.strikesFrom f i l).calls = m.calls ∧ (m.strikesFrom f i l).plan = m.plan ∧ (m.strikesFrom f i l).dead = m.dead
  | [], _, _ => by simp [Dk.strikesFrom]
  | x :: l, m, i => by
    have h1 := m.strike_loose f i x
    have h2 := Dk.strikesFrom_loose f l (m.strike f i x) (i + 1)
    simp only [Dk.strikesFrom]
    simp [h1, h2]

theorem Dk.lands_loose : ∀ (l : List Wr) (m : Dk), (m.lands l).loose = m.loose ∧ (m.lands l).log = m.log ∧ (m.lands l).tail = m.tail ∧ (m.lands l).room = m.room ∧ (m.lands l).calls = m.calls ∧ (m.lands l).plan = m.plan ∧ (m.lands l).dead = m.dead
  | [], _ => by simp [Dk.lands]
  | x :: l, m => by
    have h1 := m.land_loose x
    have h2 := Dk.lands_loose l (m.land x)
    simp only [Dk.lands]
    simp [h1, h2]

theorem Dk.strikesFrom_snoc (f : Fl) (x : Wr) : ∀ (l : List Wr) (m : Dk) (i : Nat), m.strikesFrom f i (l ++ [x]) = (m.strikesFrom f i l).strike f (i + l.length) x
  | [], _, _ => by simp [Dk.strikesFrom]
  | y :: l, m, i => by
    simp only [List.cons_append, Dk.strikesFrom, List.length_cons]
    rw [Dk.strikesFrom_snoc f x l]
    congr 1
    omega

theorem Dk.strikesFrom_next (m : Dk) (f : Fl) {k : Nat} {x : Wr} (hx : m.loose[k]? = some x) : m.strikesFrom f 0 (m.loose.take (k + 1)) = (m.strikesFrom f 0 (m.loose.take k)).strike f k x := by
  have hk : k < m.loose.length := (List.getElem?_eq_some_iff.1 hx).1
  rw [List.take_add_one, hx]
  show m.strikesFrom f 0 (m.loose.take k ++ [x]) = _
  rw [Dk.strikesFrom_snoc]
  congr 1
  rw [List.length_take]
  omega

theorem Dk.lands_snoc (x : Wr) : ∀ (l : List Wr) (m : Dk), m.lands (l ++ [x]) = (m.lands l).land x
  | [], _ => by simp [Dk.lands]
  | y :: l, m => by
    simp only [List.cons_append, Dk.lands]
    rw [Dk.lands_snoc x l]

theorem Dk.fell_ok {m : Dk} (h : m.ok) (f : Fl) : (m.fell f).ok := by
  refine ⟨h.room1, h.room2, h.calls1, h.calls2, ?_, by simp [Dk.fell], h.pages⟩
  have h3 := cutN_bd (lo := 0) (hi := m.tail.size) (n := f.log) (by omega)
  have h4 := h.logs
  show (m.log ++ m.tail.extract 0 (cutN 0 m.tail.size f.log).toNat).size + ByteArray.size ⟨#[]⟩ ≤ _
  rw [ByteArray.size_append, size_extract0 _ _ (by omega)]
  show _ + _ + 0 ≤ _
  omega

theorem Dk.crash_ok {m : Dk} (h : m.ok) (f : Fl) : (m.crash f).ok := by
  unfold Dk.crash
  split
  · exact h
  · exact Dk.fell_ok (Dk.strikesFrom_ok f _ _ _ h h.loose) f

theorem Dk.strikes_ok {m : Dk} (h : m.ok) : m.strikes.2.ok := by
  unfold Dk.strikes
  split
  · rename_i i _
    show (Dk.crash { m with plan := m.plan.eraseIdx i } _).ok
    exact Dk.crash_ok (m := { m with plan := m.plan.eraseIdx i }) ⟨h.room1, h.room2, h.calls1, h.calls2, h.logs, h.loose, h.pages⟩ _
  · exact ⟨h.room1, h.room2, by simp only [wrapI]; omega, by simp only [wrapI]; omega, h.logs, h.loose, h.pages⟩

theorem Dk.fresh_ok (n : Int) (h1 : 8 ≤ n) (h2 : n ≤ 2048) : (Dk.fresh n).ok :=
  ⟨h1, h2, by simp [Dk.fresh], by simp [Dk.fresh], by simp [Dk.fresh, ByteArray.size], by simp [Dk.fresh], by simp [Dk.fresh]⟩
end Go.Proofs.Ytnobiekgifjaeaa
