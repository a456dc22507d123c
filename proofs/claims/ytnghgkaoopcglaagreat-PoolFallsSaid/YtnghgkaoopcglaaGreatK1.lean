/-
  The pool as plain lists: what each of its functions does, and where the power may fail.
-/
import Derived.Test.YtnghgkaoopcglaaGreatM2
import Derived.Test.YtnghgkaoopcglaaGreatQ2
import Derived.Test.YtnghgkaoopcglaaGreatZ0
namespace Go.Proofs.YtnghgkaoopcglaaGreat
open Go.RowKit

/-! where the power may fail: at one place at most -/
def PlanOk (m : Dk) : Prop := m.plan = [] ∨ ∃ f : Fl, m.plan = [f] ∧ f.ok
theorem PlanOk.strikes {b : Nat} {m : Dk} (h : PlanOk m) (hl : m.loose.length ≤ 1000000000) : StrikesOk b m := by
  rcases h with h | ⟨f, h, hf⟩
  · exact strikes_plan h
  · by_cases hat : f.at_ = m.calls
    · exact strikes_hit b m f hf h hat hl
    · exact strikes_no b m (by rw [h]; unfold findAt; rw [if_neg hat]; rfl) (by rw [h]; simp)
/-- a step of the disk: the plan is what it was, or gone; what is loose is one more at most -/
structure DkNext (m m' : Dk) : Prop where
  plan : m'.plan = m.plan ∨ m'.plan = []
  loose : m'.loose.length ≤ m.loose.length + 1
theorem DkNext.planOk {m m' : Dk} (h : DkNext m m') (hp : PlanOk m) : PlanOk m' := by
  rcases h.plan with e | e
  · unfold PlanOk; rw [e]; exact hp
  · exact .inl e
theorem strikes_next {m : Dk} (hp : PlanOk m) : (m.strikes.2.plan = m.plan ∨ m.strikes.2.plan = []) ∧ m.strikes.2.loose.length ≤ m.loose.length := by
  rcases hp with h | ⟨f, h, _⟩
  · rw [Dk.strikes_plan h]; exact ⟨.inl rfl, Nat.le_refl _⟩
  · by_cases hat : f.at_ = m.calls
    · have hs : m.strikes = (true, { m with plan := [] }.crash f) := by
        unfold Dk.strikes
        have e1 : findAt m.calls m.plan = some 0 := by rw [h]; unfold findAt; rw [if_pos hat]
        rw [e1, h]
        rfl
      rw [hs]
      unfold Dk.crash
      split
      · exact ⟨.inr rfl, Nat.le_refl _⟩
      · have := Dk.strikesFrom_loose f m.loose { m with plan := [] } 0
        refine ⟨.inr ?_, ?_⟩
        · show (Dk.strikesFrom f { m with plan := [] } 0 m.loose).plan = []
          exact this.2.2.2.2.2.1
        · show ([] : List Wr).length ≤ _
          simp
    · have e1 : findAt m.calls m.plan = none := by rw [h]; unfold findAt; rw [if_neg hat]; rfl
      have hs : m.strikes = (false, { m with calls := wrapI (m.calls + 1) }) := by unfold Dk.strikes; rw [e1]
      rw [hs]; exact ⟨.inl rfl, Nat.le_refl _⟩
theorem DkNext.refl (m : Dk) : DkNext m m := ⟨.inl rfl, Nat.le_succ _⟩
theorem Dk.write_next {m : Dk} (hp : PlanOk m) (p : Int) (s : ByteArray) : DkNext m (m.write p s).2 := by
  obtain ⟨h1, h2⟩ := strikes_next hp
  unfold Dk.write
  split
  · exact DkNext.refl m
  · split
    · exact DkNext.refl m
    · split
      · exact DkNext.refl m
      · split
        · exact ⟨h1, Nat.le_succ_of_le h2⟩
        · exact ⟨h1, by simp; exact h2⟩
theorem Dk.lands_plan (m : Dk) (l : List Wr) : (m.lands l).plan = m.plan := (Dk.lands_loose l m).2.2.2.2.2.1
theorem Dk.sync_next {m : Dk} (hp : PlanOk m) : (m.sync.2.plan = m.plan ∨ m.sync.2.plan = []) ∧ m.sync.2.loose.length ≤ m.loose.length := by
  obtain ⟨h1, h2⟩ := strikes_next hp
  unfold Dk.sync
  split
  · exact ⟨.inl rfl, Nat.le_refl _⟩
  · split
    · exact ⟨h1, h2⟩
    · refine ⟨?_, ?_⟩
      · show (m.strikes.2.lands m.strikes.2.loose).plan = m.plan ∨ (m.strikes.2.lands m.strikes.2.loose).plan = []
        rw [Dk.lands_plan]; exact h1
      · show ([] : List Wr).length ≤ _
        simp
theorem Dk.appendLog_next {m : Dk} (hp : PlanOk m) (s : ByteArray) : ((m.appendLog s).2.plan = m.plan ∨ (m.appendLog s).2.plan = []) ∧ (m.appendLog s).2.loose.length ≤ m.loose.length := by
  obtain ⟨h1, h2⟩ := strikes_next hp
  unfold Dk.appendLog
  split
  · exact ⟨.inl rfl, Nat.le_refl _⟩
  · split
    · exact ⟨.inl rfl, Nat.le_refl _⟩
    · split
      · exact ⟨h1, h2⟩
      · exact ⟨h1, h2⟩
theorem Dk.syncLog_next {m : Dk} (hp : PlanOk m) : (m.syncLog.2.plan = m.plan ∨ m.syncLog.2.plan = []) ∧ m.syncLog.2.loose.length ≤ m.loose.length := by
  obtain ⟨h1, h2⟩ := strikes_next hp
  unfold Dk.syncLog
  split
  · exact ⟨.inl rfl, Nat.le_refl _⟩
  · split
    · exact ⟨h1, h2⟩
    · exact ⟨h1, h2⟩
theorem plan_then {m m1 m2 : Dk} (hp : PlanOk m) (h1 : m1.plan = m.plan ∨ m1.plan = []) (h2 : PlanOk m1 → m2.plan = m1.plan ∨ m2.plan = []) : m2.plan = m.plan ∨ m2.plan = [] := by
  have hq : PlanOk m1 := by
    rcases h1 with e | e
    · unfold PlanOk; rw [e]; exact hp
    · exact .inl e
  rcases h2 hq with e | e
  · rw [e]; exact h1
  · exact .inr e
theorem plan_ok {m m1 : Dk} (hp : PlanOk m) (h1 : m1.plan = m.plan ∨ m1.plan = []) : PlanOk m1 := by
  rcases h1 with e | e
  · unfold PlanOk; rw [e]; exact hp
  · exact .inl e
theorem flush_next {m : Dk} (hp : PlanOk m) (g : Lg) (upto : Int) : ((flushE m g upto).2.1.plan = m.plan ∨ (flushE m g upto).2.1.plan = []) ∧ (flushE m g upto).2.1.loose.length ≤ m.loose.length := by
  obtain ⟨h1, h2⟩ := Dk.appendLog_next hp g.tail
  have hq := plan_ok hp h1
  obtain ⟨h3, h4⟩ := Dk.syncLog_next hq
  unfold flushE
  split
  · exact ⟨.inl rfl, Nat.le_refl _⟩
  · split
    · exact ⟨.inl rfl, Nat.le_refl _⟩
    · unfold flushD
      split
      · exact ⟨h1, h2⟩
      · split
        · exact ⟨plan_then hp h1 (fun _ => h3), Nat.le_trans h4 h2⟩
        · exact ⟨plan_then hp h1 (fun _ => h3), Nat.le_trans h4 h2⟩

/-! the pool -/
structure Fr where
  p : Sh
  dirty : Nat
structure Po where
  most : Nat
  frames : List (Nat × Fr)
  picks : List Int
  reads : Int
  writes : Int
def Po.new (most : Nat) : Po := ⟨most, [], [], 0, 0⟩

/-- a page is written and synced -/
def write2 (m : Dk) (n : Nat) (s : ByteArray) : Int × Dk := if (m.write n s).1 ≠ 0 then m.write n s else (m.write n s).2.sync
def Po.wrote (q : Po) (n : Nat) (f : Fr) : Po := { q with writes := wrapI (q.writes + 1), frames := putL n { f with dirty := 0 } q.frames }
def writeF (m : Dk) (g : Lg) (q : Po) (n : Nat) (f : Fr) : Int × Dk × Lg × Po :=
  let a := flushE m g f.p.lsn
  if a.1 ≠ 0 then (a.1, a.2.1, a.2.2, q) else
  let c := write2 a.2.1 (n + 2048) f.p.encE.1
  if c.1 ≠ 0 then (c.1, c.2, a.2.2, q) else
  let d := write2 c.2 n f.p.encE.1
  if d.1 ≠ 0 then (d.1, d.2, a.2.2, q) else (0, d.2, a.2.2, q.wrote n f)
def writeQ (m : Dk) (g : Lg) (q : Po) (n : Nat) : Int × Dk × Lg × Po :=
  match getL n q.frames with
  | none => (0, m, g, q)
  | some f => if f.dirty = 0 then (0, m, g, q) else writeF m g q n f
def Po.drop (q : Po) (n : Nat) : Po := { q with frames := delL n q.frames }
/-- which frame leaves -/
def Po.at_ (q : Po) : Nat × Po :=
  match q.picks with
  | [] => (0, q)
  | x :: l => ((x % (q.frames.length : Int)).toNat, { q with picks := l })
def roomQ (m : Dk) (g : Lg) (q : Po) : Int × Dk × Lg × Po :=
  if q.frames.length < q.most then (0, m, g, q) else
  let n := ((q.frames[q.at_.1]?).map (·.1)).getD 0
  let a := writeQ m g q.at_.2 n
  if a.1 ≠ 0 then a else (0, a.2.1, a.2.2.1, a.2.2.2.drop n)
def Sh.withNum (x : Sh) (n : Nat) : Sh := { x with num := n }
def betterE (a b : Sh × Int) (n : Nat) : Sh × Int :=
  if (a.2 = 0 ∧ (a.1.num = n ∨ a.1.num = 0)) ∧ (¬ (b.2 = 0 ∧ (b.1.num = n ∨ b.1.num = 0)) ∨ (b.1.lsn ≤ a.1.lsn ∧ a.1.num ≠ 0) ∨ b.1.num = 0) then (a.1.withNum n, 0)
  else if b.2 = 0 ∧ (b.1.num = n ∨ b.1.num = 0) then (b.1.withNum n, 0) else (Sh.none, 60)
def fetchE (m : Dk) (n : Nat) : Sh × Int :=
  if (m.readE n).2 ≠ 0 then (Sh.none, (m.readE n).2) else if (m.readE (n + 2048 : Nat)).2 ≠ 0 then (Sh.none, (m.readE (n + 2048 : Nat)).2) else
  betterE (decE (m.readE n).1) (decE (m.readE (n + 2048 : Nat)).1) n
def Po.got (q : Po) (n : Nat) (x : Sh) : Po := { q with reads := wrapI (q.reads + 1), frames := putL n ⟨x, 0⟩ q.frames }
def getQ (m : Dk) (g : Lg) (q : Po) (n : Nat) : Sh × Int × Dk × Lg × Po :=
  if n < 1 ∨ 2048 < n then (Sh.none, 1, m, g, q) else
  match getL n q.frames with
  | some f => (f.p, 0, m, g, q)
  | none =>
    if (fetchE m n).2 ≠ 0 then (Sh.none, (fetchE m n).2, m, g, q) else
    let a := roomQ m g q
    if a.1 ≠ 0 then (Sh.none, a.1, a.2.1, a.2.2.1, a.2.2.2) else ((fetchE m n).1, 0, a.2.1, a.2.2.1, a.2.2.2.got n (fetchE m n).1)
def Po.put (q : Po) (x : Sh) (d : Nat) : Po := { q with frames := putL x.num ⟨x, if d = 0 then max x.lsn 1 else d⟩ q.frames }
def putQ (m : Dk) (g : Lg) (q : Po) (x : Sh) : Int × Dk × Lg × Po :=
  if x.num < 1 ∨ 2048 < x.num then (1, m, g, q) else if x.encE.2 ≠ 0 then (x.encE.2, m, g, q) else
  match getL x.num q.frames with
  | some f => (0, m, g, q.put x f.dirty)
  | none =>
    let a := roomQ m g q
    if a.1 ≠ 0 then a else (0, a.2.1, a.2.2.1, a.2.2.2.put x 0)
end Go.Proofs.YtnghgkaoopcglaaGreat
