/-
  Wherever the power fails while a page is written again and again: the plain law.
-/
import Derived.Test.YtnghgkaoopcglaaGreatL6
import Derived.Test.YtnghgkaoopcglaaGreatZ1
namespace Go.Proofs.YtnghgkaoopcglaaGreat
open Go.RowKit

def R6 (k : Nat) : List ByteArray := List.replicate k rec6
theorem R6_len (k : Nat) : (R6 k).length = k := List.length_replicate
theorem R6_size {k : Nat} {s : ByteArray} (h : s ∈ R6 k) : s.size = 6 := by rw [(List.mem_replicate.1 h).2]; rfl
theorem R6_snoc (k : Nat) : R6 k ++ [rec6] = R6 (k + 1) := List.replicate_succ'.symm
theorem R6_end (k : Nat) : endFrom 1 (R6 k) = 1 + 18 * k := by rw [endFrom6 _ _ (fun s hs => R6_size hs), R6_len]
theorem R6_log (k : Nat) : (frames 1 (R6 k)).size = 18 * k := by
  have h1 := frames_size (R6 k) 1
  have h2 := R6_end k
  omega
theorem R6_take (k : Nat) : (R6 (k + 1)).take k = R6 k := by rw [← R6_snoc]; exact List.take_left' (R6_len k)
theorem R6_drop (k : Nat) : (R6 (k + 1)).drop k = [rec6] := by rw [← R6_snoc]; exact List.drop_left' (R6_len k)
/-- the tail that is flushed -/
def tail7 (k : Nat) : ByteArray := frames (1 + 18 * k) [rec6]
theorem tail7_size (k : Nat) : (tail7 k).size = 18 := by
  have h := frames_size [rec6] (1 + 18 * k)
  have e : endFrom (1 + 18 * k) [rec6] = 1 + 18 * k + 18 := by rw [endFrom6 _ _ (fun s hs => by simp at hs; rw [hs]; rfl)]; rfl
  unfold tail7
  omega
theorem falG_tail (k : Nat) : (falG (R6 (k + 1)) k).tail = tail7 k := by
  show frames (endFrom 1 ((R6 (k + 1)).take k)) ((R6 (k + 1)).drop k) = _
  rw [R6_take, R6_drop, R6_end]
  rfl
theorem log7 (k : Nat) : frames 1 (R6 k) ++ tail7 k = frames 1 (R6 (k + 1)) := by
  have := falG_whole (R6 (k + 1)) k
  rw [falG_tail, R6_take] at this
  exact this
/-- what a log has behind a fall -/
def LogOk (lg : ByteArray) : Prop := ∃ l rest, lg = frames 1 l ++ rest ∧ (∀ x ∈ l, x.size = 6) ∧ l.length ≤ 13 ∧ takenOk rest (endFrom 1 l) = false
theorem logOk_all (k : Nat) (hk : k ≤ 13) : LogOk (frames 1 (R6 k)) := ⟨R6 k, ⟨#[]⟩, by rw [bytes_nil], fun _ h => R6_size h, by rw [R6_len]; exact hk, takenOk_short (by decide) _⟩
theorem extract_nil (n : Nat) : (⟨#[]⟩ : ByteArray).extract 0 n = ⟨#[]⟩ := by apply ByteArray.ext; simp
theorem logOk_cut (k n : Nat) (hk : k < 13) : LogOk (frames 1 (R6 k) ++ (tail7 k).extract 0 n) := by
  obtain ⟨i, rest, h1, h2, h3⟩ := cut_frames [rec6] (1 + 18 * k) n (fun x hx => by simp at hx; rw [hx, rec6_size]; omega)
  refine ⟨R6 k ++ [rec6].take i, rest, ?_, fun x hx => ?_, ?_, ?_⟩
  · unfold tail7
    rw [h2, frames_append, R6_end, ByteArray.append_assoc]
  · rcases List.mem_append.1 hx with hx | hx
    · exact R6_size hx
    · have := List.mem_of_mem_take hx
      simp at this
      rw [this]; rfl
  · rw [List.length_append, R6_len]
    have : ([rec6].take i).length ≤ 1 := by rw [List.length_take]; simp; omega
    omega
  · rw [endFrom_append, R6_end]
    exact h3

/-- the power is on: so many records, all flushed; nothing is loose -/
structure Al7 (f : Fl) (m : Dk) (k : Nat) (pg : Int → Option ByteArray) : Prop where
  dead : m.dead = false
  loose : m.loose = []
  room : m.room = 8
  plan : m.plan = [] ∨ m.plan = [f]
  pages : m.pages = pg
  log : m.log = frames 1 (R6 k)
  tail : m.tail = ⟨#[]⟩
  mark : m.mark = 0
/-- the power is off -/
structure Gn7 (m : Dk) (pg : Int → Option ByteArray) : Prop where
  dead : m.dead = true
  loose : m.loose = []
  room : m.room = 8
  pages : m.pages = pg
  tail : m.tail = ⟨#[]⟩
  mark : m.mark = 0
  log : LogOk m.log
theorem strikes_val {m : Dk} {f : Fl} (hp : m.plan = [] ∨ m.plan = [f]) : m.strikes = (false, { m with calls := wrapI (m.calls + 1) }) ∨ m.strikes = (true, ({ m with plan := [] } : Dk).crash f) := by
  rcases hp with hp | hp
  · exact .inl (Dk.strikes_plan hp)
  · by_cases hat : f.at_ = m.calls
    · right
      unfold Dk.strikes
      have e1 : findAt m.calls m.plan = some 0 := by rw [hp]; unfold findAt; rw [if_pos hat]
      rw [e1, hp]
      rfl
    · left
      have e1 : findAt m.calls m.plan = none := by rw [hp]; unfold findAt; rw [if_neg hat]; rfl
      unfold Dk.strikes
      rw [e1]
theorem Gn7.of {m : Dk} {pg pg' : Int → Option ByteArray} (h : Gn7 m pg) (e : pg = pg') : Gn7 m pg' := e ▸ h
section
variable {f : Fl} {m : Dk} {g : Lg} {k : Nat} {pg : Int → Option ByteArray}
/-- a fall while nothing is loose -/
theorem crash7 {m : Dk} (f : Fl) (hd : m.dead = false) (hl : m.loose = []) (hr : m.room = 8) (hm : m.mark = 0) (hg : ∀ n, LogOk (m.log ++ m.tail.extract 0 n)) : Gn7 (m.crash f) m.pages := by
  rw [crash_log f hd hl]
  exact ⟨rfl, rfl, hr, rfl, rfl, hm, hg _⟩
theorem Al7.crash (h : Al7 f m k pg) (hk : k ≤ 13) (f0 : Fl) : Gn7 (m.crash f0) pg := by
  exact (crash7 f0 h.dead h.loose h.room h.mark (fun n => by rw [h.tail, h.log, extract_nil, bytes_nil]; exact logOk_all k hk)).of h.pages
theorem Al7.crash0 (h : Al7 f m k pg) (hk : k ≤ 13) (f0 : Fl) : Gn7 (({ m with plan := [] } : Dk).crash f0) pg := by
  have := crash7 (m := { m with plan := [] }) f0 h.dead h.loose h.room h.mark (fun n => by show LogOk (m.log ++ m.tail.extract 0 n); rw [h.tail, h.log, extract_nil, bytes_nil]; exact logOk_all k hk)
  exact this.of h.pages
theorem Gn7.crash (h : Gn7 m pg) (f0 : Fl) : m.crash f0 = m := by unfold Dk.crash; exact if_pos h.dead
theorem Al7.flush (h : Al7 f m k pg) (hk : k < 12) :
    (∃ m', flushE m (falG (R6 (k + 1)) k) ((1 + 18 * k : Nat) : Int) = (0, m', falG (R6 (k + 1)) (k + 1)) ∧ Al7 f m' (k + 1) pg) ∨ (∃ m' g', flushE m (falG (R6 (k + 1)) k) ((1 + 18 * k : Nat) : Int) = (7, m', g') ∧ Gn7 m' pg) := by
  have hfl : (falG (R6 (k + 1)) k).flushed = 1 + 18 * k := flushed6 (g := falG (R6 (k + 1)) k) (fun s hs => R6_size hs) (by show k ≤ (R6 (k + 1)).length; rw [R6_len]; omega)
  have hts := tail7_size k
  unfold flushE
  rw [if_neg (by rw [h.dead]; exact Bool.false_ne_true), falG_tail, if_neg (by
    rintro (e | e)
    · rw [e] at hts
      exact absurd hts (by decide)
    · rw [hfl] at e
      omega)]
  unfold flushD
  rw [falG_tail]
  have hA : m.appendLog (tail7 k) = if m.strikes.1 then (7, m.strikes.2) else (0, { m.strikes.2 with tail := m.strikes.2.tail ++ tail7 k }) := by
    unfold Dk.appendLog
    rw [if_neg (by rw [h.dead]; exact Bool.false_ne_true), if_neg (by rw [h.log, h.tail, R6_log, hts]; show ¬ ((4194304 : Int) - _ - ((0 : Nat) : Int) < _); omega)]
  rcases strikes_val h.plan with s1 | s1
  · rw [s1, if_neg (show ¬ false = true from Bool.false_ne_true)] at hA
    rw [hA]
    simp only [ne_eq, not_true_eq_false, if_false]
    have hB : ∀ m1 : Dk, m1.dead = false → m1.syncLog = if m1.strikes.1 then (7, m1.strikes.2) else (0, { m1.strikes.2 with log := m1.strikes.2.log ++ m1.strikes.2.tail, tail := ⟨#[]⟩ }) := fun m1 hd => by
      unfold Dk.syncLog
      rw [if_neg (by rw [hd]; exact Bool.false_ne_true)]
    have hB1 := hB ({ m with calls := wrapI (m.calls + 1), tail := m.tail ++ tail7 k }) h.dead
    rcases strikes_val (m := { m with calls := wrapI (m.calls + 1), tail := m.tail ++ tail7 k }) (f := f) h.plan with s2 | s2
    · rw [s2, if_neg (show ¬ false = true from Bool.false_ne_true)] at hB1
      rw [hB1]
      left
      simp only [not_true_eq_false, if_false]
      have e : ({ falG (R6 (k + 1)) k with tail := ⟨#[]⟩, sure := (falG (R6 (k + 1)) k).recs.length } : Lg) = falG (R6 (k + 1)) (k + 1) := by
        have := falG_all (R6 (k + 1))
        rw [R6_len] at this
        rw [this]
        show (⟨R6 (k + 1), (R6 (k + 1)).length, 0, ⟨#[]⟩, 0⟩ : Lg) = ⟨R6 (k + 1), k + 1, 0, ⟨#[]⟩, 0⟩
        rw [R6_len]
      rw [e]
      refine ⟨_, rfl, h.dead, h.loose, h.room, h.plan, h.pages, ?_, rfl, h.mark⟩
      show m.log ++ (m.tail ++ tail7 k) = _
      rw [h.log, h.tail, bytes_nil', log7]
    · rw [s2, if_pos (show true = true from rfl)] at hB1
      rw [hB1]
      right
      refine ⟨_, _, by simp only [show ¬ ((7 : Int) = 0) by decide, not_false_eq_true, if_true]; rfl, ?_⟩
      have := crash7 (m := { m with calls := wrapI (m.calls + 1), tail := m.tail ++ tail7 k, plan := [] }) f h.dead h.loose h.room h.mark (fun n => by
        show LogOk (m.log ++ (m.tail ++ tail7 k).extract 0 n)
        rw [h.log, h.tail, bytes_nil']
        exact logOk_cut k n (by omega))
      exact this.of h.pages
  · rw [s1, if_pos (show true = true from rfl)] at hA
    rw [hA]
    right
    refine ⟨_, _, by simp only [ne_eq, show ¬ ((7 : Int) = 0) by decide, not_false_eq_true, if_true]; rfl, h.crash0 (by omega) f⟩

theorem mixB_app {a b : ByteArray} {j : Nat} (hj : j ≤ 512) (ha : a.size = 512) (_hb : b.size = 512) : b.extract 0 j ++ a.extract j a.size = mixB j a b := by
  apply ba_ext
  have h1 : (b.extract 0 j).data.toList = b.data.toList.take j := by
    have := ext_list b 0 j
    rw [Nat.zero_add] at this
    rw [this, List.drop_zero]
  have h2 : (a.extract j a.size).data.toList = a.data.toList.drop j := by
    have := ext_list a j (512 - j)
    rw [show j + (512 - j) = a.size by omega] at this
    rw [this, List.take_of_length_le]
    rw [List.length_drop, ← ba_size]
    omega
  rw [ba_app, h1, h2]
  simp [mixB, mixL]
theorem mixB_none (a b : ByteArray) : mixB 0 a b = a := by apply ba_ext; simp [mixB, mixL]
theorem mixB_all {a b : ByteArray} (ha : a.size = 512) (hb : b.size = 512) : mixB 512 a b = b := by
  rw [← mixB_app (Nat.le_refl _) ha hb]
  apply ByteArray.ext
  rw [ha]
  simp [ByteArray.data_extract]
  right
  omega
theorem strike_one (f : Fl) (m : Dk) (n : Int) (hn : n ≠ 0) (s : ByteArray) : (m.strike f 0 ⟨n, s, 0⟩).mark = m.mark ∧ ((m.strike f 0 ⟨n, s, 0⟩).pages = m.pages ∨ (m.strike f 0 ⟨n, s, 0⟩).pages = putAt m.pages n s ∨ (m.strike f 0 ⟨n, s, 0⟩).pages = putAt m.pages n (s.extract 0 (cutN 0 512 f.bytes).toNat ++ (m.sure n).extract (cutN 0 512 f.bytes).toNat (m.sure n).size)) := by
  unfold Dk.strike
  split
  · exact ⟨rfl, .inr (.inr rfl)⟩
  · split
    · unfold Dk.land
      rw [if_neg (show ¬ (⟨n, s, 0⟩ : Wr).page = 0 from hn)]
      exact ⟨rfl, .inr (.inl rfl)⟩
    · exact ⟨rfl, .inl rfl⟩
/-- a page is written and synced, or the power fails in between -/
theorem Al7.write2 (h : Al7 f m k pg) (hk : k ≤ 13) (n : Nat) (hn : n = 2 ∨ n = 2050) {s : ByteArray} (hs : s.size = 512) (hz : ((pg (n : Int)).getD blank).size = 512) :
    (∃ m', Go.Proofs.YtnghgkaoopcglaaGreat.write2 m n s = (0, m') ∧ Al7 f m' k (putAt pg (n : Int) s)) ∨ (∃ m' pg', Go.Proofs.YtnghgkaoopcglaaGreat.write2 m n s = (7, m') ∧ Gn7 m' pg' ∧ (∀ p, p ≠ (n : Int) → pg' p = pg p) ∧ ∃ j, j ≤ 512 ∧ (pg' (n : Int)).getD blank = mixB j ((pg (n : Int)).getD blank) s) := by
  have hmay : m.may (n : Int) = 0 := by
    unfold Dk.may
    rw [if_neg (by omega), h.room, if_neg (by omega)]
  have hW : m.write (n : Int) s = if m.strikes.1 then (7, m.strikes.2) else (0, { m.strikes.2 with loose := m.strikes.2.loose ++ [⟨(n : Int), s, 0⟩] }) := by
    unfold Dk.write
    rw [if_neg (by rw [h.dead]; exact Bool.false_ne_true), if_neg (by omega), if_neg (by omega)]
  unfold Go.Proofs.YtnghgkaoopcglaaGreat.write2
  rcases strikes_val h.plan with s1 | s1
  · rw [s1, if_neg (show ¬ false = true from Bool.false_ne_true)] at hW
    rw [hW]
    simp only [ne_eq, not_true_eq_false, if_false]
    rw [h.loose, List.nil_append]
    have hB : ∀ m1 : Dk, m1.dead = false → m1.sync = if m1.strikes.1 then (7, m1.strikes.2) else (0, { m1.strikes.2.lands m1.strikes.2.loose with loose := [] }) := fun m1 hd => by
      unfold Dk.sync
      rw [if_neg (by rw [hd]; exact Bool.false_ne_true)]
    have hB1 := hB ({ m with calls := wrapI (m.calls + 1), loose := [⟨(n : Int), s, 0⟩] }) h.dead
    rcases strikes_val (m := { m with calls := wrapI (m.calls + 1), loose := [⟨(n : Int), s, 0⟩] }) (f := f) h.plan with s2 | s2
    · rw [s2, if_neg (show ¬ false = true from Bool.false_ne_true)] at hB1
      rw [hB1]
      left
      refine ⟨_, rfl, ?_⟩
      have hl : ∀ c : Int, ({ m with calls := c, loose := [⟨(n : Int), s, 0⟩] } : Dk).lands [⟨(n : Int), s, 0⟩] = { m with calls := c, loose := [⟨(n : Int), s, 0⟩], pages := putAt m.pages (n : Int) s } := fun c => by
        show Dk.land _ _ = _
        unfold Dk.land
        rw [if_neg (by show ¬ ((n : Int) = 0); omega)]
      simp only [hl]
      exact ⟨h.dead, rfl, h.room, h.plan, by show putAt m.pages _ _ = _; rw [h.pages], h.log, h.tail, h.mark⟩
    · rw [s2, if_pos (show true = true from rfl)] at hB1
      rw [hB1]
      right
      unfold Dk.crash
      rw [if_neg (by show ¬ m.dead = true; rw [h.dead]; exact Bool.false_ne_true)]
      show ∃ m' pg', (7, (Dk.strikesFrom f _ 0 [⟨(n : Int), s, 0⟩]).fell f) = (7, m') ∧ _
      obtain ⟨a1, a2, a3, a4, a5, a6, a7⟩ := Dk.strikesFrom_loose f [⟨(n : Int), s, 0⟩] ({ m with calls := wrapI (m.calls + 1), loose := [⟨(n : Int), s, 0⟩], plan := [] } : Dk) 0
      obtain ⟨b1, b2⟩ := strike_one f ({ m with calls := wrapI (m.calls + 1), loose := [⟨(n : Int), s, 0⟩], plan := [] } : Dk) (n : Int) (by omega) s
      refine ⟨_, _, rfl, ⟨rfl, rfl, a4.trans h.room, rfl, rfl, b1.trans h.mark, ?_⟩, ?_⟩
      · show LogOk ((Dk.strikesFrom f _ 0 [⟨(n : Int), s, 0⟩]).log ++ (Dk.strikesFrom f _ 0 [⟨(n : Int), s, 0⟩]).tail.extract 0 _)
        rw [a2, a3]
        show LogOk (m.log ++ m.tail.extract 0 _)
        rw [h.log, h.tail, extract_nil, bytes_nil]
        exact logOk_all k hk
      · show (∀ p, p ≠ (n : Int) → (Dk.strike f _ 0 ⟨(n : Int), s, 0⟩).pages p = pg p) ∧ ∃ j, j ≤ 512 ∧ ((Dk.strike f _ 0 ⟨(n : Int), s, 0⟩).pages (n : Int)).getD blank = _
        have hput : ∀ z : ByteArray, (∀ p, p ≠ (n : Int) → putAt m.pages (n : Int) z p = pg p) ∧ (putAt m.pages (n : Int) z (n : Int)).getD blank = z := fun z => by
          rw [h.pages]
          unfold putAt
          exact ⟨fun p hp => if_neg hp, by rw [if_pos rfl]; rfl⟩
        have hb : 0 ≤ cutN 0 512 f.bytes ∧ cutN 0 512 f.bytes ≤ 512 := cutN_bd (by omega)
        have hsu : Dk.sure ({ m with calls := wrapI (m.calls + 1), loose := [⟨(n : Int), s, 0⟩], plan := [] } : Dk) (n : Int) = (pg (n : Int)).getD blank := by
          show (m.pages (n : Int)).getD blank = _
          rw [h.pages]
        rcases b2 with e | e | e
        · rw [e]
          refine ⟨fun p _ => by show m.pages p = _; rw [h.pages], 0, Nat.zero_le _, ?_⟩
          show (m.pages (n : Int)).getD blank = _
          rw [h.pages, mixB_none]
        · rw [e]
          exact ⟨(hput _).1, 512, Nat.le_refl _, (hput _).2.trans (mixB_all hz hs).symm⟩
        · rw [e]
          refine ⟨(hput _).1, (cutN 0 512 f.bytes).toNat, by omega, ?_⟩
          refine (hput _).2.trans ?_
          rw [hsu]
          exact mixB_app (by omega) hz hs
  · rw [s1, if_pos (show true = true from rfl)] at hW
    rw [hW]
    right
    simp only [ne_eq, show ¬ ((7 : Int) = 0) by decide, not_false_eq_true, if_true]
    exact ⟨_, pg, rfl, h.crash0 hk f, fun _ _ => rfl, 0, Nat.zero_le _, (mixB_none _ _).symm⟩
end
/-! what is read behind it -/
def y7 (k : Nat) (s : ByteArray) : Sh := ⟨2, 1 + 18 * k, 2, ⟨#[]⟩, [s]⟩
theorem y7_fit {k : Nat} {s : ByteArray} (hk : k ≤ 13) (hs : s.size ≤ 300) : (y7 k s).fit :=
  ⟨⟨by show (0 : Int) ≤ 2; decide, by show (2 : Int) ≤ 255; decide, by show (0 : Nat) ≤ 32; decide, by show (1 : Nat) ≤ 64; decide⟩, by show (0 : Int) ≤ 485 - 0 - ((s.size + 2 + 0 : Nat) : Int); omega, by show 2 < _; omega, by show 1 + 18 * k < _; omega⟩
/-- a page as it was put last -/
def vB : Option (Nat × ByteArray) → ByteArray
  | none => blank
  | some v => (y7 v.1 v.2).enc
def vS : Option (Nat × ByteArray) → Sh
  | none => Sh.none
  | some v => y7 v.1 v.2
def vT : Option (Nat × ByteArray) → ByteArray
  | none => ⟨#[]⟩
  | some v => v.2
def vOk (k : Nat) (v : Option (Nat × ByteArray)) : Prop := ∀ x, v = some x → x.1 < k ∧ x.2.size ≤ 300
theorem dec_blank : decE blank = (Sh.none, 0) := by
  have hz : blank.size = 512 := blank_size
  unfold decE
  rw [if_neg (by omega), if_neg (by omega), if_pos blank_zero]
section
variable {k : Nat} {v : Option (Nat × ByteArray)} {s : ByteArray}
theorem vB_size (hk : k ≤ 13) (hv : vOk k v) : (vB v).size = 512 := by
  cases v with
  | none => exact blank_size
  | some x => exact (y7_fit (by have := (hv x rfl).1; omega) (hv x rfl).2).size
theorem vB_dec (hk : k ≤ 13) (hv : vOk k v) : decE (vB v) = (vS v, 0) := by
  cases v with
  | none => exact dec_blank
  | some x =>
    have hf := y7_fit (k := x.1) (by have := (hv x rfl).1; omega) (hv x rfl).2
    exact hf.dec (hf.nonzero (by show 1 ≤ 1 + 18 * x.1; omega))
theorem mix_dec (hk : k ≤ 12) (hv : vOk k v) (hs : s.size ≤ 300) {j : Nat} (hj : j ≤ 512) :
    (decE (mixB j (vB v) (y7 k s).enc)).2 ≠ 0 ∨ decE (mixB j (vB v) (y7 k s).enc) = (y7 k s, 0) ∨ decE (mixB j (vB v) (y7 k s).enc) = (vS v, 0) := by
  have hf := y7_fit (k := k) (by omega) hs
  by_cases h0 : (decE (mixB j (vB v) (y7 k s).enc)).2 = 0
  · right
    have he : decE (mixB j (vB v) (y7 k s).enc) = ((decE (mixB j (vB v) (y7 k s).enc)).1, 0) := by rw [← h0]
    have ha : vB v = zerosB 512 ∨ ∃ x : Sh, x.fit ∧ 1 ≤ x.lsn ∧ x.lsn ≠ (y7 k s).lsn ∧ vB v = x.enc := by
      cases v with
      | none => exact .inl rfl
      | some x =>
        have hx := hv x rfl
        exact .inr ⟨_, y7_fit (by omega) hx.2, by show 1 ≤ 1 + 18 * x.1; omega, by show 1 + 18 * x.1 ≠ 1 + 18 * k; omega, rfl⟩
    rcases torn_read hj hf (by show 1 ≤ 1 + 18 * k; omega) rfl ha he with e | ⟨e1, e2⟩ | e
    · left; rw [he, e]
    · right
      rw [he, e2]
      cases v with
      | none => rfl
      | some x =>
        exfalso
        have hf2 := y7_fit (k := x.1) (by have := (hv x rfl).1; omega) (hv x rfl).2
        have h1 := hf2.nonzero (by show 1 ≤ 1 + 18 * x.1; omega)
        rw [show (y7 x.1 x.2).enc = zerosB 512 from e1] at h1
        exact absurd blank_zero (by rw [show blank = zerosB 512 from rfl, h1]; exact Bool.false_ne_true)
    · right
      rw [vB_dec (by omega) hv] at e
      rw [he, (Prod.mk.inj e).1]
  · exact .inl h0
end
/-- what is fetched is the one or the other -/
def got7 (pg : Int → Option ByteArray) : Sh × Int := betterE (decE ((pg 2).getD blank)) (decE ((pg 2050).getD blank)) 2
def Good7 (pg : Int → Option ByteArray) (last next : ByteArray) : Prop := ∃ x, got7 pg = (x, 0) ∧ (x.slots = [] ∧ last = ⟨#[]⟩ ∨ x.slots = [last] ∨ x.slots = [next])
theorem ok_vS (v : Option (Nat × ByteArray)) : (vS v).num = 2 ∨ (vS v).num = 0 := by
  cases v with
  | none => exact .inr rfl
  | some x => exact .inl rfl
theorem slots_vS (v : Option (Nat × ByteArray)) (n : Nat) (next : ByteArray) : ((vS v).withNum n).slots = [] ∧ vT v = ⟨#[]⟩ ∨ ((vS v).withNum n).slots = [vT v] ∨ ((vS v).withNum n).slots = [next] := by
  cases v with
  | none => exact .inl ⟨rfl, rfl⟩
  | some x => exact .inr (.inl rfl)
section
variable {k : Nat} {v : Option (Nat × ByteArray)} {s : ByteArray} {pg : Int → Option ByteArray}
theorem good_same (hk : k ≤ 13) (hv : vOk k v) (h1 : (pg 2).getD blank = vB v) (h2 : (pg 2050).getD blank = vB v) (next : ByteArray) : Good7 pg (vT v) next := by
  unfold Good7 got7
  rw [h1, h2, vB_dec hk hv]
  refine ⟨_, ?_, slots_vS v 2 next⟩
  unfold betterE
  rw [if_pos]
  refine ⟨⟨rfl, ok_vS v⟩, ?_⟩
  rcases ok_vS v with h | h
  · exact .inr (.inl ⟨Nat.le_refl _, by show (vS v).num ≠ 0; omega⟩)
  · exact .inr (.inr h)
theorem good_twin (hk : k ≤ 12) (hv : vOk k v) (hs : s.size ≤ 300) {j : Nat} (hj : j ≤ 512) (h1 : (pg 2).getD blank = vB v) (h2 : (pg 2050).getD blank = mixB j (vB v) (y7 k s).enc) : Good7 pg (vT v) s := by
  have hm := mix_dec hk hv hs hj
  unfold Good7 got7
  rw [h1, h2, vB_dec (by omega) hv]
  generalize decE (mixB j (vB v) (y7 k s).enc) = r at hm
  rcases hm with e | e | e
  · refine ⟨_, ?_, slots_vS v 2 s⟩
    unfold betterE
    rw [if_pos ⟨⟨rfl, ok_vS v⟩, .inl (fun h => e h.1)⟩]
  · subst e
    refine ⟨(y7 k s).withNum 2, ?_, .inr (.inr rfl)⟩
    unfold betterE
    rw [if_neg, if_pos ⟨rfl, .inl rfl⟩]
    rintro ⟨_, h | ⟨h, h'⟩ | h⟩
    · exact h ⟨rfl, .inl rfl⟩
    · cases v with
      | none => exact h' rfl
      | some x =>
        have := (hv x rfl).1
        have h0 : 1 + 18 * k ≤ 1 + 18 * x.1 := h
        omega
    · exact absurd (show (2 : Nat) = 0 from h) (by decide)
  · subst e
    refine ⟨_, ?_, slots_vS v 2 s⟩
    unfold betterE
    rw [if_pos]
    refine ⟨⟨rfl, ok_vS v⟩, ?_⟩
    rcases ok_vS v with h | h
    · exact .inr (.inl ⟨Nat.le_refl _, by show (vS v).num ≠ 0; omega⟩)
    · exact .inr (.inr h)
theorem good_place (hk : k ≤ 12) (hv : vOk k v) (hs : s.size ≤ 300) {j : Nat} (hj : j ≤ 512) (h1 : (pg 2).getD blank = mixB j (vB v) (y7 k s).enc) (h2 : (pg 2050).getD blank = (y7 k s).enc) (last : ByteArray) : Good7 pg last s := by
  have hm := mix_dec hk hv hs hj
  have hf := y7_fit (k := k) (by omega) hs
  unfold Good7 got7
  rw [h1, h2, hf.dec (hf.nonzero (by show 1 ≤ 1 + 18 * k; omega))]
  generalize decE (mixB j (vB v) (y7 k s).enc) = r at hm
  rcases hm with e | e | e
  · refine ⟨(y7 k s).withNum 2, ?_, .inr (.inr rfl)⟩
    unfold betterE
    rw [if_neg (fun h => e h.1.1), if_pos ⟨rfl, .inl rfl⟩]
  · subst e
    refine ⟨(y7 k s).withNum 2, ?_, .inr (.inr rfl)⟩
    unfold betterE
    rw [if_pos ⟨⟨rfl, .inl rfl⟩, .inr (.inl ⟨Nat.le_refl _, by show (2 : Nat) ≠ 0; decide⟩)⟩]
  · subst e
    refine ⟨(y7 k s).withNum 2, ?_, .inr (.inr rfl)⟩
    unfold betterE
    rw [if_neg, if_pos ⟨rfl, .inl rfl⟩]
    rintro ⟨_, h | ⟨h, h'⟩ | h⟩
    · exact h ⟨rfl, .inl rfl⟩
    · cases v with
      | none => exact h' rfl
      | some x =>
        have := (hv x rfl).1
        have h0 : 1 + 18 * k ≤ 1 + 18 * x.1 := h
        omega
    · exact absurd (show (2 : Nat) = 0 from h) (by decide)
end
/-! the round -/
structure Two7 (pg : Int → Option ByteArray) (v : Option (Nat × ByteArray)) : Prop where
  place : (pg 2).getD blank = vB v
  twin : (pg 2050).getD blank = vB v
theorem round7 {f : Fl} {m : Dk} {q : Po} {k : Nat} {pg : Int → Option ByteArray} {v : Option (Nat × ByteArray)} {s : ByteArray} (h : Al7 f m k pg) (hk : k < 12) (hv : vOk k v) (hp : Two7 pg v) (hs : s.size ≤ 300) (d : Nat) :
    (∃ m' pg', writeF m (falG (R6 (k + 1)) k) q 2 ⟨y7 k s, d⟩ = (0, m', falG (R6 (k + 1)) (k + 1), q.wrote 2 ⟨y7 k s, d⟩) ∧ Al7 f m' (k + 1) pg' ∧ Two7 pg' (some (k, s))) ∨
    (∃ m' g' pg', writeF m (falG (R6 (k + 1)) k) q 2 ⟨y7 k s, d⟩ = (7, m', g', q) ∧ Gn7 m' pg' ∧ Good7 pg' (vT v) s) := by
  have hf := y7_fit (k := k) (by omega) hs
  have hvz := vB_size (by omega) hv
  unfold writeF
  simp only [hf.encE]
  rcases h.flush hk with ⟨m1, e1, i1⟩ | ⟨m1, g1, e1, i1⟩
  · have e1' : flushE m (falG (R6 (k + 1)) k) ((y7 k s).lsn : Int) = (0, m1, falG (R6 (k + 1)) (k + 1)) := e1
    rw [e1']
    simp only [ne_eq, not_true_eq_false, if_false]
    rcases i1.write2 (by omega) 2050 (.inr rfl) hf.size (by show ((pg 2050).getD blank).size = 512; rw [hp.twin, hvz]) with ⟨m2, e2, i2⟩ | ⟨m2, pg2, e2, i2, k2, j2, hj2, t2⟩
    · have e2' : Go.Proofs.YtnghgkaoopcglaaGreat.write2 m1 (2 + 2048) (y7 k s).enc = (0, m2) := e2
      rw [e2']
      simp only [not_true_eq_false, if_false]
      have hpl : ((putAt pg ((2050 : Nat) : Int) (y7 k s).enc) 2).getD blank = vB v := by
        unfold putAt
        rw [if_neg (by decide)]
        exact hp.place
      have htw : (putAt pg ((2050 : Nat) : Int) (y7 k s).enc) 2050 = some (y7 k s).enc := by
        unfold putAt
        rw [if_pos (by decide)]
      rcases i2.write2 (by omega) 2 (.inl rfl) hf.size (by show ((putAt pg ((2050 : Nat) : Int) (y7 k s).enc 2).getD blank).size = 512; rw [hpl, hvz]) with ⟨m3, e3, i3⟩ | ⟨m3, pg3, e3, i3, k3, j3, hj3, t3⟩
      · left
        rw [e3]
        simp only [not_true_eq_false, if_false]
        refine ⟨m3, _, rfl, i3, ⟨?_, ?_⟩⟩
        · show (putAt (putAt pg ((2050 : Nat) : Int) (y7 k s).enc) ((2 : Nat) : Int) (y7 k s).enc 2).getD blank = _
          conv => lhs; arg 1; unfold putAt
          rw [if_pos (by decide)]
          rfl
        · show (putAt (putAt pg ((2050 : Nat) : Int) (y7 k s).enc) ((2 : Nat) : Int) (y7 k s).enc 2050).getD blank = _
          conv => lhs; arg 1; unfold putAt
          rw [if_neg (by decide), if_pos (by decide)]
          rfl
      · right
        rw [e3]
        simp only [show ¬ ((7 : Int) = 0) by decide, not_false_eq_true, if_true]
        refine ⟨m3, _, pg3, rfl, i3, good_place (by omega) hv hs hj3 (t3.trans (by rw [show ((2 : Nat) : Int) = 2 from rfl, hpl])) ?_ _⟩
        rw [k3 2050 (by decide), htw]
        rfl
    · right
      have e2' : Go.Proofs.YtnghgkaoopcglaaGreat.write2 m1 (2 + 2048) (y7 k s).enc = (7, m2) := e2
      rw [e2']
      simp only [show ¬ ((7 : Int) = 0) by decide, not_false_eq_true, if_true]
      refine ⟨m2, _, pg2, rfl, i2, good_twin (by omega) hv hs hj2 ((congrArg (·.getD blank) (k2 2 (by decide))).trans hp.place) (t2.trans (by rw [show ((2050 : Nat) : Int) = 2050 from rfl, hp.twin]))⟩
  · right
    have e1' : flushE m (falG (R6 (k + 1)) k) ((y7 k s).lsn : Int) = (7, m1, g1) := e1
    rw [e1']
    simp only [ne_eq, show ¬ ((7 : Int) = 0) by decide, not_false_eq_true, if_true]
    exact ⟨m1, _, pg, rfl, i1, good_same (by omega) hv hp.place hp.twin _⟩
end Go.Proofs.YtnghgkaoopcglaaGreat
