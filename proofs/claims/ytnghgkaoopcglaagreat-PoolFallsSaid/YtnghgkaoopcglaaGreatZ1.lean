/-
  The plain law of falls: what a log has behind them.
-/
import Derived.Test.YtnghgkaoopcglaaGreatZ0
import Derived.Test.YtnghgkaoopcglaaGreatY2
namespace Go.Proofs.YtnghgkaoopcglaaGreat
open Go.RowKit

/-- a cut through frames: whole ones, and behind them no frame -/
theorem cut_frames : ∀ (l : List ByteArray) (p c : Nat), (∀ x ∈ l, 1 ≤ x.size ∧ x.size ≤ 8192) → ∃ i rest, i ≤ l.length ∧ (frames p l).extract 0 c = frames p (l.take i) ++ rest ∧ takenOk rest (endFrom p (l.take i)) = false
  | [], p, c, _ => ⟨0, ⟨#[]⟩, Nat.le_refl _, by
      rw [List.take_nil, bytes_nil]
      apply ByteArray.ext
      simp [frames], takenOk_short (by decide) _⟩
  | x :: l, p, c, h => by
    have hx := h x (List.mem_cons_self ..)
    rcases Nat.lt_or_ge c (x.size + 12) with hc | hc
    · refine ⟨0, (frames p (x :: l)).extract 0 c, Nat.zero_le _, ?_, ?_⟩
      · rw [List.take_zero]
        show _ = (⟨#[]⟩ : ByteArray) ++ _
        rw [bytes_nil']
      · have e : (frames p (x :: l)).extract 0 c = (frameB p x).extract 0 c := by
          rw [frames]
          apply ByteArray.ext
          simp only [ByteArray.data_extract, ByteArray.data_append]
          rw [Array.extract_append]
          have h1 : (frameB p x).data.size = x.size + 12 := frameB_size p x
          rw [show c - (frameB p x).data.size = 0 by omega]
          simp
        rw [e]
        have hsz : ((frameB p x).extract 0 c).size = c := by rw [ByteArray.size_extract, frameB_size]; omega
        unfold takenOk
        have hn : ¬ fits ((frameB p x).extract 0 c) := by
          unfold fits
          rw [hsz]
          rintro ⟨h4, h5, h6, h7⟩
          have e2 : numAt ((frameB p x).extract 0 c) 0 4 = x.size := by
            have e3 : frameB p x = (frameB p x).extract 0 c ++ (frameB p x).extract c (frameB p x).size := by
              apply ByteArray.ext
              simp only [ByteArray.data_append, ByteArray.data_extract]
              have h1 : (frameB p x).data.size = x.size + 12 := frameB_size p x
              have h2 : (frameB p x).size = x.size + 12 := frameB_size p x
              rw [Array.extract_append_extract, h2]
              rw [show min 0 c = 0 by omega, show max c (x.size + 12) = (frameB p x).data.size by omega]
              exact Array.extract_size.symm
            have e4 := frame_num p hx.2 ⟨#[]⟩
            rw [bytes_nil, e3, numAt_front (by rw [hsz]; exact h4)] at e4
            rw [← e4]
            have := numAt_front (a := (frameB p x).extract 0 c) (b := ⟨#[]⟩) (k := 4) (by rw [hsz]; exact h4)
            rw [bytes_nil] at this
            exact this
          omega
        rw [decide_eq_false hn]
        rfl
    · obtain ⟨i, rest, h1, h2, h3⟩ := cut_frames l (p + x.size + 12) (c - (x.size + 12)) (fun y hy => h y (List.mem_cons_of_mem _ hy))
      refine ⟨i + 1, rest, by simpa using h1, ?_, ?_⟩
      · have e : (frames p (x :: l)).extract 0 c = frameB p x ++ (frames (p + x.size + 12) l).extract 0 (c - (x.size + 12)) := by
          rw [frames]
          apply ByteArray.ext
          simp only [ByteArray.data_extract, ByteArray.data_append]
          rw [Array.extract_append]
          have h1 : (frameB p x).data.size = x.size + 12 := frameB_size p x
          rw [h1, Nat.zero_sub, show (frameB p x).data.extract 0 c = (frameB p x).data from by
            apply Array.toList_inj.1
            rw [Array.toList_extract]
            simp only [List.extract, List.drop_zero]
            exact List.take_of_length_le (by rw [Array.length_toList]; omega)]
        rw [e, h2, List.take_succ_cons, frames, ByteArray.append_assoc]
      · rw [List.take_succ_cons, endFrom]
        exact h3

def dkp (c : Int) (lg : ByteArray) (p : List Fl) : Dk := { room := 8, pages := fun _ => none, mark := 0, loose := [], log := lg, tail := ⟨#[]⟩, calls := c, plan := p, dead := false }
def falG (recs : List ByteArray) (sn : Nat) : Lg := { recs := recs, sure := sn, kept := 0, tail := frames (endFrom 1 (recs.take sn)) (recs.drop sn), marks := 0 }
theorem falG_whole (recs : List ByteArray) (sn : Nat) : frames 1 (recs.take sn) ++ (falG recs sn).tail = frames 1 recs := by
  show frames 1 (recs.take sn) ++ frames (endFrom 1 (recs.take sn)) (recs.drop sn) = _
  rw [← frames_append, List.take_append_drop]
theorem falG_size (recs : List ByteArray) (sn : Nat) : (frames 1 (recs.take sn)).size + (falG recs sn).tail.size + 1 = endFrom 1 recs := by
  have h1 := frames_size recs 1
  have h2 := congrArg ByteArray.size (falG_whole recs sn)
  rw [ByteArray.size_append] at h2
  omega
theorem falG_tight (recs : List ByteArray) (sn : Nat) : (falG recs sn).tight := by
  have := falG_size recs sn
  show (falG recs sn).tail.size + 1 ≤ endFrom 1 recs
  omega
theorem falG_add {recs : List ByteArray} {sn : Nat} (h : sn ≤ recs.length) (s : ByteArray) : (falG recs sn).add s = falG (recs ++ [s]) sn := by
  have e1 : (recs ++ [s]).take sn = recs.take sn := List.take_append_of_le_length h
  have e2 : (recs ++ [s]).drop sn = recs.drop sn ++ [s] := List.drop_append_of_le_length h
  have e3 : endFrom (endFrom 1 (recs.take sn)) (recs.drop sn) = endFrom 1 recs := by rw [← endFrom_append, List.take_append_drop]
  show (⟨recs ++ [s], sn, 0, frames (endFrom 1 (recs.take sn)) (recs.drop sn) ++ frameB (endFrom 1 recs) s, 0⟩ : Lg) = ⟨recs ++ [s], sn, 0, frames (endFrom 1 ((recs ++ [s]).take sn)) ((recs ++ [s]).drop sn), 0⟩
  rw [e1, e2, frames_snoc, e3]
theorem falG_all (recs : List ByteArray) : falG recs recs.length = { recs := recs, sure := recs.length, kept := 0, tail := ⟨#[]⟩, marks := 0 } := by
  unfold falG
  rw [List.drop_length]
  rfl

/-- the power is on -/
def Alive (f : Fl) (m : Dk) (g : Lg) (recs : List ByteArray) (sn : Nat) : Prop := ∃ c p, m = dkp c (frames 1 (recs.take sn)) p ∧ (p = [] ∨ p = [f]) ∧ g = falG recs sn ∧ sn ≤ recs.length
/-- the power is off -/
def Gone (m : Dk) (recs : List ByteArray) (sn : Nat) : Prop := ∃ c p j rest, m = { dkp c (frames 1 (recs.take j) ++ rest) p with dead := true } ∧ sn ≤ j ∧ j ≤ recs.length ∧ takenOk rest (endFrom 1 (recs.take j)) = false

theorem crash_log {m : Dk} (f : Fl) (hd : m.dead = false) (hl : m.loose = []) : m.crash f = { m with log := m.log ++ m.tail.extract 0 (cutN 0 m.tail.size f.log).toNat, loose := [], tail := ⟨#[]⟩, dead := true } := by
  unfold Dk.crash
  rw [if_neg (by rw [hd]; exact Bool.false_ne_true), hl]
  rfl
theorem strikes_either {b : Nat} {m : Dk} {f : Fl} (hf : f.ok) (hp : m.plan = [] ∨ m.plan = [f]) (hl : m.loose = []) :
    StrikesOk b m ∧ (m.strikes = (false, { m with calls := wrapI (m.calls + 1) }) ∨ m.strikes = (true, ({ m with plan := [] } : Dk).crash f)) := by
  rcases hp with hp | hp
  · exact ⟨strikes_plan hp, .inl (Dk.strikes_plan hp)⟩
  · by_cases hat : f.at_ = m.calls
    · refine ⟨strikes_hit b m f hf hp hat (by rw [hl]; exact Nat.zero_le _), .inr ?_⟩
      unfold Dk.strikes
      have e1 : findAt m.calls m.plan = some 0 := by rw [hp]; unfold findAt; rw [if_pos hat]
      rw [e1, hp]
      rfl
    · have e1 : findAt m.calls m.plan = none := by rw [hp]; unfold findAt; rw [if_neg hat]; rfl
      refine ⟨strikes_no b m e1 (by rw [hp]; exact Nat.le_of_lt (by decide : (1 : Nat) < 1000000000000)), .inl ?_⟩
      unfold Dk.strikes
      rw [e1]

theorem falG_flushed {recs : List ByteArray} {sn : Nat} (h : sn ≤ recs.length) : (falG recs sn).flushed ≤ (falG recs sn).end_ := by
  unfold Lg.flushed
  show ((places 1 recs)[sn]?).getD _ ≤ _
  rcases Nat.lt_or_ge sn recs.length with h1 | h1
  · rw [pl_get h1]
    exact pl_le_end (falG recs sn) h
  · rw [List.getElem?_eq_none (by rw [places_length]; exact h1)]
    exact Nat.le_refl _

theorem alive_flush {b : Nat} {f : Fl} {m : Dk} {g : Lg} {recs : List ByteArray} {sn : Nat} (hf : f.ok) (h : Alive f m g recs sn) (hok : ∀ x ∈ recs, 1 ≤ x.size ∧ x.size ≤ 8192) (hlen : recs.length ≤ 40) :
    StrikesOk b m ∧ StrikesOk b (m.appendLog g.tail).2 ∧
    ((∃ m' g', flushE m g (g.end_ : Int) = (0, m', g') ∧ Alive f m' g' recs recs.length) ∨ (∃ m' g', flushE m g (g.end_ : Int) = (7, m', g') ∧ Gone m' recs sn)) := by
  obtain ⟨c, p, rfl, hp, rfl, hsn⟩ := h
  have hsz := falG_size recs sn
  have hmax := endFrom_max recs 1 (fun x hx => (hok x hx).2)
  have hwh := falG_whole recs sn
  have hfl := falG_flushed hsn
  have hall := falG_all recs
  have hTL : (falG recs sn).tail = frames (endFrom 1 (recs.take sn)) (recs.drop sn) := rfl
  have hcut := fun c => cut_frames (recs.drop sn) (endFrom 1 (recs.take sn)) c (fun x hx => hok x (List.mem_of_mem_drop hx))
  rw [← hTL] at hcut
  -- what is cut off the tail, behind what is sure
  have gone : ∀ (c' : Int) (k : Nat), Gone { dkp c' (frames 1 (recs.take sn) ++ (falG recs sn).tail.extract 0 k) [] with dead := true } recs sn := fun c' k => by
    obtain ⟨i, rest, h1, h2, h3⟩ := hcut k
    rw [List.length_drop] at h1
    have e1 : recs.take (sn + i) = recs.take sn ++ (recs.drop sn).take i := List.take_add
    refine ⟨c', [], sn + i, rest, ?_, by omega, by omega, ?_⟩
    · rw [h2, e1, frames_append, ByteArray.append_assoc]
    · rw [e1, endFrom_append]
      exact h3
  have gone0 : ∀ (c' : Int), Gone { dkp c' (frames 1 (recs.take sn)) [] with dead := true } recs sn := fun c' =>
    ⟨c', [], sn, ⟨#[]⟩, by rw [bytes_nil], Nat.le_refl _, hsn, takenOk_short (by decide) _⟩
  obtain ⟨s1, s2⟩ := strikes_either (b := b) (m := dkp c (frames 1 (recs.take sn)) p) hf hp rfl
  have hA : ∀ r, (dkp c (frames 1 (recs.take sn)) p).strikes = r → (dkp c (frames 1 (recs.take sn)) p).appendLog (falG recs sn).tail = if r.1 then (7, r.2) else (0, { r.2 with tail := r.2.tail ++ (falG recs sn).tail }) := fun r hr => by
    unfold Dk.appendLog
    rw [hr, if_neg (show ¬ (dkp c (frames 1 (recs.take sn)) p).dead = true from Bool.false_ne_true), if_neg (by show ¬ ((4194304 : Int) - ((frames 1 (recs.take sn)).size : Int) - ((0 : Nat) : Int) < _); omega)]
  have hcr : ({ dkp c (frames 1 (recs.take sn)) p with plan := [] } : Dk).crash f = { dkp c (frames 1 (recs.take sn)) [] with dead := true } := by
    rw [crash_log f rfl rfl]
    have e : (⟨#[]⟩ : ByteArray).extract 0 (cutN 0 (⟨#[]⟩ : ByteArray).size f.log).toNat = ⟨#[]⟩ := by
      apply ByteArray.ext
      simp
    show ({ dkp c (frames 1 (recs.take sn) ++ (⟨#[]⟩ : ByteArray).extract 0 (cutN 0 (⟨#[]⟩ : ByteArray).size f.log).toNat) [] with dead := true } : Dk) = _
    rw [e, bytes_nil]
  have hdd : ¬ (dkp c (frames 1 (recs.take sn)) p).dead = true := Bool.false_ne_true
  rcases s2 with s2 | s2
  · have a1 := hA _ s2
    rw [if_neg (show ¬ false = true from Bool.false_ne_true)] at a1
    have a2 : (dkp c (frames 1 (recs.take sn)) p).appendLog (falG recs sn).tail = (0, { dkp (wrapI (c + 1)) (frames 1 (recs.take sn)) p with tail := (falG recs sn).tail }) := by
      rw [a1]
      show ((0 : Int), ({ dkp (wrapI (c + 1)) (frames 1 (recs.take sn)) p with tail := (⟨#[]⟩ : ByteArray) ++ (falG recs sn).tail } : Dk)) = _
      rw [bytes_nil']
    obtain ⟨t1, t2⟩ := strikes_either (b := b) (m := { dkp (wrapI (c + 1)) (frames 1 (recs.take sn)) p with tail := (falG recs sn).tail }) hf hp rfl
    refine ⟨s1, by rw [a2]; exact t1, ?_⟩
    unfold flushE
    rw [if_neg hdd]
    by_cases ht : (falG recs sn).tail = ⟨#[]⟩ ∨ ((falG recs sn).end_ : Int) < ((falG recs sn).flushed : Int)
    · rw [if_pos ht]
      rcases ht with ht | ht
      · left
        have : sn = recs.length := by
          have h1 := endFrom_length (recs.drop sn) (endFrom 1 (recs.take sn))
          have h2 := frames_size (recs.drop sn) (endFrom 1 (recs.take sn))
          rw [← hTL, ht] at h2
          have h3 : ByteArray.size ⟨#[]⟩ = 0 := rfl
          rw [List.length_drop] at h1
          omega
        subst this
        exact ⟨_, _, rfl, c, p, rfl, hp, rfl, Nat.le_refl _⟩
      · omega
    · rw [if_neg ht]
      unfold flushD
      rw [a2]
      dsimp only
      rw [if_neg (fun h => h rfl)]
      rcases t2 with t2 | t2
      · left
        have b1 : Dk.syncLog { dkp (wrapI (c + 1)) (frames 1 (recs.take sn)) p with tail := (falG recs sn).tail } = (0, dkp (wrapI (wrapI (c + 1) + 1)) (frames 1 recs) p) := by
          unfold Dk.syncLog
          rw [t2, if_neg (show ¬ ({ dkp (wrapI (c + 1)) (frames 1 (recs.take sn)) p with tail := (falG recs sn).tail } : Dk).dead = true from Bool.false_ne_true), if_neg (show ¬ false = true from Bool.false_ne_true)]
          show ((0 : Int), dkp (wrapI (wrapI (c + 1) + 1)) (frames 1 (recs.take sn) ++ (falG recs sn).tail) p) = _
          rw [hwh]
        rw [b1]
        dsimp only
        rw [if_neg (fun h => h rfl)]
        refine ⟨_, _, rfl, _, p, by rw [List.take_length], hp, ?_, Nat.le_refl _⟩
        rw [hall]
        rfl
      · right
        have b1 : Dk.syncLog { dkp (wrapI (c + 1)) (frames 1 (recs.take sn)) p with tail := (falG recs sn).tail } = (7, { dkp (wrapI (c + 1)) (frames 1 (recs.take sn) ++ (falG recs sn).tail.extract 0 (cutN 0 (falG recs sn).tail.size f.log).toNat) [] with dead := true }) := by
          unfold Dk.syncLog
          rw [t2, if_neg (show ¬ ({ dkp (wrapI (c + 1)) (frames 1 (recs.take sn)) p with tail := (falG recs sn).tail } : Dk).dead = true from Bool.false_ne_true), if_pos (show true = true from rfl), crash_log f rfl rfl]
          rfl
        rw [b1]
        dsimp only
        rw [if_pos (by decide)]
        exact ⟨_, _, rfl, gone _ _⟩
  · have a1 := hA _ s2
    rw [if_pos (show true = true from rfl), hcr] at a1
    refine ⟨s1, by rw [a1]; exact strikes_plan rfl, ?_⟩
    unfold flushE
    rw [if_neg hdd]
    by_cases ht : (falG recs sn).tail = ⟨#[]⟩ ∨ ((falG recs sn).end_ : Int) < ((falG recs sn).flushed : Int)
    · rw [if_pos ht]
      rcases ht with ht | ht
      · left
        have : sn = recs.length := by
          have h1 := endFrom_length (recs.drop sn) (endFrom 1 (recs.take sn))
          have h2 := frames_size (recs.drop sn) (endFrom 1 (recs.take sn))
          rw [← hTL, ht] at h2
          have h3 : ByteArray.size ⟨#[]⟩ = 0 := rfl
          rw [List.length_drop] at h1
          omega
        subst this
        exact ⟨_, _, rfl, c, p, rfl, hp, rfl, Nat.le_refl _⟩
      · omega
    · rw [if_neg ht]
      unfold flushD
      rw [a1]
      dsimp only
      rw [if_pos (by decide)]
      right
      exact ⟨_, _, rfl, gone0 c⟩

/-- the law's own fall, whatever stood before -/
theorem alive_crash {f f0 : Fl} {m : Dk} {g : Lg} {recs : List ByteArray} {sn : Nat} (h : Alive f m g recs sn ∨ Gone m recs sn) : Gone (m.crash f0) recs sn := by
  rcases h with ⟨c, p, rfl, _, _, hsn⟩ | h
  · rw [crash_log f0 rfl rfl]
    have e : (⟨#[]⟩ : ByteArray).extract 0 (cutN 0 (⟨#[]⟩ : ByteArray).size f0.log).toNat = ⟨#[]⟩ := by
      apply ByteArray.ext
      simp
    refine ⟨c, p, sn, ⟨#[]⟩, ?_, Nat.le_refl _, hsn, takenOk_short (by decide) _⟩
    show ({ dkp c (frames 1 (recs.take sn) ++ (⟨#[]⟩ : ByteArray).extract 0 (cutN 0 (⟨#[]⟩ : ByteArray).size f0.log).toNat) p with dead := true } : Dk) = _
    rw [e]
  · have : m.crash f0 = m := by
      obtain ⟨c, p, j, rest, rfl, _⟩ := h
      unfold Dk.crash
      exact if_pos rfl
    rw [this]
    exact h
end Go.Proofs.YtnghgkaoopcglaaGreat
