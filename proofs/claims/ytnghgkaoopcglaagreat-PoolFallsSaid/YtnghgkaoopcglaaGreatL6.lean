/-
  No page is written ahead of the log: the plain law.
-/
import Derived.Test.YtnghgkaoopcglaaGreatK2
import Derived.Test.YtnghgkaoopcglaaGreatP1
namespace Go.Proofs.YtnghgkaoopcglaaGreat
open Go.RowKit

def rec6 : ByteArray := ⟨#[114, 101, 99, 111, 114, 100]⟩
theorem rec6_size : rec6.size = 6 := rfl
theorem write2_2' {m m' m2 : Dk} {n : Nat} {s : ByteArray} {c : Int} (h : m.write n s = (0, m')) (h2 : m'.sync = (c, m2)) : Go.Proofs.YtnghgkaoopcglaaGreat.write2 m n s = (c, m2) := by
  unfold Go.Proofs.YtnghgkaoopcglaaGreat.write2
  rw [h, if_neg (fun h => h rfl)]
  exact h2
structure RInv (m : Dk) (g : Lg) (q : Po) : Prop where
  dead : m.dead = false
  plan : m.plan = []
  loose : m.loose = []
  room : m.room = 64
  recs : ∀ s ∈ g.recs, s.size = 6
  count : g.recs.length ≤ 60
  kept : g.kept = 0
  sure : g.sure ≤ g.recs.length
  tail : g.tail.size = 18 * (g.recs.length - g.sure)
  logs : m.log.size + m.tail.size + g.tail.size ≤ 18 * g.recs.length
  pages : ∀ p : Int, m.pages p = none ∨ ∃ x : Sh, x.fit ∧ 1 ≤ x.lsn ∧ x.lsn < g.flushed ∧ m.pages p = some x.enc
  keys : ∀ p ∈ q.frames, 1 ≤ p.1 ∧ p.1 ≤ 20
  dirty : ∀ p ∈ q.frames, p.2.dirty ≠ 0 → p.2.p.fit ∧ 1 ≤ p.2.p.lsn ∧ p.2.p.lsn < g.end_
  rising : RisingL q.frames
  picks : q.picks = []
  most : q.most = 4
  len : q.frames.length ≤ 4
theorem endFrom6 : ∀ (l : List ByteArray) (p : Nat), (∀ s ∈ l, s.size = 6) → endFrom p l = p + 18 * l.length
  | [], _, _ => rfl
  | s :: l, p, h => by
    rw [endFrom, endFrom6 l _ (fun x hx => h x (List.mem_cons_of_mem _ hx)), h s (List.mem_cons_self ..), List.length_cons]
    omega
theorem places6 : ∀ (l : List ByteArray) (p i : Nat), (∀ s ∈ l, s.size = 6) → i < l.length → (places p l)[i]? = some (p + 18 * i)
  | [], _, _, _, h => by simp at h
  | s :: l, p, 0, _, _ => by simp [places]
  | s :: l, p, i + 1, h, hi => by
    rw [places, List.getElem?_cons_succ, places6 l _ i (fun x hx => h x (List.mem_cons_of_mem _ hx)) (by simpa using hi), h s (List.mem_cons_self ..)]
    congr 1
    omega
section
variable {m : Dk} {g : Lg} {q : Po}
theorem RInv.end_ (h : RInv m g q) : g.end_ = 1 + 18 * g.recs.length := endFrom6 _ _ h.recs
theorem flushed6 {g : Lg} (hr : ∀ s ∈ g.recs, s.size = 6) (hs : g.sure ≤ g.recs.length) : g.flushed = 1 + 18 * g.sure := by
  unfold Lg.flushed
  by_cases h : g.sure < g.recs.length
  · rw [places6 _ _ _ hr h]; rfl
  · have e : g.sure = g.recs.length := by omega
    rw [List.getElem?_eq_none (by rw [places_length]; omega)]
    show endFrom 1 g.recs = _
    rw [endFrom6 _ _ hr, e]
theorem RInv.flushed (h : RInv m g q) : g.flushed = 1 + 18 * g.sure := flushed6 h.recs h.sure
theorem RInv.flush (h : RInv m g q) (lsn : Nat) (hl : lsn < g.end_) : ∃ m' g', flushE m g (lsn : Int) = (0, m', g') ∧ RInv m' g' q ∧ lsn < g'.flushed := by
  unfold flushE
  rw [h.dead, if_neg Bool.false_ne_true]
  by_cases hc : g.tail = ⟨#[]⟩ ∨ (lsn : Int) < (g.flushed : Int)
  · rw [if_pos hc]
    refine ⟨m, g, rfl, h, ?_⟩
    rcases hc with hc | hc
    · have h1 := h.tail
      rw [hc] at h1
      have h2 : (0 : Nat) = 18 * (g.recs.length - g.sure) := h1
      have h3 := h.sure
      rw [h.flushed]
      rw [h.end_] at hl
      omega
    · omega
  · rw [if_neg hc]
    unfold flushD
    have h1 := h.logs
    have h2 := h.count
    have e1 := appendLog_plan (m := m) (s := g.tail) h.dead h.plan (by omega)
    rw [e1]
    have e2 := Dk.syncLog_plan (m := { m with calls := wrapI (m.calls + 1), tail := m.tail ++ g.tail }) h.dead h.plan
    simp only at e2
    simp only [e2, ne_eq, not_true_eq_false, if_false]
    have hsz : (m.log ++ (m.tail ++ g.tail)).size = m.log.size + (m.tail.size + g.tail.size) := by rw [ByteArray.size_append, ByteArray.size_append]
    have hfl : ({ g with tail := ⟨#[]⟩, sure := g.recs.length } : Lg).flushed = 1 + 18 * g.recs.length := flushed6 (g := { g with tail := ⟨#[]⟩, sure := g.recs.length }) h.recs (Nat.le_refl _)
    refine ⟨_, _, rfl, ⟨h.dead, h.plan, h.loose, h.room, h.recs, h.count, h.kept, Nat.le_refl _, ?_, ?_, fun p => ?_, h.keys, h.dirty, h.rising, h.picks, h.most, h.len⟩, ?_⟩
    · show (0 : Nat) = 18 * (g.recs.length - g.recs.length)
      omega
    · show (m.log ++ (m.tail ++ g.tail)).size + 0 + 0 ≤ 18 * g.recs.length
      omega
    · rcases h.pages p with hp | ⟨x, x1, x2, x3, x4⟩
      · exact .inl hp
      · refine .inr ⟨x, x1, x2, ?_, x4⟩
        rw [h.flushed] at x3
        rw [hfl]
        have := h.sure
        omega
    · rw [hfl]
      rw [h.end_] at hl
      exact hl
theorem RInv.write2 (h : RInv m g q) {x : Sh} (hx : x.fit) (h1 : 1 ≤ x.lsn) (h2 : x.lsn < g.flushed) (p : Nat) (hp : 1 ≤ p ∧ p ≤ 20 ∨ 2049 ≤ p ∧ p ≤ 2068) : ∃ m', Go.Proofs.YtnghgkaoopcglaaGreat.write2 m p x.enc = (0, m') ∧ RInv m' g q := by
  have hmay : m.may (p : Int) = 0 := by
    unfold Dk.may
    rw [if_neg (by omega), h.room, if_neg (by omega)]
  have hfa : findAt m.calls m.plan = none := by rw [h.plan]; rfl
  have e1 := Dk.write_ok h.dead hx.size hmay hfa
  have e2 := Dk.sync_ok (m := { m with calls := wrapI (m.calls + 1), loose := m.loose ++ [⟨(p : Int), x.enc, 0⟩] }) h.dead (by show findAt _ m.plan = none; rw [h.plan]; rfl)
  refine ⟨_, write2_2' e1 e2, ?_⟩
  have hl : ({ m with calls := wrapI (m.calls + 1), loose := m.loose ++ [⟨(p : Int), x.enc, 0⟩] } : Dk).loose = [⟨(p : Int), x.enc, 0⟩] := by show m.loose ++ _ = _; rw [h.loose]; rfl
  have hd := Dk.lands_loose ({ m with calls := wrapI (m.calls + 1), loose := m.loose ++ [⟨(p : Int), x.enc, 0⟩] } : Dk).loose { ({ m with calls := wrapI (m.calls + 1), loose := m.loose ++ [⟨(p : Int), x.enc, 0⟩] } : Dk) with calls := wrapI (wrapI (m.calls + 1) + 1) }
  obtain ⟨a1, a2, a3, a4, a5, a6, a7⟩ := hd
  have hpg : (({ ({ m with calls := wrapI (m.calls + 1), loose := m.loose ++ [⟨(p : Int), x.enc, 0⟩] } : Dk) with calls := wrapI (wrapI (m.calls + 1) + 1) } : Dk).lands ({ m with calls := wrapI (m.calls + 1), loose := m.loose ++ [⟨(p : Int), x.enc, 0⟩] } : Dk).loose).pages = putAt m.pages (p : Int) x.enc := by
    rw [hl]
    show (Dk.land _ _).pages = _
    unfold Dk.land
    rw [if_neg (by show ¬ ((p : Int) = 0); omega)]
  refine ⟨a7.trans h.dead, a6.trans h.plan, rfl, a4.trans h.room, h.recs, h.count, h.kept, h.sure, h.tail, ?_, fun k => ?_, h.keys, h.dirty, h.rising, h.picks, h.most, h.len⟩
  · have := h.logs
    show (Dk.lands _ _).log.size + (Dk.lands _ _).tail.size + _ ≤ _
    rw [a2, a3]
    exact this
  · show (Dk.lands _ _).pages k = none ∨ _
    rw [show (({ m with calls := wrapI (m.calls + 1), loose := m.loose ++ [⟨(p : Int), x.enc, 0⟩], plan := m.plan } : Dk)) = { m with calls := wrapI (m.calls + 1), loose := m.loose ++ [⟨(p : Int), x.enc, 0⟩] } from rfl] at *
    rw [hpg]
    unfold putAt
    split
    · exact .inr ⟨x, hx, h1, h2, rfl⟩
    · exact h.pages k
theorem RInv.mapF (h : RInv m g q) {fs : List (Nat × Fr)} {rd wr : Int} (hk : ∀ p ∈ fs, 1 ≤ p.1 ∧ p.1 ≤ 20) (hd : ∀ p ∈ fs, p.2.dirty ≠ 0 → p.2.p.fit ∧ 1 ≤ p.2.p.lsn ∧ p.2.p.lsn < g.end_) (hr : RisingL fs) (hl : fs.length ≤ 4) : RInv m g { q with frames := fs, reads := rd, writes := wr } :=
  ⟨h.dead, h.plan, h.loose, h.room, h.recs, h.count, h.kept, h.sure, h.tail, h.logs, h.pages, hk, hd, hr, h.picks, h.most, hl⟩
theorem RInv.writeF (h : RInv m g q) {n : Nat} {f : Fr} (hf : getL n q.frames = some f) (hd : f.dirty ≠ 0) : ∃ m' g', Go.Proofs.YtnghgkaoopcglaaGreat.writeF m g q n f = (0, m', g', q.wrote n f) ∧ RInv m' g' (q.wrote n f) := by
  have hmem := getL_some_mem hf
  obtain ⟨x1, x2, x3⟩ := h.dirty _ hmem hd
  have hn := h.keys _ hmem
  simp only at x1 x2 x3 hn
  obtain ⟨m1, g1, e1, i1, l1⟩ := h.flush f.p.lsn x3
  obtain ⟨m2, e2, i2⟩ := i1.write2 x1 x2 l1 (n + 2048) (by omega)
  obtain ⟨m3, e3, i3⟩ := i2.write2 x1 x2 l1 n (by omega)
  refine ⟨m3, g1, ?_, ?_⟩
  · unfold Go.Proofs.YtnghgkaoopcglaaGreat.writeF
    have e0 : f.p.encE.1 = f.p.enc := by rw [x1.encE]
    simp only [e1, e0, e2, e3, ne_eq, not_true_eq_false, if_false]
  · refine i3.mapF (fun p hp => ?_) (fun p hp => ?_) h.rising.put ?_
    · rcases mem_putL hp with rfl | hp
      · exact hn
      · exact i3.keys p hp
    · rcases mem_putL hp with rfl | hp
      · intro h0; exact absurd rfl h0
      · exact i3.dirty p hp
    · rw [putL_length_in n _ h.rising (by rw [hf]; rfl)]
      exact h.len
theorem RInv.writeQ (h : RInv m g q) (n : Nat) : ∃ m' g' q', Go.Proofs.YtnghgkaoopcglaaGreat.writeQ m g q n = (0, m', g', q') ∧ RInv m' g' q' := by
  unfold Go.Proofs.YtnghgkaoopcglaaGreat.writeQ
  cases hf : getL n q.frames with
  | none => exact ⟨_, _, _, rfl, h⟩
  | some f =>
    simp only
    split
    · exact ⟨_, _, _, rfl, h⟩
    · rename_i hd
      obtain ⟨m', g', e, i⟩ := h.writeF hf hd
      exact ⟨m', g', _, e, i⟩
theorem RInv.room_ (h : RInv m g q) : ∃ m' g' q', roomQ m g q = (0, m', g', q') ∧ RInv m' g' q' ∧ q'.frames.length < 4 := by
  have hk := roomQ_keep m g q h.rising h.picks (by rw [h.most]; exact h.len) (by rw [h.most]; decide)
  have : ∃ m' g' q', roomQ m g q = (0, m', g', q') ∧ RInv m' g' q' := by
    unfold roomQ
    split
    · exact ⟨_, _, _, rfl, h⟩
    · have hat : q.at_ = (0, q) := by unfold Po.at_; rw [h.picks]
      simp only [hat]
      obtain ⟨m', g', q', e, i⟩ := h.writeQ (((q.frames[0]?).map (·.1)).getD 0)
      rw [e]
      simp only [ne_eq, not_true_eq_false, if_false]
      refine ⟨m', g', q'.drop _, rfl, ?_⟩
      exact i.mapF (rd := q'.reads) (wr := q'.writes) (fun p hp => i.keys p (List.mem_filter.1 hp).1) (fun p hp => i.dirty p (List.mem_filter.1 hp).1) i.rising.del (Nat.le_trans (List.length_filter_le _ _) i.len)
  obtain ⟨m', g', q', e, i⟩ := this
  rw [e, h.most] at hk
  exact ⟨m', g', q', e, i, hk.2.2.2 rfl⟩
theorem RInv.getQ (h : RInv m g q) (n : Nat) (hn : 1 ≤ n ∧ n ≤ 20) : ∃ x c m' g' q', Go.Proofs.YtnghgkaoopcglaaGreat.getQ m g q n = (x, c, m', g', q') ∧ RInv m' g' q' := by
  unfold Go.Proofs.YtnghgkaoopcglaaGreat.getQ
  rw [if_neg (by omega)]
  cases hf : getL n q.frames with
  | some f => exact ⟨_, _, _, _, _, rfl, h⟩
  | none =>
    simp only
    split
    · exact ⟨_, _, _, _, _, rfl, h⟩
    · obtain ⟨m', g', q', e, i, hl⟩ := h.room_
      rw [e]
      simp only [ne_eq, not_true_eq_false, if_false]
      refine ⟨_, _, _, _, _, rfl, ?_⟩
      refine i.mapF (wr := q'.writes) (fun p hp => ?_) (fun p hp => ?_) i.rising.put (Nat.le_trans (putL_length _ _ _) (by omega))
      · rcases mem_putL hp with rfl | hp
        · exact hn
        · exact i.keys p hp
      · rcases mem_putL hp with rfl | hp
        · intro h0; exact absurd rfl h0
        · exact i.dirty p hp
theorem RInv.put (h : RInv m g q) {x : Sh} (hx : x.fit) (h1 : 1 ≤ x.lsn) (h2 : x.lsn < g.end_) (hn : 1 ≤ x.num ∧ x.num ≤ 20) (d : Nat) (hl : (putL x.num (⟨x, if d = 0 then max x.lsn 1 else d⟩ : Fr) q.frames).length ≤ 4) : RInv m g (q.put x d) := by
  refine h.mapF (rd := q.reads) (wr := q.writes) (fun p hp => ?_) (fun p hp => ?_) h.rising.put hl
  · rcases mem_putL hp with rfl | hp
    · exact hn
    · exact h.keys p hp
  · rcases mem_putL hp with rfl | hp
    · intro _; exact ⟨hx, h1, h2⟩
    · exact h.dirty p hp
theorem flush_end {m m' : Dk} {g g' : Lg} {u c : Int} (h : flushE m g u = (c, m', g')) : g'.end_ = g.end_ := by
  unfold flushE at h
  split at h
  · cases h; rfl
  · split at h
    · cases h; rfl
    · unfold flushD at h
      split at h
      · cases h; rfl
      · split at h
        · cases h; rfl
        · cases h; rfl
theorem writeQ_end (m : Dk) (g : Lg) (q : Po) (n : Nat) : (Go.Proofs.YtnghgkaoopcglaaGreat.writeQ m g q n).2.2.1.end_ = g.end_ := by
  unfold Go.Proofs.YtnghgkaoopcglaaGreat.writeQ
  cases getL n q.frames with
  | none => rfl
  | some f =>
    simp only
    split
    · rfl
    · have hfl := flush_end (m := m) (g := g) (u := f.p.lsn) (c := (flushE m g f.p.lsn).1) (m' := (flushE m g f.p.lsn).2.1) (g' := (flushE m g f.p.lsn).2.2) rfl
      unfold Go.Proofs.YtnghgkaoopcglaaGreat.writeF
      simp only
      split
      · exact hfl
      · split
        · exact hfl
        · split
          · exact hfl
          · exact hfl
theorem roomQ_end (m : Dk) (g : Lg) (q : Po) : (roomQ m g q).2.2.1.end_ = g.end_ := by
  unfold roomQ
  split
  · rfl
  · simp only
    split
    · exact writeQ_end _ _ _ _
    · exact writeQ_end _ _ _ _
theorem RInv.putQ (h : RInv m g q) {x : Sh} (hx : x.fit) (h1 : 1 ≤ x.lsn) (h2 : x.lsn < g.end_) (hn : 1 ≤ x.num ∧ x.num ≤ 20) : ∃ m' g' q', Go.Proofs.YtnghgkaoopcglaaGreat.putQ m g q x = (0, m', g', q') ∧ RInv m' g' q' := by
  unfold Go.Proofs.YtnghgkaoopcglaaGreat.putQ
  rw [if_neg (by omega), hx.encE]
  simp only [ne_eq, not_true_eq_false, if_false]
  cases hf : getL x.num q.frames with
  | some f => exact ⟨_, _, _, rfl, h.put hx h1 h2 hn _ (by rw [putL_length_in _ _ h.rising (by rw [hf]; rfl)]; exact h.len)⟩
  | none =>
    simp only
    obtain ⟨m', g', q', e, i, hl⟩ := h.room_
    have he := roomQ_end m g q
    rw [e] at he ⊢
    simp only at he
    simp only [not_true_eq_false, if_false]
    exact ⟨_, _, _, rfl, i.put hx h1 (by rw [he]; exact h2) hn _ (Nat.le_trans (putL_length _ _ _) (by omega))⟩
/-- a record is put behind the log -/
theorem RInv.append (h : RInv m g q) (hc : g.recs.length < 60) : g.tight ∧ addV g rec6 g.kept = .tuple #[.int .u64 (g.end_ : Int), .int .i64 0] ∧ RInv m (g.tryAdd rec6 g.kept) q ∧ g.end_ < (g.tryAdd rec6 g.kept).end_ ∧ (g.tryAdd rec6 g.kept).recs.length = g.recs.length + 1 ∧ 1 ≤ g.end_ ∧ g.end_ ≤ 1081 := by
  have he := h.end_
  have hb : ¬ badRec rec6 := by unfold badRec; rw [rec6_size]; omega
  have hf : ¬ addFull g rec6 g.kept := by unfold addFull; rw [rec6_size, he, h.kept]; omega
  have ha : g.tryAdd rec6 g.kept = g.add rec6 := by unfold Lg.tryAdd; rw [if_neg hb, if_neg hf]
  have hae : (g.add rec6).end_ = g.end_ + 18 := by rw [Lg.add_end, rec6_size]
  have hrl : (g.add rec6).recs.length = g.recs.length + 1 := by show (g.recs ++ [rec6]).length = _; simp
  have hrs : ∀ s ∈ (g.add rec6).recs, s.size = 6 := fun s hs => by
    rcases List.mem_append.1 (show s ∈ g.recs ++ [rec6] from hs) with hs | hs
    · exact h.recs s hs
    · simp at hs; rw [hs]; rfl
  have hsu : (g.add rec6).sure ≤ (g.add rec6).recs.length := by rw [hrl]; show g.sure ≤ _; have := h.sure; omega
  have hts : (g.add rec6).tail.size = g.tail.size + 18 := by show (g.tail ++ frameB g.end_ rec6).size = _; rw [ByteArray.size_append, frameB_size, rec6_size]
  have hfl : (g.add rec6).flushed = g.flushed := by rw [h.flushed, flushed6 hrs hsu]; rfl
  refine ⟨?_, ?_, ?_, ?_, ?_, by omega, by omega⟩
  · unfold Lg.tight; have := h.tail; omega
  · unfold addV; rw [if_neg hb, if_neg hf]
  · rw [ha]
    refine ⟨h.dead, h.plan, h.loose, h.room, hrs, by omega, h.kept, hsu, ?_, ?_, fun p => ?_, h.keys, fun p hp hd => ?_, h.rising, h.picks, h.most, h.len⟩
    · rw [hts, hrl, h.tail]
      show _ = 18 * (g.recs.length + 1 - g.sure)
      have := h.sure
      omega
    · rw [hts, hrl]; have := h.logs; omega
    · rw [hfl]; exact h.pages p
    · obtain ⟨d1, d2, d3⟩ := h.dirty p hp hd
      exact ⟨d1, d2, by rw [hae]; omega⟩
  · rw [ha, hae]; omega
  · rw [ha]; exact hrl
/-- what stands on the disk -/
theorem blank_zero : allZero blank = true := allZero_blank 512
theorem RInv.read (h : RInv m g q) (p : Nat) (hp : 1 ≤ p ∧ p ≤ 20) : ∃ s x, m.readE (p : Int) = (s, 0) ∧ s.size = 512 ∧ decE s = (x, 0) ∧ (x.lsn = 0 ∨ x.lsn < g.flushed) := by
  have hmay : m.may (p : Int) = 0 := by
    unfold Dk.may
    rw [if_neg (by omega), h.room, if_neg (by omega)]
  have hr : m.read (p : Int) = (m.pages (p : Int)).getD blank := by
    unfold Dk.read
    rw [h.loose]
    rfl
  rw [Dk.readE_ok h.dead hmay, hr]
  rcases h.pages (p : Int) with e | ⟨x, x1, x2, x3, x4⟩
  · rw [e]
    have hz : blank.size = 512 := blank_size
    refine ⟨blank, Sh.none, rfl, hz, ?_, .inl rfl⟩
    unfold decE
    rw [if_neg (by omega), if_neg (by omega), if_pos blank_zero]
  · rw [x4]
    exact ⟨x.enc, x, rfl, x1.size, x1.dec (x1.nonzero x2), .inr x3⟩
theorem RInv.begin_ : RInv (Dk.fresh 64) (openG [] 0) (Po.new 4) :=
  ⟨rfl, rfl, rfl, rfl, fun s hs => by simp [openG] at hs, Nat.zero_le _, rfl, Nat.le_refl _, rfl, Nat.le_refl _, fun p => .inl rfl, fun p hp => by simp [Po.new] at hp, fun p hp => by simp [Po.new] at hp, List.Pairwise.nil, rfl, rfl, Nat.zero_le _⟩
/-- the page that is put -/
theorem fit6 (n at_ : Nat) (hn : n ≤ 20) (ha : at_ ≤ 1081) : (⟨n, at_, 2, ⟨#[]⟩, []⟩ : Sh).fit :=
  ⟨⟨by show (0 : Int) ≤ 2; decide, by show (2 : Int) ≤ 255; decide, by show (0 : Nat) ≤ 32; decide, by show (0 : Nat) ≤ 64; decide⟩, by show (0 : Int) ≤ 485 - 0 - 0; decide, by show n < _; omega, by show at_ < _; omega⟩
end
end Go.Proofs.YtnghgkaoopcglaaGreat
