/-
  The states of 'PoolFalls': disk, log and pool in the law's body.
-/
import Derived.Test.YtnghgkaoopcglaaGreatAW
import Derived.Test.YtnghgkaoopcglaaGreatL7
import Derived.Test.YtnghgkaoopcglaaGreatZ2
namespace Go.Proofs.YtnghgkaoopcglaaGreat
open Go.RowKit

section
variable {w0 W W' : World} {b lb pb : Nat} {m m' : Dk} {g g' : Lg} {q q' : Po}
theorem PL.dsk (h : PL w0 b lb pb m g q W) {f : FuncId} {args : Array Value} {v : Ending} (hc : ∀ F, DiskAt W F b m → Calls Tryz.prog f args W fun e w' => e = v ∧ DPost W F b m' w') :
    Calls Tryz.prog f args W fun e w' => e = v ∧ PL w0 b lb pb m' g q w' := by
  obtain ⟨U, hx, h2, h3⟩ := h
  obtain ⟨F, G, H, mb, pk, vs, k1, k2, k3, k4⟩ := hx
  refine (hc F k1.dsk).mono fun e w' ⟨he, hp⟩ => ⟨he, ?_⟩
  obtain ⟨F', G', r1, r2, r3, r4, r5⟩ := PX.both k1 k2 k3 (k1.disk hp)
  refine PL.post (U := U) (fun r hr => (h2 r hr).1) h3 ⟨fun r => (F' r ∨ G' r) ∨ H r, ⟨F', G', H, mb, pk, vs, r1, r2, r3, fun _ h => h⟩, r4.wider (fun r hr => k4 r (.inl hr)), fun r hr => ?_⟩
  rcases hr with hr | hr
  · rcases r5 r hr with h | h
    · exact .inl (k4 r (.inl h))
    · exact .inr h
  · exact .inl (k4 r (.inr hr))
/-- a cell of a block that is older than the pool -/
theorem PL.setBase (h : PL w0 b lb pb m g q W) {p : Addr} (hp : p.block < w0.heap.size) (v : Value) : PL (w0.setCell p v) b lb pb m g q (W.setCell p v) := by
  obtain ⟨U, h1, h2, h3⟩ := h
  have hs0 : (w0.setCell p v).heap.size = w0.heap.size := by simp [World.setCell]
  have hs1 : (W.setCell p v).heap.size = W.heap.size := by simp [World.setCell]
  refine ⟨U, h1.keep (fun r hr => Below.heap_setCell W p v r (by have := (h2 r hr).1; omega)) (by rw [hs1]; exact Nat.le_refl _), fun r hr => by rw [hs0, hs1]; exact h2 r hr, ?_⟩
  obtain ⟨a1, a2, a3, a4, a5⟩ := h3
  refine ⟨a1, a2, a3, by rw [hs0, hs1]; exact a4, fun k hk => ?_⟩
  rw [hs0] at hk
  have e := a5 k hk
  by_cases hkp : k = p.block
  · subst hkp
    show (W.setCell p v).heap[p.block]? = (w0.setCell p v).heap[p.block]?
    simp only [World.setCell, Array.getElem?_modify, if_true]
    rw [e]
  · rw [Below.heap_setCell W p v k hkp, Below.heap_setCell w0 p v k hkp]
    exact e
end
/-- a disk alone, laid since w0 -/
def DZ (w0 : World) (b : Nat) (m : Dk) (W : World) : Prop := ∃ F, DiskAt W F b m ∧ (∀ r, F r → w0.heap.size ≤ r) ∧ Below w0.heap.size w0 W
/-- a disk and a log -/
def BZ (w0 : World) (b lb : Nat) (m : Dk) (g : Lg) (W : World) : Prop := ∃ F G, BothIn W F G b lb m g ∧ (∀ r, F r ∨ G r → w0.heap.size ≤ r) ∧ Below w0.heap.size w0 W
section
variable {w0 W W' : World} {b lb pb : Nat} {m m' : Dk} {g g' : Lg} {q q' : Po}
theorem PL.dx (h : PL w0 b lb pb m g q W) : DZ w0 b m W := by
  obtain ⟨U, ⟨F, G, H, mb, pk, vs, h1, _, _, h4⟩, h2, h3⟩ := h
  exact ⟨F, h1.dsk, fun r hr => (h2 r (h4 r (.inl (.inl hr)))).1, h3⟩
theorem DZ.base (h : DZ w0 b m W) : Below w0.heap.size w0 W := by obtain ⟨_, _, _, h⟩ := h; exact h
theorem DZ.calls (h : DZ w0 b m W) {f : FuncId} {args : Array Value} {v : Ending} (hc : ∀ F, DiskAt W F b m → Calls Tryz.prog f args W fun e w' => e = v ∧ DPost W F b m' w') :
    Calls Tryz.prog f args W fun e w' => e = v ∧ DZ w0 b m' w' := by
  obtain ⟨F, h1, h2, h3⟩ := h
  refine (hc F h1).mono fun e w' ⟨he, F', k1, k2, k3⟩ => ⟨he, F', k1, fun r hr => ?_, h3.trans (k2.belowB h2 h3.size)⟩
  rcases k3 r hr with h | h
  · exact h2 r h
  · exact Nat.le_trans h3.size h
theorem DZ.open_ (h : DZ w0 b m W) (hd : m.dead = false) (hplan : m.plan = []) (hloose : m.loose = []) (hmk : m.mark = 0) (htl : m.tail = ⟨#[]⟩) (hlog : LogOk m.log) :
    Calls Tryz.prog 32 #[.pointer (some ⟨b, 0, none⟩)] W fun e w' => ∃ lb n m' g, e = .returned (.tuple #[.pointer (some ⟨lb, 0, none⟩), .int .i64 n, .int .i64 0]) ∧ BZ w0 b lb m' g w' ∧ (m'.dead = false ∧ m'.plan = [] ∧ m'.loose = [] ∧ m'.room = m.room ∧ m'.pages = m.pages) := by
  obtain ⟨F, h1, h2, h3⟩ := h
  obtain ⟨l, rest, hl, hs, _, ht⟩ := hlog
  refine (open_c h1 hd hplan (by rw [hloose]; exact Nat.zero_le _) (by unfold Dk.markNow; rw [hloose]; show 0 ≤ m.mark ∧ m.mark < _; omega) l rest (by rw [hl, htl, bytes_nil]) (fun x hx => by have := hs x hx; omega) ht).mono ?_
  rintro e w' ⟨lb, rfl, F', G', k1, k2, k3, k4⟩
  refine ⟨lb, _, _, _, rfl, ⟨F', G', k1, fun r hr => ?_, h3.trans (k2.belowB h2 h3.size)⟩, ?_⟩
  · rcases hr with hr | hr
    · rcases k3 r hr with h | h
      · exact h2 r h
      · exact Nat.le_trans h3.size h
    · exact Nat.le_trans h3.size (k4 r hr)
  · split
    · exact ⟨hd, hplan, hloose, rfl, rfl⟩
    · have hA : ∀ n : Int, (m.cutLog n).2.dead = false ∧ (m.cutLog n).2.plan = [] ∧ (m.cutLog n).2.loose = [] ∧ (m.cutLog n).2.room = m.room ∧ (m.cutLog n).2.pages = m.pages := fun n => by
        unfold Dk.cutLog
        rw [if_neg (by rw [hd]; exact Bool.false_ne_true), Dk.strikes_plan hplan]
        split
        · exact ⟨hd, hplan, hloose, rfl, rfl⟩
        · exact ⟨hd, hplan, hloose, rfl, rfl⟩
      have hB : ∀ z : Dk, z.dead = false → z.plan = [] → z.loose = [] → z.syncLog.2.dead = false ∧ z.syncLog.2.plan = [] ∧ z.syncLog.2.loose = [] ∧ z.syncLog.2.room = z.room ∧ z.syncLog.2.pages = z.pages := fun z z1 z2 z3 => by
        unfold Dk.syncLog
        rw [if_neg (by rw [z1]; exact Bool.false_ne_true), Dk.strikes_plan z2]
        exact ⟨z1, z2, z3, rfl, rfl⟩
      obtain ⟨a1, a2, a3, a4, a5⟩ := hA ((endFrom 1 l : Int) - 1)
      obtain ⟨b1, b2, b3, b4, b5⟩ := hB _ a1 a2 a3
      exact ⟨b1, b2, b3, b4.trans a4, b5.trans a5⟩
theorem BZ.new (h : BZ w0 b lb m g W) (most : Nat) (h1 : 4 ≤ most) (h2 : most ≤ 256) :
    Calls Tryz.prog 33 #[.pointer (some ⟨b, 0, none⟩), .pointer (some ⟨lb, 0, none⟩), .int .i64 (most : Int)] W fun e w' => ∃ pb, e = .returned (.tuple #[.pointer (some ⟨pb, 0, none⟩), .int .i64 0]) ∧ PL w0 b lb pb m g (Po.new most) w' := by
  obtain ⟨F, G, k1, k2, k3⟩ := h
  refine (poolNew_c k1 most h1 h2).mono ?_
  rintro e w' ⟨rfl, hx, hb⟩
  refine ⟨_, rfl, PL.mk' hx (fun r hr => ?_) (k3.trans (hb.mono k3.size))⟩
  have := k3.size
  rcases hr with hr | hr | hr
  · exact k2 r hr
  · omega
  · omega
end
/-! from the loop's end on -/
def End7 (f : Fl) (w0 : World) (b : Nat) (last next : ByteArray) (W : World) : Prop := ∃ m pg, DZ w0 b m W ∧ ((∃ k, k ≤ 12 ∧ Al7 f m k pg) ∨ Gn7 m pg) ∧ Good7 pg last next
def End8 (f : Fl) (w0 : World) (b : Nat) (last next : ByteArray) (W : World) : Prop := ∃ m pg, DZ w0 b m W ∧ m.plan = [] ∧ ((∃ k, k ≤ 12 ∧ Al7 f m k pg) ∨ Gn7 m pg) ∧ Good7 pg last next
def End9 (w0 : World) (b : Nat) (last next : ByteArray) (W : World) : Prop := ∃ m pg, DZ w0 b m W ∧ m.plan = [] ∧ Gn7 m pg ∧ Good7 pg last next
structure Up7 (m : Dk) (pg : Int → Option ByteArray) : Prop where
  dead : m.dead = false
  plan : m.plan = []
  loose : m.loose = []
  room : m.room = 8
  pages : m.pages = pg
def End10 (w0 : World) (b : Nat) (last next : ByteArray) (W : World) : Prop := ∃ m pg, DZ w0 b m W ∧ Up7 m pg ∧ m.mark = 0 ∧ m.tail = ⟨#[]⟩ ∧ LogOk m.log ∧ Good7 pg last next
def End11 (w0 : World) (b lb : Nat) (last next : ByteArray) (W : World) : Prop := ∃ m g pg, BZ w0 b lb m g W ∧ Up7 m pg ∧ Good7 pg last next
def End12 (w0 : World) (b lb pb : Nat) (last next : ByteArray) (W : World) : Prop := ∃ m g pg, PL w0 b lb pb m g (Po.new 4) W ∧ Up7 m pg ∧ Good7 pg last next
section
variable {f : Fl} {w0 W : World} {b lb pb : Nat} {last next : ByteArray}
theorem End7.base (h : End7 f w0 b last next W) : Below w0.heap.size w0 W := by obtain ⟨_, _, h, _⟩ := h; exact h.base
theorem End8.base (h : End8 f w0 b last next W) : Below w0.heap.size w0 W := by obtain ⟨_, _, h, _⟩ := h; exact h.base
theorem End7.plan (h : End7 f w0 b last next W) : Calls Tryz.prog 29 #[.pointer (some ⟨b, 0, none⟩), .slice none 0 0] W fun e w' => e = .returned (.tuple #[]) ∧ End8 f w0 b last next w' := by
  obtain ⟨m, pg, h1, h2, h3⟩ := h
  refine (h1.calls (m' := { m with plan := [] }) fun F hF => plan_c hF [] none 0 0 (copy_nil W)).mono fun e w' ⟨he, hp⟩ => ⟨he, _, pg, hp, rfl, ?_, h3⟩
  rcases h2 with ⟨k, hk, a⟩ | a
  · exact .inl ⟨k, hk, a.dead, a.loose, a.room, .inl rfl, a.pages, a.log, a.tail, a.mark⟩
  · exact .inr ⟨a.dead, a.loose, a.room, a.pages, a.tail, a.mark, a.log⟩
theorem End8.crash (h : End8 f w0 b last next W) (f0 : Fl) (hf0 : f0.ok) : Calls Tryz.prog 30 #[.pointer (some ⟨b, 0, none⟩), .agg #[.int .i64 f0.at_, .int .u64 f0.keep, .int .i64 f0.torn, .int .i64 f0.bytes, .int .i64 f0.log]] W fun e w' => e = .returned (.tuple #[]) ∧ End9 w0 b last next w' := by
  obtain ⟨m, pg, h1, hp, h2, h3⟩ := h
  rcases h2 with ⟨k, hk, a⟩ | a
  · refine (h1.calls fun F hF => crash_c hF f0 hf0 (by rw [a.loose]; exact Nat.zero_le _)).mono fun e w' ⟨he, hd⟩ => ⟨he, _, pg, hd, ?_, a.crash (by omega) f0, h3⟩
    rw [crash_log f0 a.dead a.loose]
    exact hp
  · refine (h1.calls fun F hF => crash_c hF f0 hf0 (by rw [a.loose]; exact Nat.zero_le _)).mono fun e w' ⟨he, hd⟩ => ⟨he, _, pg, hd, ?_, ?_, h3⟩
    · rw [a.crash f0]; exact hp
    · rw [a.crash f0]; exact a
theorem End9.up (h : End9 w0 b last next W) : Calls Tryz.prog 31 #[.pointer (some ⟨b, 0, none⟩)] W fun e w' => e = .returned (.bool true) ∧ End10 w0 b last next w' := by
  obtain ⟨m, pg, h1, hp, a, h3⟩ := h
  refine (h1.calls fun F hF => up_c hF).mono fun e w' ⟨he, hd⟩ => ⟨by rw [he, a.dead], _, pg, hd, ⟨rfl, hp, a.loose, a.room, a.pages⟩, a.mark, a.tail, a.log, h3⟩
theorem End10.open_ (h : End10 w0 b last next W) : Calls Tryz.prog 32 #[.pointer (some ⟨b, 0, none⟩)] W fun e w' => ∃ lb n, e = .returned (.tuple #[.pointer (some ⟨lb, 0, none⟩), .int .i64 n, .int .i64 0]) ∧ End11 w0 b lb last next w' := by
  obtain ⟨m, pg, h1, a, hm, ht, hl, h3⟩ := h
  refine (h1.open_ a.dead a.plan a.loose hm ht hl).mono ?_
  rintro e w' ⟨lb, n, m', g, he, hb, k1, k2, k3, k4, k5⟩
  exact ⟨lb, n, he, m', g, pg, hb, ⟨k1, k2, k3, k4.trans a.room, k5.trans a.pages⟩, h3⟩
theorem End11.new (h : End11 w0 b lb last next W) : Calls Tryz.prog 33 #[.pointer (some ⟨b, 0, none⟩), .pointer (some ⟨lb, 0, none⟩), .int .i64 4] W fun e w' => ∃ pb, e = .returned (.tuple #[.pointer (some ⟨pb, 0, none⟩), .int .i64 0]) ∧ End12 w0 b lb pb last next w' := by
  obtain ⟨m, g, pg, h1, a, h3⟩ := h
  exact (h1.new 4 (by omega) (by omega)).mono fun e w' ⟨pb, he, hp⟩ => ⟨pb, he, m, g, pg, hp, a, h3⟩
theorem Up7.fetch {m : Dk} {pg : Int → Option ByteArray} (h : Up7 m pg) : fetchE m 2 = got7 pg := by
  have hr : ∀ n : Nat, n = 2 ∨ n = 2050 → m.readE (n : Int) = ((pg (n : Int)).getD blank, 0) := fun n hn => by
    have hmay : m.may (n : Int) = 0 := by
      unfold Dk.may
      rw [if_neg (by omega), h.room, if_neg (by omega)]
    rw [Dk.readE_ok h.dead hmay]
    have : m.read (n : Int) = (m.pages (n : Int)).getD blank := by
      unfold Dk.read
      rw [h.loose]
      rfl
    rw [this, h.pages]
  unfold fetchE got7
  rw [hr 2 (.inl rfl), hr (2 + 2048) (.inr rfl)]
  rfl
theorem End12.get (h : End12 w0 b lb pb last next W) : Calls Tryz.prog 24 #[.pointer (some ⟨pb, 0, none⟩), .int .u32 2] W fun e w' => ∃ x sv, e = .returned (.tuple #[ShV x sv, .int .i64 0]) ∧ Reads w' sv x.slots ∧ (x.slots = [] ∧ last = ⟨#[]⟩ ∨ x.slots = [last] ∨ x.slots = [next]) ∧ Below w0.heap.size w0 w' := by
  obtain ⟨m, g, pg, h1, a, x, hx, h3⟩ := h
  refine (h1.get (.inl a.plan) (by rw [a.loose]; exact Nat.zero_le _) rfl (by decide) 2 (by omega)).mono ?_
  have hg : (getQ m g (Po.new 4) 2).1 = x ∧ (getQ m g (Po.new 4) 2).2.1 = 0 := by
    have e : fetchE m 2 = (x, 0) := a.fetch.trans hx
    unfold getQ
    rw [if_neg (by omega)]
    show (if (fetchE m 2).2 ≠ 0 then _ else _ : Sh × Int × Dk × Lg × Po).1 = x ∧ (if (fetchE m 2).2 ≠ 0 then _ else _ : Sh × Int × Dk × Lg × Po).2.1 = 0
    rw [e, if_neg (fun h => h rfl)]
    have hr : roomQ m g (Po.new 4) = (0, m, g, Po.new 4) := rfl
    rw [hr]
    exact ⟨rfl, rfl⟩
  rintro e w' ⟨sv, he, hr, hp⟩
  rw [hg.1] at he hr
  rw [hg.2] at he
  exact ⟨x, sv, he, hr, h3, hp.base⟩
end
end Go.Proofs.YtnghgkaoopcglaaGreat
