/-
  The log and its disk in a law's body: no power fails by itself.
-/
import Derived.Test.YtnobiekgifjaeaaX6
import Derived.Test.YtnobiekgifjaeaaB2
namespace Go.Proofs.Ytnobiekgifjaeaa
open Go.RowKit
attribute [local go_sem ↓] Go.wp_at_zero Go.wp_at_succ

/-- what the law itself has in memory: the blocks K, of which P tells -/
def Stable (K : Nat → Prop) (P : World → Prop) : Prop := ∀ w w' : World, P w → (∀ r, K r → w'.heap[r]? = w.heap[r]?) → P w'
def DX (w0 : World) (K : Nat → Prop) (P : World → Prop) (b : Nat) (m : Dk) (w : World) : Prop := ∃ F, DiskAt w F b m ∧ (∀ r, F r → w0.heap.size ≤ r ∧ ¬ K r) ∧ (∀ r, K r → w0.heap.size ≤ r ∧ r < w.heap.size) ∧ P w ∧ Below w0.heap.size w0 w
def LX (w0 : World) (K : Nat → Prop) (P : World → Prop) (b lb : Nat) (m : Dk) (g : Lg) (w : World) : Prop :=
  ∃ F G, BothIn w F G b lb m g ∧ (∀ r, F r ∨ G r → w0.heap.size ≤ r ∧ ¬ K r) ∧ (∀ r, K r → w0.heap.size ≤ r ∧ r < w.heap.size) ∧ P w ∧ Below w0.heap.size w0 w

section
variable {w0 w w' : World} {K : Nat → Prop} {P : World → Prop} {b lb : Nat} {m m' : Dk} {g g' : Lg}
theorem LX.disk (h : LX w0 K P b lb m g w) : DX w0 K P b m w := by
  obtain ⟨F, G, h1, h2, h3, h4, h5⟩ := h
  exact ⟨F, h1.dsk, fun r hr => h2 r (.inl hr), h3, h4, h5⟩
theorem LX.base (h : LX w0 K P b lb m g w) : Below w0.heap.size w0 w := by obtain ⟨F, G, _, _, _, _, h⟩ := h; exact h
theorem DX.base (h : DX w0 K P b m w) : Below w0.heap.size w0 w := by obtain ⟨F, _, _, _, _, h⟩ := h; exact h
theorem LX.own (h : LX w0 K P b lb m g w) : P w := by obtain ⟨F, G, _, _, _, h, _⟩ := h; exact h
theorem DX.own (h : DX w0 K P b m w) : P w := by obtain ⟨F, _, _, _, h, _⟩ := h; exact h
theorem LX.wal (h : LX w0 K P b lb m g w) : ∃ G, WalAt w G lb b g := by obtain ⟨F, G, h1, _⟩ := h; exact ⟨G, h1.wal⟩
theorem LX.ok (h : LX w0 K P b lb m g w) : g.ok := by obtain ⟨G, h⟩ := h.wal; exact h.ok
theorem DX.dok (h : DX w0 K P b m w) : m.ok := by obtain ⟨F, h1, _⟩ := h; exact h1.ok

theorem LX.post (hst : Stable K P) {F G : Nat → Prop} (h : BothIn w F G b lb m g) (h2 : ∀ r, F r ∨ G r → w0.heap.size ≤ r ∧ ¬ K r) (h3 : ∀ r, K r → w0.heap.size ≤ r ∧ r < w.heap.size) (h4 : P w) (h5 : Below w0.heap.size w0 w)
    (hp : BPost w F G b lb m' g' w') : LX w0 K P b lb m' g' w' := by
  obtain ⟨F', G', k1, k2, k3, k4⟩ := hp
  refine ⟨F', G', k1, fun r hr => ?_, fun r hr => ⟨(h3 r hr).1, Nat.lt_of_lt_of_le (h3 r hr).2 k2.size⟩, hst w w' h4 fun r hr => k2.block r (h3 r hr).2 (fun hf => (h2 r hf).2 hr), ?_⟩
  · have hs := h5.size
    have : (F r ∨ G r) ∨ w.heap.size ≤ r := by
      rcases hr with hr | hr
      · rcases k3 r hr with h | h
        · exact .inl (.inl h)
        · exact .inr h
      · rcases k4 r hr with h | h
        · exact .inl (.inr h)
        · exact .inr h
    rcases this with h | h
    · exact h2 r h
    · exact ⟨Nat.le_trans hs h, fun hk => by have := (h3 r hk).2; omega⟩
  · exact h5.trans (k2.belowB (fun r hr => (h2 r hr).1) h5.size)
theorem DX.post (hst : Stable K P) {F : Nat → Prop} (h : DiskAt w F b m) (h2 : ∀ r, F r → w0.heap.size ≤ r ∧ ¬ K r) (h3 : ∀ r, K r → w0.heap.size ≤ r ∧ r < w.heap.size) (h4 : P w) (h5 : Below w0.heap.size w0 w)
    (hp : DPost w F b m' w') : DX w0 K P b m' w' := by
  obtain ⟨F', k1, k2, k3⟩ := hp
  refine ⟨F', k1, fun r hr => ?_, fun r hr => ⟨(h3 r hr).1, Nat.lt_of_lt_of_le (h3 r hr).2 k2.size⟩, hst w w' h4 fun r hr => k2.block r (h3 r hr).2 (fun hf => (h2 r hf).2 hr), ?_⟩
  · have hs := h5.size
    rcases k3 r hr with h | h
    · exact h2 r h
    · exact ⟨Nat.le_trans hs h, fun hk => by have := (h3 r hk).2; omega⟩
  · exact h5.trans (k2.belowB (fun r hr => (h2 r hr).1) h5.size)
theorem DX.opened (hst : Stable K P) {F : Nat → Prop} (h2 : ∀ r, F r → w0.heap.size ≤ r ∧ ¬ K r) (h3 : ∀ r, K r → w0.heap.size ≤ r ∧ r < w.heap.size) (h4 : P w) (h5 : Below w0.heap.size w0 w)
    (hp : OPost w F b lb m' g' w') : LX w0 K P b lb m' g' w' := by
  obtain ⟨F', G', k1, k2, k3, k4⟩ := hp
  refine ⟨F', G', k1, fun r hr => ?_, fun r hr => ⟨(h3 r hr).1, Nat.lt_of_lt_of_le (h3 r hr).2 k2.size⟩, hst w w' h4 fun r hr => k2.block r (h3 r hr).2 (fun hf => (h2 r hf).2 hr), ?_⟩
  · have hs := h5.size
    have : F r ∨ w.heap.size ≤ r := by
      rcases hr with hr | hr
      · exact k3 r hr
      · exact .inr (k4 r hr)
    rcases this with h | h
    · exact h2 r h
    · exact ⟨Nat.le_trans hs h, fun hk => by have := (h3 r hk).2; omega⟩
  · exact h5.trans (k2.belowB (fun r hr => (h2 r hr).1) h5.size)
theorem LX.calls (hst : Stable K P) (h : LX w0 K P b lb m g w) {f : FuncId} {args : Array Value} {v : Ending} (hc : ∀ F G, BothIn w F G b lb m g → Calls Try.prog f args w fun e w' => e = v ∧ BPost w F G b lb m' g' w') :
    Calls Try.prog f args w fun e w' => e = v ∧ LX w0 K P b lb m' g' w' := by
  obtain ⟨F, G, h1, h2, h3, h4, h5⟩ := h
  exact (hc F G h1).mono fun e w' ⟨he, hp⟩ => ⟨he, LX.post hst h1 h2 h3 h4 h5 hp⟩
theorem DX.calls (hst : Stable K P) (h : DX w0 K P b m w) {f : FuncId} {args : Array Value} {v : Ending} (hc : ∀ F, DiskAt w F b m → Calls Try.prog f args w fun e w' => e = v ∧ DPost w F b m' w') :
    Calls Try.prog f args w fun e w' => e = v ∧ DX w0 K P b m' w' := by
  obtain ⟨F, h1, h2, h3, h4, h5⟩ := h
  exact (hc F h1).mono fun e w' ⟨he, hp⟩ => ⟨he, DX.post hst h1 h2 h3 h4 h5 hp⟩
theorem LX.below (hst : Stable K P) (h : LX w0 K P b lb m g w) (hb : Below w.heap.size w w') : LX w0 K P b lb m g w' := by
  obtain ⟨F, G, h1, h2, h3, h4, h5⟩ := h
  exact LX.post hst h1 h2 h3 h4 h5 (BPost.below h1 hb)
theorem DX.below (hst : Stable K P) (h : DX w0 K P b m w) (hb : Below w.heap.size w w') : DX w0 K P b m w' := by
  obtain ⟨F, h1, h2, h3, h4, h5⟩ := h
  exact DX.post hst h1 h2 h3 h4 h5 ⟨F, h1.below hb, Step.below hb, More.refl _ _⟩
/-- a getter -/
theorem LX.gets (hst : Stable K P) (h : LX w0 K P b lb m g w) {f : FuncId} {args : Array Value} {v : Ending} (hc : ∀ G, WalAt w G lb b g → Calls Try.prog f args w fun e w' => e = v ∧ ∃ q, w' = w.drewN q) :
    Calls Try.prog f args w fun e w' => e = v ∧ LX w0 K P b lb m g w' := by
  obtain ⟨G, h1⟩ := h.wal
  exact (hc G h1).mono fun e w' ⟨he, q, hp⟩ => ⟨he, by rw [hp]; exact h.below hst (below_drewN _ _)⟩
theorem LX.gets0 (hst : Stable K P) (h : LX w0 K P b lb m g w) {f : FuncId} {args : Array Value} {v : Ending} (hc : ∀ G, WalAt w G lb b g → Calls Try.prog f args w fun e w' => e = v ∧ w' = w) :
    Calls Try.prog f args w fun e w' => e = v ∧ LX w0 K P b lb m g w' := by
  obtain ⟨G, h1⟩ := h.wal
  exact (hc G h1).mono fun e w' ⟨he, hp⟩ => ⟨he, by rw [hp]; exact h⟩
theorem LX.logs (hst : Stable K P) (h : LX w0 K P b lb m g w) {f : FuncId} {args : Array Value} {v : Ending} (hc : ∀ G, WalAt w G lb b g → Calls Try.prog f args w fun e w' => e = v ∧ WPost w G lb b g' w') :
    Calls Try.prog f args w fun e w' => e = v ∧ LX w0 K P b lb m g' w' :=
  h.calls hst fun F G h1 => (hc G h1.wal).mono fun e w' ⟨he, hp⟩ => ⟨he, h1.log hp⟩
end

/-! the disk between the calls of a law in which no power fails by itself -/
def dk (c : Int) (lg : ByteArray) (mk : Int) : Dk := { room := 8, pages := fun _ => none, mark := mk, loose := [], log := lg, tail := ⟨#[]⟩, calls := c, plan := [], dead := false }
def LW (w0 : World) (K : Nat → Prop) (P : World → Prop) (b lb : Nat) (lg : ByteArray) (mk : Int) (g : Lg) (w : World) : Prop := ∃ c, LX w0 K P b lb (dk c lg mk) g w
def DW (w0 : World) (K : Nat → Prop) (P : World → Prop) (b : Nat) (lg : ByteArray) (mk : Int) (w : World) : Prop := ∃ c, DX w0 K P b (dk c lg mk) w

section
variable {w0 w w' : World} {K : Nat → Prop} {P : World → Prop} {b lb : Nat} {lg : ByteArray} {mk : Int} {g : Lg}
theorem LW.disk (h : LW w0 K P b lb lg mk g w) : DW w0 K P b lg mk w := by obtain ⟨c, h⟩ := h; exact ⟨c, h.disk⟩
theorem LW.base (h : LW w0 K P b lb lg mk g w) : Below w0.heap.size w0 w := by obtain ⟨c, h⟩ := h; exact h.base
theorem DW.base (h : DW w0 K P b lg mk w) : Below w0.heap.size w0 w := by obtain ⟨c, h⟩ := h; exact h.base
theorem LW.own (h : LW w0 K P b lb lg mk g w) : P w := by obtain ⟨c, h⟩ := h; exact h.own
theorem LW.ok (h : LW w0 K P b lb lg mk g w) : g.ok := by obtain ⟨c, h⟩ := h; exact h.ok
theorem LW.below (hst : Stable K P) (h : LW w0 K P b lb lg mk g w) (hb : Below w.heap.size w w') : LW w0 K P b lb lg mk g w' := by obtain ⟨c, h⟩ := h; exact ⟨c, h.below hst hb⟩
theorem DW.below (hst : Stable K P) (h : DW w0 K P b lg mk w) (hb : Below w.heap.size w w') : DW w0 K P b lg mk w' := by obtain ⟨c, h⟩ := h; exact ⟨c, h.below hst hb⟩
theorem LW.gets (hst : Stable K P) (h : LW w0 K P b lb lg mk g w) {f : FuncId} {args : Array Value} {v : Ending} (hc : ∀ G, WalAt w G lb b g → Calls Try.prog f args w fun e w' => e = v ∧ ∃ q, w' = w.drewN q) :
    Calls Try.prog f args w fun e w' => e = v ∧ LW w0 K P b lb lg mk g w' := by
  obtain ⟨c, h⟩ := h
  exact (h.gets hst hc).mono fun e w' ⟨he, hp⟩ => ⟨he, c, hp⟩
theorem LW.gets0 (hst : Stable K P) (h : LW w0 K P b lb lg mk g w) {f : FuncId} {args : Array Value} {v : Ending} (hc : ∀ G, WalAt w G lb b g → Calls Try.prog f args w fun e w' => e = v ∧ w' = w) :
    Calls Try.prog f args w fun e w' => e = v ∧ LW w0 K P b lb lg mk g w' := by
  obtain ⟨c, h⟩ := h
  exact (h.gets0 hst hc).mono fun e w' ⟨he, hp⟩ => ⟨he, c, hp⟩
theorem LW.logs (hst : Stable K P) (h : LW w0 K P b lb lg mk g w) {g' : Lg} {f : FuncId} {args : Array Value} {v : Ending} (hc : ∀ G, WalAt w G lb b g → Calls Try.prog f args w fun e w' => e = v ∧ WPost w G lb b g' w') :
    Calls Try.prog f args w fun e w' => e = v ∧ LW w0 K P b lb lg mk g' w' := by
  obtain ⟨c, h⟩ := h
  exact (h.logs hst hc).mono fun e w' ⟨he, hp⟩ => ⟨he, c, hp⟩

theorem appendLog_plan {m : Dk} (hd : m.dead = false) (h : m.plan = []) {s : ByteArray} (h1 : m.log.size + m.tail.size + s.size ≤ 4194304) : m.appendLog s = (0, { m with calls := wrapI (m.calls + 1), tail := m.tail ++ s }) := by
  unfold Dk.appendLog
  rw [hd, Dk.strikes_plan h, if_neg Bool.false_ne_true, if_neg (by omega), if_neg Bool.false_ne_true]
  rw [← hd]
theorem bytes_nil' (a : ByteArray) : (⟨#[]⟩ : ByteArray) ++ a = a := by
  apply ByteArray.ext
  simp [ByteArray.data_append]

def Lg.flush (g : Lg) (upto : Int) : Lg := if g.tail = ⟨#[]⟩ ∨ upto < (g.flushed : Int) then g else { g with tail := ⟨#[]⟩, sure := g.recs.length }
def Lg.flushLog (g : Lg) (lg : ByteArray) (upto : Int) : ByteArray := if g.tail = ⟨#[]⟩ ∨ upto < (g.flushed : Int) then lg else lg ++ g.tail

theorem LW.flush (hst : Stable K P) (h : LW w0 K P b lb lg mk g w) (upto : Int) (hsz : lg.size + g.tail.size ≤ 4194304) :
    Calls Try.prog 47 #[.pointer (some ⟨lb, 0, none⟩), .int .u64 upto] w fun e w' => e = .returned (.int .i64 0) ∧ LW w0 K P b lb (g.flushLog lg upto) mk (g.flush upto) w' := by
  obtain ⟨c, h⟩ := h
  have e1 := appendLog_plan (m := dk c lg mk) rfl rfl (s := g.tail) (by show lg.size + 0 + _ ≤ _; omega)
  have e2 := Dk.syncLog_plan (m := { dk c lg mk with calls := wrapI (c + 1), tail := (⟨#[]⟩ : ByteArray) ++ g.tail }) rfl rfl
  have hE : ∃ c', flushE (dk c lg mk) g upto = (0, dk c' (g.flushLog lg upto) mk, g.flush upto) := by
    unfold flushE Lg.flushLog Lg.flush
    rw [if_neg (show ¬ (dk c lg mk).dead = true from Bool.false_ne_true)]
    by_cases hc : g.tail = ⟨#[]⟩ ∨ upto < (g.flushed : Int)
    · simp only [if_pos hc]
      exact ⟨c, rfl⟩
    · simp only [if_neg hc]
      unfold flushD
      rw [e1]
      refine ⟨wrapI (wrapI (c + 1) + 1), ?_⟩
      have e2' : Dk.syncLog { dk c lg mk with calls := wrapI ((dk c lg mk).calls + 1), tail := (dk c lg mk).tail ++ g.tail } = _ := e2
      dsimp only
      rw [if_neg (fun h => h rfl), e2', if_neg (fun h => h rfl)]
      rw [bytes_nil']
      rfl
  obtain ⟨c', hE⟩ := hE
  refine (h.calls (m' := dk c' (g.flushLog lg upto) mk) (g' := g.flush upto) (v := .returned (.int .i64 0)) hst fun F G h1 => ?_).mono fun e w' ⟨he, hp⟩ => ⟨he, c', hp⟩
  refine (lflush_c h1 (strikes_plan rfl) (by rw [e1]; exact strikes_plan rfl) upto).mono fun e w' ⟨he, hp⟩ => ?_
  rw [hE] at he hp
  exact ⟨he, hp⟩

theorem takenOk_short {t : ByteArray} (h : t.size < 13) (p : Nat) : takenOk t p = false := by
  unfold takenOk
  have : ¬ fits t := by unfold fits; omega
  rw [decide_eq_false this]
  rfl

theorem DW.open_ (hst : Stable K P) (h : DW w0 K P b lg mk w) (hmk : 0 ≤ mk ∧ mk < 18446744073709551616) (l : List ByteArray) (rest : ByteArray) (hs : lg = frames 1 l ++ rest) (hl : ∀ x ∈ l, 1 ≤ x.size ∧ x.size ≤ 8192) (hr : takenOk rest (endFrom 1 l) = false) :
    Calls Try.prog 38 #[.pointer (some ⟨b, 0, none⟩)] w fun e w' => ∃ lb, e = .returned (.tuple #[.pointer (some ⟨lb, 0, none⟩), .int .i64 (rest.size : Int), .int .i64 0]) ∧ LW w0 K P b lb (frames 1 l) mk (openG l mk) w' := by
  obtain ⟨c, F, h1, h2, h3, h4, h5⟩ := h
  have hok := h1.ok.logs
  have hz : (dk c lg mk).log.size + (dk c lg mk).tail.size = lg.size := rfl
  rw [hz] at hok
  have hfs := frames_size l 1
  have hls : lg.size = (frames 1 l).size + rest.size := by rw [hs, ByteArray.size_append]
  have hD : ∃ c', (if rest.size = 0 then dk c lg mk else cutD (dk c lg mk) ((endFrom 1 l : Int) - 1)) = dk c' (frames 1 l) mk := by
    by_cases hz : rest.size = 0
    · rw [if_pos hz]
      refine ⟨c, ?_⟩
      have : rest = ⟨#[]⟩ := by
        apply ByteArray.ext
        exact Array.eq_empty_of_size_eq_zero hz
      rw [hs, this, bytes_nil]
    · rw [if_neg hz, cutD_plan rfl rfl (by omega) (by show _ ≤ (lg.size : Int) + (0 : Nat); omega)]
      refine ⟨wrapI (wrapI (c + 1) + 1), ?_⟩
      have : ((dk c lg mk).log ++ (dk c lg mk).tail).extract 0 ((endFrom 1 l : Int) - 1).toNat = frames 1 l := by
        show (lg ++ (⟨#[]⟩ : ByteArray)).extract 0 _ = _
        rw [bytes_nil, hs]
        exact ext_left (by omega)
      rw [this]
      rfl
  obtain ⟨c', hD⟩ := hD
  have hO := open_c h1 rfl rfl (Nat.zero_le _) hmk l rest (by show lg ++ (⟨#[]⟩ : ByteArray) = _; rw [bytes_nil, hs]) hl hr
  rw [hD] at hO
  refine hO.mono ?_
  rintro e w' ⟨lb, he, hp⟩
  exact ⟨lb, he, c', DX.opened hst h2 h3 h4 h5 hp⟩
theorem DW.crash (hst : Stable K P) (h : DW w0 K P b lg mk w) (f : Fl) (hf : f.ok) :
    Calls Try.prog 19 #[.pointer (some ⟨b, 0, none⟩), .agg #[.int .i64 f.at_, .int .u64 f.keep, .int .i64 f.torn, .int .i64 f.bytes, .int .i64 f.log]] w fun e w' => e = .returned (.tuple #[]) ∧ ∃ c, DX w0 K P b { dk c lg mk with dead := true } w' := by
  obtain ⟨c, h⟩ := h
  have hE : (dk c lg mk).crash f = { dk c lg mk with dead := true } := by
    unfold Dk.crash
    rw [if_neg (show ¬ (dk c lg mk).dead = true from Bool.false_ne_true)]
    show Dk.fell (dk c lg mk) f = _
    unfold Dk.fell
    have : (dk c lg mk).log ++ (dk c lg mk).tail.extract 0 (cutN 0 (dk c lg mk).tail.size f.log).toNat = lg := by
      have e : (dk c lg mk).tail.extract 0 (cutN 0 (dk c lg mk).tail.size f.log).toNat = ⟨#[]⟩ := by
        show ByteArray.extract ⟨#[]⟩ 0 _ = _
        apply ByteArray.ext
        simp
      rw [e]
      exact bytes_nil lg
    rw [this]
    rfl
  refine (h.calls hst fun F h1 => crash_c h1 f hf (Nat.zero_le _)).mono ?_
  rintro e w' ⟨he, hp⟩
  rw [hE] at hp
  exact ⟨he, c, hp⟩
theorem DX.up {c : Int} (hst : Stable K P) (h : DX w0 K P b { dk c lg mk with dead := true } w) : Calls Try.prog 21 #[.pointer (some ⟨b, 0, none⟩)] w fun e w' => e = .returned (.bool true) ∧ DW w0 K P b lg mk w' :=
  (h.calls hst fun F h1 => up_c h1).mono fun e w' ⟨he, hp⟩ => ⟨he, c, hp⟩
theorem DW.of_live (h : Live w0 b (Dk.fresh 8) w) : DW w0 (fun _ => False) (fun _ => True) b ⟨#[]⟩ 0 w := by
  obtain ⟨F, h1, h2, h3⟩ := h
  exact ⟨0, F, h1, fun r hr => ⟨h2 r hr, fun h => h⟩, fun r hr => hr.elim, trivial, h3⟩
theorem stable_none : Stable (fun _ => False) (fun _ => True) := fun _ _ _ _ => trivial
end
end Go.Proofs.Ytnobiekgifjaeaa
