/-
  The disk's contracts for whoever hosts a disk: a predicate of the model and the world that every call on the disk hands on.
-/
import Derived.Test.YtnobiekgifjaeaaB2
namespace Go.Proofs.Ytnobiekgifjaeaa
open Go.RowKit

/-- S says how the world stands when the disk stands as m; a call that works on the disk alone hands it on -/
def Host (b : Nat) (S : Dk → World → Prop) : Prop := ∀ m w, S m w → ∃ F, DiskAt w F b m ∧ ∀ m' w', DPost w F b m' w' → S m' w'

section
variable {b : Nat} {S : Dk → World → Prop} {w w' : World} {m m' : Dk}
theorem Host.calls (H : Host b S) (h : S m w) {f : FuncId} {args : Array Value} {v : Ending} (hc : ∀ F, DiskAt w F b m → Calls Try.prog f args w fun e w' => e = v ∧ DPost w F b m' w') : Calls Try.prog f args w fun e w' => e = v ∧ S m' w' := by
  obtain ⟨F, h1, h2⟩ := H m w h
  exact (hc F h1).mono fun e w' ⟨he, hp⟩ => ⟨he, h2 _ _ hp⟩
theorem Host.below (H : Host b S) (h : S m w) (hb : Below w.heap.size w w') : S m w' := by
  obtain ⟨F, h1, h2⟩ := H m w h
  exact h2 _ _ ⟨F, h1.below hb, Step.below hb, More.refl F w⟩
theorem Host.ok (H : Host b S) (h : S m w) : m.ok := by obtain ⟨F, h1, _⟩ := H m w h; exact h1.ok

theorem write_H (H : Host b S) (h : S m w) (p : Int) (s : ByteArray) (hd : m.dead = false) (hs : s.size = 512) (hp : m.may p = 0) (hn : m.plan = []) (hl : m.loose.length ≤ 1000000000) :
    Calls Try.prog 17 #[.pointer (some ⟨b, 0, none⟩), .int .u32 p, .string s] w fun e w' => e = .returned (.int .i64 0) ∧ S { m with calls := wrapI (m.calls + 1), loose := m.loose ++ [⟨p, s, 0⟩] } w' := by
  have e := Dk.write_ok (m := m) hd hs hp (by rw [hn]; rfl)
  have hb := Dk.may_bd hp
  refine H.calls h fun F hF => ?_
  have := write_c hF (strikes_no b m (by rw [hn]; rfl) (by rw [hn]; simp)) p (by omega) (by omega) s hl
  rw [e] at this
  exact this
theorem sync_H (H : Host b S) (h : S m w) (hd : m.dead = false) (hn : m.plan = []) (hl : m.loose.length ≤ 1000000000) :
    Calls Try.prog 25 #[.pointer (some ⟨b, 0, none⟩)] w fun e w' => e = .returned (.int .i64 0) ∧ S { Dk.lands { m with calls := wrapI (m.calls + 1) } m.loose with loose := [] } w' := by
  have e := Dk.sync_ok (m := m) hd (by rw [hn]; rfl)
  refine H.calls h fun F hF => ?_
  have := sync_c hF (strikes_no b m (by rw [hn]; rfl) (by rw [hn]; simp)) hl
  rw [e] at this
  exact this
theorem appendLog_H (H : Host b S) (h : S m w) (s : ByteArray) (hd : m.dead = false) (hn : m.plan = []) (hs : m.log.size + m.tail.size + s.size ≤ 4194304) :
    Calls Try.prog 23 #[.pointer (some ⟨b, 0, none⟩), .string s] w fun e w' => e = .returned (.int .i64 0) ∧ S { m with calls := wrapI (m.calls + 1), tail := m.tail ++ s } w' := by
  have e := Dk.appendLog_ok (m := m) (s := s) hd (by rw [hn]; rfl) hs
  refine H.calls h fun F hF => ?_
  have := appendLog_c hF (strikes_no b m (by rw [hn]; rfl) (by rw [hn]; simp)) s (by omega)
  rw [e] at this
  exact this
theorem syncLog_H (H : Host b S) (h : S m w) (hd : m.dead = false) (hn : m.plan = []) :
    Calls Try.prog 24 #[.pointer (some ⟨b, 0, none⟩)] w fun e w' => e = .returned (.int .i64 0) ∧ S { m with calls := wrapI (m.calls + 1), log := m.log ++ m.tail, tail := ⟨#[]⟩ } w' := by
  have e := Dk.syncLog_ok (m := m) hd (by rw [hn]; rfl)
  refine H.calls h fun F hF => ?_
  have := syncLog_c hF (strikes_no b m (by rw [hn]; rfl) (by rw [hn]; simp))
  rw [e] at this
  exact this
theorem crash_H (H : Host b S) (h : S m w) (f : Fl) (hf : f.ok) (hl : m.loose.length ≤ 1000000000) :
    Calls Try.prog 19 #[.pointer (some ⟨b, 0, none⟩), .agg #[.int .i64 f.at_, .int .u64 f.keep, .int .i64 f.torn, .int .i64 f.bytes, .int .i64 f.log]] w fun e w' => e = .returned (.tuple #[]) ∧ S (m.crash f) w' :=
  H.calls h fun _ hF => crash_c hF f hf hl
theorem up_H (H : Host b S) (h : S m w) : Calls Try.prog 21 #[.pointer (some ⟨b, 0, none⟩)] w fun e w' => e = .returned (.bool m.dead) ∧ S { m with dead := false } w' :=
  H.calls h fun _ hF => up_c hF
theorem dead_H (H : Host b S) (h : S m w) : Calls Try.prog 20 #[.pointer (some ⟨b, 0, none⟩)] w fun e w' => e = .returned (.bool m.dead) ∧ w = w' := by
  obtain ⟨F, hF, _⟩ := H m w h
  exact dead_c hF
theorem read_H (H : Host b S) (h : S m w) (p : Int) (hd : m.dead = false) (hp : m.may p = 0) (hl : m.loose.length ≤ 1000000000) :
    Calls Try.prog 22 #[.pointer (some ⟨b, 0, none⟩), .int .u32 p] w fun e w' => e = .returned (.tuple #[.string (m.read p), .int .i64 0]) ∧ S m w' := by
  obtain ⟨F, hF, _⟩ := H m w h
  have hb := Dk.may_bd hp
  have := read_c hF p (by omega) (by omega) hl
  rw [Dk.readE_ok hd hp] at this
  exact this.mono fun e w' ⟨he, hb⟩ => ⟨he, H.below h hb⟩
theorem readLog_H (H : Host b S) (h : S m w) (hd : m.dead = false) :
    Calls Try.prog 26 #[.pointer (some ⟨b, 0, none⟩)] w fun e w' => e = .returned (.tuple #[.string (m.log ++ m.tail), .int .i64 0]) ∧ S m w' := by
  obtain ⟨F, hF, _⟩ := H m w h
  exact (readLog_c hF hd).mono fun e w' ⟨he, hb⟩ => ⟨he, H.below h hb⟩
theorem page_H (H : Host b S) (h : S m w) (c : UInt8) : Calls Try.prog 18 #[.int .u8 c.toNat] w fun e w' => e = .returned (.string (pageOf c)) ∧ S m w' :=
  (page_c c w).mono fun e w' ⟨he, hb⟩ => ⟨he, H.below h hb⟩
theorem zeros_H (H : Host b S) (h : S m w) : Calls Try.prog 16 #[] w fun e w' => e = .returned (.string blank) ∧ S m w' :=
  (zeros_c w).mono fun e w' ⟨he, hb⟩ => ⟨he, H.below h hb⟩
end

/-- the disk lives at b, and block g, none of its own, holds o -/
def LiveK (w0 : World) (b : Nat) (g : Nat) (o : Obj) (m : Dk) (w : World) : Prop := ∃ F, DiskAt w F b m ∧ (∀ r, F r → w0.heap.size ≤ r) ∧ ¬ F g ∧ Below w0.heap.size w0 w ∧ w.heap[g]? = some o

section
variable {w0 w w' : World} {b g : Nat} {o o' : Obj} {m m' : Dk}
theorem LiveK.start (h : Live w0 b m w) (o : Obj) : LiveK w0 b w.heap.size o m (w.alloc o) := by
  obtain ⟨F, h1, h2, h3⟩ := h
  refine ⟨F, h1.below ((Below.refl _ _).alloc (Nat.le_refl _) _), h2, fun hf => ?_, h3.alloc h3.size _, heap_alloc_new w o⟩
  have := h1.lt _ hf
  omega
theorem LiveK.host (w0 : World) (b g : Nat) (o : Obj) : Host b (LiveK w0 b g o) := by
  intro m w ⟨F, h1, h2, h3, h4, h5⟩
  refine ⟨F, h1, fun m' w' ⟨F', p1, p2, p3⟩ => ⟨F', p1, fun r hr => ?_, fun hr => ?_, h4.trans (p2.belowB h2 h4.size), ?_⟩⟩
  · rcases p3 r hr with h | h
    · exact h2 r h
    · have := h4.size; omega
  · have hg : g < w.heap.size := (Array.getElem?_eq_some_iff.1 h5).1
    rcases p3 g hr with h | h
    · exact h3 h
    · omega
  · have hg : g < w.heap.size := (Array.getElem?_eq_some_iff.1 h5).1
    exact (p2.block g hg h3).trans h5
theorem LiveK.turn (h : LiveK w0 b g o m w) (hw : ∀ r, r ≠ g → w'.heap[r]? = w.heap[r]?) (hg : w'.heap[g]? = some o') (h0 : w0.heap.size ≤ g) (hs : w.heap.size ≤ w'.heap.size) (ho : w'.os = w.os) (ht : w'.tape = w.tape) (hu : w'.output = w.output) : LiveK w0 b g o' m w' := by
  obtain ⟨F, h1, h2, h3, h4, h5⟩ := h
  exact ⟨F, h1.keep (fun r hr => hw r (fun e => h3 (e ▸ hr))) hs, h2, h3, h4.trans ⟨ho, ht, hu, hs, fun k hk => hw k (by omega)⟩, hg⟩
theorem LiveK.store {cs : Array Value} {t : TypeId} (h : LiveK w0 b g (.cells cs t (0, 0)) m w) (h0 : w0.heap.size ≤ g) (i : Nat) (u : Value) : LiveK w0 b g (.cells (cs.setIfInBounds i u) t (0, 0)) m (w.setCell ⟨g, i, none⟩ u) := by
  have hb : Blk w g t cs := by obtain ⟨F, _, _, _, _, h5⟩ := h; exact h5
  exact h.turn (fun r hr => Below.heap_setCell _ _ _ r hr) (hb.set_ i u) h0 (by simp [World.setCell]) rfl rfl rfl
theorem LiveK.grown (h : LiveK w0 b g o m w) (hg : w.grownBy w' (some g)) (ho : w'.heap[g]? = some o') (h0 : w0.heap.size ≤ g) : LiveK w0 b g o' m w' := by
  obtain ⟨F, h1, h2, h3, h4, h5⟩ := h
  exact ⟨F, h1.keep (fun r hr => hg.block r (h1.lt r hr) (fun e => h3 (by cases e; exact hr))) hg.size, h2, h3, h4.trans ⟨hg.os, hg.tape, hg.output, hg.size, fun k hk => hg.block k (by have := h4.size; omega) (fun e => by cases e; omega)⟩, ho⟩
theorem LiveK.below (h : LiveK w0 b g o m w) (hb : Below w.heap.size w w') : LiveK w0 b g o m w' := (LiveK.host w0 b g o).below h hb
theorem LiveK.base (h : LiveK w0 b g o m w) : Below w0.heap.size w0 w := by obtain ⟨F, _, _, _, h4, _⟩ := h; exact h4
theorem LiveK.blk (h : LiveK w0 b g o m w) : w.heap[g]? = some o := by obtain ⟨F, _, _, _, _, h5⟩ := h; exact h5
end
end Go.Proofs.Ytnobiekgifjaeaa
