/-
  The disk while it lives above a world: contracts in a form for callers; layer 2 is awake.
-/
import Derived.Test.YtnobiekgifjaeaaB0
namespace Go.Proofs.Ytnobiekgifjaeaa
open Go.RowKit

theorem Dk.write_ok {m : Dk} {p : Int} {s : ByteArray} (hd : m.dead = false) (hs : s.size = 512) (hp : m.may p = 0) (hn : findAt m.calls m.plan = none) : m.write p s = (0, { m with calls := wrapI (m.calls + 1), loose := m.loose ++ [⟨p, s, 0⟩] }) := by
  have e : m.strikes = (false, { m with calls := wrapI (m.calls + 1) }) := by unfold Dk.strikes; rw [hn]
  unfold Dk.write
  rw [if_neg (by simp [hd]), if_neg (by omega), if_neg (by omega), e]
  rfl
theorem Dk.sync_ok {m : Dk} (hd : m.dead = false) (hn : findAt m.calls m.plan = none) : m.sync = (0, { Dk.lands { m with calls := wrapI (m.calls + 1) } m.loose with loose := [] }) := by
  have e : m.strikes = (false, { m with calls := wrapI (m.calls + 1) }) := by unfold Dk.strikes; rw [hn]
  unfold Dk.sync
  rw [if_neg (by simp [hd]), e]
  rfl
theorem Dk.appendLog_ok {m : Dk} {s : ByteArray} (hd : m.dead = false) (hn : findAt m.calls m.plan = none) (hs : m.log.size + m.tail.size + s.size ≤ 4194304) : m.appendLog s = (0, { m with calls := wrapI (m.calls + 1), tail := m.tail ++ s }) := by
  have e : m.strikes = (false, { m with calls := wrapI (m.calls + 1) }) := by unfold Dk.strikes; rw [hn]
  unfold Dk.appendLog
  rw [if_neg (by simp [hd]), if_neg (by omega), e]
  rfl
theorem Dk.syncLog_ok {m : Dk} (hd : m.dead = false) (hn : findAt m.calls m.plan = none) : m.syncLog = (0, { m with calls := wrapI (m.calls + 1), log := m.log ++ m.tail, tail := ⟨#[]⟩ }) := by
  have e : m.strikes = (false, { m with calls := wrapI (m.calls + 1) }) := by unfold Dk.strikes; rw [hn]
  unfold Dk.syncLog
  rw [if_neg (by simp [hd]), e]
  rfl
theorem Dk.readE_ok {m : Dk} {p : Int} (hd : m.dead = false) (hp : m.may p = 0) : m.readE p = (m.read p, 0) := by
  unfold Dk.readE
  rw [if_neg (by simp [hd]), if_neg (by omega)]

theorem crash_c {w : World} {F : Nat → Prop} {b : Nat} {m : Dk} (h : DiskAt w F b m) (f : Fl) (hf : f.ok) (hn : m.loose.length ≤ 1000000000) : Calls Try.prog 19 #[.pointer (some ⟨b, 0, none⟩), .agg #[.int .i64 f.at_, .int .u64 f.keep, .int .i64 f.torn, .int .i64 f.bytes, .int .i64 f.log]] w
    fun e w' => e = .returned (.tuple #[]) ∧ DPost w F b (m.crash f) w' := by
  by_cases hd : m.dead = true
  · have e : m.crash f = m := by unfold Dk.crash; rw [if_pos hd]
    rw [e]
    obtain ⟨mb, lv, pv, h⟩ := h
    have hc : ∀ W, DiskIn W F b mb lv pv m → Hid (Calls Try.prog 20 #[.pointer (some ⟨b, 0, none⟩)] W fun e w' => e = .returned (.bool true) ∧ W = w') := fun W hW => by
      have := dead_c (⟨mb, lv, pv, hW⟩ : DiskAt W F b m)
      rw [hd] at this
      exact this
    have H := Lib.hid h
    obtain ⟨fa, fk, ft, fb, fl⟩ := f
    simp only []
    clear h hd e
    go_enter Try.func19, Try.ntmps19
    go_wp2_with (go_at_call 20; refine (hc _ (H.out.below ((Below.refl _ _).alloc (Nat.le_refl _) _))).mono ?_; rintro e w' ⟨rfl, rfl⟩)
    first | go_end0 | (simp only [Exit.inBlock, Exit.then]; refine bodyPost_ret (results_none rfl _ _ _) rfl ?_) | refine bodyPost_ret (results_none rfl _ _ _) rfl ?_
    exact ⟨rfl, DPost.mk' (H.out.below ((Below.refl _ _).alloc (Nat.le_refl _) _)) ((Step.refl F w).alloc _)⟩
  · obtain ⟨mb, lv, pv, h⟩ := h
    exact crash_live h f hf (by simpa using hd) hn

/-- the disk m lives at block b; below w0 nothing has turned -/
def Live (w0 : World) (b : Nat) (m : Dk) (w : World) : Prop := ∃ F, DiskAt w F b m ∧ (∀ r, F r → w0.heap.size ≤ r) ∧ Below w0.heap.size w0 w

section
variable {w0 w w' : World} {b : Nat} {m m' : Dk}
theorem Live.of_post (h : Live w0 b m w) {F : Nat → Prop} (hF : ∀ r, F r → w0.heap.size ≤ r) (hb : Below w0.heap.size w0 w) (hp : DPost w F b m' w') : Live w0 b m' w' := by
  obtain ⟨F', h1, h2, h3⟩ := hp
  refine ⟨F', h1, fun r hr => ?_, hb.trans (h2.belowB hF hb.size)⟩
  rcases h3 r hr with h4 | h4
  · exact hF r h4
  · have := hb.size; omega
theorem Live.calls (h : Live w0 b m w) {f : FuncId} {args : Array Value} {v : Ending} (hc : ∀ F, DiskAt w F b m → Calls Try.prog f args w fun e w' => e = v ∧ DPost w F b m' w') : Calls Try.prog f args w fun e w' => e = v ∧ Live w0 b m' w' := by
  obtain ⟨F, h1, h2, h3⟩ := id h
  exact (hc F h1).mono fun e w' ⟨he, hp⟩ => ⟨he, h.of_post h2 h3 hp⟩
theorem Live.below (h : Live w0 b m w) (hb : Below w.heap.size w w') : Live w0 b m w' := by
  obtain ⟨F, h1, h2, h3⟩ := h
  exact ⟨F, h1.below hb, h2, h3.trans (hb.mono h3.size)⟩
theorem Live.ok (h : Live w0 b m w) : m.ok := by obtain ⟨F, h1, _⟩ := h; exact h1.ok
theorem Live.base (h : Live w0 b m w) : Below w0.heap.size w0 w := by obtain ⟨F, _, _, h1⟩ := h; exact h1
end

theorem fresh_live (w : World) (n : Int) (h1 : 8 ≤ n) (h2 : n ≤ 2048) : Live w (w.heap.size + 1) (Dk.fresh n) ((w.alloc (.map #[] 0)).alloc (.cells #[.int .i64 n, .map (some w.heap.size), .int .u64 0, .slice none 0 0, .string ⟨#[]⟩, .string ⟨#[]⟩, .int .i64 0, .slice none 0 0, .bool false] 106)) := by
  refine ⟨fun r => r = w.heap.size ∨ r = w.heap.size + 1, ⟨w.heap.size, .slice none 0 0, .slice none 0 0, ?_⟩, fun r hr => by omega, ((Below.refl _ _).alloc (Nat.le_refl _) _).alloc (by simp) _⟩
  refine ⟨?_, ?_, World.ownsRow_nil _ _ _ _, World.ownsRow_nil _ _ _ _, .inr rfl, .inl rfl, by simp [Value.ownBlock], by simp [Value.ownBlock], Dk.fresh_ok n h1 h2, fun r hr => by simp; omega⟩
  · have := Blk.new (w.alloc (.map #[] 0)) 106 #[.int .i64 n, .map (some w.heap.size), .int .u64 0, .slice none 0 0, .string ⟨#[]⟩, .string ⟨#[]⟩, .int .i64 0, .slice none 0 0, .bool false]
    have e : (w.alloc (.map #[] 0)).heap.size = w.heap.size + 1 := by simp
    rw [e] at this
    exact this
  · have h3 : MapI .u32 (w.alloc (.map #[] 0)) w.heap.size (fun _ => none) := MapI.made w
    exact h3.same (Below.heap_alloc _ _ _ (by simp))

theorem new_c (w : World) (n : Int) (h1 : 8 ≤ n) (h2 : n ≤ 2048) : Calls Try.prog 14 #[.int .i64 n] w fun e w' => e = .returned (.tuple #[.pointer (some ⟨w.heap.size + 1, 0, none⟩), .int .i64 0]) ∧ Live w (w.heap.size + 1) (Dk.fresh n) w' := by
  have hmm := @run_makeMap Try.prog
  have HF := Lib.hid (fresh_live w n h1 h2)
  go_enter Try.func14, Try.ntmps14
  go_wp2
  go_ret2
  exact ⟨rfl, HF.out⟩

section
variable {w0 w w' : World} {b : Nat} {m m' : Dk}
theorem write_L (h : Live w0 b m w) (p : Int) (s : ByteArray) (hd : m.dead = false) (hs : s.size = 512) (hp : m.may p = 0) (hn : m.plan = []) (hl : m.loose.length ≤ 1000000000) :
    Calls Try.prog 17 #[.pointer (some ⟨b, 0, none⟩), .int .u32 p, .string s] w fun e w' => e = .returned (.int .i64 0) ∧ Live w0 b { m with calls := wrapI (m.calls + 1), loose := m.loose ++ [⟨p, s, 0⟩] } w' := by
  have e := Dk.write_ok (m := m) hd hs hp (by rw [hn]; rfl)
  have hb := Dk.may_bd hp
  refine h.calls fun F hF => ?_
  have := write_c hF (strikes_no b m (by rw [hn]; rfl) (by rw [hn]; simp)) p (by omega) (by omega) s hl
  rw [e] at this
  exact this
theorem sync_L (h : Live w0 b m w) (hd : m.dead = false) (hn : m.plan = []) (hl : m.loose.length ≤ 1000000000) :
    Calls Try.prog 25 #[.pointer (some ⟨b, 0, none⟩)] w fun e w' => e = .returned (.int .i64 0) ∧ Live w0 b { Dk.lands { m with calls := wrapI (m.calls + 1) } m.loose with loose := [] } w' := by
  have e := Dk.sync_ok (m := m) hd (by rw [hn]; rfl)
  refine h.calls fun F hF => ?_
  have := sync_c hF (strikes_no b m (by rw [hn]; rfl) (by rw [hn]; simp)) hl
  rw [e] at this
  exact this
theorem appendLog_L (h : Live w0 b m w) (s : ByteArray) (hd : m.dead = false) (hn : m.plan = []) (hs : m.log.size + m.tail.size + s.size ≤ 4194304) :
    Calls Try.prog 23 #[.pointer (some ⟨b, 0, none⟩), .string s] w fun e w' => e = .returned (.int .i64 0) ∧ Live w0 b { m with calls := wrapI (m.calls + 1), tail := m.tail ++ s } w' := by
  have e := Dk.appendLog_ok (m := m) (s := s) hd (by rw [hn]; rfl) hs
  refine h.calls fun F hF => ?_
  have := appendLog_c hF (strikes_no b m (by rw [hn]; rfl) (by rw [hn]; simp)) s (by omega)
  rw [e] at this
  exact this
theorem syncLog_L (h : Live w0 b m w) (hd : m.dead = false) (hn : m.plan = []) :
    Calls Try.prog 24 #[.pointer (some ⟨b, 0, none⟩)] w fun e w' => e = .returned (.int .i64 0) ∧ Live w0 b { m with calls := wrapI (m.calls + 1), log := m.log ++ m.tail, tail := ⟨#[]⟩ } w' := by
  have e := Dk.syncLog_ok (m := m) hd (by rw [hn]; rfl)
  refine h.calls fun F hF => ?_
  have := syncLog_c hF (strikes_no b m (by rw [hn]; rfl) (by rw [hn]; simp))
  rw [e] at this
  exact this
theorem crash_L (h : Live w0 b m w) (f : Fl) (hf : f.ok) (hl : m.loose.length ≤ 1000000000) :
    Calls Try.prog 19 #[.pointer (some ⟨b, 0, none⟩), .agg #[.int .i64 f.at_, .int .u64 f.keep, .int .i64 f.torn, .int .i64 f.bytes, .int .i64 f.log]] w fun e w' => e = .returned (.tuple #[]) ∧ Live w0 b (m.crash f) w' :=
  h.calls fun _ hF => crash_c hF f hf hl
theorem up_L (h : Live w0 b m w) : Calls Try.prog 21 #[.pointer (some ⟨b, 0, none⟩)] w fun e w' => e = .returned (.bool m.dead) ∧ Live w0 b { m with dead := false } w' :=
  h.calls fun _ hF => up_c hF
theorem dead_L (h : Live w0 b m w) : Calls Try.prog 20 #[.pointer (some ⟨b, 0, none⟩)] w fun e w' => e = .returned (.bool m.dead) ∧ w = w' := by
  obtain ⟨F, hF, _⟩ := h
  exact dead_c hF
theorem read_L (h : Live w0 b m w) (p : Int) (hd : m.dead = false) (hp : m.may p = 0) (hl : m.loose.length ≤ 1000000000) :
    Calls Try.prog 22 #[.pointer (some ⟨b, 0, none⟩), .int .u32 p] w fun e w' => e = .returned (.tuple #[.string (m.read p), .int .i64 0]) ∧ Live w0 b m w' := by
  obtain ⟨F, hF, _⟩ := id h
  have hb := Dk.may_bd hp
  have := read_c hF p (by omega) (by omega) hl
  rw [Dk.readE_ok hd hp] at this
  exact this.mono fun e w' ⟨he, hb⟩ => ⟨he, h.below hb⟩
theorem readLog_L (h : Live w0 b m w) (hd : m.dead = false) :
    Calls Try.prog 26 #[.pointer (some ⟨b, 0, none⟩)] w fun e w' => e = .returned (.tuple #[.string (m.log ++ m.tail), .int .i64 0]) ∧ Live w0 b m w' := by
  obtain ⟨F, hF, _⟩ := id h
  exact (readLog_c hF hd).mono fun e w' ⟨he, hb⟩ => ⟨he, h.below hb⟩
theorem page_L (h : Live w0 b m w) (c : UInt8) : Calls Try.prog 18 #[.int .u8 c.toNat] w fun e w' => e = .returned (.string (pageOf c)) ∧ Live w0 b m w' :=
  (page_c c w).mono fun e w' ⟨he, hb⟩ => ⟨he, h.below hb⟩
end
end Go.Proofs.Ytnobiekgifjaeaa
