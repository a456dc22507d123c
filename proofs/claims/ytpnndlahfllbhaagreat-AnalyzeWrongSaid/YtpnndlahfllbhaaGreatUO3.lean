/-
  The walks of analyze's work.check and work.record.
-/
import Derived.Test.YtpnndlahfllbhaaGreatUO2
import Derived.Test.YtpnndlahfllbhaaGreatUN5
namespace Go.Proofs.YtpnndlahfllbhaaGreat
open Go.RowKit
attribute [local go_sem ↓] Go.wp_at_zero Go.wp_at_succ

theorem takes_len2 : ∀ (l : List Ts) (a : An), (l.foldl An.take a).txs.length ≤ a.txs.length + l.length ∧ (l.foldl An.take a).dirty = a.dirty
  | [], a => ⟨by simp, rfl⟩
  | t :: l, a => by
    obtain ⟨h1, h2⟩ := takes_len2 l (a.take t)
    have g1 : (a.take t).txs.length ≤ a.txs.length + 1 := by
      unfold An.take
      simp only
      split
      · omega
      · exact putL_length _ _ _
    rw [List.foldl_cons]
    exact ⟨by simp only [List.length_cons]; omega, h2⟩
theorem pages_len2 : ∀ (l : List (Nat × Nat)) (a : An), (l.foldl An.page a).dirty.length ≤ a.dirty.length + l.length
  | [], a => by simp
  | t :: l, a => by
    have h1 := pages_len2 l (a.page t)
    have g : (a.page t).dirty.length ≤ a.dirty.length + 1 := by
      show (dirtyE t a.dirty).length ≤ _
      unfold dirtyE
      split
      · exact putL_length _ _ _
      · split
        · exact putL_length _ _ _
        · omega
    rw [List.foldl_cons]
    simp only [List.length_cons]
    omega
/-- while a checkpoint is taken in: the record's copy -/
structure CkSt (w : World) (wb mb db : Nat) (a : An) (rc : Array Value) (W : World) : Prop where
  an : AnIn W wb mb db a
  step : Step (GA wb mb db) w W
  box : Blk W w.heap.size 63 rc
section
variable {w W W' : World} {wb mb db : Nat} {a a' : An} {rc : Array Value}
theorem CkSt.below (h : CkSt w wb mb db a rc W) (hb : Below W.heap.size W W') : CkSt w wb mb db a rc W' := ⟨h.an.below hb, h.step.trans (More.refl _ _) (Step.below hb), h.box.same (hb.block _ h.box.lt)⟩
theorem CkSt.drewN (h : CkSt w wb mb db a rc W) (n : Nat) : CkSt w wb mb db a rc (W.drewN n) := h.below (below_drewN _ _)
theorem CkSt.setMost (h : CkSt w wb mb db a rc W) (hlt : wb < w.heap.size) (n : Nat) : CkSt w wb mb db { a with most := n } rc (W.setCell ⟨wb, 5, none⟩ (.int .i64 (n : Int))) :=
  ⟨h.an.setMost n, h.step.setCell (.inl (.inl rfl)) _, h.box.same (Below.heap_setCell _ _ _ _ (by simp only; omega))⟩
theorem CkSt.putTxs (h : CkSt w wb mb db a rc W) (hlt : mb < w.heap.size) {l : List (Nat × Ts)} (hg : W.grownBy W' (some mb)) (hm : MapT W' mb (mapL_ tsV l)) : CkSt w wb mb db { a with txs := l } rc W' :=
  ⟨h.an.putTxs hg hm, h.step.trans (More.refl _ _) (step_grown (.inl rfl) hg), h.box.same (hg.block _ h.box.lt (fun e => by have := Option.some.inj e; omega))⟩
theorem CkSt.putDirty (h : CkSt w wb mb db a rc W) (hlt : db < w.heap.size) {l : List (Nat × Nat)} (hg : W.grownBy W' (some db)) (hm : MapL W' db (mapL_ lsnV l)) : CkSt w wb mb db { a with dirty := l } rc W' :=
  ⟨h.an.putDirty hg hm, h.step.trans (More.refl _ _) (step_grown (.inr rfl) hg), h.box.same (hg.block _ h.box.lt (fun e => by have := Option.some.inj e; omega))⟩
/-- what a slice holds stays, if it lies elsewhere -/
theorem RdC.step {α : Type} {size : Nat} {f : α → List Value} {v : Value} {l : List α} (h : RdC size f w v l) (hs : Step (GA wb mb db) w W) (hn : ∀ k, v.ownBlock = some k → k ≠ wb ∧ k ≠ mb ∧ k ≠ db) : RdC size f W v l := by
  by_cases hl : l = []
  · subst hl
    rcases h with ⟨_, a, c, rfl⟩ | ⟨b, off, cap, rfl, _⟩
    · exact RdC.nil _ _
    · exact RdC.nil _ _
  · exact h.same (fun k hk => hs.block k (h.lt hl k hk) (by
      obtain ⟨h1, h2, h3⟩ := hn k hk
      rintro (e | e | e)
      · exact h1 e
      · exact h2 e
      · exact h3 e))
end
end Go.Proofs.YtpnndlahfllbhaaGreat
