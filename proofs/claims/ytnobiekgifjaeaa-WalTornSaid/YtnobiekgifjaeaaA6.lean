/-
  The disk: the log's calls, writes, the mark.
-/
import Derived.Test.YtnobiekgifjaeaaA5
namespace Go.Proofs.Ytnobiekgifjaeaa
open Go.RowKit

def Dk.appendLog (m : Dk) (s : ByteArray) : Int × Dk :=
  if m.dead then (7, m) else if (4194304 : Int) - m.log.size - m.tail.size < s.size then (20, m) else if m.strikes.1 then (7, m.strikes.2) else (0, { m.strikes.2 with tail := m.strikes.2.tail ++ s })

def Dk.syncLog (m : Dk) : Int × Dk :=
  if m.dead then (7, m) else if m.strikes.1 then (7, m.strikes.2) else (0, { m.strikes.2 with log := m.strikes.2.log ++ m.strikes.2.tail, tail := ⟨#[]⟩ })

theorem Dk.strikes_no {m : Dk} (h : m.strikes.1 = false) : m.strikes.2 = { m with calls := wrapI (m.calls + 1) } := by
  unfold Dk.strikes at *
  split
  · rename_i heq; rw [heq] at h; cases h
  · rfl

theorem DPost.refl {w : World} {F : Nat → Prop} {b : Nat} {m : Dk} (h : DiskAt w F b m) : DPost w F b m w := ⟨F, h, Step.refl F w, More.refl F w⟩
theorem DPost.trans {w w' w'' : World} {F F' : Nat → Prop} {b : Nat} {m : Dk} (hs : Step F w w') (hm : More F F' w) (h : DPost w' F' b m w'') : DPost w F b m w'' := by
  obtain ⟨F2, h1, h2, h3⟩ := h
  exact ⟨F2, h1, hs.trans hm h2, hm.trans hs.size h3⟩

section
variable {w : World} {F : Nat → Prop} {b : Nat} {m : Dk}

set_option maxRecDepth 100000 in
set_option maxHeartbeats 400000 in
theorem appendLog_c (h : DiskAt w F b m) (hst : StrikesOk b m) (s : ByteArray) (hsz : s.size ≤ 9223372036854775807) : Calls Try.prog 23 #[.pointer (some ⟨b, 0, none⟩), .string s] w
    fun e w' => e = .returned (.int .i64 (m.appendLog s).1) ∧ DPost w F b (m.appendLog s).2 w' := by
  have hD := dead_c h
  have hS := hst w F h
  have HP := Lib.hid (DPost.refl h)
  have hlg := h.ok.logs
  by_cases hd : m.dead = true
  · have e1 : m.appendLog s = (7, m) := by unfold Dk.appendLog; rw [if_pos hd]
    rw [e1]
    rw [hd] at hD
    have HD := Lib.hid hD
    clear hD hS hst h hd e1
    go_enter Try.func23, Try.ntmps23
    go_wp2_with (go_at_call 20; refine HD.out.mono ?_; rintro e w' ⟨rfl, rfl⟩)
    go_ret
    exact ⟨rfl, HP.out⟩
  have hd' : m.dead = false := by simpa using hd
  rw [hd'] at hD
  have HD := Lib.hid hD
  obtain ⟨mb, lv, pv, h⟩ := h
  have c4 := h.cells.2.2.2.2.1
  have c5 := h.cells.2.2.2.2.2.1
  have H := Lib.hid h
  have HT := Lib.hid hst
  by_cases hb : (4194304 : Int) - m.log.size - m.tail.size < s.size
  · have e1 : m.appendLog s = (20, m) := by unfold Dk.appendLog; rw [if_neg hd, if_pos hb]
    rw [e1]
    clear hD hS hst h hd e1 hd'
    go_enter Try.func23, Try.ntmps23
    go_wp2_with (go_at_call 20; refine HD.out.mono ?_; rintro e w' ⟨rfl, rfl⟩)
    go_quiet (fail)
    go_wp2
    go_ret
    exact ⟨rfl, DPost.mk' (H.out.drewN _) ((Step.refl F w).drewN _)⟩
  · have HR : ∀ n, Hid (Calls Try.prog 60 #[.pointer (some ⟨b, 0, none⟩)] (w.drewN n) fun e w' => e = .returned (.bool m.strikes.1) ∧ DPost (w.drewN n) F b m.strikes.2 w') := fun n => HT.out _ F ⟨mb, lv, pv, H.out.drewN n⟩
    cases hq : m.strikes.1 with
    | true =>
      have e1 : m.appendLog s = (7, m.strikes.2) := by unfold Dk.appendLog; rw [if_neg hd, if_neg hb, if_pos hq]
      rw [e1]
      rw [hq] at HR
      clear hD hS hst h hd e1 hd'
      go_enter Try.func23, Try.ntmps23
      go_wp2_with (go_at_call 20; refine HD.out.mono ?_; rintro e w' ⟨rfl, rfl⟩)
      go_quiet (fail)
      go_wp2_with (go_at_call 60; refine (HR _).out.mono ?_; rintro e w1 ⟨rfl, hP⟩)
      go_ret
      exact ⟨rfl, DPost.trans ((Step.refl F w).drewN _) (More.refl F w) hP⟩
    | false =>
      have e2 := Dk.strikes_no hq
      have e1 : m.appendLog s = (0, { m with calls := wrapI (m.calls + 1), tail := m.tail ++ s }) := by unfold Dk.appendLog; rw [if_neg hd, if_neg hb, hq, e2]; rfl
      rw [e1]
      rw [hq, e2] at HR
      clear e2
      clear hD hS hst h hd e1 hd' hq
      go_enter Try.func23, Try.ntmps23
      go_wp2_with (go_at_call 20; refine HD.out.mono ?_; rintro e w' ⟨rfl, rfl⟩)
      go_quiet (fail)
      go_wp2_with (fail)
      refine (HR _).out.mono ?_
      rintro e w1 ⟨rfl, hP⟩
      obtain ⟨F1, ⟨mb1, lv1, pv1, h1⟩, hs1, hm1⟩ := hP
      have d5 := h1.cells.2.2.2.2.2.1
      have g5 := h1.cells.2.2.2.2.2.2.2.2.2 5
      have hcat : m.tail.size + s.size ≤ 9223372036854775807 := by omega
      have H1 := Lib.hid h1
      have HS1 := Lib.hid hs1
      have HM1 := Lib.hid hm1
      have hn := h1.set 5 (.string (m.tail ++ s)) { m with calls := wrapI (m.calls + 1), tail := m.tail ++ s } rfl rfl rfl rfl ⟨h1.ok.room1, h1.ok.room2, h1.ok.calls1, h1.ok.calls2, by show m.log.size + (m.tail ++ s).size ≤ _; rw [ByteArray.size_append]; omega, h1.ok.loose, h1.ok.pages⟩
      have HN := Lib.hid hn
      clear h1 hs1 hm1 hn
      simp only [] at d5
      go_wp2
      go_ret
      exact ⟨rfl, DPost.trans ((Step.refl F w).drewN _) (More.refl F w) ⟨F1, ⟨mb1, lv1, pv1, HN.out⟩, HS1.out.trans HM1.out ((Step.refl F1 w1).setCell (.inl H1.out.fb) _), HM1.out⟩⟩
end
end Go.Proofs.Ytnobiekgifjaeaa
