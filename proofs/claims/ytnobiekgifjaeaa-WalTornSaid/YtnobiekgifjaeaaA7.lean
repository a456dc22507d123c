/-
  The disk: the log is synced and cut.
-/
import Derived.Test.YtnobiekgifjaeaaA6
namespace Go.Proofs.Ytnobiekgifjaeaa
open Go.RowKit

def Dk.cutLog (m : Dk) (n : Int) : Int × Dk :=
  if m.dead then (7, m) else if n < 0 ∨ (m.log.size : Int) + m.tail.size < n then (1, m) else if m.strikes.1 then (7, m.strikes.2) else (0, { m.strikes.2 with log := (m.strikes.2.log ++ m.strikes.2.tail).extract 0 n.toNat, tail := ⟨#[]⟩ })

section
variable {w w1 w' : World} {F F1 : Nat → Prop} {b mb : Nat} {lv pv : Value} {m : Dk}

/-- the log and its tail are rewritten -/
theorem DiskIn.logs (h : DiskIn w F b mb lv pv m) (l t : ByteArray) (hs : l.size + t.size ≤ 4194304) : DiskIn ((w.setCell ⟨b, 4, none⟩ (.string l)).setCell ⟨b, 5, none⟩ (.string t)).drew F b mb lv pv { m with log := l, tail := t } ∧ Step F w ((w.setCell ⟨b, 4, none⟩ (.string l)).setCell ⟨b, 5, none⟩ (.string t)).drew := by
  have ho : ∀ r, r ≠ b → ((w.setCell ⟨b, 4, none⟩ (.string l)).setCell ⟨b, 5, none⟩ (.string t)).drew.heap[r]? = w.heap[r]? := fun r hr => (Below.heap_setCell _ _ _ r hr).trans (Below.heap_setCell _ _ _ r hr)
  refine ⟨h.anew (fun r hr _ => ho r hr) (by simp [World.drew, World.setCell]) ((h.blk.set_ 4 (.string l)).set_ 5 (.string t)) rfl (own_same h.loose (fun g hg => ho g (h.loose_ne g hg))) (own_same h.plan (fun g hg => ho g (h.plan_ne g hg))) (fun _ h => h) h.fl h.fp ⟨h.ok.room1, h.ok.room2, h.ok.calls1, h.ok.calls2, hs, h.ok.loose, h.ok.pages⟩ (fun r hr => by have := h.lt r hr; simpa [World.drew, World.setCell] using this), ?_⟩
  exact (((Step.refl F w).setCell (.inl h.fb) _).setCell (.inl h.fb) _).drewN 1

set_option maxRecDepth 100000 in
set_option maxHeartbeats 1000000 in
theorem syncLog_c (h : DiskAt w F b m) (hst : StrikesOk b m) : Calls Try.prog 24 #[.pointer (some ⟨b, 0, none⟩)] w
    fun e w' => e = .returned (.int .i64 m.syncLog.1) ∧ DPost w F b m.syncLog.2 w' := by
  have hD := dead_c h
  have HP := Lib.hid (DPost.refl h)
  by_cases hd : m.dead = true
  · have e1 : m.syncLog = (7, m) := by unfold Dk.syncLog; rw [if_pos hd]
    rw [e1]
    rw [hd] at hD
    have HD := Lib.hid hD
    clear hD hst h hd e1
    go_enter Try.func24, Try.ntmps24
    go_wp2_with (go_at_call 20; refine HD.out.mono ?_; rintro e w' ⟨rfl, rfl⟩)
    go_ret
    exact ⟨rfl, HP.out⟩
  have hd' : m.dead = false := by simpa using hd
  rw [hd'] at hD
  have HD := Lib.hid hD
  have HR : Hid (Calls Try.prog 60 #[.pointer (some ⟨b, 0, none⟩)] w fun e w' => e = .returned (.bool m.strikes.1) ∧ DPost w F b m.strikes.2 w') := hst w F h
  cases hq : m.strikes.1 with
  | true =>
    have e1 : m.syncLog = (7, m.strikes.2) := by unfold Dk.syncLog; rw [if_neg hd, if_pos hq]
    rw [e1]
    rw [hq] at HR
    clear hD hst h hd e1 hd'
    go_enter Try.func24, Try.ntmps24
    go_wp2_with (first | (go_at_call 20; refine HD.out.mono ?_; rintro e w' ⟨rfl, rfl⟩) | (go_at_call 60; refine HR.out.mono ?_; rintro e w1 ⟨rfl, hP⟩))
    go_ret
    exact ⟨rfl, hP⟩
  | false =>
    have e2 := Dk.strikes_no hq
    have e1 : m.syncLog = (0, { m with calls := wrapI (m.calls + 1), log := m.log ++ m.tail, tail := ⟨#[]⟩ }) := by unfold Dk.syncLog; rw [if_neg hd, hq, e2]; rfl
    rw [e1]
    rw [hq, e2] at HR
    clear hD hst h hd e1 hd' hq e2
    go_enter Try.func24, Try.ntmps24
    go_wp2_with (go_at_call 20; refine HD.out.mono ?_; rintro e w' ⟨rfl, rfl⟩)
    refine HR.out.mono ?_
    rintro e w1 ⟨rfl, hP⟩
    obtain ⟨F1, ⟨mb1, lv1, pv1, h1⟩, hs1, hm1⟩ := hP
    have d4 : w1.cell? ⟨b, 4, none⟩ = some (.string m.log) := h1.cells.2.2.2.2.1
    have d5 : w1.cell? ⟨b, 5, none⟩ = some (.string m.tail) := h1.cells.2.2.2.2.2.1
    have g4 := h1.cells.2.2.2.2.2.2.2.2.2 4
    have g5 := h1.cells.2.2.2.2.2.2.2.2.2 5
    have hcat : m.log.size + m.tail.size ≤ 4194304 := h1.ok.logs
    have HN := Lib.hid (h1.logs (m.log ++ m.tail) ⟨#[]⟩ (by rw [ByteArray.size_append]; exact hcat))
    have HS1 := Lib.hid hs1
    have HM1 := Lib.hid hm1
    clear h1 hs1 hm1
    go_wp2_with (fail)
    go_region
    all_goals
      go_wp2
      go_ret
      exact ⟨rfl, F1, ⟨mb1, lv1, pv1, HN.out.1⟩, HS1.out.trans HM1.out HN.out.2, HM1.out⟩

set_option maxRecDepth 100000 in
set_option maxHeartbeats 1000000 in
theorem cutLog_c (h : DiskAt w F b m) (hst : StrikesOk b m) (n : Int) (hn : n ≤ 4194304) (hn1 : -9223372036854775808 ≤ n) : Calls Try.prog 31 #[.pointer (some ⟨b, 0, none⟩), .int .i64 n] w
    fun e w' => e = .returned (.int .i64 (m.cutLog n).1) ∧ DPost w F b (m.cutLog n).2 w' := by
  have hD := dead_c h
  have HP := Lib.hid (DPost.refl h)
  by_cases hd : m.dead = true
  · have e1 : m.cutLog n = (7, m) := by unfold Dk.cutLog; rw [if_pos hd]
    rw [e1]
    rw [hd] at hD
    have HD := Lib.hid hD
    clear hD hst h hd e1
    go_enter Try.func31, Try.ntmps31
    go_wp2_with (go_at_call 20; refine HD.out.mono ?_; rintro e w' ⟨rfl, rfl⟩)
    go_ret
    exact ⟨rfl, HP.out⟩
  have hd' : m.dead = false := by simpa using hd
  rw [hd'] at hD
  have HD := Lib.hid hD
  have HR : ∀ k, Hid (Calls Try.prog 60 #[.pointer (some ⟨b, 0, none⟩)] (w.drewN k) fun e w' => e = .returned (.bool m.strikes.1) ∧ DPost (w.drewN k) F b m.strikes.2 w') := fun k => hst _ F (by obtain ⟨mb, lv, pv, h⟩ := h; exact ⟨mb, lv, pv, h.drewN k⟩)
  obtain ⟨mb, lv, pv, h⟩ := h
  have H := Lib.hid h
  have c4 := h.cells.2.2.2.2.1
  have c5 := h.cells.2.2.2.2.2.1
  have hlg := h.ok.logs
  by_cases hb1 : n < 0
  · have e1 : m.cutLog n = (1, m) := by unfold Dk.cutLog; rw [if_neg hd, if_pos (.inl hb1)]
    rw [e1]
    have hbb : decide (n < 0) = true := by simpa using hb1
    clear hD hst h hd e1 hd'
    go_enter Try.func31, Try.ntmps31
    go_wp2_with (go_at_call 20; refine HD.out.mono ?_; rintro e w' ⟨rfl, rfl⟩)
    go_quiet (fail)
    go_wp2
    go_ret
    exact ⟨rfl, DPost.mk' (H.out.drewN _) ((Step.refl F w).drewN _)⟩
  have hbb : decide (n < 0) = false := by simpa using hb1
  by_cases hb2 : (m.log.size : Int) + m.tail.size < n
  · have e1 : m.cutLog n = (1, m) := by unfold Dk.cutLog; rw [if_neg hd, if_pos (.inr hb2)]
    rw [e1]
    clear hD hst h hd e1 hd'
    go_enter Try.func31, Try.ntmps31
    go_wp2_with (go_at_call 20; refine HD.out.mono ?_; rintro e w' ⟨rfl, rfl⟩)
    go_quiet (fail)
    go_wp2
    go_ret
    exact ⟨rfl, DPost.mk' (H.out.drewN _) ((Step.refl F w).drewN _)⟩
  have hbo : ¬ (n < 0 ∨ (m.log.size : Int) + m.tail.size < n) := by omega
  cases hq : m.strikes.1 with
  | true =>
    have e1 : m.cutLog n = (7, m.strikes.2) := by unfold Dk.cutLog; rw [if_neg hd, if_neg hbo, if_pos hq]
    rw [e1]
    rw [hq] at HR
    clear hD hst h hd e1 hd' hbo
    go_enter Try.func31, Try.ntmps31
    go_wp2_with (go_at_call 20; refine HD.out.mono ?_; rintro e w' ⟨rfl, rfl⟩)
    go_quiet (fail)
    go_wp2_with (go_at_call 60; refine (HR _).out.mono ?_; rintro e w1 ⟨rfl, hP⟩)
    go_ret
    exact ⟨rfl, DPost.trans ((Step.refl F w).drewN _) (More.refl F w) hP⟩
  | false =>
    have e2 := Dk.strikes_no hq
    have e1 : m.cutLog n = (0, { m with calls := wrapI (m.calls + 1), log := (m.log ++ m.tail).extract 0 n.toNat, tail := ⟨#[]⟩ }) := by unfold Dk.cutLog; rw [if_neg hd, if_neg hbo, hq, e2]; rfl
    rw [e1]
    rw [hq, e2] at HR
    clear hD hst h hd e1 hd' hq e2 hbo
    obtain ⟨k, rfl⟩ : ∃ k : Nat, n = k := ⟨n.toNat, by omega⟩
    have hk : k ≤ m.log.size + m.tail.size := by omega
    have hk2 : (k : Int) ≤ (m.log.size : Int) + (m.tail.size : Int) := by omega
    have hk3 : (0 : Int) ≤ (k : Int) := by omega
    have hk4 : (k : Int) ≤ (((m.log.size + m.tail.size : Nat)) : Int) := by omega
    go_enter Try.func31, Try.ntmps31
    go_wp2_with (go_at_call 20; refine HD.out.mono ?_; rintro e w' ⟨rfl, rfl⟩)
    go_quiet (fail)
    go_wp2_with (fail)
    refine (HR _).out.mono ?_
    rintro e w1 ⟨rfl, hP⟩
    obtain ⟨F1, ⟨mb1, lv1, pv1, h1⟩, hs1, hm1⟩ := hP
    have d4 : w1.cell? ⟨b, 4, none⟩ = some (.string m.log) := h1.cells.2.2.2.2.1
    have d5 : w1.cell? ⟨b, 5, none⟩ = some (.string m.tail) := h1.cells.2.2.2.2.2.1
    have g4 := h1.cells.2.2.2.2.2.2.2.2.2 4
    have g5 := h1.cells.2.2.2.2.2.2.2.2.2 5
    have HN := Lib.hid (h1.logs ((m.log ++ m.tail).extract 0 k) ⟨#[]⟩ (by rw [ByteArray.size_extract, ByteArray.size_append]; show _ + 0 ≤ _; omega))
    have HS1 := Lib.hid hs1
    have HM1 := Lib.hid hm1
    clear h1 hs1 hm1
    go_wp2_with (fail)
    go_region
    all_goals
      go_wp2
      go_ret
      exact ⟨rfl, DPost.trans ((Step.refl F w).drewN _) (More.refl F w) ⟨F1, ⟨mb1, lv1, pv1, HN.out.1⟩, HS1.out.trans HM1.out HN.out.2, HM1.out⟩⟩
end
end Go.Proofs.Ytnobiekgifjaeaa
