/-
  The walk of the disk's 'Mark'; 'SetMaster'.
-/
import Derived.Test.YtnobiekgifjaeaaX3
namespace Go.Proofs.Ytnobiekgifjaeaa
open Go.RowKit
attribute [local go_sem ↓] Go.wp_at_zero Go.wp_at_succ

section
variable {w : World} {F : Nat → Prop} {b : Nat} {m : Dk}
set_option maxRecDepth 100000 in
set_option maxHeartbeats 1000000 in
theorem mark_c (h : DiskAt w F b m) (hd : m.dead = false) (hl : m.loose.length ≤ 1000000000) : Calls Try.prog 28 #[.pointer (some ⟨b, 0, none⟩)] w
    fun e w' => e = .returned (.tuple #[.int .u64 m.markNow, .int .i64 0]) ∧ Below w.heap.size w w' := by
  have hD := dead_c h
  rw [hd] at hD
  have HD := Lib.hid hD
  obtain ⟨mb, lv, pv, h⟩ := h
  obtain ⟨la, lc, rfl⟩ := own_form h.loose
  have d3 : w.cell? ⟨b, 3, none⟩ = some (.slice la m.loose.length lc) := h.cells.2.2.2.1
  have d2 : w.cell? ⟨b, 2, none⟩ = some (.int .u64 m.mark) := h.cells.2.2.1
  have H := Lib.hid h
  clear hD h hd
  go_enter Try.func28, Try.ntmps28
  go_wp2_with (first | (go_at_call 20; refine HD.out.mono ?_; rintro e w' ⟨rfl, rfl⟩))
  go_loop [4] (fun i => ∃ k : Nat, k ≤ m.loose.length ∧ i = .int .i64 ((k : Int) - 1) ∧ Hid (∀ (j : Nat) (y : Wr), k ≤ j → m.loose[j]? = some y → y.page ≠ 0)) (fun i => (intOf i + 1).toNat)
  case atStart => exact ⟨m.loose.length, Nat.le_refl _, rfl, fun j y hj hy => by have := (List.getElem?_eq_some_iff.1 hy).1; omega⟩
  case round =>
    obtain ⟨k, hk, rfl, hA⟩ := hrel
    cases k with
    | zero =>
      have HE : Hid (m.markNow = m.mark) := by show m.markNow = m.mark; unfold Dk.markNow; rw [lastOf_none (fun j y hy => hA.out j y (by omega) hy)]
      go_wp2_with (fail)
      go_ret2
      exact ⟨by rw [HE.out]; rfl, Below.refl _ _⟩
    | succ k =>
      obtain ⟨x, hx⟩ : ∃ x, m.loose[k]? = some x := ⟨_, List.getElem?_eq_getElem (by omega)⟩
      obtain ⟨g, cap, e, hFg, hcap, hmx, x0, x1, x2⟩ := H.out.loose_at hx
      simp only [Value.slice.injEq] at e
      obtain ⟨rfl, -, rfl⟩ := e
      have HX := Lib.hid hx
      have hkk : (((k + 1 : Nat) : Int) - 1) = (k : Int) := by omega
      rw [hkk]
      clear hkk
      by_cases hq : x.page = 0
      · have hq' : (x.page == 0) = true := by simpa using hq
        have HE : Hid (m.markNow = x.mark) := by show m.markNow = x.mark; unfold Dk.markNow; rw [lastOf_some HX.out hq (fun j y hj hy => hA.out j y (by omega) hy)]
        clear hx hq hcap hmx hA
        go_wp2_with (fail)
        go_ret2
        exact ⟨by rw [HE.out]; rfl, Below.refl _ _⟩
      · have hq' : (x.page == 0) = false := by simpa using hq
        have HA : Hid (∀ (j : Nat) (y : Wr), k ≤ j → m.loose[j]? = some y → y.page ≠ 0) := fun j y hj hy => by
          by_cases e : j = k
          · subst e; rw [HX.out] at hy; cases hy; exact hq
          · exact hA.out j y (by omega) hy
        clear hx hq hcap hmx hA
        go_wp2_with (fail)
        go_round
        case rel => exact ⟨k, by omega, by go_num, HA⟩
        case measure => simp [intOf]
end

section
variable {w : World} {F G : Nat → Prop} {b lb : Nat} {m : Dk} {g : Lg}
theorem WalIn.setMarks {lv av : Value} {db : Nat} (h : WalIn w G lb db lv av g) (x : Nat) (hx : x < 18446744073709551616) : WPost w G lb db { g with marks := x } (w.setCell ⟨lb, 7, none⟩ (.int .u64 (x : Int))) := by
  refine WPost.mk' (lv := lv) (av := av) (h.set 7 (.int .u64 (x : Int)) { g with marks := x } rfl rfl ?_) ((Step.refl G w).setCell (.inl h.gb) _)
  have ok := h.ok
  exact ⟨ok.end_le, ok.recs, ok.sure, ok.kept1, ok.kept2, ok.tail, hx⟩

set_option maxRecDepth 100000 in
set_option maxHeartbeats 1000000 in
theorem lsetMaster_hit (h : BothIn w F G b lb m g) (x : Nat) (hx : x < 18446744073709551616) (hh : g.has x = true) (hf : ¬ g.flushed ≤ x)
    (hst1 : StrikesOk b m) (hl1 : m.loose.length ≤ 1000000000) (hc1 : (m.setMark x).1 = 0) (hst2 : StrikesOk b (m.setMark x).2) (hl2 : (m.setMark x).2.loose.length ≤ 1000000000) (hc2 : (m.setMark x).2.sync.1 = 0) :
    Calls Try.prog 57 #[.pointer (some ⟨lb, 0, none⟩), .int .u64 (x : Int)] w fun e w' => e = .returned (.int .i64 0) ∧ BPost w F G b lb (m.setMark x).2.sync.2 { g with marks := x } w' := by
  have H := Lib.hid h
  have HF := Lib.hid (lfind_c h.wal x)
  rw [hh] at HF
  have HFl : ∀ q, Hid (Calls Try.prog 49 #[.pointer (some ⟨lb, 0, none⟩)] (w.drewN q) fun e w' => e = .returned (.int .u64 (g.flushed : Int)) ∧ ∃ q', w' = (w.drewN q).drewN q') := fun q => lflushed_c (h.wal.below (below_drewN _ _))
  have HA : ∀ W, Below w.heap.size w W → Hid (Calls Try.prog 30 #[.pointer (some ⟨b, 0, none⟩), .int .u64 (x : Int)] W fun e w' => e = .returned (.int .i64 0) ∧ BPost w F G b lb (m.setMark x).2 g w') := fun W hW => by
    have h1 := H.out.below hW
    refine (setMark_c h1.dsk hst1 x hl1).mono ?_
    rintro e w' ⟨rfl, hp⟩
    rw [hc1]
    exact ⟨rfl, BPost.trans (m1 := m) (g1 := g) (Step.below hW) ⟨More.refl _ _, More.refl _ _⟩ (h1.disk hp)⟩
  have c0 : w.cell? ⟨lb, 0, none⟩ = some (.pointer (some ⟨b, 0, none⟩)) := by obtain ⟨_, _, hh⟩ := h.wal; exact hh.cells.1
  generalize (m.setMark x).2 = m1 at *
  have HS : ∀ W F1 G1 g1, BothIn W F1 G1 b lb m1 g1 → Hid (Calls Try.prog 25 #[.pointer (some ⟨b, 0, none⟩)] W fun e w' => e = .returned (.int .i64 0) ∧ BPost W F1 G1 b lb m1.sync.2 g1 w') := fun W F1 G1 g1 h1 => by
    refine (sync_c h1.dsk hst2 hl2).mono ?_
    rintro e w' ⟨rfl, hp⟩
    rw [hc2]
    exact ⟨rfl, h1.disk hp⟩
  generalize m1.sync = r2 at *
  obtain ⟨e2, m2⟩ := r2
  simp only at HS ⊢
  have hf' : ¬ ((g.flushed : Int) ≤ (x : Int)) := by omega
  clear h hst1 hst2 hl1 hl2 hc1 hc2 hh hf
  go_enter Try.func57, Try.ntmps57
  go_wp2_with (fail)
  refine HF.out.mono ?_
  rintro e w' ⟨rfl, q, rfl⟩
  go_wp2_with (fail)
  refine (HFl _).out.mono ?_
  rintro e w' ⟨rfl, q2, rfl⟩
  rw [drewN_two]
  go_wp2_with (fail)
  refine (HA _ (below_drewN w _)).out.mono ?_
  rintro e w2 ⟨rfl, hq⟩
  obtain ⟨F1, G1, h1, h2, h3⟩ := hq
  have HQ1 : Hid (Step (fun r => F r ∨ G r) w w2 ∧ (More F F1 w ∧ More G G1 w)) := ⟨h2, h3⟩
  have d0 : w2.cell? ⟨lb, 0, none⟩ = some (.pointer (some ⟨b, 0, none⟩)) := by obtain ⟨_, _, hh⟩ := h1.wal; exact hh.cells.1
  have HS1 := HS _ _ _ _ h1
  clear h1 h2 h3 c0
  go_wp2_with (fail)
  refine HS1.out.mono ?_
  rintro e w3 ⟨rfl, hq⟩
  obtain ⟨F2, G2, h1, h2, h3⟩ := hq
  have HQ2 : Hid (Step (fun r => F1 r ∨ G1 r) w2 w3 ∧ (More F1 F2 w2 ∧ More G1 G2 w2)) := ⟨h2, h3⟩
  obtain ⟨lv, av, hw⟩ := id h1.wal
  have d7 := hw.cells.2.2.2.2.2.2.2.1
  have f7 := hw.cells.2.2.2.2.2.2.2.2 7
  have H5 := Lib.hid (h1.log (hw.setMarks x hx))
  clear h1 h2 h3 hw d0
  go_wp2
  go_ret
  exact ⟨rfl, BPost.trans (m1 := m1) (g1 := g) HQ1.out.1 HQ1.out.2 (BPost.trans (m1 := m2) (g1 := g) HQ2.out.1 HQ2.out.2 H5.out)⟩
theorem lsetMaster_miss {db : Nat} (h : WalAt w G lb db g) (x : Nat) (hh : g.has x = false ∨ g.flushed ≤ x) :
    Calls Try.prog 57 #[.pointer (some ⟨lb, 0, none⟩), .int .u64 (x : Int)] w fun e w' => e = .returned (.int .i64 52) ∧ Below w.heap.size w w' := by
  have HF := Lib.hid (lfind_c h x)
  have HFl : ∀ q, Hid (Calls Try.prog 49 #[.pointer (some ⟨lb, 0, none⟩)] (w.drewN q) fun e w' => e = .returned (.int .u64 (g.flushed : Int)) ∧ ∃ q', w' = (w.drewN q).drewN q') := fun q => lflushed_c (h.below (below_drewN _ _))
  cases hb : g.has x
  · rw [hb] at HF
    clear h hh hb
    go_enter Try.func57, Try.ntmps57
    go_wp2_with (fail)
    refine HF.out.mono ?_
    rintro e w' ⟨rfl, q, rfl⟩
    go_wp2
    go_ret
    exact ⟨rfl, below_drewN _ _⟩
  · rw [hb] at HF hh
    have hf : (g.flushed : Int) ≤ (x : Int) := by rcases hh with h | h; cases h; omega
    clear h hh hb
    go_enter Try.func57, Try.ntmps57
    go_wp2_with (fail)
    refine HF.out.mono ?_
    rintro e w' ⟨rfl, q, rfl⟩
    go_wp2_with (fail)
    refine (HFl _).out.mono ?_
    rintro e w' ⟨rfl, q2, rfl⟩
    rw [drewN_two]
    go_wp2
    go_ret
    exact ⟨rfl, below_drewN _ _⟩
theorem lsetMaster_nil (w : World) (x : Int) : Calls Try.prog 57 #[.pointer none, .int .u64 x] w fun e w' => e = .returned (.int .i64 1) ∧ w' = w := by
  go_enter Try.func57, Try.ntmps57
  go_wp2
  go_ret
  exact ⟨rfl, rfl⟩
theorem lflush_nil (w : World) (x : Int) : Calls Try.prog 47 #[.pointer none, .int .u64 x] w fun e w' => e = .returned (.int .i64 1) ∧ w' = w := by
  go_enter Try.func47, Try.ntmps47
  go_wp2
  go_ret
  exact ⟨rfl, rfl⟩
end
end Go.Proofs.Ytnobiekgifjaeaa
