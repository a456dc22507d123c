/-
  The log and its disk; the walk of 'Flush'.
-/
import Derived.Test.YtnobiekgifjaeaaX2
namespace Go.Proofs.Ytnobiekgifjaeaa
open Go.RowKit
attribute [local go_sem ↓] Go.wp_at_zero Go.wp_at_succ

/-- the disk m at b and its log g at lb, in blocks of F and of G -/
structure BothIn (w : World) (F G : Nat → Prop) (b lb : Nat) (m : Dk) (g : Lg) : Prop where
  dsk : DiskAt w F b m
  wal : WalAt w G lb b g
  dis : ∀ r, F r → ¬ G r
def BPost (w : World) (F G : Nat → Prop) (b lb : Nat) (m : Dk) (g : Lg) (w' : World) : Prop := ∃ F' G', BothIn w' F' G' b lb m g ∧ Step (fun r => F r ∨ G r) w w' ∧ (More F F' w ∧ More G G' w)

section
variable {w w' : World} {F G : Nat → Prop} {b lb : Nat} {m m' : Dk} {g g' : Lg}
theorem below_drewN (w : World) (q : Nat) : Below w.heap.size w (w.drewN q) := ⟨rfl, rfl, rfl, Nat.le_refl _, fun _ _ => rfl⟩
theorem Step.wider {H K : Nat → Prop} (h : Step H w w') (hk : ∀ r, H r → K r) : Step K w w' := ⟨h.os, h.tape, h.output, h.size, fun r hr hn => h.block r hr (fun hh => hn (hk r hh))⟩
theorem BothIn.keep (h : BothIn w F G b lb m g) (hk : ∀ r, F r ∨ G r → w'.heap[r]? = w.heap[r]?) (hs : w.heap.size ≤ w'.heap.size) : BothIn w' F G b lb m g :=
  ⟨h.dsk.keep (fun r hr => hk r (.inl hr)) hs, h.wal.keep (fun r hr => hk r (.inr hr)) hs, h.dis⟩
theorem BothIn.below (h : BothIn w F G b lb m g) (hb : Below w.heap.size w w') : BothIn w' F G b lb m g :=
  h.keep (fun r hr => hb.block r (by rcases hr with hr | hr; exact h.dsk.lt r hr; exact h.wal.lt r hr)) hb.size
theorem BPost.mk' (h : BothIn w' F G b lb m g) (hs : Step (fun r => F r ∨ G r) w w') : BPost w F G b lb m g w' := ⟨F, G, h, hs, More.refl _ w, More.refl _ w⟩
theorem BPost.refl (h : BothIn w F G b lb m g) : BPost w F G b lb m g w := BPost.mk' h (Step.refl _ w)
theorem BPost.below (h : BothIn w F G b lb m g) (hb : Below w.heap.size w w') : BPost w F G b lb m g w' := BPost.mk' (h.below hb) (Step.below hb)
theorem BothIn.disk (h : BothIn w F G b lb m g) (hp : DPost w F b m' w') : BPost w F G b lb m' g w' := by
  obtain ⟨F', h1, h2, h3⟩ := hp
  refine ⟨F', G, ⟨h1, h.wal.keep (fun r hr => h2.block r (h.wal.lt r hr) (fun hf => h.dis r hf hr)) h2.size, fun r hf hg => ?_⟩, h2.wider (fun r hr => .inl hr), h3, More.refl _ _⟩
  rcases h3 r hf with h4 | h4
  · exact h.dis r h4 hg
  · have := h.wal.lt r hg
    omega
theorem BothIn.log (h : BothIn w F G b lb m g) (hp : WPost w G lb b g' w') : BPost w F G b lb m g' w' := by
  obtain ⟨G', h1, h2, h3⟩ := hp
  refine ⟨F, G', ⟨h.dsk.keep (fun r hr => h2.block r (h.dsk.lt r hr) (h.dis r hr)) h2.size, h1, fun r hf hg => ?_⟩, h2.wider (fun r hr => .inr hr), More.refl _ _, h3⟩
  rcases h3 r hg with h4 | h4
  · exact h.dis r hf h4
  · have := h.dsk.lt r hf
    omega
theorem BPost.trans {w1 : World} {F1 G1 : Nat → Prop} {m1 : Dk} {g1 : Lg} (hs : Step (fun r => F r ∨ G r) w w1) (hm : (More F F1 w ∧ More G G1 w)) (h : BPost w1 F1 G1 b lb m' g' w') : BPost w F G b lb m' g' w' := by
  obtain ⟨F', G', h1, h2, h3⟩ := h
  exact ⟨F', G', h1, hs.trans (fun r hr => by
    rcases hr with hr | hr
    · rcases hm.1 r hr with h4 | h4
      · exact .inl (.inl h4)
      · exact .inr h4
    · rcases hm.2 r hr with h4 | h4
      · exact .inl (.inr h4)
      · exact .inr h4) h2, hm.1.trans hs.size h3.1, hm.2.trans hs.size h3.2⟩
theorem BPost.then {w1 : World} {m1 : Dk} {g1 : Lg} (h : BPost w F G b lb m1 g1 w1) (k : ∀ F1 G1, BothIn w1 F1 G1 b lb m1 g1 → BPost w1 F1 G1 b lb m' g' w') : BPost w F G b lb m' g' w' := by
  obtain ⟨F1, G1, h1, h2, h3⟩ := h
  exact BPost.trans (m1 := m1) (g1 := g1) h2 h3 (k F1 G1 h1)

def flushD (m : Dk) (g : Lg) : Int × Dk × Lg :=
  if (m.appendLog g.tail).1 ≠ 0 then ((m.appendLog g.tail).1, (m.appendLog g.tail).2, g) else
  if (m.appendLog g.tail).2.syncLog.1 ≠ 0 then ((m.appendLog g.tail).2.syncLog.1, (m.appendLog g.tail).2.syncLog.2, { g with tail := ⟨#[]⟩ }) else
  (0, (m.appendLog g.tail).2.syncLog.2, { g with tail := ⟨#[]⟩, sure := g.recs.length })
def flushE (m : Dk) (g : Lg) (upto : Int) : Int × Dk × Lg := if m.dead then (7, m, g) else if g.tail = ⟨#[]⟩ ∨ upto < (g.flushed : Int) then (0, m, g) else flushD m g

theorem WalIn.setTail {lv av : Value} {db : Nat} (h : WalIn w G lb db lv av g) : WPost w G lb db { g with tail := ⟨#[]⟩ } (w.setCell ⟨lb, 6, none⟩ (.string ⟨#[]⟩)) := by
  refine WPost.mk' (lv := lv) (av := av) (h.set 6 (.string ⟨#[]⟩) { g with tail := ⟨#[]⟩ } rfl rfl ?_) ((Step.refl G w).setCell (.inl h.gb) _)
  have ok := h.ok
  exact ⟨ok.end_le, ok.recs, ok.sure, ok.kept1, ok.kept2, by show (ByteArray.size ⟨#[]⟩) ≤ 5000000; decide, ok.marks⟩
theorem WalIn.setSure {lv av : Value} {db : Nat} (h : WalIn w G lb db lv av g) (q : Nat) : WPost w G lb db { g with sure := g.recs.length } ((w.drewN q).setCell ⟨lb, 4, none⟩ (.int .i64 (g.recs.length : Int))) := by
  have h' : WalIn (w.drewN q) G lb db lv av g := h.keep (fun _ _ => rfl) (Nat.le_refl _)
  refine WPost.mk' (lv := lv) (av := av) (h'.set 4 (.int .i64 (g.recs.length : Int)) { g with sure := g.recs.length } rfl rfl ?_) (((Step.refl G w).drewN q).setCell (.inl h.gb) _)
  have ok := h.ok
  exact ⟨ok.end_le, ok.recs, Nat.le_refl _, ok.kept1, ok.kept2, ok.tail, ok.marks⟩

set_option maxRecDepth 100000 in
set_option maxHeartbeats 1000000 in
theorem lflush_c (h : BothIn w F G b lb m g) (hst1 : StrikesOk b m) (hst2 : StrikesOk b (m.appendLog g.tail).2) (upto : Int) :
    Calls Try.prog 47 #[.pointer (some ⟨lb, 0, none⟩), .int .u64 upto] w fun e w' => e = .returned (.int .i64 (flushE m g upto).1) ∧ BPost w F G b lb (flushE m g upto).2.1 (flushE m g upto).2.2 w' := by
  have H := Lib.hid h
  have HD := Lib.hid (dead_c h.dsk)
  have HFl := Lib.hid (lflushed_c h.wal)
  have hts := h.wal.ok.tail
  have c0 : w.cell? ⟨lb, 0, none⟩ = some (.pointer (some ⟨b, 0, none⟩)) := by obtain ⟨_, _, hh⟩ := h.wal; exact hh.cells.1
  have c6 : w.cell? ⟨lb, 6, none⟩ = some (.string g.tail) := by obtain ⟨_, _, hh⟩ := h.wal; exact hh.cells.2.2.2.2.2.2.1
  clear h
  unfold flushE
  by_cases hd : m.dead = true
  · rw [if_pos hd]
    rw [hd] at HD
    clear hd
    go_enter Try.func47, Try.ntmps47
    go_wp2_with (fail)
    refine HD.out.mono ?_
    rintro e w' ⟨rfl, rfl⟩
    go_wp2
    go_ret
    exact ⟨rfl, BPost.refl H.out⟩
  · rw [if_neg hd]
    rw [Bool.not_eq_true] at hd
    rw [hd] at HD
    clear hd
    by_cases ht : g.tail = ⟨#[]⟩
    · rw [if_pos (Or.inl ht)]
      rw [ht] at c6
      clear ht hts
      go_enter Try.func47, Try.ntmps47
      go_wp2_with (fail)
      refine HD.out.mono ?_
      rintro e w' ⟨rfl, rfl⟩
      go_wp2
      go_ret
      exact ⟨rfl, BPost.refl H.out⟩
    · obtain ⟨tx, tl, hL⟩ : ∃ x l, g.tail.toList = x :: l := by
        cases hl : g.tail.toList with
        | nil =>
          refine absurd ?_ ht
          rw [ByteArray.toList_eq] at hl
          apply ByteArray.ext
          exact Array.toList_inj.1 hl
        | cons x l => exact ⟨x, l, rfl⟩
      by_cases hto : upto < (g.flushed : Int)
      · rw [if_pos (Or.inr hto)]
        go_enter Try.func47, Try.ntmps47
        go_wp2_with (fail)
        refine HD.out.mono ?_
        rintro e w' ⟨rfl, rfl⟩
        go_wp2_with (fail)
        refine HFl.out.mono ?_
        rintro e w' ⟨rfl, q, rfl⟩
        go_wp2
        go_ret
        exact ⟨rfl, BPost.below H.out (below_drewN _ _)⟩
      · rw [if_neg (by rintro (h | h); exact ht h; exact hto h)]
        have HA : ∀ W, Below w.heap.size w W → Hid (Calls Try.prog 23 #[.pointer (some ⟨b, 0, none⟩), .string g.tail] W fun e w' => e = .returned (.int .i64 (m.appendLog g.tail).1) ∧ BPost w F G b lb (m.appendLog g.tail).2 g w') := fun W hW => by
          have h1 := H.out.below hW
          refine (appendLog_c h1.dsk hst1 g.tail (by omega)).mono ?_
          rintro e w' ⟨rfl, hp⟩
          exact ⟨rfl, BPost.trans (m1 := m) (g1 := g) (Step.below hW) ⟨More.refl _ _, More.refl _ _⟩ (h1.disk hp)⟩
        unfold flushD
        generalize m.appendLog g.tail = r1 at *
        obtain ⟨e1, m1⟩ := r1
        simp only at HA hst2 ⊢
        have HS : ∀ W F1 G1 g1, BothIn W F1 G1 b lb m1 g1 → Hid (Calls Try.prog 24 #[.pointer (some ⟨b, 0, none⟩)] W fun e w' => e = .returned (.int .i64 m1.syncLog.1) ∧ BPost W F1 G1 b lb m1.syncLog.2 g1 w') := fun W F1 G1 g1 h1 => by
          refine (syncLog_c h1.dsk hst2).mono ?_
          rintro e w' ⟨rfl, hp⟩
          exact ⟨rfl, h1.disk hp⟩
        generalize m1.syncLog = r2 at *
        obtain ⟨e2, m2⟩ := r2
        simp only at HS ⊢
        clear hst1 hst2
        by_cases he1 : e1 = 0
        · subst he1
          simp only [ne_eq, not_true_eq_false, if_false]
          by_cases he2 : e2 = 0
          · subst he2
            simp only [ne_eq, not_true_eq_false, if_false]
            go_enter Try.func47, Try.ntmps47
            go_wp2_with (fail)
            refine HD.out.mono ?_
            rintro e w' ⟨rfl, rfl⟩
            go_wp2_with (fail)
            refine HFl.out.mono ?_
            rintro e w' ⟨rfl, q, rfl⟩
            go_wp2
            go_region_with (go_at_call 23; refine (HA _ (below_drewN w _)).out.mono ?_; rintro e w2 ⟨rfl, hq⟩)
            all_goals
              obtain ⟨F1, G1, h1, h2, h3⟩ := hq
              have HQ1 : Hid (Step (fun r => F r ∨ G r) w w2 ∧ (More F F1 w ∧ More G G1 w)) := ⟨h2, h3⟩
              obtain ⟨lv, av, hw⟩ := id h1.wal
              have d0 := hw.cells.1
              have d6 := hw.cells.2.2.2.2.2.2.1
              have f6 := hw.cells.2.2.2.2.2.2.2.2 6
              obtain ⟨F2, G2, h4, h5, h6⟩ := h1.log hw.setTail
              have HQ2 : Hid (Step (fun r => F1 r ∨ G1 r) w2 _ ∧ (More F1 F2 w2 ∧ More G1 G2 w2)) := ⟨h5, h6⟩
              have HS2 := HS _ F2 G2 _ h4
              clear h1 h2 h3 hw h4 h5 h6
              go_wp2_with (fail)
              refine HS2.out.mono ?_
              rintro e w3 ⟨rfl, hq3⟩
              obtain ⟨F3, G3, h1, h2, h3⟩ := hq3
              have HQ3 : Hid (Step (fun r => F2 r ∨ G2 r) _ w3 ∧ (More F2 F3 _ ∧ More G2 G3 _)) := ⟨h2, h3⟩
              obtain ⟨lv, av, hw⟩ := id h1.wal
              obtain ⟨la, lc, rfl⟩ := own_form hw.recs
              have d1 := hw.cells.2.1
              have d4 := hw.cells.2.2.2.2.1
              have f4 := hw.cells.2.2.2.2.2.2.2.2 4
              have H5 : ∀ q, Hid (BPost w3 F3 G3 b lb m2 _ _) := fun q => h1.log (hw.setSure q)
              clear h1 h2 h3 hw d0 d6 f6
              go_wp2
              go_ret
              exact ⟨rfl, BPost.trans (m1 := m1) (g1 := g) HQ1.out.1 HQ1.out.2 (BPost.trans (m1 := m1) (g1 := g) HQ2.out.1 HQ2.out.2 (BPost.trans (m1 := m2) (g1 := g) HQ3.out.1 HQ3.out.2 (H5 0).out))⟩
          · simp only [ne_eq, he2, not_false_eq_true, if_true]
            go_enter Try.func47, Try.ntmps47
            go_wp2_with (fail)
            refine HD.out.mono ?_
            rintro e w' ⟨rfl, rfl⟩
            go_wp2_with (fail)
            refine HFl.out.mono ?_
            rintro e w' ⟨rfl, q, rfl⟩
            go_wp2
            go_region_with (go_at_call 23; refine (HA _ (below_drewN w _)).out.mono ?_; rintro e w2 ⟨rfl, hq⟩)
            all_goals
              obtain ⟨F1, G1, h1, h2, h3⟩ := hq
              have HQ1 : Hid (Step (fun r => F r ∨ G r) w w2 ∧ (More F F1 w ∧ More G G1 w)) := ⟨h2, h3⟩
              obtain ⟨lv, av, hw⟩ := id h1.wal
              have d0 := hw.cells.1
              have d6 := hw.cells.2.2.2.2.2.2.1
              have f6 := hw.cells.2.2.2.2.2.2.2.2 6
              obtain ⟨F2, G2, h4, h5, h6⟩ := h1.log hw.setTail
              have HQ2 : Hid (Step (fun r => F1 r ∨ G1 r) w2 _ ∧ (More F1 F2 w2 ∧ More G1 G2 w2)) := ⟨h5, h6⟩
              have HS2 := HS _ F2 G2 _ h4
              clear h1 h2 h3 hw h4 h5 h6
              go_wp2_with (fail)
              refine HS2.out.mono ?_
              rintro e w3 ⟨rfl, hq3⟩
              go_wp2
              go_ret
              exact ⟨rfl, BPost.trans (m1 := m1) (g1 := g) HQ1.out.1 HQ1.out.2 (BPost.trans (m1 := m1) (g1 := g) HQ2.out.1 HQ2.out.2 hq3)⟩
        · simp only [ne_eq, he1, not_false_eq_true, if_true]
          go_enter Try.func47, Try.ntmps47
          go_wp2_with (fail)
          refine HD.out.mono ?_
          rintro e w' ⟨rfl, rfl⟩
          go_wp2_with (fail)
          refine HFl.out.mono ?_
          rintro e w' ⟨rfl, q, rfl⟩
          go_wp2
          go_region_with (go_at_call 23; refine (HA _ (below_drewN w _)).out.mono ?_; rintro e w2 ⟨rfl, hq⟩)
          all_goals
            go_wp2
            go_ret
            exact ⟨rfl, hq⟩
end
end Go.Proofs.Ytnobiekgifjaeaa
