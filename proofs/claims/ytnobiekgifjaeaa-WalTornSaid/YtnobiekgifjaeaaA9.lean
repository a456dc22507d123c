/-
  The disk: all writes are made sure; a page is read, and the mark.
-/
import Derived.Test.YtnobiekgifjaeaaA8
namespace Go.Proofs.Ytnobiekgifjaeaa
open Go.RowKit

def Dk.sync (m : Dk) : Int × Dk :=
  if m.dead then (7, m) else if m.strikes.1 then (7, m.strikes.2) else (0, { m.strikes.2.lands m.strikes.2.loose with loose := [] })

def Dk.readE (m : Dk) (p : Int) : ByteArray × Int := if m.dead then (⟨#[]⟩, 7) else if m.may p ≠ 0 then (⟨#[]⟩, m.may p) else (m.read p, 0)

theorem Dk.lands_next (m : Dk) {k : Nat} {x : Wr} (l : List Wr) (hx : l[k]? = some x) : m.lands (l.take (k + 1)) = (m.lands (l.take k)).land x := by
  rw [List.take_add_one, hx]
  show m.lands (l.take k ++ [x]) = _
  rw [Dk.lands_snoc]

theorem lastOf_none {p : Int} : ∀ {l : List Wr}, (∀ (j : Nat) (x : Wr), l[j]? = some x → x.page ≠ p) → lastOf p l = none
  | [], _ => rfl
  | x :: l, h => by
    have h0 := h 0 x rfl
    have ih := lastOf_none (l := l) (fun j y hy => h (j + 1) y (by simpa using hy))
    simp [lastOf, h0, ih]

theorem lastOf_some {p : Int} : ∀ {l : List Wr} {k : Nat} {x : Wr}, l[k]? = some x → x.page = p → (∀ (j : Nat) (y : Wr), k < j → l[j]? = some y → y.page ≠ p) → lastOf p l = some x
  | [], _, _, h, _, _ => by simp at h
  | y :: l, 0, x, h, hx, hn => by
    simp at h
    subst h
    have ih := lastOf_none (p := p) (l := l) (fun j z hz => hn (j + 1) z (by omega) (by simpa using hz))
    simp [lastOf, ih, hx]
  | y :: l, k + 1, x, h, hx, hn => by
    have ih := lastOf_some (p := p) (l := l) (k := k) (by simpa using h) hx (fun j z hj hz => hn (j + 1) z (by omega) (by simpa using hz))
    simp [lastOf, ih]

section
variable {w : World} {F : Nat → Prop} {b mb : Nat} {lv pv : Value} {m : Dk}

def SyncRel (w0 : World) (F : Nat → Prop) (b mb : Nat) (lv pv : Value) (m : Dk) (k : Nat) (wr : World) : Prop := DiskIn wr F b mb lv pv (m.lands (m.loose.take k)) ∧ Step F w0 wr

set_option maxRecDepth 100000 in
set_option maxHeartbeats 1000000 in
theorem sync_c (h : DiskAt w F b m) (hst : StrikesOk b m) (hl : m.loose.length ≤ 1000000000) : Calls Try.prog 25 #[.pointer (some ⟨b, 0, none⟩)] w
    fun e w' => e = .returned (.int .i64 m.sync.1) ∧ DPost w F b m.sync.2 w' := by
  have hD := dead_c h
  have HP := Lib.hid (DPost.refl h)
  by_cases hd : m.dead = true
  · have e1 : m.sync = (7, m) := by unfold Dk.sync; rw [if_pos hd]
    rw [e1]
    rw [hd] at hD
    have HD := Lib.hid hD
    clear hD hst h hd e1
    go_enter Try.func25, Try.ntmps25
    go_wp2_with (go_at_call 20; refine HD.out.mono ?_; rintro e w' ⟨rfl, rfl⟩)
    go_ret
    exact ⟨rfl, HP.out⟩
  have hd' : m.dead = false := by simpa using hd
  rw [hd'] at hD
  have HD := Lib.hid hD
  have HR : Hid (Calls Try.prog 60 #[.pointer (some ⟨b, 0, none⟩)] w fun e w' => e = .returned (.bool m.strikes.1) ∧ DPost w F b m.strikes.2 w') := hst w F h
  cases hq : m.strikes.1 with
  | true =>
    have e1 : m.sync = (7, m.strikes.2) := by unfold Dk.sync; rw [if_neg hd, if_pos hq]
    rw [e1]
    rw [hq] at HR
    clear hD hst h hd e1 hd'
    go_enter Try.func25, Try.ntmps25
    go_wp2_with (first | (go_at_call 20; refine HD.out.mono ?_; rintro e w' ⟨rfl, rfl⟩) | (go_at_call 60; refine HR.out.mono ?_; rintro e w1 ⟨rfl, hP⟩))
    go_ret
    exact ⟨rfl, hP⟩
  | false =>
    have e2 := Dk.strikes_no hq
    have e1 : m.sync = (0, { Dk.lands { m with calls := wrapI (m.calls + 1) } m.loose with loose := [] }) := by unfold Dk.sync; rw [if_neg hd, hq, e2]; rfl
    rw [e1]
    rw [hq, e2] at HR
    clear hD hst h hd e1 hd' hq e2
    generalize hm1 : ({ m with calls := wrapI (m.calls + 1) } : Dk) = m1 at *
    have el : m.loose = m1.loose := by rw [← hm1]
    rw [el]
    rw [el] at hl
    clear hm1 el
    go_enter Try.func25, Try.ntmps25
    go_wp2_with (go_at_call 20; refine HD.out.mono ?_; rintro e w' ⟨rfl, rfl⟩)
    refine HR.out.mono ?_
    rintro e w1 ⟨rfl, hP⟩
    obtain ⟨F1, ⟨mb1, lv1, pv1, h1⟩, hs1, hm1⟩ := hP
    obtain ⟨la, lc, rfl⟩ := own_form h1.loose
    have d3 : w1.cell? ⟨b, 3, none⟩ = some (.slice la m1.loose.length lc) := h1.cells.2.2.2.1
    have H1 := Lib.hid h1
    have HS1 := Lib.hid hs1
    have HM1 := Lib.hid hm1
    clear h1 hs1 hm1
    go_wp2_with (fail)
    go_loopw [16] (fun i wr => ∃ k : Nat, k ≤ m1.loose.length ∧ i = .int .i64 k ∧ SyncRel w1 F1 b mb1 (.slice la m1.loose.length lc) pv1 m1 k wr) (fun i _ => m1.loose.length - (intOf i).toNat)
    case atStart => exact ⟨0, Nat.zero_le _, rfl, H1.out, Step.refl _ _⟩
    case round =>
      obtain ⟨k, hk, rfl, hR⟩ := hrel
      by_cases hlt : k < m1.loose.length
      · obtain ⟨x, hx⟩ : ∃ x, m1.loose[k]? = some x := ⟨_, List.getElem?_eq_getElem hlt⟩
        have hml := Dk.lands_loose (m1.loose.take k) m1
        obtain ⟨g, cap, e, hFg, hcap, hmx, x0, x1, x2⟩ := hR.1.loose_at (k := k) (x := x) (by rw [hml.1]; exact hx)
        rw [hml.1] at e
        simp only [Value.slice.injEq] at e
        obtain ⟨rfl, -, rfl⟩ := e
        have hgw : g < wr.heap.size := hR.1.lt g hFg
        have HH := Lib.hid hR
        have HX := Lib.hid hx
        have HO : Hid x.ok := H1.out.ok.loose x (List.mem_of_getElem? hx)
        have HL : ∀ W, DiskIn W F1 b mb1 (.slice (some ⟨g, 0, none⟩) m1.loose.length lc) pv1 (m1.lands (m1.loose.take k)) → Hid (Calls Try.prog 62 #[.pointer (some ⟨b, 0, none⟩), .agg #[.int .u32 x.page, .string x.s, .int .u64 x.mark]] W
              fun e w' => e = .returned (.tuple #[]) ∧ LandPost W F1 b mb1 (.slice (some ⟨g, 0, none⟩) m1.loose.length lc) pv1 ((m1.lands (m1.loose.take k)).land x) w') := fun W hW => land_c hW x HO.out
        clear hml hR hcap hmx hx
        go_wp2_with (go_at_call 62; refine ((HL _ (HH.out.1.below ((Below.refl _ _).alloc (Nat.le_refl _) _))).out).mono ?_; rintro e w' ⟨rfl, hL⟩)
        go_roundw
        case rel => exact ⟨k + 1, by omega, by go_num, (Dk.lands_next m1 _ HX.out) ▸ hL.1, HH.out.2.trans (More.refl _ _) ((Step.below ((Below.refl _ _).alloc (Nat.le_refl _) _)).trans (More.refl _ _) hL.2)⟩
        case measure => simp [intOf]; omega
      · obtain rfl : k = m1.loose.length := by omega
        unfold SyncRel at hR
        rw [List.take_length] at hR
        have b3 := hR.1.cells.2.2.2.1
        have bf := hR.1.cells.2.2.2.2.2.2.2.2.2 3
        have HH := Lib.hid hR
        clear hR
        go_wp2_with (fail)
        go_ret
        have hM := HH.out.1
        have ho : ∀ r, r ≠ b → (wr.setCell ⟨b, 3, none⟩ (.slice none 0 0)).heap[r]? = wr.heap[r]? := fun r hr => Below.heap_setCell _ _ _ r hr
        refine ⟨rfl, F1, ⟨mb1, .slice none 0 0, pv1, hM.anew (fun r hr _ => ho r hr) (by simp [World.setCell]) (hM.blk.set_ 3 (.slice none 0 0)) rfl (World.ownsRow_nil _ _ _ _) (own_same hM.plan (fun g hg => ho g (hM.plan_ne g hg))) (fun _ h => h) (by simp [Value.ownBlock]) hM.fp ⟨hM.ok.room1, hM.ok.room2, hM.ok.calls1, hM.ok.calls2, hM.ok.logs, by simp, hM.ok.pages⟩ (fun r hr => by have := hM.lt r hr; simpa [World.setCell] using this)⟩, ?_, HM1.out⟩
        exact HS1.out.trans HM1.out (HH.out.2.trans (More.refl _ _) ((Step.refl F1 wr).setCell (.inl hM.fb) _))

set_option maxRecDepth 100000 in
set_option maxHeartbeats 1000000 in
theorem read_c (h : DiskAt w F b m) (p : Int) (hp0 : 0 ≤ p) (hp1 : p ≤ 4294967295) (hl : m.loose.length ≤ 1000000000) : Calls Try.prog 22 #[.pointer (some ⟨b, 0, none⟩), .int .u32 p] w
    fun e w' => e = .returned (.tuple #[.string (m.readE p).1, .int .i64 (m.readE p).2]) ∧ Below w.heap.size w w' := by
  have hD := dead_c h
  have hM := may_c h p hp0 hp1
  by_cases hd : m.dead = true
  · have e1 : m.readE p = (⟨#[]⟩, 7) := by unfold Dk.readE; rw [if_pos hd]
    rw [e1]
    rw [hd] at hD
    have HD := Lib.hid hD
    clear hD h hd e1 hM
    go_enter Try.func22, Try.ntmps22
    go_wp2_with (go_at_call 20; refine HD.out.mono ?_; rintro e w' ⟨rfl, rfl⟩)
    go_ret2
    exact ⟨rfl, Below.refl _ _⟩
  have hd' : m.dead = false := by simpa using hd
  rw [hd'] at hD
  have HD := Lib.hid hD
  by_cases hmy : m.may p ≠ 0
  · have e1 : m.readE p = (⟨#[]⟩, m.may p) := by unfold Dk.readE; rw [if_neg hd, if_pos hmy]
    rw [e1]
    have hy : (m.may p != 0) = true := by rw [bne_iff_ne]; exact hmy
    have HM := Lib.hid hM
    clear hD hM h hd e1 hd' hmy
    go_enter Try.func22, Try.ntmps22
    go_wp2_with (first | (go_at_call 20; refine HD.out.mono ?_; rintro e w' ⟨rfl, rfl⟩) | (go_at_call 59; refine HM.out.mono ?_; rintro e w' ⟨rfl, rfl⟩))
    go_ret2
    exact ⟨rfl, Below.refl _ _⟩
  have hmy0 : m.may p = 0 := by omega
  have e1 : m.readE p = (m.read p, 0) := by unfold Dk.readE; rw [if_neg hd, if_neg hmy]
  rw [e1]
  rw [hmy0] at hM
  have HM := Lib.hid hM
  have HS : Hid (Calls Try.prog 61 #[.pointer (some ⟨b, 0, none⟩), .int .u32 p] w fun e w' => e = .returned (.string (m.sure p)) ∧ Below w.heap.size w w') := sure_c h p
  obtain ⟨mb, lv, pv, h⟩ := h
  obtain ⟨la, lc, rfl⟩ := own_form h.loose
  have d3 : w.cell? ⟨b, 3, none⟩ = some (.slice la m.loose.length lc) := h.cells.2.2.2.1
  have H := Lib.hid h
  clear hD hM h hd e1 hd' hmy hmy0
  go_enter Try.func22, Try.ntmps22
  go_wp2_with (first | (go_at_call 20; refine HD.out.mono ?_; rintro e w' ⟨rfl, rfl⟩) | (go_at_call 59; refine HM.out.mono ?_; rintro e w' ⟨rfl, rfl⟩))
  go_loop [7] (fun i => ∃ k : Nat, k ≤ m.loose.length ∧ i = .int .i64 ((k : Int) - 1) ∧ Hid (∀ (j : Nat) (y : Wr), k ≤ j → m.loose[j]? = some y → y.page ≠ p)) (fun i => (intOf i + 1).toNat)
  case atStart => exact ⟨m.loose.length, Nat.le_refl _, rfl, fun j y hj hy => by have := (List.getElem?_eq_some_iff.1 hy).1; omega⟩
  case round =>
    obtain ⟨k, hk, rfl, hA⟩ := hrel
    cases k with
    | zero =>
      have HE : Hid (m.read p = m.sure p) := by show m.read p = m.sure p; unfold Dk.read; rw [lastOf_none (fun j y hy => hA.out j y (by omega) hy)]
      go_wp2_with (go_at_call 61; refine HS.out.mono ?_; rintro e w' ⟨rfl, hb⟩)
      go_ret2
      exact ⟨by rw [HE.out]; rfl, hb⟩
    | succ k =>
      obtain ⟨x, hx⟩ : ∃ x, m.loose[k]? = some x := ⟨_, List.getElem?_eq_getElem (by omega)⟩
      obtain ⟨g, cap, e, hFg, hcap, hmx, x0, x1, x2⟩ := H.out.loose_at hx
      simp only [Value.slice.injEq] at e
      obtain ⟨rfl, -, rfl⟩ := e
      have HX := Lib.hid hx
      have hkk : (((k + 1 : Nat) : Int) - 1) = (k : Int) := by omega
      rw [hkk]
      clear hkk
      by_cases hq : x.page = p
      · have hq' : (x.page == p) = true := by simpa using hq
        have HE : Hid (m.read p = x.s) := by show m.read p = x.s; unfold Dk.read; rw [lastOf_some HX.out hq (fun j y hj hy => hA.out j y (by omega) hy)]
        clear hx hq hcap hmx hA
        go_wp2_with (fail)
        go_ret2
        exact ⟨by rw [HE.out]; rfl, Below.refl _ _⟩
      · have hq' : (x.page == p) = false := by simpa using hq
        have HA : Hid (∀ (j : Nat) (y : Wr), k ≤ j → m.loose[j]? = some y → y.page ≠ p) := fun j y hj hy => by
          by_cases e : j = k
          · subst e; rw [HX.out] at hy; cases hy; exact hq
          · exact hA.out j y (by omega) hy
        clear hx hq hcap hmx hA
        go_wp2_with (fail)
        go_round
        case rel => exact ⟨k, by omega, by go_num, HA⟩
        case measure => simp [intOf]
end
end Go.Proofs.Ytnobiekgifjaeaa
