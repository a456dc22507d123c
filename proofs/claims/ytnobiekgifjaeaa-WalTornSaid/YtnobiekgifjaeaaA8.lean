/-
  The disk: a page is written, and the mark.
-/
import Derived.Test.YtnobiekgifjaeaaA7
import Derived.Deep.AppendLies
namespace Go.Proofs.Ytnobiekgifjaeaa
open Go.RowKit

def Dk.write (m : Dk) (p : Int) (s : ByteArray) : Int × Dk :=
  if m.dead then (7, m) else if s.size ≠ 512 then (1, m) else if m.may p ≠ 0 then (m.may p, m) else if m.strikes.1 then (7, m.strikes.2) else (0, { m.strikes.2 with loose := m.strikes.2.loose ++ [⟨p, s, 0⟩] })

def Dk.setMark (m : Dk) (n : Int) : Int × Dk :=
  if m.dead then (7, m) else if m.strikes.1 then (7, m.strikes.2) else (0, { m.strikes.2 with loose := m.strikes.2.loose ++ [⟨0, ⟨#[]⟩, n⟩] })

theorem wrsCells_snoc (l : List Wr) (x : Wr) : wrsCells (l ++ [x]) = wrsCells l ++ wrCells x := by simp [wrsCells]

section
variable {w w1 w2 w' : World} {F F1 : Nat → Prop} {b mb : Nat} {lv pv : Value} {m : Dk}

/-- a loose write is put behind the others: w2 is behind the append, and the field is set -/
theorem DiskIn.pushed (h : DiskIn w F b mb lv pv m) {x : Wr} (hx : x.ok) {o : Obj} {v : Value} (hown : w2.ownsRow 0 109 3 v (m.loose.length + 1) (wrsCells m.loose ++ wrCells x)) (hg : (w.alloc o).grownBy w2 lv.ownBlock)
    (hv : v.ownBlock = lv.ownBlock ∨ v.ownBlock = some (w.alloc o).heap.size) : DPost w F b { m with loose := m.loose ++ [x] } (w2.setCell ⟨b, 3, none⟩ v) := by
  have hbw : b < w.heap.size := h.lt b h.fb
  have hsz : w.heap.size + 1 ≤ w2.heap.size := by have := hg.size; simpa using this
  have hbl : some b ≠ lv.ownBlock := fun e => h.loose_ne b e.symm rfl
  have hold : ∀ r, r < w.heap.size → some r ≠ lv.ownBlock → w2.heap[r]? = w.heap[r]? := fun r hr hne => (hg.block r (by simp; omega) hne).trans (Below.heap_alloc w o r hr)
  have hb2 : Blk w2 b 106 (dkCells mb lv pv m) := h.blk.same (hold b hbw hbl)
  have hvb : ∀ g, v.ownBlock = some g → g < w2.heap.size := fun g hg' => (hown.lt g hg').2
  have hvne : ∀ g, v.ownBlock = some g → g ≠ b := fun g hg' e => own_blk_ne hown hb2 (by decide) (by rw [hg', e])
  have ho : ∀ r, r ≠ b → (w2.setCell ⟨b, 3, none⟩ v).heap[r]? = w2.heap[r]? := fun r hr => Below.heap_setCell _ _ _ r hr
  have hmne : some mb ≠ lv.ownBlock := by
    intro e
    rcases h.loose.2 with ⟨e1, _⟩ | ⟨g', cap, cur, e1, _, hh, _⟩
    · rw [e1] at e; simp [Value.ownBlock] at e
    · rw [e1] at e
      obtain rfl : mb = g' := by simpa [Value.ownBlock] using e
      obtain ⟨es, c, h2, _⟩ := h.map
      rw [h2] at hh
      cases hh
  refine ⟨fun r => F r ∨ v.ownBlock = some r, ⟨mb, v, pv, ?_⟩, ?_, ?_⟩
  · refine ⟨hb2.set_ 3 v, h.map.same ((ho mb h.b_ne).trans (hold mb h.map.lt hmne)), ?_, ?_, .inl h.fb, .inl h.fm, fun g hg' => .inr hg', fun g hg' => .inl (h.fp g hg'), ?_, ?_⟩
    · show (w2.setCell ⟨b, 3, none⟩ v).ownsRow 0 109 3 v (m.loose ++ [x]).length (wrsCells (m.loose ++ [x]))
      rw [wrsCells_snoc, List.length_append]
      exact own_same hown (fun g hg' => ho g (hvne g hg'))
    · refine own_same h.plan (fun g hg' => (ho g (h.plan_ne g hg')).trans (hold g (h.lt g (h.fp g hg')) (fun e => ?_)))
      exact own_own_ne h.plan h.loose (by decide) hg' e.symm
    · exact ⟨h.ok.room1, h.ok.room2, h.ok.calls1, h.ok.calls2, h.ok.logs, fun y hy => by
        rcases List.mem_append.1 hy with h1 | h1
        · exact h.ok.loose y h1
        · simp at h1; subst h1; exact hx, h.ok.pages⟩
    · intro r hr
      have e : (w2.setCell ⟨b, 3, none⟩ v).heap.size = w2.heap.size := by simp [World.setCell]
      rw [e]
      rcases hr with hr | hr
      · have := h.lt r hr; omega
      · exact hvb r hr
  · exact (((Step.refl F w).alloc o).grown hg (fun k hk => .inl (h.fl k hk))).setCell (.inl h.fb) _
  · intro r hr
    rcases hr with hr | hr
    · exact .inl hr
    · rcases hv with e | e
      · rw [e] at hr; exact .inl (h.fl r hr)
      · rw [e] at hr; right; simp at hr; omega

set_option maxRecDepth 100000 in
set_option maxHeartbeats 1000000 in
theorem setMark_c (h : DiskAt w F b m) (hst : StrikesOk b m) (n : Int) (hl : m.loose.length ≤ 1000000000) : Calls Try.prog 30 #[.pointer (some ⟨b, 0, none⟩), .int .u64 n] w
    fun e w' => e = .returned (.int .i64 (m.setMark n).1) ∧ DPost w F b (m.setMark n).2 w' := by
  have hD := dead_c h
  have HP := Lib.hid (DPost.refl h)
  by_cases hd : m.dead = true
  · have e1 : m.setMark n = (7, m) := by unfold Dk.setMark; rw [if_pos hd]
    rw [e1]
    rw [hd] at hD
    have HD := Lib.hid hD
    clear hD hst h hd e1
    go_enter Try.func30, Try.ntmps30
    go_wp2_with (go_at_call 20; refine HD.out.mono ?_; rintro e w' ⟨rfl, rfl⟩)
    go_ret
    exact ⟨rfl, HP.out⟩
  have hd' : m.dead = false := by simpa using hd
  rw [hd'] at hD
  have HD := Lib.hid hD
  have HR : Hid (Calls Try.prog 60 #[.pointer (some ⟨b, 0, none⟩)] w fun e w' => e = .returned (.bool m.strikes.1) ∧ DPost w F b m.strikes.2 w') := hst w F h
  cases hq : m.strikes.1 with
  | true =>
    have e1 : m.setMark n = (7, m.strikes.2) := by unfold Dk.setMark; rw [if_neg hd, if_pos hq]
    rw [e1]
    rw [hq] at HR
    clear hD hst h hd e1 hd'
    go_enter Try.func30, Try.ntmps30
    go_wp2_with (first | (go_at_call 20; refine HD.out.mono ?_; rintro e w' ⟨rfl, rfl⟩) | (go_at_call 60; refine HR.out.mono ?_; rintro e w1 ⟨rfl, hP⟩))
    go_ret
    exact ⟨rfl, hP⟩
  | false =>
    have e2 := Dk.strikes_no hq
    have e1 : m.setMark n = (0, { m with calls := wrapI (m.calls + 1), loose := m.loose ++ [⟨0, ⟨#[]⟩, n⟩] }) := by unfold Dk.setMark; rw [if_neg hd, hq, e2]; rfl
    rw [e1]
    rw [hq, e2] at HR
    clear hD hst h hd e1 hd' hq e2
    obtain ⟨i0, hi, hz0, hz1, hz2⟩ := info_parts infoWrite
    go_enter Try.func30, Try.ntmps30
    go_wp2_with (go_at_call 20; refine HD.out.mono ?_; rintro e w' ⟨rfl, rfl⟩)
    refine HR.out.mono ?_
    rintro e w1 ⟨rfl, hP⟩
    obtain ⟨F1, ⟨mb1, lv1, pv1, h1⟩, hs1, hm1⟩ := hP
    obtain ⟨la, lc, rfl⟩ := own_form h1.loose
    have d3 : w1.cell? ⟨b, 3, none⟩ = some (.slice la m.loose.length lc) := h1.cells.2.2.2.1
    have g3 := h1.cells.2.2.2.2.2.2.2.2.2 3
    have hbw := h1.lt b h1.fb
    have hlo : w1.ownsRow 0 109 3 (.slice la m.loose.length lc) m.loose.length (wrsCells m.loose) := h1.loose
    have HL : Hid ((w1.alloc (.cells #[.int .u32 0, .string ⟨#[]⟩, .int .u64 n] 109)).ownsRow 0 109 3 (.slice la m.loose.length lc) m.loose.length (wrsCells m.loose)) := hlo.alloc _
    have H1 := Lib.hid h1
    have HS1 := Lib.hid hs1
    have HM1 := Lib.hid hm1
    have hbl : some b ≠ (Value.slice la m.loose.length lc).ownBlock := fun e => h1.loose_ne b e.symm rfl
    have HB := Lib.hid hbl
    have HL1 : Hid (m.loose.length + 1 ≤ maxLen) := by show m.loose.length + 1 ≤ maxLen; simp only [maxLen]; omega
    have HL2 : Hid ((m.loose.length + 1) * 32 ≤ 140737488355328) := by show (m.loose.length + 1) * 32 ≤ 140737488355328; omega
    have HL4 : Hid (∀ u ∈ ([.int .u32 0, .string ⟨#[]⟩, .int .u64 n] : List Value), u.oneCell' = true) := by intro u hu; simp at hu; rcases hu with rfl | rfl | rfl <;> rfl
    clear h1 hs1 hm1 hlo hbl
    go_wp2_with (at_builtin; refine wpList_append_own_at _ rfl _ _ 104 rfl 0 109 i0 _ 3 32 Try.underlying104 hi hz0 hz1 hz2 rfl (by omega) _ m.loose.length (wrsCells m.loose) rfl HL.out ⟨w1.heap.size, 0, none⟩ 1 1 [.int .u32 0, .string ⟨#[]⟩, .int .u64 n] rfl rfl (World.news_of_block (cs := #[.int .u32 0, .string ⟨#[]⟩, .int .u64 n]) (t := 109) (fr := (0, 0)) (heap_alloc_new w1 _)) HL4.out HL1.out HL2.out (Nat.zero_le _) ?_; intro v' w2 h1 h2 _ h4; obtain ⟨va, vc, rfl⟩ := own_form h1; have k3 : w2.cell? ⟨b, 3, none⟩ = some (.slice la m.loose.length lc) := h2.cell (by go_simp) HB.out; have k4 : w2.frozen? ⟨b, 3, none⟩ = false := (World.frozen?_of_block (h2.block b (by simp; omega) HB.out)).trans (by go_simp); have J1 := Lib.hid h1; have J2 := Lib.hid h2; have J4 := Lib.hid h4; clear h1 h2 h4)
    go_ret
    exact ⟨rfl, DPost.trans HS1.out HM1.out (H1.out.pushed (x := ⟨0, ⟨#[]⟩, n⟩) ⟨Int.le_refl 0, by show (0 : Int) ≤ 4096; decide, fun h => absurd rfl h⟩ J1.out J2.out J4.out)⟩

theorem Dk.may_bd {m : Dk} {p : Int} (h : m.may p = 0) : 1 ≤ p ∧ p ≤ 4096 := by
  unfold Dk.may at h
  split at h
  · omega
  · omega

set_option maxRecDepth 100000 in
set_option maxHeartbeats 1000000 in
theorem write_c (h : DiskAt w F b m) (hst : StrikesOk b m) (p : Int) (hp0 : 0 ≤ p) (hp1 : p ≤ 4294967295) (s : ByteArray) (hl : m.loose.length ≤ 1000000000) : Calls Try.prog 17 #[.pointer (some ⟨b, 0, none⟩), .int .u32 p, .string s] w
    fun e w' => e = .returned (.int .i64 (m.write p s).1) ∧ DPost w F b (m.write p s).2 w' := by
  have hD := dead_c h
  have hM := may_c h p hp0 hp1
  have HP := Lib.hid (DPost.refl h)
  by_cases hd : m.dead = true
  · have e1 : m.write p s = (7, m) := by unfold Dk.write; rw [if_pos hd]
    rw [e1]
    rw [hd] at hD
    have HD := Lib.hid hD
    clear hD hM hst h hd e1
    go_enter Try.func17, Try.ntmps17
    go_wp2_with (go_at_call 20; refine HD.out.mono ?_; rintro e w' ⟨rfl, rfl⟩)
    go_ret
    exact ⟨rfl, HP.out⟩
  have hd' : m.dead = false := by simpa using hd
  rw [hd'] at hD
  have HD := Lib.hid hD
  by_cases hs : s.size ≠ 512
  · have e1 : m.write p s = (1, m) := by unfold Dk.write; rw [if_neg hd, if_pos hs]
    rw [e1]
    have hs' : ((s.size : Int) != 512) = true := by rw [bne_iff_ne]; omega
    clear hD hM hst h hd e1 hs hd'
    go_enter Try.func17, Try.ntmps17
    go_wp2_with (go_at_call 20; refine HD.out.mono ?_; rintro e w' ⟨rfl, rfl⟩)
    go_ret
    exact ⟨rfl, HP.out⟩
  have hs' : ((s.size : Int) != 512) = false := by simp at hs ⊢; omega
  by_cases hmy : m.may p ≠ 0
  · have e1 : m.write p s = (m.may p, m) := by unfold Dk.write; rw [if_neg hd, if_neg hs, if_pos hmy]
    rw [e1]
    have hy : (m.may p != 0) = true := by rw [bne_iff_ne]; exact hmy
    have HM := Lib.hid hM
    clear hD hM hst h hd e1 hs hd' hmy
    go_enter Try.func17, Try.ntmps17
    go_wp2_with (first | (go_at_call 20; refine HD.out.mono ?_; rintro e w' ⟨rfl, rfl⟩) | (go_at_call 59; refine HM.out.mono ?_; rintro e w' ⟨rfl, rfl⟩))
    go_ret
    exact ⟨rfl, HP.out⟩
  have hmy : m.may p = 0 := by omega
  rw [hmy] at hM
  have HM := Lib.hid hM
  have hbd := Dk.may_bd hmy
  have HX : Hid (Wr.ok ⟨p, s, 0⟩) := ⟨hp0, by show p ≤ 4096; omega, fun _ => by show s.size = 512; omega⟩
  have HR : Hid (Calls Try.prog 60 #[.pointer (some ⟨b, 0, none⟩)] w fun e w' => e = .returned (.bool m.strikes.1) ∧ DPost w F b m.strikes.2 w') := hst w F h
  cases hq : m.strikes.1 with
  | true =>
    have e1 : m.write p s = (7, m.strikes.2) := by unfold Dk.write; rw [if_neg hd, if_neg (by omega), if_neg (by omega), if_pos hq]
    rw [e1]
    rw [hq] at HR
    clear hD hM hmy hst h hd e1 hd' hs
    go_enter Try.func17, Try.ntmps17
    go_wp2_with (first | (go_at_call 20; refine HD.out.mono ?_; rintro e w' ⟨rfl, rfl⟩) | (go_at_call 59; refine HM.out.mono ?_; rintro e w' ⟨rfl, rfl⟩) | (go_at_call 60; refine HR.out.mono ?_; rintro e w1 ⟨rfl, hP⟩))
    go_ret
    exact ⟨rfl, hP⟩
  | false =>
    have e2 := Dk.strikes_no hq
    have e1 : m.write p s = (0, { m with calls := wrapI (m.calls + 1), loose := m.loose ++ [⟨p, s, 0⟩] }) := by unfold Dk.write; rw [if_neg hd, if_neg (by omega), if_neg (by omega), hq, e2]; rfl
    rw [e1]
    rw [hq, e2] at HR
    clear hD hst h hd e1 hd' hq e2 hM hmy hs
    obtain ⟨i0, hi, hz0, hz1, hz2⟩ := info_parts infoWrite
    go_enter Try.func17, Try.ntmps17
    go_wp2_with (first | (go_at_call 20; refine HD.out.mono ?_; rintro e w' ⟨rfl, rfl⟩) | (go_at_call 59; refine HM.out.mono ?_; rintro e w' ⟨rfl, rfl⟩))
    refine HR.out.mono ?_
    rintro e w1 ⟨rfl, hP⟩
    obtain ⟨F1, ⟨mb1, lv1, pv1, h1⟩, hs1, hm1⟩ := hP
    obtain ⟨la, lc, rfl⟩ := own_form h1.loose
    have d3 : w1.cell? ⟨b, 3, none⟩ = some (.slice la m.loose.length lc) := h1.cells.2.2.2.1
    have g3 := h1.cells.2.2.2.2.2.2.2.2.2 3
    have hbw := h1.lt b h1.fb
    have hlo : w1.ownsRow 0 109 3 (.slice la m.loose.length lc) m.loose.length (wrsCells m.loose) := h1.loose
    have HL : Hid ((w1.alloc (.cells #[.int .u32 p, .string s, .int .u64 0] 109)).ownsRow 0 109 3 (.slice la m.loose.length lc) m.loose.length (wrsCells m.loose)) := hlo.alloc _
    have H1 := Lib.hid h1
    have HS1 := Lib.hid hs1
    have HM1 := Lib.hid hm1
    have hbl : some b ≠ (Value.slice la m.loose.length lc).ownBlock := fun e => h1.loose_ne b e.symm rfl
    have HB := Lib.hid hbl
    have HL1 : Hid (m.loose.length + 1 ≤ maxLen) := by show m.loose.length + 1 ≤ maxLen; simp only [maxLen]; omega
    have HL2 : Hid ((m.loose.length + 1) * 32 ≤ 140737488355328) := by show (m.loose.length + 1) * 32 ≤ 140737488355328; omega
    have HL4 : Hid (∀ u ∈ ([.int .u32 p, .string s, .int .u64 0] : List Value), u.oneCell' = true) := by intro u hu; simp at hu; rcases hu with rfl | rfl | rfl <;> rfl
    clear h1 hs1 hm1 hlo hbl
    go_wp2_with (at_builtin; refine wpList_append_own_at _ rfl _ _ 104 rfl 0 109 i0 _ 3 32 Try.underlying104 hi hz0 hz1 hz2 rfl (by omega) _ m.loose.length (wrsCells m.loose) rfl HL.out ⟨w1.heap.size, 0, none⟩ 1 1 [.int .u32 p, .string s, .int .u64 0] rfl rfl (World.news_of_block (cs := #[.int .u32 p, .string s, .int .u64 0]) (t := 109) (fr := (0, 0)) (heap_alloc_new w1 _)) HL4.out HL1.out HL2.out (Nat.zero_le _) ?_; intro v' w2 h1 h2 _ h4; obtain ⟨va, vc, rfl⟩ := own_form h1; have k3 : w2.cell? ⟨b, 3, none⟩ = some (.slice la m.loose.length lc) := h2.cell (by go_simp) HB.out; have k4 : w2.frozen? ⟨b, 3, none⟩ = false := (World.frozen?_of_block (h2.block b (by simp; omega) HB.out)).trans (by go_simp); have J1 := Lib.hid h1; have J2 := Lib.hid h2; have J4 := Lib.hid h4; clear h1 h2 h4)
    go_ret
    exact ⟨rfl, DPost.trans HS1.out HM1.out (H1.out.pushed (x := ⟨p, s, 0⟩) HX.out J1.out J2.out J4.out)⟩
end
end Go.Proofs.Ytnobiekgifjaeaa
