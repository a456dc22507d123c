/-
  The walk of a pool's room.
-/
import Derived.Test.YtnghgkaoopcglaaGreatPW
namespace Go.Proofs.YtnghgkaoopcglaaGreat
open Go.RowKit
attribute [local go_sem ↓] Go.wp_at_zero Go.wp_at_succ

theorem PPost.widen {w w' : World} {U U' : Nat → Prop} {b lb pb : Nat} {m : Dk} {g : Lg} {q : Po} (h : PPost w U b lb pb m g q w') (hU : ∀ r, U r → U' r) : PPost w U' b lb pb m g q w' := by
  obtain ⟨U1, h1, h2, h3⟩ := h
  exact ⟨U1, h1, h2.wider hU, fun r hr => by rcases h3 r hr with h | h; exact .inl (hU r h); exact .inr h⟩
theorem PoolIn.drop {w w' : World} {H : Nat → Prop} {pb b lb mb : Nat} {pk : Value} {vs : List (Nat × Value)} {q : Po} (n : Nat) (h : PoolIn w H pb b lb mb pk vs q) (hg : w.grownBy w' (some mb)) (hm : MapL w' mb (delL n vs)) : PoolIn w' H pb b lb mb pk (delL n vs) (q.drop n) :=
  h.mapped hg hm (h.frs.del n) (Nat.le_trans (List.length_filter_le _ _) h.le) (fun p hp => h.keys p (List.mem_filter.1 hp).1)
section
variable {w : World} {U : Nat → Prop} {b lb pb : Nat} {m : Dk} {g : Lg} {q : Po}
/-- the frame that leaves is there -/
theorem Po.leaves {n : Nat} {q : Po} (h : 0 < q.frames.length) (hn : q.at_.1 = n) : n < q.frames.length := by
  rw [← hn]
  unfold Po.at_
  split
  · exact h
  · rename_i x l _
    show (x % (q.frames.length : Int)).toNat < _
    have h1 := Int.emod_nonneg x (b := (q.frames.length : Int)) (by omega)
    have h2 := Int.emod_lt_of_pos x (b := (q.frames.length : Int)) (by omega)
    omega
set_option maxRecDepth 100000 in
set_option maxHeartbeats 4000000 in
/-- room, where no frame was picked -/
theorem proom_c' (h : PX w U b lb pb m g q) (hp : PlanOk m) (hl : m.loose.length ≤ 1000000) (hpk : q.picks = []) (h12 : q.frames.length ≤ 12) :
    Calls Tryz.prog 70 #[.pointer (some ⟨pb, 0, none⟩)] w fun e w' => e = .returned (.int .i64 (roomQ m g q).1) ∧ PPost w U b lb pb (roomQ m g q).2.1 (roomQ m g q).2.2.1 (roomQ m g q).2.2.2 w' := by
  obtain ⟨U0, hx0, hU0, hlt0⟩ := h.fit
  have HX := Lib.hid hx0
  have HU0 := Lib.hid hU0
  have HLT0 := Lib.hid hlt0
  clear h hU0 hlt0
  obtain ⟨F, G, H, mb, pk, vs, h1, h2, h3, h4⟩ := hx0
  have hvl := h2.frs.length
  have hle := h2.le
  have hmo := h2.most
  have HML := Lib.hid h2.map
  have c2 : w.cell? ⟨pb, 2, none⟩ = some (.int .i64 (q.most : Int)) := h2.cells.2.2.1
  have c3 : w.cell? ⟨pb, 3, none⟩ = some (.map (some mb)) := h2.cells.2.2.2.1
  have c4 : w.cell? ⟨pb, 4, none⟩ = some pk := h2.cells.2.2.2.2.1
  have HLEN : ∀ ty W, W.heap[mb]? = w.heap[mb]? → Hid ((Builtin.len_ #[158] ty #[.map (some mb)]).run Tryz.prog W = .ok (.int .i64 (vs.length : Int)) W) := fun ty W hW => (h2.map.same hW).len ty
  obtain ⟨r, hr⟩ : ∃ r, roomQ m g q = r := ⟨_, rfl⟩
  rw [hr]
  unfold roomQ at hr
  by_cases k1 : q.frames.length < q.most
  · rw [if_pos k1] at hr
    have k1' : (vs.length : Int) < (q.most : Int) := by omega
    have HR := Lib.hid hr
    clear h1 h2 h3 h4 hr k1 hvl HML c4
    have hlen := fun ty n => (HLEN ty (w.drewN n) rfl).out
    go_enter Tryz.func70, Tryz.ntmps70
    go_wp2_with (fail)
    go_quiet (fail)
    go_wp2
    go_ret
    rw [← HR.out]
    exact ⟨rfl, (HX.out.belowP (below_drewN _ _)).widen HU0.out⟩
  · rw [if_neg k1] at hr
    have k1' : ¬ (vs.length : Int) < (q.most : Int) := by omega
    have hmo1 := h2.most1
    have hlen := fun ty n => (HLEN ty (w.drewN n) rfl).out
    have hat : q.at_ = (0, q) := by unfold Po.at_; rw [hpk]
    rw [hat] at hr
    simp only at hr
    obtain ⟨pa, pc, rfl⟩ : ∃ pa pc, pk = .slice pa 0 pc := by
      rcases h2.picks with ⟨e, _⟩ | ⟨g0, o0, cap, e, _⟩
      · exact ⟨none, 0, e⟩
      · rw [hpk] at e; exact ⟨_, _, e⟩
    obtain ⟨⟨n, f0⟩, fr, hfr⟩ : ∃ p fr, q.frames = p :: fr := by
      cases hq : q.frames with
      | nil => rw [hq] at k1; simp at k1; omega
      | cons p fr => exact ⟨p, fr, rfl⟩
    have hn := h2.keys (n, f0) (by rw [hfr]; exact List.mem_cons_self ..)
    simp only at hn
    obtain ⟨v0, vr, hvr⟩ : ∃ v0 vr, vs = (n, v0) :: vr := by
      have hk := h2.frs.keys
      rw [hfr] at hk
      cases hv : vs with
      | nil => rw [hv] at hk; simp at hk
      | cons a vr =>
        rw [hv] at hk
        simp only [List.map_cons, List.cons.injEq] at hk
        exact ⟨a.2, vr, by rw [← hk.1]⟩
    have hn0 : ((q.frames[0]?).map (·.1)).getD 0 = n := by rw [hfr]; rfl
    rw [hn0] at hr
    have HVR := Lib.hid hvr
    have hv1 : 0 < vs.length := by rw [hvr]; simp
    clear hn0 hfr hvr
    have HR := Lib.hid hr
    have HP0 := Lib.hid h2
    have HPL := Lib.hid hp
    have HLO := Lib.hid hl
    have HVL := Lib.hid hvl
    have HK1 : Hid (¬ q.frames.length < q.most) := k1
    clear h1 h2 h3 h4 hr k1 hat hp hl hvl
    go_enter Tryz.func70, Tryz.ntmps70
    go_wp2_with (fail)
    go_quiet (fail)
    have HP1 := Lib.hid (HP0.out.drewN nq)
    have HX1 : Hid (PX (w.drewN nq) U0 b lb pb m g q) := HX.out.below (below_drewN _ _)
    have hsz1 : (w.drewN nq).heap.size = w.heap.size := rfl
    have HBW1 : Hid (Below w.heap.size w (w.drewN nq)) := below_drewN _ _
    generalize w.drewN nq = w1 at *
    clear c2 c3 c4 hlen HLEN HML HP0 HX
    have d4 : w1.cell? ⟨pb, 4, none⟩ = some (.slice pa 0 pc) := HP1.out.cells.2.2.2.2.1
    have HNU := Lib.hid (numbersP_c w1 mb vs HP1.out.map (by have := HVL.out; omega) pb HP1.out.cells.2.2.2.1)
    go_wp2_with (fail)
    refine HNU.out.mono ?_
    rintro e w2 ⟨lv, rfl, hrow, hb2⟩
    have HX2 := Lib.hid (HX1.out.below hb2)
    have HP2 := Lib.hid (HP1.out.below hb2)
    have HBW2 : Hid (Below w.heap.size w w2) := HBW1.out.trans (hb2.mono (by rw [hsz1]; exact Nat.le_refl _))
    obtain ⟨lg, lc, rfl, hlg⟩ : ∃ lg lc, lv = .slice (some ⟨lg, 0, none⟩) vs.length lc ∧ w1.heap.size ≤ lg := by
      obtain ⟨lg, lc, e, h1, _⟩ := hrow.form hv1
      exact ⟨lg, lc, e, h1⟩
    have r0 : w2.cell? ⟨lg, 0, none⟩ = some (.int .u32 (n : Int)) := by
      have := hrow.cells (g := lg) (by rfl) 0 (.int .u32 (n : Int)) (by rw [HVR.out]; rfl)
      rwa [addr_add] at this
    have hls : lg < w2.heap.size := (hrow.lt lg rfl).2
    have HLG : Hid (¬ U0 lg) := fun hu => by have := HLT0.out lg hu; omega
    have HROW := Lib.hid hrow
    clear hrow hb2 HNU d4 HP1 HX1 HBW1
    have d4 : w2.cell? ⟨pb, 4, none⟩ = some (.slice pa 0 pc) := HP2.out.cells.2.2.2.2.1
    obtain ⟨a1, m1, g1, q1, ha⟩ : ∃ a1 m1 g1 q1, writeQ m g q n = (a1, m1, g1, q1) := ⟨_, _, _, _, rfl⟩
    have HW := Lib.hid (pwrite_c HX2.out HPL.out HLO.out n (by omega))
    rw [ha] at HW
    have HA := Lib.hid ha
    have hcap : vs.length ≤ lc ∧ lc ≤ maxLen := by
      rcases HROW.out.2 with ⟨e, _⟩ | ⟨g', cap', cur', e, _, _, z1, z2, _⟩
      · cases e
      · cases e; exact ⟨z1, z2⟩
    clear ha
    go_wp2_with (fail)
    refine HW.out.mono ?_
    rintro e w3 ⟨rfl, hp3⟩
    have HP3 := Lib.hid hp3
    clear hp3 HW
    by_cases ka : a1 = 0
    · subst ka
      have HR2 : Hid (r = (0, m1, g1, q1.drop n)) := by show _ = _; rw [← HR.out, HA.out]; rfl
      obtain ⟨U3, ⟨F3, G3, H3, mb3, pk3, vs3, hb3, hq3, hd3, hu3⟩, hs3, hm3⟩ := HP3.out
      have CS : Hid (OneC ⟨pb, 3, none⟩ (.map (some mb3)) w3 ∧ OneC ⟨lg, 0, none⟩ (.int .u32 (n : Int)) w3) :=
        ⟨hq3.cells.2.2.2.1, (World.cell?_of_block (a := ⟨lg, 0, none⟩) (hs3.block lg hls HLG.out)).trans r0⟩
      have HQ3 := Lib.hid hq3
      have HB3 := Lib.hid hb3
      have HD3 := Lib.hid hd3
      have HU3 := Lib.hid hu3
      have HS3 := Lib.hid hs3
      have HM3 := Lib.hid hm3
      clear hq3 hb3 hd3 hu3 hs3 hm3 d4 r0 hls
      go_wp2_with (fail)
      refine wp_region_late (S := fun W => OneC ⟨pb, 3, none⟩ (.map (some mb3)) W ∧ OneC ⟨lg, 0, none⟩ (.int .u32 (n : Int)) W) (late := [8]) (by kernel_rfl) CS.out (fun hHeld => ?_)
      refine wpAnyL_move (i := 0) (v := ?_) (by rfl) (by kernel_rfl) (by kernel_rfl) (by kernel_rfl) (by rfl) (by exact fun _ _ _ h => h) (Or.inl ⟨by rfl, ?_⟩) (by assumption) ?_; rotate_left; · (intro w0; go_simp; try with_reducible rfl)
      try simp only [Act.put, List.setIfInBounds_toArray, List.set_cons_zero, List.set_cons_succ]
      refine wpAnyL_move (i := 1) (v := ?_) (by rfl) (by kernel_rfl) (by kernel_rfl) (by kernel_rfl) (by rfl) (by exact fun _ _ _ h => h) (Or.inl ⟨by rfl, ?_⟩) (by assumption) ?_; rotate_left; · (intro w0; go_simp; try with_reducible rfl)
      try simp only [Act.put, List.setIfInBounds_toArray, List.set_cons_zero, List.set_cons_succ]
      refine wpAnyL_move (i := 2) (v := ?_) (by rfl) (by kernel_rfl) (by kernel_rfl) (by kernel_rfl) (by rfl) (by exact fun _ _ _ h => h) (Or.inl ⟨by rfl, ?_⟩) (by assumption) ?_; rotate_left; · (intro w0; go_simp; try with_reducible rfl)
      try simp only [Act.put, List.setIfInBounds_toArray, List.set_cons_zero, List.set_cons_succ]
      refine wpAnyL_load (i := 3) (v := ?_) (by rfl) (by kernel_rfl) (by kernel_rfl) (by kernel_rfl) (by rfl) (by kernel_rfl) (by exact fun _ _ _ h => h) (Or.inl ⟨by rfl, ?_⟩) (by assumption) ?_; rotate_left; · (intro w0 hS0; obtain ⟨hS1, hS2⟩ := hS0; unfold OneC at hS1 hS2; go_simp; try with_reducible rfl)
      try simp only [Act.put, List.setIfInBounds_toArray, List.set_cons_zero, List.set_cons_succ]
      refine wpAnyL_move (i := 4) (v := ?_) (by rfl) (by kernel_rfl) (by kernel_rfl) (by kernel_rfl) (by rfl) (by exact fun _ _ _ h => h) (Or.inl ⟨by rfl, ?_⟩) (by assumption) ?_; rotate_left; · (intro w0; go_simp; try with_reducible rfl)
      try simp only [Act.put, List.setIfInBounds_toArray, List.set_cons_zero, List.set_cons_succ]
      refine wpAnyL_move (i := 5) (v := ?_) (by rfl) (by kernel_rfl) (by kernel_rfl) (by kernel_rfl) (by rfl) (by exact fun _ _ _ h => h) (Or.inl ⟨by rfl, ?_⟩) (by assumption) ?_; rotate_left; · (intro w0; go_simp; try with_reducible rfl)
      try simp only [Act.put, List.setIfInBounds_toArray, List.set_cons_zero, List.set_cons_succ]
      refine wpAnyL_move (i := 6) (v := ?_) (by rfl) (by kernel_rfl) (by kernel_rfl) (by kernel_rfl) (by rfl) (by exact fun _ _ _ h => h) (Or.inl ⟨by rfl, ?_⟩) (by assumption) ?_; rotate_left; · (intro w0; go_simp; try with_reducible rfl)
      try simp only [Act.put, List.setIfInBounds_toArray, List.set_cons_zero, List.set_cons_succ]
      refine wpAnyL_load (i := 7) (v := ?_) (by rfl) (by kernel_rfl) (by kernel_rfl) (by kernel_rfl) (by rfl) (by kernel_rfl) (by exact fun _ _ _ h => h) (Or.inl ⟨by rfl, ?_⟩) (by assumption) ?_; rotate_left; · (intro w0 hS0; obtain ⟨hS1, hS2⟩ := hS0; unfold OneC at hS1 hS2; go_simp; try with_reducible rfl)
      try simp only [Act.put, List.setIfInBounds_toArray, List.set_cons_zero, List.set_cons_succ]
      refine wpAnyL_late (i := 8) (by kernel_rfl) (by rfl) (by rfl) (fun K hK => ?_)
      refine step_dropL _ (by rfl) _ _ (by rfl) mb3 vs3 (by rfl) (HQ3.out.map.same (w' := w3.drew) rfl) n (by omega) (by rfl) ?_; intro w4 hm4 hg4
      refine hK.out _ _ ?_
      clear hK K
      try simp only [Act.put]
      refine wpAny_done (by kernel_rfl) ?_ _
      have hP4 : PoolIn w4 H3 pb b lb mb3 pk3 _ (q1.drop n) := (HQ3.out.drewN 1).drop n hg4 hm4
      have hS4 : Step H3 w3 w4 := ((Step.refl H3 w3).drewN 1).grown hg4 (fun k hk => by cases hk; exact .inl HQ3.out.hmb)
      have HF : Hid (PPost w U b lb pb m1 g1 (q1.drop n) w4) := (PPost.trans (Step.below HBW2.out) (More.refl _ _) (PPost.trans HS3.out HM3.out (PX.poolP HB3.out HQ3.out.lt HD3.out HU3.out hP4 hS4 (More.refl _ _)))).widen HU0.out
      clear hP4 hS4 hm4 hg4
      go_wp2
      go_ret
      rw [HR2.out]
      exact ⟨rfl, HF.out⟩
    · have HR2 : Hid (r = (a1, m1, g1, q1)) := by show _ = _; rw [← HR.out, HA.out]; exact if_pos ka
      go_wp2
      go_ret
      rw [HR2.out]
      exact ⟨rfl, (PPost.trans (Step.below HBW2.out) (More.refl _ _) HP3.out).widen HU0.out⟩
end
end Go.Proofs.YtnghgkaoopcglaaGreat
