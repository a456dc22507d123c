/-
  The walk of a pool's Write.
-/
import Derived.Test.YtnghgkaoopcglaaGreatPA
namespace Go.Proofs.YtnghgkaoopcglaaGreat
open Go.RowKit
attribute [local go_sem ↓] Go.wp_at_zero Go.wp_at_succ

def FrC (f : Fr) (sv : Value) : Array Value := #[.int .u32 (f.p.num : Int), .int .u64 (f.p.lsn : Int), .int .i64 f.p.kind, .string f.p.head, sv, .int .u64 (f.dirty : Int)]
/-- what Write leaves as it is: the pool, the frame's box, the two places -/
def WrP (_w : World) (H : Nat → Prop) (pb b lb mb : Nat) (pk : Value) (vs : List (Nat × Value)) (q : Po) (bx : Nat) (cs : Array Value) (W : World) : Prop :=
  PoolIn W H pb b lb mb pk vs q ∧ Blk W bx 156 cs
def WrP2 (w : World) (H : Nat → Prop) (pb b lb mb : Nat) (pk : Value) (vs : List (Nat × Value)) (q : Po) (bx : Nat) (cs : Array Value) (rw_ : Nat) (n : Nat) (W : World) : Prop :=
  WrP w H pb b lb mb pk vs q bx cs W ∧ Blk W rw_ 48 #[.int .u32 ((n : Int) + 2048), .int .u32 (n : Int)]
section
variable {w W : World} {H : Nat → Prop} {pb b lb mb bx rw_ n : Nat} {pk : Value} {vs : List (Nat × Value)} {q : Po} {cs : Array Value}
theorem stable_pool : StableP H (fun _ => False) (fun W => PoolIn W H pb b lb mb pk vs q) := fun _ _ h hs hk => h.keep (fun r hr => hk r (.inl hr)) hs
theorem stable_wr : StableP H (fun r => r = bx) (WrP w H pb b lb mb pk vs q bx cs) := fun _ _ h hs hk => ⟨h.1.keep (fun r hr => hk r (.inl hr)) hs, h.2.same (hk bx (.inr rfl))⟩
theorem stable_wr2 : StableP H (fun r => r = bx ∨ r = rw_) (WrP2 w H pb b lb mb pk vs q bx cs rw_ n) := fun _ _ h hs hk =>
  ⟨⟨h.1.1.keep (fun r hr => hk r (.inl hr)) hs, h.1.2.same (hk bx (.inr (.inl rfl)))⟩, h.2.same (hk rw_ (.inr (.inr rfl)))⟩
end
theorem writeF_1 {m m1 : Dk} {g g1 : Lg} {q : Po} {n : Nat} {f : Fr} {a1 : Int} (ha : flushE m g f.p.lsn = (a1, m1, g1)) (h : a1 ≠ 0) : writeF m g q n f = (a1, m1, g1, q) := by
  unfold writeF
  simp only [ha, if_pos h]
theorem writeF_2 {m m1 m2 : Dk} {g g1 : Lg} {q : Po} {n : Nat} {f : Fr} {a2 : Int} (ha : flushE m g f.p.lsn = (0, m1, g1)) (hb : write2 m1 (n + 2048) f.p.encE.1 = (a2, m2)) (h : a2 ≠ 0) : writeF m g q n f = (a2, m2, g1, q) := by
  unfold writeF
  simp only [ha, hb, if_pos h, ne_eq, not_true_eq_false, if_false]
theorem writeF_3 {m m1 m2 m3 : Dk} {g g1 : Lg} {q : Po} {n : Nat} {f : Fr} {a3 : Int} (ha : flushE m g f.p.lsn = (0, m1, g1)) (hb : write2 m1 (n + 2048) f.p.encE.1 = (0, m2)) (hc : write2 m2 n f.p.encE.1 = (a3, m3)) (h : a3 ≠ 0) : writeF m g q n f = (a3, m3, g1, q) := by
  unfold writeF
  simp only [ha, hb, hc, if_pos h, ne_eq, not_true_eq_false, if_false]
theorem writeF_4 {m m1 m2 m3 : Dk} {g g1 : Lg} {q : Po} {n : Nat} {f : Fr} (ha : flushE m g f.p.lsn = (0, m1, g1)) (hb : write2 m1 (n + 2048) f.p.encE.1 = (0, m2)) (hc : write2 m2 n f.p.encE.1 = (0, m3)) : writeF m g q n f = (0, m3, g1, q.wrote n f) := by
  unfold writeF
  simp only [ha, hb, hc, ne_eq, not_true_eq_false, if_false]
theorem write2_1 {m m' : Dk} {n : Nat} {s : ByteArray} {c : Int} (h : m.write n s = (c, m')) (hc : c ≠ 0) : write2 m n s = (c, m') := by
  unfold write2
  rw [h, if_pos hc]
theorem write2_2 {m m' : Dk} {n : Nat} {s : ByteArray} (h : m.write n s = (0, m')) : write2 m n s = m'.sync := by
  unfold write2
  rw [h, if_neg (fun h => h rfl)]
/-- the places that were written so far -/
def Wseq (m1 : Dk) (n : Nat) (be : ByteArray) (k : Nat) (mk : Dk) : Prop :=
  match k with
  | 0 => mk = m1
  | 1 => write2 m1 (n + 2048) be = (0, mk)
  | 2 => ∃ m2, write2 m1 (n + 2048) be = (0, m2) ∧ write2 m2 n be = (0, mk)
  | _ => False
theorem write2_next {m m' : Dk} {n : Nat} {s : ByteArray} {c : Int} (hp : PlanOk m) (h : write2 m n s = (c, m')) : PlanOk m' ∧ m'.loose.length ≤ m.loose.length + 1 := by
  have h1 := Dk.write_next hp n s
  unfold write2 at h
  split at h
  · rw [h] at h1; exact ⟨h1.planOk hp, h1.loose⟩
  · have h2 := Dk.sync_next (h1.planOk hp)
    rw [h] at h2
    exact ⟨plan_ok (h1.planOk hp) h2.1, Nat.le_trans h2.2 h1.loose⟩
theorem Wseq.ok {m1 mk : Dk} {n k : Nat} {be : ByteArray} (hp : PlanOk m1 ∧ m1.loose.length ≤ 1000000) (h : Wseq m1 n be k mk) : PlanOk mk ∧ mk.loose.length ≤ 1000002 := by
  match k, h with
  | 0, h => rw [show mk = m1 from h]; exact ⟨hp.1, by omega⟩
  | 1, h => have := write2_next hp.1 h; exact ⟨this.1, by omega⟩
  | 2, ⟨m2, h1, h2⟩ => have a := write2_next hp.1 h1; have b := write2_next a.1 h2; exact ⟨b.1, by omega⟩
theorem wrap64_I (x : Int) : wrap64 x = wrapI x := by unfold wrap64 wrapI; rfl
theorem PoolIn.clean {w w' : World} {H : Nat → Prop} {pb b lb mb n : Nat} {pk : Value} {vs : List (Nat × Value)} {q : Po} {f : Fr} {sv : Value} (h : PoolIn w H pb b lb mb pk vs q) (hf : getL n q.frames = some f) (hv : getL n vs = some (FrV f sv)) (hg : w.grownBy w' (some mb))
    (hm : MapL w' mb (putL n (FrV { f with dirty := 0 } sv) vs)) : PoolIn w' H pb b lb mb pk (putL n (FrV { f with dirty := 0 } sv) vs) { q with frames := putL n { f with dirty := 0 } q.frames } := by
  refine h.mapped hg hm (h.frs.put ?_) ?_ (fun p hp => by
    rcases mem_putL hp with rfl | hp
    · exact h.keys (n, f) (getL_some_mem hf)
    · exact h.keys p hp)
  · rcases h.frs.get n with ⟨hv', _⟩ | ⟨v', f', hv', hf', hfr⟩
    · rw [hv] at hv'; cases hv'
    · rw [hf] at hf'
      cases hf'
      rw [hv] at hv'
      cases hv'
      obtain ⟨h1, ⟨sv', h2, h3, h4⟩, h5, h6⟩ := hfr
      have : sv = sv' := by
        simp only [FrV] at h2
        simp at h2
        exact h2
      subst this
      exact ⟨rfl, ⟨sv, rfl, h3, h4⟩, h5, by show 0 < _; decide⟩
  · rw [putL_length_in n _ h.rising (by rw [hf]; rfl)]
    exact h.le
theorem FrC_clean (fp : Sh) (fd : Nat) (sv : Value) : (FrC ⟨fp, fd⟩ sv).setIfInBounds 5 (.int .u64 0) = FrC ⟨fp, 0⟩ sv := by simp [FrC]
theorem wrap_i64_I (x : Int) : IntKind.i64.wrap x = wrapI x := by rw [IntKind.wrap_i64]; rfl
section
variable {w : World} {U : Nat → Prop} {b lb pb : Nat} {m : Dk} {g : Lg} {q : Po}
set_option maxRecDepth 100000 in
set_option maxHeartbeats 4000000 in
theorem pwrite_c (h : PX w U b lb pb m g q) (hp : PlanOk m) (hl : m.loose.length ≤ 1000000) (n : Nat) (hn : n ≤ 1000000) :
    Calls Tryz.prog 23 #[.pointer (some ⟨pb, 0, none⟩), .int .u32 (n : Int)] w fun e w' => e = .returned (.int .i64 (writeQ m g q n).1) ∧ PPost w U b lb pb (writeQ m g q n).2.1 (writeQ m g q n).2.2.1 (writeQ m g q n).2.2.2 w' := by
  have HX := Lib.hid h
  obtain ⟨F, G, H, mb, pk, vs, h1, h2, h3, h4⟩ := h
  have HM := Lib.hid h2.map
  have HLK : (Instr.lookup 158 (.map (some mb)) (.int .u32 (n : Int)) true).run Tryz.prog w = .ok (.tuple #[(getL n vs).getD _, .bool (getL n vs).isSome]) w := h2.map.look n (by omega) (zero_frame w)
  have c3 : w.cell? ⟨pb, 3, none⟩ = some (.map (some mb)) := h2.cells.2.2.2.1
  obtain ⟨r, hr⟩ : ∃ r, writeQ m g q n = r := ⟨_, rfl⟩
  rw [hr]
  unfold writeQ at hr
  rcases h2.frs.get n with ⟨hv, hf⟩ | ⟨v, f, hv, hf, hfr⟩
  · rw [hf] at hr
    rw [hv] at HLK
    simp only [Option.getD_none, Option.isSome_none] at HLK hr
    have HR := Lib.hid hr
    clear h1 h2 h3 h4 hr hf hv HM
    go_enter Tryz.func23, Tryz.ntmps23
    go_wp2
    go_ret
    rw [← HR.out]
    exact ⟨rfl, HX.out.belowP ((Below.refl _ _).alloc (Nat.le_refl _) _)⟩
  · rw [hf] at hr
    rw [hv] at HLK
    simp only [Option.getD_some, Option.isSome_some] at HLK hr
    obtain ⟨hk, ⟨sv, hvv, hrd, hso⟩, hmild, hdb⟩ := hfr
    simp only at hvv hrd hmild hdb
    subst hvv
    obtain ⟨fp, fd⟩ := f
    simp only at hrd hmild hdb hr
    unfold FrV at HLK
    simp only at HLK
    by_cases hd : fd = 0
    · rw [if_pos hd] at hr
      subst hd
      have HR := Lib.hid hr
      obtain ⟨sa, sc, rfl⟩ := hrd.form
      clear h1 h2 h3 h4 hr hf hv HM hrd hmild hdb hso
      go_enter Tryz.func23, Tryz.ntmps23
      go_wp2
      go_ret
      rw [← HR.out]
      exact ⟨rfl, HX.out.belowP ((Below.refl _ _).alloc (Nat.le_refl _) _)⟩
    · rw [if_neg hd] at hr
      have hfd : ¬ ((fd : Int) = 0) := by omega
      obtain ⟨sa, sc, rfl⟩ := hrd.form
      have HR := Lib.hid hr
      have HRD := Lib.hid hrd
      have HMI := Lib.hid hmild
      have HPI := Lib.hid h2
      have H3 := Lib.hid h3
      have H4 := Lib.hid h4
      have H1 := Lib.hid h1
      have HSO := Lib.hid hso
      have HF := Lib.hid hf
      have HV := Lib.hid hv
      clear h1 h2 h3 h4 hr hf hv HM hrd hmild hso hd
      obtain ⟨be, ec, hen⟩ : ∃ be ec, fp.encE = (be, ec) := ⟨_, _, rfl⟩
      obtain ⟨a1, m1, g1, ha⟩ : ∃ a1 m1 g1, flushE m g fp.lsn = (a1, m1, g1) := ⟨_, _, _, rfl⟩
      have hn1 : PlanOk m1 ∧ m1.loose.length ≤ 1000000 := by
        have := flush_next hp g fp.lsn
        rw [ha] at this
        exact ⟨plan_ok hp this.1, Nat.le_trans this.2 hl⟩
      have HN1 := Lib.hid hn1
      have HST1 := Lib.hid (hp.strikes (b := b) (by omega))
      have HST2 := Lib.hid ((plan_ok hp (Dk.appendLog_next hp g.tail).1).strikes (b := b) (by have := (Dk.appendLog_next hp g.tail).2; omega))
      have HENC := Lib.hid (pencode_c (HRD.out.below ((Below.refl _ _).alloc (Nat.le_refl _) (.cells (FrC ⟨fp, fd⟩ (.slice sa fp.slots.length sc)) 156))) HMI.out)
      rw [hen] at HENC
      unfold ShV FrC at HENC
      simp only at HENC
      have hB1 := Blk.new w 156 (FrC ⟨fp, fd⟩ (.slice sa fp.slots.length sc))
      have HA := Lib.hid ha
      have HEN := Lib.hid hen
      clear hn1 ha hen hp hl
      go_enter Tryz.func23, Tryz.ntmps23
      go_wp2_with (fail)
      refine HENC.out.mono ?_
      rintro e w2 ⟨rfl, hb2⟩
      have hbw : Below w.heap.size w w2 := ((Below.refl _ _).alloc (Nat.le_refl _) _).trans (hb2.mono (by simp))
      have H5 : Hid (PS w F G H (fun r => r = w.heap.size) (WrP w H pb b lb mb pk vs q w.heap.size (FrC ⟨fp, fd⟩ (.slice sa fp.slots.length sc))) b lb m g w2) :=
        (PS.start (P := fun W => PoolIn W H pb b lb mb pk vs q) H1.out HPI.out.lt H3.out HPI.out).turn (Step.below hbw) (fun r hr => hr.elim) (fun r hr => .inr (Nat.le_of_eq hr.symm)) (fun r hr => by rw [hr]; have := hb2.size; simp at this; omega)
          ⟨HPI.out.below hbw, hB1.same (hb2.block _ (by simp))⟩
      clear HENC hB1 hb2 hbw HLK c3
      have c1 : w2.cell? ⟨pb, 1, none⟩ = some (.pointer (some ⟨lb, 0, none⟩)) := H5.out.own.1.cells.2.1
      have d1 : w2.cell? ⟨w.heap.size, 1, none⟩ = some (.int .u64 (fp.lsn : Int)) := H5.out.own.2.cell 1
      have C1 : Hid (OneC ⟨pb, 1, none⟩ (.pointer (some ⟨lb, 0, none⟩)) w2 ∧ OneC ⟨w.heap.size, 1, none⟩ (.int .u64 (fp.lsn : Int)) w2) := ⟨c1, d1⟩
      have HFL := Lib.hid ((H5.out.below stable_wr (below_drewN w2 1)).calls stable_wr (fun F' G' hB => lflush_c hB HST1.out HST2.out fp.lsn))
      rw [HA.out] at HFL
      clear HST1 HST2 c1 d1
      go_wp2_with (fail)
      refine wp_region_late (S := fun W => OneC ⟨pb, 1, none⟩ (.pointer (some ⟨lb, 0, none⟩)) W ∧ OneC ⟨w.heap.size, 1, none⟩ (.int .u64 (fp.lsn : Int)) W) (late := [7]) (by kernel_rfl) C1.out (fun hHeld => ?_)
      refine wpAnyL_move (i := 0) (v := ?_) (by rfl) (by kernel_rfl) (by kernel_rfl) (by kernel_rfl) (by rfl) (by exact fun _ _ _ h => h) (Or.inl ⟨by rfl, ?_⟩) (by assumption) ?_; rotate_left; · (intro w0; go_simp; try with_reducible rfl)
      try simp only [Act.put, List.setIfInBounds_toArray, List.set_cons_zero, List.set_cons_succ]
      refine wpAnyL_move (i := 1) (v := ?_) (by rfl) (by kernel_rfl) (by kernel_rfl) (by kernel_rfl) (by rfl) (by exact fun _ _ _ h => h) (Or.inl ⟨by rfl, ?_⟩) (by assumption) ?_; rotate_left; · (intro w0; go_simp; try with_reducible rfl)
      try simp only [Act.put, List.setIfInBounds_toArray, List.set_cons_zero, List.set_cons_succ]
      refine wpAnyL_move (i := 2) (v := ?_) (by rfl) (by kernel_rfl) (by kernel_rfl) (by kernel_rfl) (by rfl) (by exact fun _ _ _ h => h) (Or.inl ⟨by rfl, ?_⟩) (by assumption) ?_; rotate_left; · (intro w0; go_simp; try with_reducible rfl)
      try simp only [Act.put, List.setIfInBounds_toArray, List.set_cons_zero, List.set_cons_succ]
      refine wpAnyL_load (i := 3) (v := ?_) (by rfl) (by kernel_rfl) (by kernel_rfl) (by kernel_rfl) (by rfl) (by kernel_rfl) (by exact fun _ _ _ h => h) (Or.inl ⟨by rfl, ?_⟩) (by assumption) ?_; rotate_left; · (intro w0 hS0; obtain ⟨hS1, hS2⟩ := hS0; unfold OneC at hS1 hS2; go_simp; try with_reducible rfl)
      try simp only [Act.put, List.setIfInBounds_toArray, List.set_cons_zero, List.set_cons_succ]
      refine wpAnyL_move (i := 4) (v := ?_) (by rfl) (by kernel_rfl) (by kernel_rfl) (by kernel_rfl) (by rfl) (by exact fun _ _ _ h => h) (Or.inl ⟨by rfl, ?_⟩) (by assumption) ?_; rotate_left; · (intro w0; go_simp; try with_reducible rfl)
      try simp only [Act.put, List.setIfInBounds_toArray, List.set_cons_zero, List.set_cons_succ]
      refine wpAnyL_move (i := 5) (v := ?_) (by rfl) (by kernel_rfl) (by kernel_rfl) (by kernel_rfl) (by rfl) (by exact fun _ _ _ h => h) (Or.inl ⟨by rfl, ?_⟩) (by assumption) ?_; rotate_left; · (intro w0; go_simp; try with_reducible rfl)
      try simp only [Act.put, List.setIfInBounds_toArray, List.set_cons_zero, List.set_cons_succ]
      refine wpAnyL_load (i := 6) (v := ?_) (by rfl) (by kernel_rfl) (by kernel_rfl) (by kernel_rfl) (by rfl) (by kernel_rfl) (by exact fun _ _ _ h => h) (Or.inl ⟨by rfl, ?_⟩) (by assumption) ?_; rotate_left; · (intro w0 hS0; obtain ⟨hS1, hS2⟩ := hS0; unfold OneC at hS1 hS2; go_simp; try with_reducible rfl)
      try simp only [Act.put, List.setIfInBounds_toArray, List.set_cons_zero, List.set_cons_succ]
      refine wpAnyL_late (i := 7) (by kernel_rfl) (by rfl) (by rfl) (fun K hK => ?_)
      go_simp
      refine HFL.out.mono ?_
      rintro e w4 ⟨rfl, hq4⟩
      dsimp only
      refine hK.out _ _ ?_
      clear hK K
      try simp only [Act.put, List.setIfInBounds_toArray, List.set_cons_zero, List.set_cons_succ]
      refine wpAny_move (i := 8) (v := ?_) (by rfl) (by kernel_rfl) (by kernel_rfl) (by kernel_rfl) (by exact fun _ _ _ h => h) (Or.inl ⟨by rfl, ?_⟩) ?_; rotate_left; · (intro w0; go_simp; try with_reducible rfl)
      try simp only [Act.put, List.setIfInBounds_toArray, List.set_cons_zero, List.set_cons_succ]
      refine wpAny_done (by kernel_rfl) ?_ _
      have H6 := Lib.hid hq4
      clear hq4 HFL C1 H5
      by_cases k1 : a1 = 0
      · subst k1
        have u1 : IntKind.u32.wrap ((n : Int) + 2048) = (n : Int) + 2048 := by rw [IntKind.wrap_u32]; omega
        have H7 : Hid (PS w F G H (fun r => r = w.heap.size ∨ r = w4.heap.size) (WrP2 w H pb b lb mb pk vs q w.heap.size (FrC ⟨fp, fd⟩ (.slice sa fp.slots.length sc)) w4.heap.size n) b lb m1 g1 (w4.alloc (.cells #[.int .u32 ((n : Int) + 2048), .int .u32 (n : Int)] 48))) :=
          H6.out.turn (K' := fun r => r = w.heap.size ∨ r = w4.heap.size) (P' := WrP2 w H pb b lb mb pk vs q w.heap.size (FrC ⟨fp, fd⟩ (.slice sa fp.slots.length sc)) w4.heap.size n) (Step.below ((Below.refl _ _).alloc (Nat.le_refl _) _)) (fun r hr => Nat.le_of_eq hr.symm) (fun r hr => by rcases hr with hr | hr; exact .inl hr; exact .inr (Nat.le_of_eq hr.symm)) (fun r hr => by have := H6.out.own.2.lt; simp; rcases hr with hr | hr <;> omega)
            ⟨⟨H6.out.own.1.below ((Below.refl _ _).alloc (Nat.le_refl _) _), H6.out.own.2.alloc _⟩, Blk.new w4 _ _⟩
        go_wp2_with (fail)
        clear u1
        have hw4 := H6.out.size
        clear H6
        generalize w4.heap.size = rb at *
        go_loopw [54] (fun ko wr => ∃ (k : Nat) (mk : Dk), ko = .int .i64 (k : Int) ∧ k ≤ 2 ∧ Hid (PS w F G H (fun r => r = w.heap.size ∨ r = rb) (WrP2 w H pb b lb mb pk vs q w.heap.size (FrC ⟨fp, fd⟩ (.slice sa fp.slots.length sc)) rb n) b lb mk g1 wr) ∧ Hid (Wseq m1 n be k mk)) (fun ko _ => 2 - (intOf ko).toNat)
        case atStart => exact ⟨0, m1, rfl, by omega, H7.out, rfl⟩
        case round =>
          obtain ⟨k, mk, rfl, hk, hq, hs⟩ := hrel
          have hok := Wseq.ok HN1.out hs.out
          have c0 : wr.cell? ⟨pb, 0, none⟩ = some (.pointer (some ⟨b, 0, none⟩)) := hq.out.own.1.1.cells.1
          have hk3 : k = 0 ∨ k = 1 ∨ k = 2 := by omega
          rcases hk3 with rfl | rfl | rfl
          · have r0 : wr.cell? ⟨rb, 0, none⟩ = some (.int .u32 ((n : Int) + 2048)) := hq.out.own.2.cell 0
            have eN : Hid (((n + 2048 : Nat) : Int) = ((n : Int) + 2048)) := by show _ = _; omega
            obtain ⟨cw, mw, hw⟩ : ∃ cw mw, mk.write ((n + 2048 : Nat) : Int) be = (cw, mw) := ⟨_, _, rfl⟩
            have hokw : PlanOk mw ∧ mw.loose.length ≤ 1000003 := by
              have := Dk.write_next hok.1 ((n + 2048 : Nat) : Int) be
              rw [hw] at this
              exact ⟨this.planOk hok.1, by have h9 : mw.loose.length ≤ mk.loose.length + 1 := this.loose; omega⟩
            have HWc := Lib.hid (hq.out.disk stable_wr2 (fun F' hD => write_c hD (hok.1.strikes (by omega)) ((n + 2048 : Nat) : Int) (by omega) (by omega) be (by omega)))
            rw [hw, eN.out] at HWc
            rw [eN.out] at hw
            have HW := Lib.hid hw
            have HOK := Lib.hid hok
            have HOKW := Lib.hid hokw
            have HS := hs
            clear hw hokw hok hs hq
            go_wp2_with (fail)
            refine HWc.out.mono ?_
            rintro e w5 ⟨rfl, hq5⟩
            have H8 := Lib.hid hq5
            clear hq5 HWc c0 r0
            by_cases kw : cw = 0
            · subst kw
              obtain ⟨cs, ms, hs2⟩ : ∃ cs ms, mw.sync = (cs, ms) := ⟨_, _, rfl⟩
              have HSc := Lib.hid (H8.out.disk stable_wr2 (fun F' hD => sync_c hD (HOKW.out.1.strikes (by have := HOKW.out.2; omega)) (by have := HOKW.out.2; omega)))
              rw [hs2] at HSc
              have HW2 : Hid (write2 mk (n + 2048) be = (cs, ms)) := by
                show _ = _
                rw [← hs2]
                exact write2_2 (by first | exact HW.out | (rw [eN.out]; exact HW.out))
              have c0 : w5.cell? ⟨pb, 0, none⟩ = some (.pointer (some ⟨b, 0, none⟩)) := H8.out.own.1.1.cells.1
              clear hs2 eN
              go_wp2_with (fail)
              refine HSc.out.mono ?_
              rintro e w6 ⟨rfl, hq6⟩
              have H9 := Lib.hid hq6
              clear hq6 HSc c0 H8
              by_cases ks : cs = 0
              · subst ks
                go_wp2
                go_roundw
                case rel => exact ⟨0 + 1, ms, by first | rfl | go_num, by omega, H9.out, by show write2 m1 _ _ = _; rw [← show mk = m1 from HS.out]; exact HW2.out⟩
                case measure => simp [intOf]
              · have hr2 : Hid (r = (cs, ms, g1, q)) := by show _ = _; rw [← HR.out]; exact writeF_2 HA.out (by show write2 m1 _ fp.encE.1 = _; rw [HEN.out, ← show mk = m1 from HS.out]; exact HW2.out) ks
                go_wp2
                go_ret
                rw [hr2.out]
                exact ⟨rfl, H9.out.post_ H9.out.own.1.1 H4.out⟩
            · have HW2 : Hid (write2 mk (n + 2048) be = (cw, mw)) := write2_1 (by first | exact HW.out | (rw [eN.out]; exact HW.out)) kw
              have hr2 : Hid (r = (cw, mw, g1, q)) := by show _ = _; rw [← HR.out]; exact writeF_2 HA.out (by show write2 m1 _ fp.encE.1 = _; rw [HEN.out, ← show mk = m1 from HS.out]; exact HW2.out) kw
              clear eN
              go_wp2
              go_ret
              rw [hr2.out]
              exact ⟨rfl, H8.out.post_ H8.out.own.1.1 H4.out⟩
          · have r0 : wr.cell? ⟨rb, 1, none⟩ = some (.int .u32 (n : Int)) := hq.out.own.2.cell 1
            have eN : Hid (((n : Nat) : Int) = (n : Int)) := rfl
            obtain ⟨cw, mw, hw⟩ : ∃ cw mw, mk.write ((n : Nat) : Int) be = (cw, mw) := ⟨_, _, rfl⟩
            have hokw : PlanOk mw ∧ mw.loose.length ≤ 1000003 := by
              have := Dk.write_next hok.1 ((n : Nat) : Int) be
              rw [hw] at this
              exact ⟨this.planOk hok.1, by have h9 : mw.loose.length ≤ mk.loose.length + 1 := this.loose; omega⟩
            have HWc := Lib.hid (hq.out.disk stable_wr2 (fun F' hD => write_c hD (hok.1.strikes (by omega)) ((n : Nat) : Int) (by omega) (by omega) be (by omega)))
            rw [hw, eN.out] at HWc
            rw [eN.out] at hw
            have HW := Lib.hid hw
            have HOK := Lib.hid hok
            have HOKW := Lib.hid hokw
            have HS := hs
            clear hw hokw hok hs hq
            go_wp2_with (fail)
            refine HWc.out.mono ?_
            rintro e w5 ⟨rfl, hq5⟩
            have H8 := Lib.hid hq5
            clear hq5 HWc c0 r0
            by_cases kw : cw = 0
            · subst kw
              obtain ⟨cs, ms, hs2⟩ : ∃ cs ms, mw.sync = (cs, ms) := ⟨_, _, rfl⟩
              have HSc := Lib.hid (H8.out.disk stable_wr2 (fun F' hD => sync_c hD (HOKW.out.1.strikes (by have := HOKW.out.2; omega)) (by have := HOKW.out.2; omega)))
              rw [hs2] at HSc
              have HW2 : Hid (write2 mk (n) be = (cs, ms)) := by
                show _ = _
                rw [← hs2]
                exact write2_2 (by first | exact HW.out | (rw [eN.out]; exact HW.out))
              have c0 : w5.cell? ⟨pb, 0, none⟩ = some (.pointer (some ⟨b, 0, none⟩)) := H8.out.own.1.1.cells.1
              clear hs2 eN
              go_wp2_with (fail)
              refine HSc.out.mono ?_
              rintro e w6 ⟨rfl, hq6⟩
              have H9 := Lib.hid hq6
              clear hq6 HSc c0 H8
              by_cases ks : cs = 0
              · subst ks
                go_wp2
                go_roundw
                case rel => exact ⟨1 + 1, ms, by first | rfl | go_num, by omega, H9.out, ⟨mk, HS.out, HW2.out⟩⟩
                case measure => simp [intOf]
              · have hr2 : Hid (r = (cs, ms, g1, q)) := by show _ = _; rw [← HR.out]; exact writeF_3 (m2 := mk) HA.out (by show write2 m1 _ fp.encE.1 = _; rw [HEN.out]; exact HS.out) (by show write2 mk _ fp.encE.1 = _; rw [HEN.out]; exact HW2.out) ks
                go_wp2
                go_ret
                rw [hr2.out]
                exact ⟨rfl, H9.out.post_ H9.out.own.1.1 H4.out⟩
            · have HW2 : Hid (write2 mk (n) be = (cw, mw)) := write2_1 (by first | exact HW.out | (rw [eN.out]; exact HW.out)) kw
              have hr2 : Hid (r = (cw, mw, g1, q)) := by show _ = _; rw [← HR.out]; exact writeF_3 (m2 := mk) HA.out (by show write2 m1 _ fp.encE.1 = _; rw [HEN.out]; exact HS.out) (by show write2 mk _ fp.encE.1 = _; rw [HEN.out]; exact HW2.out) kw
              clear eN
              go_wp2
              go_ret
              rw [hr2.out]
              exact ⟨rfl, H8.out.post_ H8.out.own.1.1 H4.out⟩
          · obtain ⟨m2, hb1, hb2⟩ := hs.out
            have hr2 : Hid (r = (0, mk, g1, q.wrote n ⟨fp, fd⟩)) := by show _ = _; rw [← HR.out]; exact writeF_4 HA.out (by show write2 m1 _ fp.encE.1 = _; rw [HEN.out]; exact hb1) (by show write2 m2 _ fp.encE.1 = _; rw [HEN.out]; exact hb2)
            have HQ := hq
            rename World => w7
            have c6 : w7.cell? ⟨pb, 6, none⟩ = some (.int .i64 q.writes) := HQ.out.own.1.1.cells.2.2.2.2.2.2
            have z6 : w7.frozen? ⟨pb, 6, none⟩ = false := HQ.out.own.1.1.blk.frozen 6
            have d5 : w7.cell? ⟨w.heap.size, 5, none⟩ = some (.int .u64 (fd : Int)) := HQ.out.own.1.2.cell 5
            have y5 : w7.frozen? ⟨w.heap.size, 5, none⟩ = false := HQ.out.own.1.2.frozen 5
            have hpne : pb ≠ w.heap.size := by have := HPI.out.lt pb HPI.out.hpb; omega
            clear hb1 hb2 hs hq hok c0 H7
            go_wp2_with (fail)
            have hP2 : PoolIn (w7.setCell ⟨pb, 6, none⟩ (.int .i64 (wrap64 (q.writes + 1)))) H pb b lb mb pk vs { q with writes := wrapI (q.writes + 1) } := HQ.out.own.1.1.set 6 _ pk _ (by rw [wrap64_I]; rfl) rfl rfl HQ.out.own.1.1.picks
            have hP3 : PoolIn ((w7.setCell ⟨pb, 6, none⟩ (.int .i64 (wrap64 (q.writes + 1)))).setCell ⟨w.heap.size, 5, none⟩ (.int .u64 0)) H pb b lb mb pk vs { q with writes := wrapI (q.writes + 1) } :=
              hP2.keep (fun r hr => Below.heap_setCell _ _ _ _ (by have := HPI.out.lt r hr; simp only; omega)) (by simp)
            have hB3 : Blk ((w7.setCell ⟨pb, 6, none⟩ (.int .i64 (wrap64 (q.writes + 1)))).setCell ⟨w.heap.size, 5, none⟩ (.int .u64 0)) w.heap.size 156 (FrC ⟨fp, 0⟩ (.slice sa fp.slots.length sc)) := by
              have := (HQ.out.own.1.2.far (p := ⟨pb, 6, none⟩) (fun e => hpne e.symm) (.int .i64 (wrap64 (q.writes + 1)))).set_ 5 (.int .u64 0)
              rwa [FrC_clean] at this
            have hs8 : Step (fun r => H r ∨ (r = w.heap.size ∨ r = rb)) w7 ((w7.setCell ⟨pb, 6, none⟩ (.int .i64 (wrap64 (q.writes + 1)))).setCell ⟨w.heap.size, 5, none⟩ (.int .u64 0)) :=
              ((Step.refl _ _).setCell (.inl (.inl HPI.out.hpb)) _).setCell (.inl (.inr (.inl rfl))) _
            generalize (w7.setCell ⟨pb, 6, none⟩ (.int .i64 (wrap64 (q.writes + 1)))).setCell ⟨w.heap.size, 5, none⟩ (.int .u64 0) = w8 at *
            have HP3 := Lib.hid hP3
            have HS8 := Lib.hid hs8
            have HML : Hid (MapL w8 mb vs) := hP3.map
            have CS : Hid (OneC ⟨pb, 3, none⟩ (.map (some mb)) w8 ∧ OneC ⟨w.heap.size, 0, none⟩ (.int .u32 (fp.num : Int)) w8 ∧ OneC ⟨w.heap.size, 1, none⟩ (.int .u64 (fp.lsn : Int)) w8 ∧ OneC ⟨w.heap.size, 2, none⟩ (.int .i64 fp.kind) w8 ∧ OneC ⟨w.heap.size, 3, none⟩ (.string fp.head) w8 ∧ OneC ⟨w.heap.size, 4, none⟩ (.slice sa fp.slots.length sc) w8 ∧ OneC ⟨w.heap.size, 5, none⟩ (.int .u64 0) w8) :=
              ⟨hP3.cells.2.2.2.1, hB3.cell 0, hB3.cell 1, hB3.cell 2, hB3.cell 3, hB3.cell 4, hB3.cell 5⟩
            have HVL : Hid (vs.length < 1000000000000) := by show _ < _; have h1 := hP3.frs.length; have h2 := hP3.le; have h3 := hP3.most; have h4 : vs.length = q.frames.length := h1; have h5 : q.frames.length ≤ q.most := h2; have h6 : q.most ≤ 65536 := h3; omega
            clear hP2 hP3 hB3 hs8 c6 z6 d5 y5
            refine wp_region_late (S := fun W => OneC ⟨pb, 3, none⟩ (.map (some mb)) W ∧ OneC ⟨w.heap.size, 0, none⟩ (.int .u32 (fp.num : Int)) W ∧ OneC ⟨w.heap.size, 1, none⟩ (.int .u64 (fp.lsn : Int)) W ∧ OneC ⟨w.heap.size, 2, none⟩ (.int .i64 fp.kind) W ∧ OneC ⟨w.heap.size, 3, none⟩ (.string fp.head) W ∧ OneC ⟨w.heap.size, 4, none⟩ (.slice sa fp.slots.length sc) W ∧ OneC ⟨w.heap.size, 5, none⟩ (.int .u64 0) W) (late := [6]) (by kernel_rfl) CS.out (fun hHeld => ?_)
            refine wpAnyL_move (i := 0) (v := ?_) (by rfl) (by kernel_rfl) (by kernel_rfl) (by kernel_rfl) (by rfl) (by exact fun _ _ _ h => h) (Or.inl ⟨by rfl, ?_⟩) (by assumption) ?_; rotate_left; · (intro w0; go_simp; try with_reducible rfl)
            try simp only [Act.put, List.setIfInBounds_toArray, List.set_cons_zero, List.set_cons_succ]
            refine wpAnyL_move (i := 1) (v := ?_) (by rfl) (by kernel_rfl) (by kernel_rfl) (by kernel_rfl) (by rfl) (by exact fun _ _ _ h => h) (Or.inl ⟨by rfl, ?_⟩) (by assumption) ?_; rotate_left; · (intro w0; go_simp; try with_reducible rfl)
            try simp only [Act.put, List.setIfInBounds_toArray, List.set_cons_zero, List.set_cons_succ]
            refine wpAnyL_move (i := 2) (v := ?_) (by rfl) (by kernel_rfl) (by kernel_rfl) (by kernel_rfl) (by rfl) (by exact fun _ _ _ h => h) (Or.inl ⟨by rfl, ?_⟩) (by assumption) ?_; rotate_left; · (intro w0; go_simp; try with_reducible rfl)
            try simp only [Act.put, List.setIfInBounds_toArray, List.set_cons_zero, List.set_cons_succ]
            refine wpAnyL_load (i := 3) (v := ?_) (by rfl) (by kernel_rfl) (by kernel_rfl) (by kernel_rfl) (by rfl) (by kernel_rfl) (by exact fun _ _ _ h => h) (Or.inl ⟨by rfl, ?_⟩) (by assumption) ?_; rotate_left; · (intro w0 hS0; obtain ⟨hS1, hS2, hS3, hS4, hS5, hS6, hS7⟩ := hS0; unfold OneC at hS1 hS2 hS3 hS4 hS5 hS6 hS7; go_simp; try with_reducible rfl)
            try simp only [Act.put, List.setIfInBounds_toArray, List.set_cons_zero, List.set_cons_succ]
            refine wpAnyL_move (i := 4) (v := ?_) (by rfl) (by kernel_rfl) (by kernel_rfl) (by kernel_rfl) (by rfl) (by exact fun _ _ _ h => h) (Or.inl ⟨by rfl, ?_⟩) (by assumption) ?_; rotate_left; · (intro w0; go_simp; try with_reducible rfl)
            try simp only [Act.put, List.setIfInBounds_toArray, List.set_cons_zero, List.set_cons_succ]
            refine wpAnyL_load (i := 5) (v := ?_) (by rfl) (by kernel_rfl) (by kernel_rfl) (by kernel_rfl) (by rfl) (by kernel_rfl) (by exact fun _ _ _ h => h) (Or.inl ⟨by rfl, ?_⟩) (by assumption) ?_; rotate_left; · (intro w0 hS0; obtain ⟨hS1, hS2, hS3, hS4, hS5, hS6, hS7⟩ := hS0; unfold OneC at hS1 hS2 hS3 hS4 hS5 hS6 hS7; go_simp; try with_reducible rfl)
            try simp only [Act.put, List.setIfInBounds_toArray, List.set_cons_zero, List.set_cons_succ]
            refine wpAnyL_late (i := 6) (by kernel_rfl) (by rfl) (by rfl) (fun K hK => ?_)
            refine step_storeL _ (by rfl) _ _ _ (by rfl) mb vs (by rfl) (HML.out.same (w' := w8.drew) rfl) n (by omega) HVL.out _ (by rfl) (by rfl) ?_; intro w9 hm9 hg9
            refine hK.out _ _ ?_
            clear hK K
            try simp only [Act.put]
            refine wpAny_done (by kernel_rfl) ?_ _
            have hP9 : PoolIn w9 H pb b lb mb pk _ (q.wrote n ⟨fp, fd⟩) := (HP3.out.drewN 1).clean (f := ⟨fp, fd⟩) HF.out HV.out hg9 hm9
            have HS9 : Hid (Step (fun r => H r ∨ (r = w.heap.size ∨ r = rb)) w7 w9) := (HS8.out.drewN 1).grown hg9 (fun k hk => by cases hk; exact .inl (.inl HPI.out.hmb))
            have HP9 := Lib.hid (HQ.out.pool H4.out HS9.out (fun r hr => by rcases hr with hr | hr <;> omega) hP9 (fun r hr => .inl (.inl hr)))
            clear hP9 hm9 hg9
            go_wp2
            go_ret
            rw [hr2.out]
            exact ⟨rfl, HP9.out⟩
      · have hr2 : Hid (r = (a1, m1, g1, q)) := by show _ = _; rw [← HR.out]; exact writeF_1 HA.out k1
        go_wp2
        go_ret
        rw [hr2.out]
        exact ⟨rfl, H6.out.post_ H6.out.own.1 H4.out⟩
end
end Go.Proofs.YtnghgkaoopcglaaGreat
