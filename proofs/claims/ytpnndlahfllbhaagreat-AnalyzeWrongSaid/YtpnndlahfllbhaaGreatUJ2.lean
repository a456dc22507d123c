/-
  The walk of girderref19.record. Printed by j2.py.
-/
import Derived.Test.YtpnndlahfllbhaaGreatUJ1
namespace Go.Proofs.YtpnndlahfllbhaaGreat
open Go.RowKit
attribute [local go_sem ↓] Go.wp_at_zero Go.wp_at_succ

/-- a record as the document has it -/
def r19C (n : Nat) (r : Rc) (tv dv : Value) : List Value := [.int .u64 (n : Int), .int .i64 r.kind, .int .i64 r.tx, .int .u64 (r.next : Int), .int .u32 (r.page : Int), tv, dv]
structure T19 (w : World) (rc : Array Value) (tb : Nat) (t : Ts) (W : World) : Prop where
  base : Below w.heap.size w W
  box : Blk W w.heap.size 173 rc
  tbx : Blk W tb 46 #[.int .i64 t.tx, .int .i64 t.state, .int .u64 (t.last : Int), .int .u64 (t.next : Int)]
theorem same_set {w : World} {k r i : Nat} {v : Value} (h : k ≠ r) : (w.setCell ⟨r, i, none⟩ v).heap[k]? = w.heap[k]? := Below.heap_setCell _ _ _ _ h
theorem sndL_mem {α : Type} {L : List (Nat × α)} {x : α} (h : x ∈ sndL L) : ∃ p ∈ L, p.2 = x := List.mem_map.1 h
theorem getL_of_tx {L : List (Nat × Ts)} (hr : RisingL L) (hx : ∀ p ∈ L, p.2.tx = (p.1 : Int)) {x : Ts} {tx : Int} (hm : x ∈ sndL L) (ht : x.tx = tx) : getL tx.toNat L = some x := by
  obtain ⟨p, hp, rfl⟩ := sndL_mem hm
  have := hx p hp
  have e : tx.toNat = p.1 := by omega
  rw [e]
  exact getL_of_mem hr hp
theorem getL_none_tx {L : List (Nat × Ts)} (hx : ∀ p ∈ L, p.2.tx = (p.1 : Int)) {tx : Int} (h0 : 0 ≤ tx) (hm : ∀ x ∈ sndL L, x.tx ≠ tx) : getL tx.toNat L = none := getL_none.2 fun p hp e => hm p.2 (List.mem_map.2 ⟨p, hp, rfl⟩) (by have := hx p hp; omega)
theorem old_tx {L : List (Nat × Ts)} (hx : ∀ p ∈ L, p.2.tx = (p.1 : Int)) {tx : Int} (h0 : 0 ≤ tx) : ((getL tx.toNat L).getD ⟨tx, 1, 0, 0⟩).tx = tx := by
  cases h : getL tx.toNat L with
  | none => rfl
  | some t =>
    have := hx _ (getL_some_mem h)
    simp only at this
    show t.tx = tx
    omega
section
variable {w : World} {L : List (Nat × Ts)} {kind tx : Int} {n next page : Nat}
set_option maxRecDepth 100000 in
set_option maxHeartbeats 4000000 in
theorem record19_w {v tv dv : Value} (r : Rc) (hk : r.kind = kind) (ht : r.tx = tx) (hn : r.next = next) (hr : RdC 4 tsC w v (sndL L)) (hrL : RisingL L) (hx : ∀ p ∈ L, p.2.tx = (p.1 : Int)) (h0 : 0 ≤ tx) (hlen : (sndL L).length ≤ 1000000000) :
    Calls Tryz.prog 80 #[v, .agg #[.int .u64 (n : Int), .int .i64 kind, .int .i64 tx, .int .u64 (next : Int), .int .u32 (page : Int), tv, dv]] w fun e w' => ∃ v', e = .returned v' ∧ RdC 4 tsC w' v' (sndL (r.txE n L)) ∧ Below w.heap.size w w' ∧ (∀ k, v'.ownBlock = some k → w.heap.size ≤ k) := by
  obtain ⟨la, lc, rfl⟩ := hr.form
  have HBX := Lib.hid (BoxAt.new w 173 #[.int .u64 (n : Int), .int .i64 kind, .int .i64 tx, .int .u64 (next : Int), .int .u32 (page : Int), tv, dv])
  have HR := Lib.hid hr
  have HRL := Lib.hid hrL
  have HXX := Lib.hid hx
  have HK := Lib.hid hk
  have HTX := Lib.hid ht
  have HNX := Lib.hid hn
  have H0 := Lib.hid h0
  have HLEN := Lib.hid hlen
  generalize hres : sndL (r.txE n L) = res
  have HRES := Lib.hid hres
  clear hres hr hrL hx hk ht hn
  by_cases h6 : kind = 6
  · subst h6
    have HW : Hid (Calls Tryz.prog 167 #[.slice la (sndL L).length lc, .int .i64 tx] (w.alloc (.cells #[.int .u64 (n : Int), .int .i64 6, .int .i64 tx, .int .u64 (next : Int), .int .u32 (page : Int), tv, dv] 173)) fun e w' => ∃ v', e = .returned v' ∧ RdC 4 tsC w' v' ((sndL L).filter fun t => !decide (t.tx = tx)) ∧ Below (w.alloc (.cells #[.int .u64 (n : Int), .int .i64 6, .int .i64 tx, .int .u64 (next : Int), .int .u32 (page : Int), tv, dv] 173)).heap.size (w.alloc (.cells #[.int .u64 (n : Int), .int .i64 6, .int .i64 tx, .int .u64 (next : Int), .int .u32 (page : Int), tv, dv] 173)) w' ∧ (∀ k, v'.ownBlock = some k → (w.alloc (.cells #[.int .u64 (n : Int), .int .i64 6, .int .i64 tx, .int .u64 (next : Int), .int .u32 (page : Int), tv, dv] 173)).heap.size ≤ k)) := without19_c (HR.out.below HBX.out.base) tx hlen
    have HE : Hid (res = (sndL L).filter fun t => !decide (t.tx = tx)) := by
      show _ = _
      rw [← HRES.out, sndL_del (n := tx.toNat) (by omega) HXX.out]
      unfold Rc.txE
      rw [if_pos HK.out, HTX.out]
    clear hlen
    go_enter Tryz.func80, Tryz.ntmps80
    go_wp2_with (fail)
    refine HW.out.mono ?_
    rintro e w2 ⟨v', rfl, q1, q2, q3⟩
    have HQ := Lib.hid (And.intro q1 (And.intro (HBX.out.base.trans (q2.mono HBX.out.base.size)) (fun k hk => Nat.le_trans HBX.out.base.size (q3 k hk) : ∀ k, v'.ownBlock = some k → w.heap.size ≤ k)))
    clear q1 q2 q3
    go_wp2_with (fail)
    go_ret
    refine ⟨_, rfl, ?_, HQ.out.2⟩
    rw [HE.out]
    exact HQ.out.1
  · have h6' : (kind == 6) = false := by simp [h6]
    have HS : ∀ W, Below w.heap.size w W → Hid (Calls Tryz.prog 82 #[.slice la (sndL L).length lc, .int .i64 tx] W fun e w' => State19Post (sndL L) tx e ∧ Below W.heap.size W w') := fun W hW => state19_c (HR.out.below hW) tx hlen
    have HP : ∀ (W : World) (t : Ts), Below w.heap.size w W → Hid (Calls Tryz.prog 83 #[.slice la (sndL L).length lc, .agg #[.int .i64 t.tx, .int .i64 t.state, .int .u64 (t.last : Int), .int .u64 (t.next : Int)]] W fun e w' => ∃ v', e = .returned v' ∧ RdC 4 tsC w' v' (putT t (sndL L) false) ∧ Below W.heap.size W w' ∧ (∀ k, v'.ownBlock = some k → W.heap.size ≤ k)) := fun W t hW => put19_c (HR.out.below hW) t hlen
    have HRE : Hid (res = putT (r.stepT n ((getL tx.toNat L).getD ⟨tx, 1, 0, 0⟩)) (sndL L) false) := by
      show _ = _
      rw [← HRES.out]
      have e := old_tx HXX.out h0
      unfold Rc.txE
      rw [if_neg (by rw [HK.out]; exact h6), HTX.out, putT_put _ tx.toNat (by rw [Rc.stepT_tx, e]; omega) HRL.out HXX.out]
    have HST : ∀ t, Hid (r.stepT n t = (if kind = 1 then ⟨t.tx, t.state, n, n⟩ else if kind = 2 ∨ kind = 3 then ⟨t.tx, t.state, n, next⟩ else if kind = 4 then ⟨t.tx, 2, n, t.next⟩ else if kind = 5 then ⟨t.tx, 3, n, t.next⟩ else ⟨t.tx, t.state, n, t.next⟩)) := fun t => by
      show _ = _
      unfold Rc.stepT
      rw [HK.out, HNX.out]
    have HM : Hid (T19 w #[.int .u64 (n : Int), .int .i64 kind, .int .i64 tx, .int .u64 (next : Int), .int .u32 (page : Int), tv, dv] (w.heap.size + 1) ⟨tx, 1, 0, 0⟩ ((w.alloc (.cells #[.int .u64 (n : Int), .int .i64 kind, .int .i64 tx, .int .u64 (next : Int), .int .u32 (page : Int), tv, dv] 173)).alloc (.cells #[.int .i64 tx, .int .i64 1, .int .u64 0, .int .u64 0] 46))) := by
      have hb := Below.alloc (Below.refl (w.alloc (.cells #[.int .u64 (n : Int), .int .i64 kind, .int .i64 tx, .int .u64 (next : Int), .int .u32 (page : Int), tv, dv] 173)).heap.size _) (Nat.le_refl _) (.cells #[.int .i64 tx, .int .i64 1, .int .u64 0, .int .u64 0] 46)
      have hb2 := HBX.out.below hb
      refine ⟨hb2.base, hb2.blk, ?_⟩
      have := Blk.new (w.alloc (.cells #[.int .u64 (n : Int), .int .i64 kind, .int .i64 tx, .int .u64 (next : Int), .int .u32 (page : Int), tv, dv] 173)) 46 #[.int .i64 tx, .int .i64 1, .int .u64 0, .int .u64 0]
      simpa using this
    clear hlen HBX
    go_enter Tryz.func80, Tryz.ntmps80
    go_wp2_with (fail)
    refine (HS _ HM.out.base).out.mono ?_
    rintro e w2 ⟨hp, hb⟩
    have HM2 : Hid (T19 w #[.int .u64 (n : Int), .int .i64 kind, .int .i64 tx, .int .u64 (next : Int), .int .u32 (page : Int), tv, dv] (w.heap.size + 1) ⟨tx, 1, 0, 0⟩ w2) := ⟨HM.out.base.trans (hb.mono HM.out.base.size), HM.out.box.same (hb.block _ HM.out.box.lt), HM.out.tbx.same (hb.block _ HM.out.tbx.lt)⟩
    clear hb HS HM
    obtain ⟨iv, rfl, hiv⟩ : ∃ iv : Int, e = .returned (.int .i64 iv) ∧ ((iv = -1 ∧ ∀ x ∈ sndL L, x.tx ≠ tx) ∨ ∃ (k : Nat) (x : Ts), iv = (k : Int) ∧ (sndL L)[k]? = some x ∧ x.tx = tx) := by
      rcases hp with ⟨rfl, hno⟩ | ⟨k, x, rfl, h1, h2⟩
      · exact ⟨_, rfl, .inl ⟨rfl, hno⟩⟩
      · exact ⟨_, rfl, .inr ⟨k, x, rfl, h1, h2⟩⟩
    have HIV := Lib.hid hiv
    clear hp hiv
    go_upto_if 22 with (fail)
    go_cut [] (fun wx => ∃ old : Ts, Hid (T19 w #[.int .u64 (n : Int), .int .i64 kind, .int .i64 tx, .int .u64 (next : Int), .int .u32 (page : Int), tv, dv] (w.heap.size + 1) old wx) ∧ Hid (res = putT (r.stepT n old) (sndL L) false))
    case first =>
      rcases HIV.out with ⟨rfl, hno⟩ | ⟨k, x, rfl, hkx, hxt⟩
      · have HG := Lib.hid (getL_none_tx HXX.out H0.out hno)
        have HRE2 : Hid (res = putT (r.stepT n ⟨tx, 1, 0, 0⟩) (sndL L) false) := by
          show _ = _
          rw [HRE.out, HG.out]; rfl
        clear hno HIV
        go_wp2_with (fail)
        go_meet
        exact ⟨_, HM2, HRE2⟩
      · have HG := Lib.hid (getL_of_tx HRL.out HXX.out (List.mem_of_getElem? hkx) hxt)
        have HRE2 : Hid (res = putT (r.stepT n x) (sndL L) false) := by
          show _ = _
          rw [HRE.out, HG.out]; rfl
        have hkl : k < (sndL L).length := (List.getElem?_eq_some_iff.1 hkx).1
        have HRF := HR.out
        obtain ⟨tb, off, rfl, _, h1, h2, hbl, hc⟩ := HRF.at_ hkx
        have hHS := HM2.out.base
        have d0 : w2.cell? ⟨tb, off + k * 4, none⟩ = some (.int .i64 x.tx) := (hHS.cell (p := ⟨tb, off + k * 4 + 0, none⟩) hbl).trans (hc 0 _ rfl)
        have d1 : w2.cell? ⟨tb, off + k * 4 + 1, none⟩ = some (.int .i64 x.state) := (hHS.cell (p := ⟨tb, off + k * 4 + 1, none⟩) hbl).trans (hc 1 _ rfl)
        have d2 : w2.cell? ⟨tb, off + k * 4 + 2, none⟩ = some (.int .u64 (x.last : Int)) := (hHS.cell (p := ⟨tb, off + k * 4 + 2, none⟩) hbl).trans (hc 2 _ rfl)
        have d3 : w2.cell? ⟨tb, off + k * 4 + 3, none⟩ = some (.int .u64 (x.next : Int)) := (hHS.cell (p := ⟨tb, off + k * 4 + 3, none⟩) hbl).trans (hc 3 _ rfl)
        have HM3 : Hid (T19 w #[.int .u64 (n : Int), .int .i64 kind, .int .i64 tx, .int .u64 (next : Int), .int .u32 (page : Int), tv, dv] (w.heap.size + 1) x ((((w2.setCell ⟨w.heap.size + 1, 0, none⟩ (.int .i64 x.tx)).setCell ⟨w.heap.size + 1, 1, none⟩ (.int .i64 x.state)).setCell ⟨w.heap.size + 1, 2, none⟩ (.int .u64 (x.last : Int))).setCell ⟨w.heap.size + 1, 3, none⟩ (.int .u64 (x.next : Int)))) := by
          refine ⟨(((hHS.setCell (by simp) _).setCell (by simp) _).setCell (by simp) _).setCell (by simp) _, HM2.out.box.same ?_, ?_⟩
          · have hne : w.heap.size ≠ w.heap.size + 1 := by omega
            simp only [same_set hne]
          · have := (((HM2.out.tbx.set_ 0 (.int .i64 x.tx)).set_ 1 (.int .i64 x.state)).set_ 2 (.int .u64 (x.last : Int))).set_ 3 (.int .u64 (x.next : Int))
            simpa using this
        have q0 : w2.cell? ⟨w.heap.size + 1, 0, none⟩ = some (.int .i64 tx) := HM2.out.tbx.cell 0
        have z0 : w2.frozen? ⟨w.heap.size + 1, 0, none⟩ = false := HM2.out.tbx.frozen 0
        have q1 : w2.cell? ⟨w.heap.size + 1, 1, none⟩ = some (.int .i64 1) := HM2.out.tbx.cell 1
        have z1 : w2.frozen? ⟨w.heap.size + 1, 1, none⟩ = false := HM2.out.tbx.frozen 1
        have q2 : w2.cell? ⟨w.heap.size + 1, 2, none⟩ = some (.int .u64 0) := HM2.out.tbx.cell 2
        have z2 : w2.frozen? ⟨w.heap.size + 1, 2, none⟩ = false := HM2.out.tbx.frozen 2
        have q3 : w2.cell? ⟨w.heap.size + 1, 3, none⟩ = some (.int .u64 0) := HM2.out.tbx.cell 3
        have z3 : w2.frozen? ⟨w.heap.size + 1, 3, none⟩ = false := HM2.out.tbx.frozen 3
        clear hkx hxt HG hc hHS HIV HRF
        go_wp2_with (fail)
        go_meet
        exact ⟨_, HM3, HRE2⟩
    case rest =>
    obtain ⟨old, HO, HRO⟩ := hcut
    obtain ⟨ot, os, ol, on⟩ := old
    clear HIV HM2 HRE
    by_cases k1 : kind = 1
    · subst k1
      have HST2 : Hid (r.stepT n ⟨ot, os, ol, on⟩ = (⟨ot, os, n, n⟩ : Ts)) := by
        show _ = _
        rw [(HST _).out]
        simp
      have HO2 : Hid (T19 w #[.int .u64 (n : Int), .int .i64 1, .int .i64 tx, .int .u64 (next : Int), .int .u32 (page : Int), tv, dv] (w.heap.size + 1) (⟨ot, os, n, n⟩ : Ts) ((wc.setCell ⟨w.heap.size + 1, 2, none⟩ (.int .u64 (n : Int))).setCell ⟨w.heap.size + 1, 3, none⟩ (.int .u64 (n : Int)))) := by
        refine ⟨((HO.out.base.setCell (by simp) _).setCell (by simp) _), HO.out.box.same ?_, ?_⟩
        · have hne : w.heap.size ≠ w.heap.size + 1 := by omega
          simp only [same_set hne]
        · have := ((HO.out.tbx.set_ 2 (.int .u64 (n : Int))).set_ 3 (.int .u64 (n : Int)))
          simpa using this
      have b0 : wc.cell? ⟨w.heap.size, 0, none⟩ = some (.int .u64 (n : Int)) := HO.out.box.cell 0
      have b1 : wc.cell? ⟨w.heap.size, 1, none⟩ = some (.int .i64 1) := HO.out.box.cell 1
      have b3 : wc.cell? ⟨w.heap.size, 3, none⟩ = some (.int .u64 (next : Int)) := HO.out.box.cell 3
      have q0 : wc.cell? ⟨w.heap.size + 1, 0, none⟩ = some (.int .i64 ot) := HO.out.tbx.cell 0
      have z0 : wc.frozen? ⟨w.heap.size + 1, 0, none⟩ = false := HO.out.tbx.frozen 0
      have q1 : wc.cell? ⟨w.heap.size + 1, 1, none⟩ = some (.int .i64 os) := HO.out.tbx.cell 1
      have z1 : wc.frozen? ⟨w.heap.size + 1, 1, none⟩ = false := HO.out.tbx.frozen 1
      have q2 : wc.cell? ⟨w.heap.size + 1, 2, none⟩ = some (.int .u64 (ol : Int)) := HO.out.tbx.cell 2
      have z2 : wc.frozen? ⟨w.heap.size + 1, 2, none⟩ = false := HO.out.tbx.frozen 2
      have q3 : wc.cell? ⟨w.heap.size + 1, 3, none⟩ = some (.int .u64 (on : Int)) := HO.out.tbx.cell 3
      have z3 : wc.frozen? ⟨w.heap.size + 1, 3, none⟩ = false := HO.out.tbx.frozen 3
      have HC := HP _ (⟨ot, os, n, n⟩ : Ts) HO2.out.base
      rw [← HST2.out, ← HRO.out, HST2.out] at HC
      clear HP HST
      go_wp2_with (fail)
      refine HC.out.mono ?_
      rintro e w5 ⟨v', rfl, p1, p2, p3⟩
      have HQ := Lib.hid (And.intro p1 (And.intro (HO2.out.base.trans (p2.mono HO2.out.base.size)) (fun k hk => Nat.le_trans HO2.out.base.size (p3 k hk) : ∀ k, v'.ownBlock = some k → w.heap.size ≤ k)))
      clear p1 p2 p3
      go_wp2_with (fail)
      go_ret
      exact ⟨_, rfl, HQ.out.1, HQ.out.2.1, HQ.out.2.2⟩
    by_cases k2 : kind = 2
    · subst k2
      clear k1
      have HST2 : Hid (r.stepT n ⟨ot, os, ol, on⟩ = (⟨ot, os, n, next⟩ : Ts)) := by
        show _ = _
        rw [(HST _).out]
        simp
      have HO2 : Hid (T19 w #[.int .u64 (n : Int), .int .i64 2, .int .i64 tx, .int .u64 (next : Int), .int .u32 (page : Int), tv, dv] (w.heap.size + 1) (⟨ot, os, n, next⟩ : Ts) ((wc.setCell ⟨w.heap.size + 1, 2, none⟩ (.int .u64 (n : Int))).setCell ⟨w.heap.size + 1, 3, none⟩ (.int .u64 (next : Int)))) := by
        refine ⟨((HO.out.base.setCell (by simp) _).setCell (by simp) _), HO.out.box.same ?_, ?_⟩
        · have hne : w.heap.size ≠ w.heap.size + 1 := by omega
          simp only [same_set hne]
        · have := ((HO.out.tbx.set_ 2 (.int .u64 (n : Int))).set_ 3 (.int .u64 (next : Int)))
          simpa using this
      have b0 : wc.cell? ⟨w.heap.size, 0, none⟩ = some (.int .u64 (n : Int)) := HO.out.box.cell 0
      have b1 : wc.cell? ⟨w.heap.size, 1, none⟩ = some (.int .i64 2) := HO.out.box.cell 1
      have b3 : wc.cell? ⟨w.heap.size, 3, none⟩ = some (.int .u64 (next : Int)) := HO.out.box.cell 3
      have q0 : wc.cell? ⟨w.heap.size + 1, 0, none⟩ = some (.int .i64 ot) := HO.out.tbx.cell 0
      have z0 : wc.frozen? ⟨w.heap.size + 1, 0, none⟩ = false := HO.out.tbx.frozen 0
      have q1 : wc.cell? ⟨w.heap.size + 1, 1, none⟩ = some (.int .i64 os) := HO.out.tbx.cell 1
      have z1 : wc.frozen? ⟨w.heap.size + 1, 1, none⟩ = false := HO.out.tbx.frozen 1
      have q2 : wc.cell? ⟨w.heap.size + 1, 2, none⟩ = some (.int .u64 (ol : Int)) := HO.out.tbx.cell 2
      have z2 : wc.frozen? ⟨w.heap.size + 1, 2, none⟩ = false := HO.out.tbx.frozen 2
      have q3 : wc.cell? ⟨w.heap.size + 1, 3, none⟩ = some (.int .u64 (on : Int)) := HO.out.tbx.cell 3
      have z3 : wc.frozen? ⟨w.heap.size + 1, 3, none⟩ = false := HO.out.tbx.frozen 3
      have HC := HP _ (⟨ot, os, n, next⟩ : Ts) HO2.out.base
      rw [← HST2.out, ← HRO.out, HST2.out] at HC
      clear HP HST
      go_wp2_with (fail)
      refine HC.out.mono ?_
      rintro e w5 ⟨v', rfl, p1, p2, p3⟩
      have HQ := Lib.hid (And.intro p1 (And.intro (HO2.out.base.trans (p2.mono HO2.out.base.size)) (fun k hk => Nat.le_trans HO2.out.base.size (p3 k hk) : ∀ k, v'.ownBlock = some k → w.heap.size ≤ k)))
      clear p1 p2 p3
      go_wp2_with (fail)
      go_ret
      exact ⟨_, rfl, HQ.out.1, HQ.out.2.1, HQ.out.2.2⟩
    by_cases k3 : kind = 3
    · subst k3
      clear k1 k2
      have HST2 : Hid (r.stepT n ⟨ot, os, ol, on⟩ = (⟨ot, os, n, next⟩ : Ts)) := by
        show _ = _
        rw [(HST _).out]
        simp
      have HO2 : Hid (T19 w #[.int .u64 (n : Int), .int .i64 3, .int .i64 tx, .int .u64 (next : Int), .int .u32 (page : Int), tv, dv] (w.heap.size + 1) (⟨ot, os, n, next⟩ : Ts) ((wc.setCell ⟨w.heap.size + 1, 2, none⟩ (.int .u64 (n : Int))).setCell ⟨w.heap.size + 1, 3, none⟩ (.int .u64 (next : Int)))) := by
        refine ⟨((HO.out.base.setCell (by simp) _).setCell (by simp) _), HO.out.box.same ?_, ?_⟩
        · have hne : w.heap.size ≠ w.heap.size + 1 := by omega
          simp only [same_set hne]
        · have := ((HO.out.tbx.set_ 2 (.int .u64 (n : Int))).set_ 3 (.int .u64 (next : Int)))
          simpa using this
      have b0 : wc.cell? ⟨w.heap.size, 0, none⟩ = some (.int .u64 (n : Int)) := HO.out.box.cell 0
      have b1 : wc.cell? ⟨w.heap.size, 1, none⟩ = some (.int .i64 3) := HO.out.box.cell 1
      have b3 : wc.cell? ⟨w.heap.size, 3, none⟩ = some (.int .u64 (next : Int)) := HO.out.box.cell 3
      have q0 : wc.cell? ⟨w.heap.size + 1, 0, none⟩ = some (.int .i64 ot) := HO.out.tbx.cell 0
      have z0 : wc.frozen? ⟨w.heap.size + 1, 0, none⟩ = false := HO.out.tbx.frozen 0
      have q1 : wc.cell? ⟨w.heap.size + 1, 1, none⟩ = some (.int .i64 os) := HO.out.tbx.cell 1
      have z1 : wc.frozen? ⟨w.heap.size + 1, 1, none⟩ = false := HO.out.tbx.frozen 1
      have q2 : wc.cell? ⟨w.heap.size + 1, 2, none⟩ = some (.int .u64 (ol : Int)) := HO.out.tbx.cell 2
      have z2 : wc.frozen? ⟨w.heap.size + 1, 2, none⟩ = false := HO.out.tbx.frozen 2
      have q3 : wc.cell? ⟨w.heap.size + 1, 3, none⟩ = some (.int .u64 (on : Int)) := HO.out.tbx.cell 3
      have z3 : wc.frozen? ⟨w.heap.size + 1, 3, none⟩ = false := HO.out.tbx.frozen 3
      have HC := HP _ (⟨ot, os, n, next⟩ : Ts) HO2.out.base
      rw [← HST2.out, ← HRO.out, HST2.out] at HC
      clear HP HST
      go_wp2_with (fail)
      refine HC.out.mono ?_
      rintro e w5 ⟨v', rfl, p1, p2, p3⟩
      have HQ := Lib.hid (And.intro p1 (And.intro (HO2.out.base.trans (p2.mono HO2.out.base.size)) (fun k hk => Nat.le_trans HO2.out.base.size (p3 k hk) : ∀ k, v'.ownBlock = some k → w.heap.size ≤ k)))
      clear p1 p2 p3
      go_wp2_with (fail)
      go_ret
      exact ⟨_, rfl, HQ.out.1, HQ.out.2.1, HQ.out.2.2⟩
    by_cases k4 : kind = 4
    · subst k4
      clear k1 k2 k3
      have HST2 : Hid (r.stepT n ⟨ot, os, ol, on⟩ = (⟨ot, 2, n, on⟩ : Ts)) := by
        show _ = _
        rw [(HST _).out]
        simp
      have HO2 : Hid (T19 w #[.int .u64 (n : Int), .int .i64 4, .int .i64 tx, .int .u64 (next : Int), .int .u32 (page : Int), tv, dv] (w.heap.size + 1) (⟨ot, 2, n, on⟩ : Ts) ((wc.setCell ⟨w.heap.size + 1, 2, none⟩ (.int .u64 (n : Int))).setCell ⟨w.heap.size + 1, 1, none⟩ (.int .i64 2))) := by
        refine ⟨((HO.out.base.setCell (by simp) _).setCell (by simp) _), HO.out.box.same ?_, ?_⟩
        · have hne : w.heap.size ≠ w.heap.size + 1 := by omega
          simp only [same_set hne]
        · have := ((HO.out.tbx.set_ 2 (.int .u64 (n : Int))).set_ 1 (.int .i64 2))
          simpa using this
      have b0 : wc.cell? ⟨w.heap.size, 0, none⟩ = some (.int .u64 (n : Int)) := HO.out.box.cell 0
      have b1 : wc.cell? ⟨w.heap.size, 1, none⟩ = some (.int .i64 4) := HO.out.box.cell 1
      have b3 : wc.cell? ⟨w.heap.size, 3, none⟩ = some (.int .u64 (next : Int)) := HO.out.box.cell 3
      have q0 : wc.cell? ⟨w.heap.size + 1, 0, none⟩ = some (.int .i64 ot) := HO.out.tbx.cell 0
      have z0 : wc.frozen? ⟨w.heap.size + 1, 0, none⟩ = false := HO.out.tbx.frozen 0
      have q1 : wc.cell? ⟨w.heap.size + 1, 1, none⟩ = some (.int .i64 os) := HO.out.tbx.cell 1
      have z1 : wc.frozen? ⟨w.heap.size + 1, 1, none⟩ = false := HO.out.tbx.frozen 1
      have q2 : wc.cell? ⟨w.heap.size + 1, 2, none⟩ = some (.int .u64 (ol : Int)) := HO.out.tbx.cell 2
      have z2 : wc.frozen? ⟨w.heap.size + 1, 2, none⟩ = false := HO.out.tbx.frozen 2
      have q3 : wc.cell? ⟨w.heap.size + 1, 3, none⟩ = some (.int .u64 (on : Int)) := HO.out.tbx.cell 3
      have z3 : wc.frozen? ⟨w.heap.size + 1, 3, none⟩ = false := HO.out.tbx.frozen 3
      have HC := HP _ (⟨ot, 2, n, on⟩ : Ts) HO2.out.base
      rw [← HST2.out, ← HRO.out, HST2.out] at HC
      clear HP HST
      go_wp2_with (fail)
      refine HC.out.mono ?_
      rintro e w5 ⟨v', rfl, p1, p2, p3⟩
      have HQ := Lib.hid (And.intro p1 (And.intro (HO2.out.base.trans (p2.mono HO2.out.base.size)) (fun k hk => Nat.le_trans HO2.out.base.size (p3 k hk) : ∀ k, v'.ownBlock = some k → w.heap.size ≤ k)))
      clear p1 p2 p3
      go_wp2_with (fail)
      go_ret
      exact ⟨_, rfl, HQ.out.1, HQ.out.2.1, HQ.out.2.2⟩
    by_cases k5 : kind = 5
    · subst k5
      clear k1 k2 k3 k4
      have HST2 : Hid (r.stepT n ⟨ot, os, ol, on⟩ = (⟨ot, 3, n, on⟩ : Ts)) := by
        show _ = _
        rw [(HST _).out]
        simp
      have HO2 : Hid (T19 w #[.int .u64 (n : Int), .int .i64 5, .int .i64 tx, .int .u64 (next : Int), .int .u32 (page : Int), tv, dv] (w.heap.size + 1) (⟨ot, 3, n, on⟩ : Ts) ((wc.setCell ⟨w.heap.size + 1, 2, none⟩ (.int .u64 (n : Int))).setCell ⟨w.heap.size + 1, 1, none⟩ (.int .i64 3))) := by
        refine ⟨((HO.out.base.setCell (by simp) _).setCell (by simp) _), HO.out.box.same ?_, ?_⟩
        · have hne : w.heap.size ≠ w.heap.size + 1 := by omega
          simp only [same_set hne]
        · have := ((HO.out.tbx.set_ 2 (.int .u64 (n : Int))).set_ 1 (.int .i64 3))
          simpa using this
      have b0 : wc.cell? ⟨w.heap.size, 0, none⟩ = some (.int .u64 (n : Int)) := HO.out.box.cell 0
      have b1 : wc.cell? ⟨w.heap.size, 1, none⟩ = some (.int .i64 5) := HO.out.box.cell 1
      have b3 : wc.cell? ⟨w.heap.size, 3, none⟩ = some (.int .u64 (next : Int)) := HO.out.box.cell 3
      have q0 : wc.cell? ⟨w.heap.size + 1, 0, none⟩ = some (.int .i64 ot) := HO.out.tbx.cell 0
      have z0 : wc.frozen? ⟨w.heap.size + 1, 0, none⟩ = false := HO.out.tbx.frozen 0
      have q1 : wc.cell? ⟨w.heap.size + 1, 1, none⟩ = some (.int .i64 os) := HO.out.tbx.cell 1
      have z1 : wc.frozen? ⟨w.heap.size + 1, 1, none⟩ = false := HO.out.tbx.frozen 1
      have q2 : wc.cell? ⟨w.heap.size + 1, 2, none⟩ = some (.int .u64 (ol : Int)) := HO.out.tbx.cell 2
      have z2 : wc.frozen? ⟨w.heap.size + 1, 2, none⟩ = false := HO.out.tbx.frozen 2
      have q3 : wc.cell? ⟨w.heap.size + 1, 3, none⟩ = some (.int .u64 (on : Int)) := HO.out.tbx.cell 3
      have z3 : wc.frozen? ⟨w.heap.size + 1, 3, none⟩ = false := HO.out.tbx.frozen 3
      have HC := HP _ (⟨ot, 3, n, on⟩ : Ts) HO2.out.base
      rw [← HST2.out, ← HRO.out, HST2.out] at HC
      clear HP HST
      go_wp2_with (fail)
      refine HC.out.mono ?_
      rintro e w5 ⟨v', rfl, p1, p2, p3⟩
      have HQ := Lib.hid (And.intro p1 (And.intro (HO2.out.base.trans (p2.mono HO2.out.base.size)) (fun k hk => Nat.le_trans HO2.out.base.size (p3 k hk) : ∀ k, v'.ownBlock = some k → w.heap.size ≤ k)))
      clear p1 p2 p3
      go_wp2_with (fail)
      go_ret
      exact ⟨_, rfl, HQ.out.1, HQ.out.2.1, HQ.out.2.2⟩
    have HST2 : Hid (r.stepT n ⟨ot, os, ol, on⟩ = (⟨ot, os, n, on⟩ : Ts)) := by
      show _ = _
      rw [(HST _).out]
      rw [if_neg k1, if_neg (fun h => h.elim k2 k3), if_neg k4, if_neg k5]
    have HO2 : Hid (T19 w #[.int .u64 (n : Int), .int .i64 kind, .int .i64 tx, .int .u64 (next : Int), .int .u32 (page : Int), tv, dv] (w.heap.size + 1) (⟨ot, os, n, on⟩ : Ts) (wc.setCell ⟨w.heap.size + 1, 2, none⟩ (.int .u64 (n : Int)))) := by
      refine ⟨(HO.out.base.setCell (by simp) _), HO.out.box.same ?_, ?_⟩
      · have hne : w.heap.size ≠ w.heap.size + 1 := by omega
        simp only [same_set hne]
      · have := (HO.out.tbx.set_ 2 (.int .u64 (n : Int)))
        simpa using this
    have b0 : wc.cell? ⟨w.heap.size, 0, none⟩ = some (.int .u64 (n : Int)) := HO.out.box.cell 0
    have b1 : wc.cell? ⟨w.heap.size, 1, none⟩ = some (.int .i64 kind) := HO.out.box.cell 1
    have b3 : wc.cell? ⟨w.heap.size, 3, none⟩ = some (.int .u64 (next : Int)) := HO.out.box.cell 3
    have q0 : wc.cell? ⟨w.heap.size + 1, 0, none⟩ = some (.int .i64 ot) := HO.out.tbx.cell 0
    have z0 : wc.frozen? ⟨w.heap.size + 1, 0, none⟩ = false := HO.out.tbx.frozen 0
    have q1 : wc.cell? ⟨w.heap.size + 1, 1, none⟩ = some (.int .i64 os) := HO.out.tbx.cell 1
    have z1 : wc.frozen? ⟨w.heap.size + 1, 1, none⟩ = false := HO.out.tbx.frozen 1
    have q2 : wc.cell? ⟨w.heap.size + 1, 2, none⟩ = some (.int .u64 (ol : Int)) := HO.out.tbx.cell 2
    have z2 : wc.frozen? ⟨w.heap.size + 1, 2, none⟩ = false := HO.out.tbx.frozen 2
    have q3 : wc.cell? ⟨w.heap.size + 1, 3, none⟩ = some (.int .u64 (on : Int)) := HO.out.tbx.cell 3
    have z3 : wc.frozen? ⟨w.heap.size + 1, 3, none⟩ = false := HO.out.tbx.frozen 3
    have HC := HP _ (⟨ot, os, n, on⟩ : Ts) HO2.out.base
    rw [← HST2.out, ← HRO.out, HST2.out] at HC
    have g1 : (kind == 1) = false := by simp [k1]
    have g2 : (kind == 2) = false := by simp [k2]
    have g3 : (kind == 3) = false := by simp [k3]
    have g4 : (kind == 4) = false := by simp [k4]
    have g5 : (kind == 5) = false := by simp [k5]
    clear k1 k2 k3 k4 k5
    clear HP HST
    go_wp2_with (fail)
    refine HC.out.mono ?_
    rintro e w5 ⟨v', rfl, p1, p2, p3⟩
    have HQ := Lib.hid (And.intro p1 (And.intro (HO2.out.base.trans (p2.mono HO2.out.base.size)) (fun k hk => Nat.le_trans HO2.out.base.size (p3 k hk) : ∀ k, v'.ownBlock = some k → w.heap.size ≤ k)))
    clear p1 p2 p3
    go_wp2_with (fail)
    go_ret
    exact ⟨_, rfl, HQ.out.1, HQ.out.2.1, HQ.out.2.2⟩
end
end Go.Proofs.YtpnndlahfllbhaaGreat
