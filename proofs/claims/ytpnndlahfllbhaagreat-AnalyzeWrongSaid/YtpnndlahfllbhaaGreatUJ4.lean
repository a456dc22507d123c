/-
  The walk of girderref19.Run.
-/
import Derived.Test.YtpnndlahfllbhaaGreatUJ3
import Derived.Test.YtpnndlahfllbhaaGreatUQ3a
import Derived.Deep.CutRange
namespace Go.Proofs.YtpnndlahfllbhaaGreat
open Go.RowKit
attribute [local go_sem ↓] Go.wp_at_zero Go.wp_at_succ

/-- the state while one record is gone through: its copy -/
structure G19 (w : World) (en : Nat) (a : An) (tv dv : Value) (cb : Nat) (q : Q19) (W : World) : Prop where
  f : F19 w en a tv dv W
  cbx : Blk W cb 173 #[.int .u64 (q.at_ : Int), .int .i64 q.r.kind, .int .i64 q.r.tx, .int .u64 (q.r.next : Int), .int .u32 (q.r.page : Int), q.tv, q.dv]
  cne : w.heap.size + 2 ≤ cb
section
variable {w W W' : World} {en cb : Nat} {a a' : An} {tv dv tv' dv' : Value} {q : Q19}
theorem G19.below (h : G19 w en a tv dv cb q W) (hb : Below W.heap.size W W') : G19 w en a tv dv cb q W' := ⟨h.f.below hb, h.cbx.same (hb.block _ h.cbx.lt), h.cne⟩
theorem G19.drewN (h : G19 w en a tv dv cb q W) (n : Nat) : G19 w en a tv dv cb q (W.drewN n) := h.below (below_drewN _ _)
theorem G19.set (h : G19 w en a tv dv cb q W) {i : Nat} {v : Value} (hf : F19 w en a' tv' dv' (W.setCell ⟨w.heap.size + 1, i, none⟩ v)) : G19 w en a' tv' dv' cb q (W.setCell ⟨w.heap.size + 1, i, none⟩ v) :=
  ⟨hf, h.cbx.same (same_set (by have := h.cne; omega)), h.cne⟩
end
section
variable {w : World} {qs : List Q19}
def Run19Post (w : World) (en : Nat) (a : An) (e : Ending) (w' : World) : Prop :=
  ∃ tv dv, e = .returned (.agg #[tv, dv, .int .u64 (redoOf en a.dirty : Int), .int .i64 (a.most : Int), .int .i64 (a.recs : Int)]) ∧ RdC 4 tsC w' tv (sndL a.txs) ∧ RdC 2 dpC w' dv a.dirty ∧ Below w.heap.size w w'
set_option maxRecDepth 100000 in
set_option maxHeartbeats 8000000 in
theorem run19_c {v : Value} (hr : RdC 7 q19C w v qs) (hq : ∀ q ∈ qs, q.ok w) (en : Nat) (hlen : qs.length ≤ 100000) :
    Calls Tryz.prog 19 #[v, .int .u64 (en : Int)] w (Run19Post w en (runAn qs)) := by
  obtain ⟨la, lc, rfl⟩ := hr.form
  have HR := Lib.hid hr
  have HQ := Lib.hid hq
  have HF0 : Hid (F19 w en An.zero (.slice none 0 0) (.slice none 0 0) ((w.alloc (.cells #[.slice none 0 0, .slice none 0 0, .int .u64 0, .int .i64 0, .int .i64 0] 40)).alloc (.cells #[.slice none 0 0, .slice none 0 0, .int .u64 (en : Int), .int .i64 0, .int .i64 0] 40))) := by
    have hb : Below w.heap.size w (w.alloc (.cells #[.slice none 0 0, .slice none 0 0, .int .u64 0, .int .i64 0, .int .i64 0] 40)) := (Below.refl _ _).alloc (Nat.le_refl _) _
    have hb2 : Below (w.alloc (.cells #[.slice none 0 0, .slice none 0 0, .int .u64 0, .int .i64 0, .int .i64 0] 40)).heap.size (w.alloc (.cells #[.slice none 0 0, .slice none 0 0, .int .u64 0, .int .i64 0, .int .i64 0] 40)) ((w.alloc (.cells #[.slice none 0 0, .slice none 0 0, .int .u64 0, .int .i64 0, .int .i64 0] 40)).alloc (.cells #[.slice none 0 0, .slice none 0 0, .int .u64 (en : Int), .int .i64 0, .int .i64 0] 40)) := (Below.refl _ _).alloc (Nat.le_refl _) _
    refine ⟨hb.trans (hb2.mono hb.size), (Blk.new w _ _).same (hb2.block _ (by simp)), ?_, RdC.nil _ _, RdC.nil _ _, fun k hk => by simp [Value.ownBlock] at hk, fun k hk => by simp [Value.ownBlock] at hk⟩
    have := Blk.new (w.alloc (.cells #[.slice none 0 0, .slice none 0 0, .int .u64 0, .int .i64 0, .int .i64 0] 40)) 40 #[.slice none 0 0, .slice none 0 0, .int .u64 (en : Int), .int .i64 0, .int .i64 0]
    have e : (w.alloc (.cells #[.slice none 0 0, .slice none 0 0, .int .u64 0, .int .i64 0, .int .i64 0] 40)).heap.size = w.heap.size + 1 := by simp
    rw [e] at this
    exact this
  generalize hpost : Run19Post w en (runAn qs) = Post
  have HPOST := Lib.hid hpost
  clear hpost hr hq
  go_enter Tryz.func19, Tryz.ntmps19
  go_wp2_with (fail)
  go_loopw [6] (fun i wr => ∃ (j : Nat) (tv dv : Value), i = .int .i64 (j : Int) ∧ j ≤ qs.length ∧ Hid (F19 w en (runAn (qs.take j)) tv dv wr)) (fun i _ => qs.length - (intOf i).toNat)
  case atStart => exact ⟨0, _, _, rfl, Nat.zero_le _, HF0⟩
  case round =>
    clear HF0
    obtain ⟨j, tv, dv, rfl, hj, HF⟩ := hrel
    by_cases hjl : j < qs.length
    · obtain ⟨⟨qn, r, qtv, qdv⟩, hqj⟩ : ∃ q, qs[j]? = some q := ⟨_, List.getElem?_eq_getElem hjl⟩
      have HQQ := Lib.hid (HQ.out _ (List.mem_of_getElem? hqj))
      obtain ⟨ta, tc, rfl⟩ : ∃ ta tc, qtv = .slice ta r.txs.length tc := HQQ.out.txs.form
      obtain ⟨da, dc, rfl⟩ : ∃ ta tc, qdv = .slice ta r.dirty.length tc := HQQ.out.dirty.form
      have HRF := HR.out
      obtain ⟨tb, off, rfl, _, h1, h2, hbl, hc⟩ := HRF.at_ hqj
      have HTK : Hid (runAn (qs.take (j + 1)) = ((runAn (qs.take j)).step qn r).next) := by
        show _ = _
        rw [List.take_add_one, hqj]
        exact runAn_snoc _ _
      have HAO : Hid (runAn (qs.take j)).ok := runAn_ok _ (fun x hx => HQ.out x (List.mem_of_mem_take hx))
      have HAL := Lib.hid (runAn_len (qs.take j) (fun x hx => (HQ.out x (List.mem_of_mem_take hx)).ok))
      have hz : (qs.take j).length ≤ 100000 := by rw [List.length_take]; omega
      have hok1 : r.ok1 := HQQ.out.ok.a1
      unfold Rc.ok1 at hok1
      obtain ⟨kt, hkt⟩ : ∃ n : Nat, r.tx = (n : Int) := ⟨r.tx.toNat, by omega⟩
      have HKT := Lib.hid hkt
      have hkt2 : kt < 2147483648 := by omega
      have HOK := Lib.hid (show r.ok from HQQ.out.ok)
      have HMI := Lib.hid (show r.mild from HQQ.out.mild)
      have HTX := Lib.hid (show RdC 4 tsC w (.slice ta r.txs.length tc) r.txs from HQQ.out.txs)
      have HDX := Lib.hid (show RdC 2 dpC w (.slice da r.dirty.length dc) r.dirty from HQQ.out.dirty)
      have HQN := Lib.hid (show qn < 18446744073709551616 from HQQ.out.at_)
      have hl64 : r.txs.length ≤ 64 := HOK.out.a6.2.1
      have hl256 : r.dirty.length ≤ 256 := HOK.out.a6.2.2
      clear hok1
      have e0 : wr.cell? ⟨tb, off + j * 7, none⟩ = some (.int .u64 (qn : Int)) := (HF.out.base.cell (p := ⟨tb, off + j * 7 + 0, none⟩) hbl).trans (hc 0 _ rfl)
      have e1 : wr.cell? ⟨tb, off + j * 7 + 1, none⟩ = some (.int .i64 r.kind) := (HF.out.base.cell (p := ⟨tb, off + j * 7 + 1, none⟩) hbl).trans (hc 1 _ rfl)
      have e2 : wr.cell? ⟨tb, off + j * 7 + 2, none⟩ = some (.int .i64 (kt : Int)) := by rw [← hkt]; exact (HF.out.base.cell (p := ⟨tb, off + j * 7 + 2, none⟩) hbl).trans (hc 2 _ rfl)
      have e3 : wr.cell? ⟨tb, off + j * 7 + 3, none⟩ = some (.int .u64 (r.next : Int)) := (HF.out.base.cell (p := ⟨tb, off + j * 7 + 3, none⟩) hbl).trans (hc 3 _ rfl)
      have e4 : wr.cell? ⟨tb, off + j * 7 + 4, none⟩ = some (.int .u32 (r.page : Int)) := (HF.out.base.cell (p := ⟨tb, off + j * 7 + 4, none⟩) hbl).trans (hc 4 _ rfl)
      have e5 : wr.cell? ⟨tb, off + j * 7 + 5, none⟩ = some (.slice ta r.txs.length tc) := (HF.out.base.cell (p := ⟨tb, off + j * 7 + 5, none⟩) hbl).trans (hc 5 _ rfl)
      have e6 : wr.cell? ⟨tb, off + j * 7 + 6, none⟩ = some (.slice da r.dirty.length dc) := (HF.out.base.cell (p := ⟨tb, off + j * 7 + 6, none⟩) hbl).trans (hc 6 _ rfl)
      have HG : Hid (G19 w en (runAn (qs.take j)) tv dv wr.heap.size ⟨qn, r, .slice ta r.txs.length tc, .slice da r.dirty.length dc⟩ (wr.alloc (.cells #[.int .u64 (qn : Int), .int .i64 r.kind, .int .i64 (kt : Int), .int .u64 (r.next : Int), .int .u32 (r.page : Int), .slice ta r.txs.length tc, .slice da r.dirty.length dc] 173))) := by
        show G19 _ _ _ _ _ _ _ _
        rw [← hkt]
        exact ⟨HF.out.below ((Below.refl _ _).alloc (Nat.le_refl _) _), Blk.new wr _ _, HF.out.size⟩
      have hrec : (runAn (qs.take j)).recs ≤ 100000 := by have := HAL.out.2.2; omega
      have HJ := Lib.hid hjl
      clear hc hqj HRF hkt
      have HAL1 := Lib.hid (show (runAn (qs.take j)).txs.length ≤ 6500000 ∧ (runAn (qs.take j)).dirty.length ≤ 25700000 from by have := HAL.out; omega)
      generalize ha : runAn (qs.take j) = a at *
      have HAA := Lib.hid ha
      clear ha HAL
      go_upto_region 6 with (fail)
      clear hjl e0 e1 e2 e3 e4 e5 e6
      obtain ⟨wc, hwc⟩ : ∃ wc, wr.alloc (.cells #[.int .u64 (qn : Int), .int .i64 r.kind, .int .i64 (kt : Int), .int .u64 (r.next : Int), .int .u32 (r.page : Int), .slice ta r.txs.length tc, .slice da r.dirty.length dc] 173) = wc := ⟨_, rfl⟩
      rw [hwc] at HG ⊢
      clear hwc
      generalize hcb : wr.heap.size = cb at *
      have HCB := Lib.hid hcb
      clear hcb HF
      -- one record more
      have f0 : wc.cell? ⟨w.heap.size + 1, 0, none⟩ = some tv := HG.out.f.fbx.cell 0
      have f1 : wc.cell? ⟨w.heap.size + 1, 1, none⟩ = some dv := HG.out.f.fbx.cell 1
      have f2 : wc.cell? ⟨w.heap.size + 1, 2, none⟩ = some (.int .u64 (en : Int)) := HG.out.f.fbx.cell 2
      have f3 : wc.cell? ⟨w.heap.size + 1, 3, none⟩ = some (.int .i64 (a.most : Int)) := HG.out.f.fbx.cell 3
      have f4 : wc.cell? ⟨w.heap.size + 1, 4, none⟩ = some (.int .i64 (a.recs : Int)) := HG.out.f.fbx.cell 4
      have z0 : wc.frozen? ⟨w.heap.size + 1, 0, none⟩ = false := HG.out.f.fbx.frozen 0
      have z1 : wc.frozen? ⟨w.heap.size + 1, 1, none⟩ = false := HG.out.f.fbx.frozen 1
      have z2 : wc.frozen? ⟨w.heap.size + 1, 2, none⟩ = false := HG.out.f.fbx.frozen 2
      have z3 : wc.frozen? ⟨w.heap.size + 1, 3, none⟩ = false := HG.out.f.fbx.frozen 3
      have z4 : wc.frozen? ⟨w.heap.size + 1, 4, none⟩ = false := HG.out.f.fbx.frozen 4
      have c0 : wc.cell? ⟨cb, 0, none⟩ = some (.int .u64 (qn : Int)) := HG.out.cbx.cell 0
      have c1 : wc.cell? ⟨cb, 1, none⟩ = some (.int .i64 r.kind) := HG.out.cbx.cell 1
      have c2 : wc.cell? ⟨cb, 2, none⟩ = some (.int .i64 (kt : Int)) := by rw [← HKT.out]; exact HG.out.cbx.cell 2
      have c3 : wc.cell? ⟨cb, 3, none⟩ = some (.int .u64 (r.next : Int)) := HG.out.cbx.cell 3
      have c4 : wc.cell? ⟨cb, 4, none⟩ = some (.int .u32 (r.page : Int)) := HG.out.cbx.cell 4
      have c5 : wc.cell? ⟨cb, 5, none⟩ = some (.slice ta r.txs.length tc) := HG.out.cbx.cell 5
      have c6 : wc.cell? ⟨cb, 6, none⟩ = some (.slice da r.dirty.length dc) := HG.out.cbx.cell 6
      have HG1 := Lib.hid (HG.out.set HG.out.f.next)
      go_upto_region 7 with (fail)
      clear c0 c1 c2 c3 c4 c5 c6 f0 f1 f2 f3 f4 z0 z1 z2 z3 z4
      generalize wc.setCell ⟨w.heap.size + 1, 4, none⟩ (.int .i64 ((a.recs : Int) + 1)) = w1 at *
      clear HG
      -- the greatest transaction
      have f0 : w1.cell? ⟨w.heap.size + 1, 0, none⟩ = some tv := HG1.out.f.fbx.cell 0
      have f1 : w1.cell? ⟨w.heap.size + 1, 1, none⟩ = some dv := HG1.out.f.fbx.cell 1
      have f2 : w1.cell? ⟨w.heap.size + 1, 2, none⟩ = some (.int .u64 (en : Int)) := HG1.out.f.fbx.cell 2
      have f3 : w1.cell? ⟨w.heap.size + 1, 3, none⟩ = some (.int .i64 (a.next.most : Int)) := HG1.out.f.fbx.cell 3
      have f4 : w1.cell? ⟨w.heap.size + 1, 4, none⟩ = some (.int .i64 (a.next.recs : Int)) := HG1.out.f.fbx.cell 4
      have z0 : w1.frozen? ⟨w.heap.size + 1, 0, none⟩ = false := HG1.out.f.fbx.frozen 0
      have z1 : w1.frozen? ⟨w.heap.size + 1, 1, none⟩ = false := HG1.out.f.fbx.frozen 1
      have z2 : w1.frozen? ⟨w.heap.size + 1, 2, none⟩ = false := HG1.out.f.fbx.frozen 2
      have z3 : w1.frozen? ⟨w.heap.size + 1, 3, none⟩ = false := HG1.out.f.fbx.frozen 3
      have z4 : w1.frozen? ⟨w.heap.size + 1, 4, none⟩ = false := HG1.out.f.fbx.frozen 4
      have c0 : w1.cell? ⟨cb, 0, none⟩ = some (.int .u64 (qn : Int)) := HG1.out.cbx.cell 0
      have c1 : w1.cell? ⟨cb, 1, none⟩ = some (.int .i64 r.kind) := HG1.out.cbx.cell 1
      have c2 : w1.cell? ⟨cb, 2, none⟩ = some (.int .i64 (kt : Int)) := by rw [← HKT.out]; exact HG1.out.cbx.cell 2
      have c3 : w1.cell? ⟨cb, 3, none⟩ = some (.int .u64 (r.next : Int)) := HG1.out.cbx.cell 3
      have c4 : w1.cell? ⟨cb, 4, none⟩ = some (.int .u32 (r.page : Int)) := HG1.out.cbx.cell 4
      have c5 : w1.cell? ⟨cb, 5, none⟩ = some (.slice ta r.txs.length tc) := HG1.out.cbx.cell 5
      have c6 : w1.cell? ⟨cb, 6, none⟩ = some (.slice da r.dirty.length dc) := HG1.out.cbx.cell 6
      go_upto_if 31 with (fail)
      go_cut [] from 31 to 34 (fun wx => Hid (G19 w en (a.next.most_ r) tv dv cb ⟨qn, r, .slice ta r.txs.length tc, .slice da r.dirty.length dc⟩ wx))
      case first =>
        by_cases hm : (a.next.most : Int) < (kt : Int)
        · have e : ({ a.next with most := kt } : An) = a.next.most_ r := by
            unfold An.most_
            rw [HKT.out, show max a.next.most ((kt : Int).toNat) = kt by rw [Int.toNat_natCast]; exact Nat.max_eq_right (by omega)]
          have HS := Lib.hid (HG1.out.set (HG1.out.f.setMost kt))
          rw [e] at HS
          clear e
          go_wp2_with (fail)
          go_meet
          exact HS
        · have e : a.next.most_ r = a.next := by
            unfold An.most_
            rw [HKT.out]
            simp only [Int.toNat_natCast]
            rw [Nat.max_eq_left (by omega)]
          have HS : Hid (G19 w en (a.next.most_ r) tv dv cb ⟨qn, r, .slice ta r.txs.length tc, .slice da r.dirty.length dc⟩ w1) := by rw [e]; exact HG1
          clear e
          go_wp2_with (fail)
          go_meet
          exact HS
      case rest =>
      have HG2 := hcut
      clear hcut
      clear c0 c1 c2 c3 c4 c5 c6 f0 f1 f2 f3 f4 z0 z1 z2 z3 z4
      clear HG1
      have HAO2 : Hid (a.next.most_ r).ok := HAO.out.next.most_ HOK.out
      have HAL2 : Hid ((a.next.most_ r).txs.length ≤ 6500000 ∧ (a.next.most_ r).dirty.length ≤ 25700000) := HAL1.out
      have HMO : Hid (r.tx.toNat ≤ (a.next.most_ r).most) := Nat.le_max_right _ _
      generalize ha2 : a.next.most_ r = a2 at *
      have HA2 := Lib.hid ha2
      clear ha2
      -- what it says of its transaction
      have f0 : wc.cell? ⟨w.heap.size + 1, 0, none⟩ = some tv := HG2.out.f.fbx.cell 0
      have f1 : wc.cell? ⟨w.heap.size + 1, 1, none⟩ = some dv := HG2.out.f.fbx.cell 1
      have f2 : wc.cell? ⟨w.heap.size + 1, 2, none⟩ = some (.int .u64 (en : Int)) := HG2.out.f.fbx.cell 2
      have f3 : wc.cell? ⟨w.heap.size + 1, 3, none⟩ = some (.int .i64 (a2.most : Int)) := HG2.out.f.fbx.cell 3
      have f4 : wc.cell? ⟨w.heap.size + 1, 4, none⟩ = some (.int .i64 (a2.recs : Int)) := HG2.out.f.fbx.cell 4
      have z0 : wc.frozen? ⟨w.heap.size + 1, 0, none⟩ = false := HG2.out.f.fbx.frozen 0
      have z1 : wc.frozen? ⟨w.heap.size + 1, 1, none⟩ = false := HG2.out.f.fbx.frozen 1
      have z2 : wc.frozen? ⟨w.heap.size + 1, 2, none⟩ = false := HG2.out.f.fbx.frozen 2
      have z3 : wc.frozen? ⟨w.heap.size + 1, 3, none⟩ = false := HG2.out.f.fbx.frozen 3
      have z4 : wc.frozen? ⟨w.heap.size + 1, 4, none⟩ = false := HG2.out.f.fbx.frozen 4
      have c0 : wc.cell? ⟨cb, 0, none⟩ = some (.int .u64 (qn : Int)) := HG2.out.cbx.cell 0
      have c1 : wc.cell? ⟨cb, 1, none⟩ = some (.int .i64 r.kind) := HG2.out.cbx.cell 1
      have c2 : wc.cell? ⟨cb, 2, none⟩ = some (.int .i64 (kt : Int)) := by rw [← HKT.out]; exact HG2.out.cbx.cell 2
      have c3 : wc.cell? ⟨cb, 3, none⟩ = some (.int .u64 (r.next : Int)) := HG2.out.cbx.cell 3
      have c4 : wc.cell? ⟨cb, 4, none⟩ = some (.int .u32 (r.page : Int)) := HG2.out.cbx.cell 4
      have c5 : wc.cell? ⟨cb, 5, none⟩ = some (.slice ta r.txs.length tc) := HG2.out.cbx.cell 5
      have c6 : wc.cell? ⟨cb, 6, none⟩ = some (.slice da r.dirty.length dc) := HG2.out.cbx.cell 6
      go_upto_if 37 with (fail)
      go_cut [] from 37 to 42 (fun wx => ∃ tv', Hid (G19 w en (a2.tx_ qn r) tv' dv cb ⟨qn, r, .slice ta r.txs.length tc, .slice da r.dirty.length dc⟩ wx))
      case first =>
        by_cases h7 : r.kind < 7
        · have HC : Hid (Calls Tryz.prog 80 #[tv, .agg #[.int .u64 (qn : Int), .int .i64 r.kind, .int .i64 (kt : Int), .int .u64 (r.next : Int), .int .u32 (r.page : Int), .slice ta r.txs.length tc, .slice da r.dirty.length dc]] wc fun e w' => ∃ v', e = .returned v' ∧ RdC 4 tsC w' v' (sndL (r.txE qn a2.txs)) ∧ Below wc.heap.size wc w' ∧ (∀ k, v'.ownBlock = some k → wc.heap.size ≤ k)) :=
            record19_w r rfl HKT.out rfl HG2.out.f.txs HAO2.out.rt (fun p hp => (HAO2.out.tx p hp).1) (by omega) (by have := HAL2.out.1; unfold sndL; rw [List.length_map]; omega)
          have e : a2.tx_ qn r = { a2 with txs := r.txE qn a2.txs } := by unfold An.tx_; rw [if_pos h7]
          have HEE := Lib.hid e
          clear e
          go_wp2_with (fail)
          refine HC.out.mono ?_
          rintro e w5 ⟨v', rfl, p1, p2, p3⟩
          obtain ⟨va, vc, rfl⟩ := p1.form
          have HB5 := Lib.hid (HG2.out.below p2)
          have HS := Lib.hid (HB5.out.set (HB5.out.f.setTxs _ p1 (fun q hq => Nat.le_trans HG2.out.f.size (p3 q hq))))
          rw [← HEE.out] at HS
          have f0' : w5.cell? ⟨w.heap.size + 1, 0, none⟩ = some tv := HB5.out.f.fbx.cell 0
          have z0' : w5.frozen? ⟨w.heap.size + 1, 0, none⟩ = false := HB5.out.f.fbx.frozen 0
          clear p1 p2 p3 HC
          go_wp2_with (fail)
          go_meet
          exact ⟨_, HS⟩
        · have e : a2.tx_ qn r = a2 := by unfold An.tx_; rw [if_neg h7]
          have HS : Hid (G19 w en (a2.tx_ qn r) tv dv cb ⟨qn, r, .slice ta r.txs.length tc, .slice da r.dirty.length dc⟩ wc) := by rw [e]; exact HG2
          clear e
          go_wp2_with (fail)
          go_meet
          exact ⟨_, HS⟩
      case rest =>
      obtain ⟨tv3, HG3⟩ := hcut
      clear c0 c1 c2 c3 c4 c5 c6 f0 f1 f2 f3 f4 z0 z1 z2 z3 z4
      clear HG2
      have HAO3 : Hid (a2.tx_ qn r).ok := HAO2.out.tx_ HOK.out HMI.out HQN.out HMO.out
      have HAL3 : Hid ((a2.tx_ qn r).txs.length ≤ 6500001 ∧ (a2.tx_ qn r).dirty.length ≤ 25700000) := by
        show _ ∧ _
        have := HAL2.out
        unfold An.tx_
        split
        · refine ⟨?_, this.2⟩
          show (r.txE qn a2.txs).length ≤ _
          unfold Rc.txE
          split
          · have : (delL r.tx.toNat a2.txs).length ≤ a2.txs.length := List.length_filter_le _ _
            omega
          · exact Nat.le_trans (putL_length _ _ _) (by omega)
        · omega
      generalize ha3 : a2.tx_ qn r = a3 at *
      have HA3 := Lib.hid ha3
      clear ha3 HAO2 HAL2 HMO
      -- the page that lacks a change since
      have f0 : wc.cell? ⟨w.heap.size + 1, 0, none⟩ = some tv3 := HG3.out.f.fbx.cell 0
      have f1 : wc.cell? ⟨w.heap.size + 1, 1, none⟩ = some dv := HG3.out.f.fbx.cell 1
      have f2 : wc.cell? ⟨w.heap.size + 1, 2, none⟩ = some (.int .u64 (en : Int)) := HG3.out.f.fbx.cell 2
      have f3 : wc.cell? ⟨w.heap.size + 1, 3, none⟩ = some (.int .i64 (a3.most : Int)) := HG3.out.f.fbx.cell 3
      have f4 : wc.cell? ⟨w.heap.size + 1, 4, none⟩ = some (.int .i64 (a3.recs : Int)) := HG3.out.f.fbx.cell 4
      have z0 : wc.frozen? ⟨w.heap.size + 1, 0, none⟩ = false := HG3.out.f.fbx.frozen 0
      have z1 : wc.frozen? ⟨w.heap.size + 1, 1, none⟩ = false := HG3.out.f.fbx.frozen 1
      have z2 : wc.frozen? ⟨w.heap.size + 1, 2, none⟩ = false := HG3.out.f.fbx.frozen 2
      have z3 : wc.frozen? ⟨w.heap.size + 1, 3, none⟩ = false := HG3.out.f.fbx.frozen 3
      have z4 : wc.frozen? ⟨w.heap.size + 1, 4, none⟩ = false := HG3.out.f.fbx.frozen 4
      have c0 : wc.cell? ⟨cb, 0, none⟩ = some (.int .u64 (qn : Int)) := HG3.out.cbx.cell 0
      have c1 : wc.cell? ⟨cb, 1, none⟩ = some (.int .i64 r.kind) := HG3.out.cbx.cell 1
      have c2 : wc.cell? ⟨cb, 2, none⟩ = some (.int .i64 (kt : Int)) := by rw [← HKT.out]; exact HG3.out.cbx.cell 2
      have c3 : wc.cell? ⟨cb, 3, none⟩ = some (.int .u64 (r.next : Int)) := HG3.out.cbx.cell 3
      have c4 : wc.cell? ⟨cb, 4, none⟩ = some (.int .u32 (r.page : Int)) := HG3.out.cbx.cell 4
      have c5 : wc.cell? ⟨cb, 5, none⟩ = some (.slice ta r.txs.length tc) := HG3.out.cbx.cell 5
      have c6 : wc.cell? ⟨cb, 6, none⟩ = some (.slice da r.dirty.length dc) := HG3.out.cbx.cell 6
      go_upto_region 11 with (fail)
      go_cut [50] from 43 to 50 (fun s50 wx => ∃ b, s50 = .bool b ∧ Hid (TBool b r.chg) ∧ wx = wc)
      case first =>
        by_cases h1 : r.kind = 1
        · have h1' : (r.kind == 1) = true := by simp [h1]
          have HH := Lib.hid h1
          clear h1
          go_wp2_with (fail)
          go_meet
          exact ⟨true, rfl, Lib.hid (iff_of_true rfl (.inl HH.out)), rfl⟩
        · have h1' : (r.kind == 1) = false := by simp [h1]
          by_cases h2 : r.kind = 2
          · have h2' : (r.kind == 2) = true := by simp [h2]
            have HH := Lib.hid h2
            clear h1 h2
            go_wp2_with (fail)
            go_meet
            exact ⟨true, rfl, Lib.hid (iff_of_true rfl (.inr HH.out)), rfl⟩
          · have h2' : (r.kind == 2) = false := by simp [h2]
            have HH := Lib.hid (And.intro h1 h2)
            clear h1 h2
            go_wp2_with (fail)
            go_meet
            exact ⟨false, rfl, Lib.hid (iff_of_false Bool.false_ne_true (fun h => h.elim HH.out.1 HH.out.2)), rfl⟩
      case rest =>
      obtain ⟨bch, rfl, hbch, rfl⟩ := hcut
      go_upto_if 50 with (fail)
      go_cut [] from 51 to 59 (fun wx => ∃ dv', Hid (G19 w en (a3.fresh_ qn r) tv3 dv' cb ⟨qn, r, .slice ta r.txs.length tc, .slice da r.dirty.length dc⟩ wx))
      case first =>
        cases bch with
        | true =>
          have hch : r.chg := hbch.out.1 rfl
          have HC : Hid (Calls Tryz.prog 81 #[dv, .agg #[.int .u32 (r.page : Int), .int .u64 (qn : Int)]] wc fun e w' => ∃ v', e = .returned v' ∧ RdC 2 dpC w' v' (freshT (r.page, qn) a3.dirty) ∧ Below wc.heap.size wc w' ∧ Fresh19 wc dv v') :=
            fresh19_c HG3.out.f.dirty (r.page, qn) (by have := HAL3.out.2; omega)
          have e : a3.fresh_ qn r = { a3 with dirty := freshT (r.page, qn) a3.dirty } := by
            unfold An.fresh_
            rw [if_pos hch]
            congr 1
            unfold freshT
            cases hg : getL r.page a3.dirty with
            | some z => unfold freshE; rw [hg]; rfl
            | none => rw [dirT_dirty _ HAO3.out.rd, fresh_dirty hg]; unfold freshE; rw [hg]; rfl
          have HEE := Lib.hid e
          clear e hch
          go_wp2_with (fail)
          refine HC.out.mono ?_
          rintro e w5 ⟨v', rfl, p1, p2, p3⟩
          obtain ⟨va, vc, rfl⟩ := p1.form
          have HB5 := Lib.hid (HG3.out.below p2)
          have HS := Lib.hid (HB5.out.set (HB5.out.f.setDirty _ p1 (fun q hq => by
            rcases p3 with rfl | p3
            · exact HG3.out.f.dne q hq
            · exact Nat.le_trans HG3.out.f.size (p3 q hq))))
          rw [← HEE.out] at HS
          have f1' : w5.cell? ⟨w.heap.size + 1, 1, none⟩ = some dv := HB5.out.f.fbx.cell 1
          have z1' : w5.frozen? ⟨w.heap.size + 1, 1, none⟩ = false := HB5.out.f.fbx.frozen 1
          clear p1 p2 p3 HC
          go_wp2_with (fail)
          go_meet
          exact ⟨_, HS⟩
        | false =>
          have e : a3.fresh_ qn r = a3 := by unfold An.fresh_; rw [if_neg (fun h => Bool.false_ne_true (hbch.out.2 h))]
          have HS : Hid (G19 w en (a3.fresh_ qn r) tv3 dv cb ⟨qn, r, .slice ta r.txs.length tc, .slice da r.dirty.length dc⟩ wc) := by rw [e]; exact HG3
          clear e
          go_wp2_with (fail)
          go_meet
          exact ⟨_, HS⟩
      case rest =>
      obtain ⟨dv4, HG4⟩ := hcut
      clear c0 c1 c2 c3 c4 c5 c6 f0 f1 f2 f3 f4 z0 z1 z2 z3 z4
      clear HG3 hbch
      have HAO4 : Hid (a3.fresh_ qn r).ok := by
        show An.ok _
        unfold An.fresh_
        split
        · refine ⟨HAO3.out.rt, HAO3.out.rd.fresh, HAO3.out.tx, fun p hp => ?_, HAO3.out.most⟩
          rcases mem_freshE hp with rfl | hp
          · exact ⟨HMI.out.page, HQN.out⟩
          · exact HAO3.out.dp p hp
        · exact HAO3.out
      have HAL4 : Hid ((a3.fresh_ qn r).txs.length ≤ 6500001 ∧ (a3.fresh_ qn r).dirty.length ≤ 25700001) := by
        show _ ∧ _
        have := HAL3.out
        unfold An.fresh_
        split
        · refine ⟨this.1, ?_⟩
          show (freshE (r.page, qn) a3.dirty).length ≤ _
          unfold freshE
          split
          · omega
          · exact Nat.le_trans (putL_length _ _ _) (by omega)
        · omega
      generalize ha4 : a3.fresh_ qn r = a4 at *
      have HA4 := Lib.hid ha4
      clear ha4 HAO3 HAL3
      -- the transactions of a checkpoint
      go_wp2_with (fail)
      go_loopw [8] (fun s8 wx => ∃ (k : Nat) (tv' : Value), s8 = .int .i64 (k : Int) ∧ k ≤ r.txs.length ∧ Hid (G19 w en ((r.txs.take k).foldl An.take a4) tv' dv4 cb ⟨qn, r, .slice ta r.txs.length tc, .slice da r.dirty.length dc⟩ wx)) (fun s8 _ => r.txs.length - (intOf s8).toNat)
      case atStart => exact ⟨0, _, rfl, Nat.zero_le _, HG4⟩
      case round =>
        clear HG4
        obtain ⟨k, tv5, rfl, hk, HG5⟩ := hrel
        rename World => wc
        have c0 : wc.cell? ⟨cb, 0, none⟩ = some (.int .u64 (qn : Int)) := HG5.out.cbx.cell 0
        have c1 : wc.cell? ⟨cb, 1, none⟩ = some (.int .i64 r.kind) := HG5.out.cbx.cell 1
        have c2 : wc.cell? ⟨cb, 2, none⟩ = some (.int .i64 (kt : Int)) := by rw [← HKT.out]; exact HG5.out.cbx.cell 2
        have c3 : wc.cell? ⟨cb, 3, none⟩ = some (.int .u64 (r.next : Int)) := HG5.out.cbx.cell 3
        have c4 : wc.cell? ⟨cb, 4, none⟩ = some (.int .u32 (r.page : Int)) := HG5.out.cbx.cell 4
        have c5 : wc.cell? ⟨cb, 5, none⟩ = some (.slice ta r.txs.length tc) := HG5.out.cbx.cell 5
        have c6 : wc.cell? ⟨cb, 6, none⟩ = some (.slice da r.dirty.length dc) := HG5.out.cbx.cell 6
        by_cases hkl : k < r.txs.length
        · obtain ⟨x, hx⟩ : ∃ x, r.txs[k]? = some x := ⟨_, List.getElem?_eq_getElem hkl⟩
          have HXF := HTX.out
          obtain ⟨xb, xo, rfl, _, x1, x2, xbl, xc⟩ := HXF.at_ hx
          obtain ⟨xt, hxt⟩ : ∃ n : Nat, x.tx = (n : Int) := ⟨x.tx.toNat, by have := (HOK.out.a7 x (List.mem_of_getElem? hx)); unfold Ts.ok at this; omega⟩
          have HXT := Lib.hid hxt
          have hxt2 : xt < 2147483648 := by have := (HOK.out.a7 x (List.mem_of_getElem? hx)); unfold Ts.ok at this; omega
          have HFX : ∀ W, Below w.heap.size w W → Hid (W.cell? ⟨xb, xo + k * 4, none⟩ = some (.int .i64 (xt : Int)) ∧ W.cell? ⟨xb, xo + k * 4 + 1, none⟩ = some (.int .i64 x.state) ∧ W.cell? ⟨xb, xo + k * 4 + 2, none⟩ = some (.int .u64 (x.last : Int)) ∧ W.cell? ⟨xb, xo + k * 4 + 3, none⟩ = some (.int .u64 (x.next : Int))) := fun W hW =>
            ⟨by rw [← hxt]; exact (hW.cell (p := ⟨xb, xo + k * 4 + 0, none⟩) xbl).trans (xc 0 _ rfl), (hW.cell (p := ⟨xb, xo + k * 4 + 1, none⟩) xbl).trans (xc 1 _ rfl), (hW.cell (p := ⟨xb, xo + k * 4 + 2, none⟩) xbl).trans (xc 2 _ rfl), (hW.cell (p := ⟨xb, xo + k * 4 + 3, none⟩) xbl).trans (xc 3 _ rfl)⟩
          have HTK5 : Hid ((r.txs.take (k + 1)).foldl An.take a4 = (((r.txs.take k).foldl An.take a4)).take x) := by
            show _ = _
            rw [List.take_add_one, hx, Option.toList, List.foldl_append]
            rfl
          have HKJ := Lib.hid hkl
          have hA5 := takes_len (r.txs.take k) a4
          have hA5l : (r.txs.take k).length ≤ 64 := by rw [List.length_take]; omega
          have HAO5 : Hid ((r.txs.take k).foldl An.take a4).ok := An.ok.takes _ HAO4.out (fun t ht => ⟨HOK.out.a7 t (List.mem_of_mem_take ht), (HMI.out.txs t (List.mem_of_mem_take ht)).2.2⟩)
          have HAL5 : Hid (((r.txs.take k).foldl An.take a4).txs.length ≤ 6500070) := by have := HAL4.out.1; show _ ≤ _; omega
          have HMX := Lib.hid (HMI.out.txs x (List.mem_of_getElem? hx))
          clear hA5 hA5l hx HXF xc hxt
          generalize ha5 : ((r.txs.take k).foldl An.take a4) = a5 at *
          have HA5 := Lib.hid ha5
          clear ha5
          obtain ⟨d0, d1, d2, d3⟩ := (HFX _ HG5.out.f.base).out
          have f0 : wc.cell? ⟨w.heap.size + 1, 0, none⟩ = some tv5 := HG5.out.f.fbx.cell 0
          have f1 : wc.cell? ⟨w.heap.size + 1, 1, none⟩ = some dv4 := HG5.out.f.fbx.cell 1
          have f2 : wc.cell? ⟨w.heap.size + 1, 2, none⟩ = some (.int .u64 (en : Int)) := HG5.out.f.fbx.cell 2
          have f3 : wc.cell? ⟨w.heap.size + 1, 3, none⟩ = some (.int .i64 (a5.most : Int)) := HG5.out.f.fbx.cell 3
          have f4 : wc.cell? ⟨w.heap.size + 1, 4, none⟩ = some (.int .i64 (a5.recs : Int)) := HG5.out.f.fbx.cell 4
          have z0 : wc.frozen? ⟨w.heap.size + 1, 0, none⟩ = false := HG5.out.f.fbx.frozen 0
          have z1 : wc.frozen? ⟨w.heap.size + 1, 1, none⟩ = false := HG5.out.f.fbx.frozen 1
          have z2 : wc.frozen? ⟨w.heap.size + 1, 2, none⟩ = false := HG5.out.f.fbx.frozen 2
          have z3 : wc.frozen? ⟨w.heap.size + 1, 3, none⟩ = false := HG5.out.f.fbx.frozen 3
          have z4 : wc.frozen? ⟨w.heap.size + 1, 4, none⟩ = false := HG5.out.f.fbx.frozen 4
          go_upto_region 16 with (fail)
          go_cut [75] from 67 to 75 (fun s75 wx => ∃ b, s75 = .bool b ∧ Hid (TBool b (a5.most < xt)) ∧ Hid (G19 w en a5 tv5 dv4 cb ⟨qn, r, .slice (some ⟨xb, xo, none⟩) r.txs.length tc, .slice da r.dirty.length dc⟩ wx))
          case first =>
            by_cases hm : (a5.most : Int) < (xt : Int)
            · have HM := Lib.hid hm
              go_quiet (fail)
              go_wp2_with (fail)
              go_meet
              exact ⟨true, rfl, Lib.hid (iff_of_true rfl (by have := HM.out; omega)), HG5.out.drewN _⟩
            · have HM := Lib.hid hm
              go_quiet (fail)
              go_wp2_with (fail)
              go_meet
              exact ⟨false, rfl, Lib.hid (iff_of_false Bool.false_ne_true (by have := HM.out; omega)), HG5.out.drewN _⟩
          case rest =>
          obtain ⟨bm, rfl, hbm, HG6⟩ := hcut
          clear c0 c1 c2 c3 c4 c5 c6 f0 f1 f2 f3 f4 z0 z1 z2 z3 z4
          clear d0 d1 d2 d3 HG5
          obtain ⟨d0, d1, d2, d3⟩ := (HFX _ HG6.out.f.base).out
          have f0 : wc.cell? ⟨w.heap.size + 1, 0, none⟩ = some tv5 := HG6.out.f.fbx.cell 0
          have f1 : wc.cell? ⟨w.heap.size + 1, 1, none⟩ = some dv4 := HG6.out.f.fbx.cell 1
          have f2 : wc.cell? ⟨w.heap.size + 1, 2, none⟩ = some (.int .u64 (en : Int)) := HG6.out.f.fbx.cell 2
          have f3 : wc.cell? ⟨w.heap.size + 1, 3, none⟩ = some (.int .i64 (a5.most : Int)) := HG6.out.f.fbx.cell 3
          have f4 : wc.cell? ⟨w.heap.size + 1, 4, none⟩ = some (.int .i64 (a5.recs : Int)) := HG6.out.f.fbx.cell 4
          have z0 : wc.frozen? ⟨w.heap.size + 1, 0, none⟩ = false := HG6.out.f.fbx.frozen 0
          have z1 : wc.frozen? ⟨w.heap.size + 1, 1, none⟩ = false := HG6.out.f.fbx.frozen 1
          have z2 : wc.frozen? ⟨w.heap.size + 1, 2, none⟩ = false := HG6.out.f.fbx.frozen 2
          have z3 : wc.frozen? ⟨w.heap.size + 1, 3, none⟩ = false := HG6.out.f.fbx.frozen 3
          have z4 : wc.frozen? ⟨w.heap.size + 1, 4, none⟩ = false := HG6.out.f.fbx.frozen 4
          have c0 : wc.cell? ⟨cb, 0, none⟩ = some (.int .u64 (qn : Int)) := HG6.out.cbx.cell 0
          have c1 : wc.cell? ⟨cb, 1, none⟩ = some (.int .i64 r.kind) := HG6.out.cbx.cell 1
          have c2 : wc.cell? ⟨cb, 2, none⟩ = some (.int .i64 (kt : Int)) := by rw [← HKT.out]; exact HG6.out.cbx.cell 2
          have c3 : wc.cell? ⟨cb, 3, none⟩ = some (.int .u64 (r.next : Int)) := HG6.out.cbx.cell 3
          have c4 : wc.cell? ⟨cb, 4, none⟩ = some (.int .u32 (r.page : Int)) := HG6.out.cbx.cell 4
          have c5 : wc.cell? ⟨cb, 5, none⟩ = some (.slice (some ⟨xb, xo, none⟩) r.txs.length tc) := HG6.out.cbx.cell 5
          have c6 : wc.cell? ⟨cb, 6, none⟩ = some (.slice da r.dirty.length dc) := HG6.out.cbx.cell 6
          go_upto_if 75 with (fail)
          go_cut [] from 76 to 82 (fun wx => Hid (G19 w en { a5 with most := max a5.most xt } tv5 dv4 cb ⟨qn, r, .slice (some ⟨xb, xo, none⟩) r.txs.length tc, .slice da r.dirty.length dc⟩ wx))
          case first =>
            cases bm with
            | true =>
              have e : max a5.most xt = xt := Nat.max_eq_right (Nat.le_of_lt (hbm.out.1 rfl))
              have HS := Lib.hid (HG6.out.set (HG6.out.f.setMost xt))
              rw [← e] at HS
              have HSS : Hid (G19 w en { a5 with most := max a5.most xt } tv5 dv4 cb ⟨qn, r, .slice (some ⟨xb, xo, none⟩) r.txs.length tc, .slice da r.dirty.length dc⟩ (wc.setCell ⟨w.heap.size + 1, 3, none⟩ (.int .i64 (xt : Int)))) := by
                rw [e] at HS ⊢
                exact HS
              clear HS e
              go_wp2_with (fail)
              go_meet
              exact HSS
            | false =>
              have HSS : Hid (G19 w en { a5 with most := max a5.most xt } tv5 dv4 cb ⟨qn, r, .slice (some ⟨xb, xo, none⟩) r.txs.length tc, .slice da r.dirty.length dc⟩ wc) := by
                have hn : ¬ a5.most < xt := fun h => Bool.false_ne_true (hbm.out.2 h)
                rw [Nat.max_eq_left (by omega)]
                exact HG6
              go_wp2_with (fail)
              go_meet
              exact HSS
          case rest =>
          have HG7 := hcut
          clear c0 c1 c2 c3 c4 c5 c6 f0 f1 f2 f3 f4 z0 z1 z2 z3 z4
          clear d0 d1 d2 d3 HG6 hcut hbm
          obtain ⟨d0, d1, d2, d3⟩ := (HFX _ HG7.out.f.base).out
          have f0 : wc.cell? ⟨w.heap.size + 1, 0, none⟩ = some tv5 := HG7.out.f.fbx.cell 0
          have f1 : wc.cell? ⟨w.heap.size + 1, 1, none⟩ = some dv4 := HG7.out.f.fbx.cell 1
          have f2 : wc.cell? ⟨w.heap.size + 1, 2, none⟩ = some (.int .u64 (en : Int)) := HG7.out.f.fbx.cell 2
          have f3 : wc.cell? ⟨w.heap.size + 1, 3, none⟩ = some (.int .i64 ({ a5 with most := max a5.most xt }.most : Int)) := HG7.out.f.fbx.cell 3
          have f4 : wc.cell? ⟨w.heap.size + 1, 4, none⟩ = some (.int .i64 ({ a5 with most := max a5.most xt }.recs : Int)) := HG7.out.f.fbx.cell 4
          have z0 : wc.frozen? ⟨w.heap.size + 1, 0, none⟩ = false := HG7.out.f.fbx.frozen 0
          have z1 : wc.frozen? ⟨w.heap.size + 1, 1, none⟩ = false := HG7.out.f.fbx.frozen 1
          have z2 : wc.frozen? ⟨w.heap.size + 1, 2, none⟩ = false := HG7.out.f.fbx.frozen 2
          have z3 : wc.frozen? ⟨w.heap.size + 1, 3, none⟩ = false := HG7.out.f.fbx.frozen 3
          have z4 : wc.frozen? ⟨w.heap.size + 1, 4, none⟩ = false := HG7.out.f.fbx.frozen 4
          have c0 : wc.cell? ⟨cb, 0, none⟩ = some (.int .u64 (qn : Int)) := HG7.out.cbx.cell 0
          have c1 : wc.cell? ⟨cb, 1, none⟩ = some (.int .i64 r.kind) := HG7.out.cbx.cell 1
          have c2 : wc.cell? ⟨cb, 2, none⟩ = some (.int .i64 (kt : Int)) := by rw [← HKT.out]; exact HG7.out.cbx.cell 2
          have c3 : wc.cell? ⟨cb, 3, none⟩ = some (.int .u64 (r.next : Int)) := HG7.out.cbx.cell 3
          have c4 : wc.cell? ⟨cb, 4, none⟩ = some (.int .u32 (r.page : Int)) := HG7.out.cbx.cell 4
          have c5 : wc.cell? ⟨cb, 5, none⟩ = some (.slice (some ⟨xb, xo, none⟩) r.txs.length tc) := HG7.out.cbx.cell 5
          have c6 : wc.cell? ⟨cb, 6, none⟩ = some (.slice da r.dirty.length dc) := HG7.out.cbx.cell 6
          obtain ⟨sta, stc, rfl⟩ : ∃ sta stc, tv5 = .slice sta (sndL a5.txs).length stc := HG7.out.f.txs.form
          obtain ⟨iv, hiv, hst⟩ := state19_v HAO5.out.rt (fun p hp => (HAO5.out.tx p hp).1) xt (.slice sta (sndL a5.txs).length stc) (by have := HAL5.out; unfold sndL; rw [List.length_map]; omega)
          have HSQ : ∀ n, Hid (Calls Tryz.prog 82 #[.slice sta (sndL a5.txs).length stc, .int .i64 (xt : Int)] (wc.drewN n) fun e w' => e = .returned (.int .i64 iv) ∧ w' = wc.drewN n) := fun n => hst _ (HG7.out.drewN n).f.txs
          have HIV := Lib.hid hiv
          clear hiv hst
          go_upto_region 18 with (fail)
          go_cut [92] from 83 to 92 (fun s92 wx => ∃ b, s92 = .bool b ∧ Hid (TBool b (getL xt a5.txs = none)) ∧ Hid (G19 w en { a5 with most := max a5.most xt } (.slice sta (sndL a5.txs).length stc) dv4 cb ⟨qn, r, .slice (some ⟨xb, xo, none⟩) r.txs.length tc, .slice da r.dirty.length dc⟩ wx))
          case first =>
            by_cases hm : iv < 0
            · have HM := Lib.hid hm
              go_quiet (first | (go_at_call 82; exact Calls.quiet_of_same (HSQ _).out))
              go_wp2_with (fail)
              go_meet
              exact ⟨true, rfl, Lib.hid (iff_of_true rfl (HIV.out.1 HM.out)), HG7.out.drewN _⟩
            · have HM := Lib.hid hm
              go_quiet (first | (go_at_call 82; exact Calls.quiet_of_same (HSQ _).out))
              go_wp2_with (fail)
              go_meet
              exact ⟨false, rfl, Lib.hid (iff_of_false Bool.false_ne_true (fun h => by have h1 := HIV.out.2 h; have h2 := HM.out; omega)), HG7.out.drewN _⟩
          case rest =>
          obtain ⟨bn, rfl, hbn, HG8⟩ := hcut
          clear c0 c1 c2 c3 c4 c5 c6 f0 f1 f2 f3 f4 z0 z1 z2 z3 z4
          clear d0 d1 d2 d3 HG7 HSQ HIV
          obtain ⟨d0, d1, d2, d3⟩ := (HFX _ HG8.out.f.base).out
          have f0 : wc.cell? ⟨w.heap.size + 1, 0, none⟩ = some (.slice sta (sndL a5.txs).length stc) := HG8.out.f.fbx.cell 0
          have f1 : wc.cell? ⟨w.heap.size + 1, 1, none⟩ = some dv4 := HG8.out.f.fbx.cell 1
          have f2 : wc.cell? ⟨w.heap.size + 1, 2, none⟩ = some (.int .u64 (en : Int)) := HG8.out.f.fbx.cell 2
          have f3 : wc.cell? ⟨w.heap.size + 1, 3, none⟩ = some (.int .i64 ({ a5 with most := max a5.most xt }.most : Int)) := HG8.out.f.fbx.cell 3
          have f4 : wc.cell? ⟨w.heap.size + 1, 4, none⟩ = some (.int .i64 ({ a5 with most := max a5.most xt }.recs : Int)) := HG8.out.f.fbx.cell 4
          have z0 : wc.frozen? ⟨w.heap.size + 1, 0, none⟩ = false := HG8.out.f.fbx.frozen 0
          have z1 : wc.frozen? ⟨w.heap.size + 1, 1, none⟩ = false := HG8.out.f.fbx.frozen 1
          have z2 : wc.frozen? ⟨w.heap.size + 1, 2, none⟩ = false := HG8.out.f.fbx.frozen 2
          have z3 : wc.frozen? ⟨w.heap.size + 1, 3, none⟩ = false := HG8.out.f.fbx.frozen 3
          have z4 : wc.frozen? ⟨w.heap.size + 1, 4, none⟩ = false := HG8.out.f.fbx.frozen 4
          have c0 : wc.cell? ⟨cb, 0, none⟩ = some (.int .u64 (qn : Int)) := HG8.out.cbx.cell 0
          have c1 : wc.cell? ⟨cb, 1, none⟩ = some (.int .i64 r.kind) := HG8.out.cbx.cell 1
          have c2 : wc.cell? ⟨cb, 2, none⟩ = some (.int .i64 (kt : Int)) := by rw [← HKT.out]; exact HG8.out.cbx.cell 2
          have c3 : wc.cell? ⟨cb, 3, none⟩ = some (.int .u64 (r.next : Int)) := HG8.out.cbx.cell 3
          have c4 : wc.cell? ⟨cb, 4, none⟩ = some (.int .u32 (r.page : Int)) := HG8.out.cbx.cell 4
          have c5 : wc.cell? ⟨cb, 5, none⟩ = some (.slice (some ⟨xb, xo, none⟩) r.txs.length tc) := HG8.out.cbx.cell 5
          have c6 : wc.cell? ⟨cb, 6, none⟩ = some (.slice da r.dirty.length dc) := HG8.out.cbx.cell 6
          cases bn with
          | false =>
            have HE : Hid (({ a5 with most := max a5.most xt } : An) = a5.take x) := by
              show _ = _
              unfold An.take
              have hn : ¬ getL xt a5.txs = none := fun h => Bool.false_ne_true (hbn.out.2 h)
              rw [HXT.out]
              simp only [Int.toNat_natCast]
              rw [if_pos (by cases hg : getL xt a5.txs with | none => exact absurd hg hn | some z => rfl)]
            have HSS := HG8
            rw [HE.out] at HSS
            go_wp2_with (fail)
            go_roundw
            case rel => exact ⟨k + 1, _, by go_num, HKJ.out, by rw [HTK5.out]; exact HSS⟩
            case measure => have := HKJ.out; simp [intOf]; omega
          | true =>
            have HE : Hid (a5.take x = { a5 with most := max a5.most xt, txs := putL xt x a5.txs }) := by
              show _ = _
              unfold An.take
              rw [HXT.out]
              simp only [Int.toNat_natCast]
              rw [hbn.out.1 rfl]
              rfl
            have HPC : Hid (Calls Tryz.prog 83 #[.slice sta (sndL a5.txs).length stc, .agg #[.int .i64 (xt : Int), .int .i64 x.state, .int .u64 (x.last : Int), .int .u64 (x.next : Int)]] (wc.drewN 1) fun e w' => ∃ v', e = .returned v' ∧ RdC 4 tsC w' v' (putT x (sndL a5.txs) false) ∧ Below (wc.drewN 1).heap.size (wc.drewN 1) w' ∧ (∀ k, v'.ownBlock = some k → (wc.drewN 1).heap.size ≤ k)) := by
              have := put19_c (show RdC 4 tsC _ _ (sndL a5.txs) from (HG8.out.drewN 1).f.txs) x (by have := HAL5.out; unfold sndL; rw [List.length_map]; omega)
              unfold tsC at this
              rw [HXT.out] at this
              exact this
            rw [putT_put x xt HXT.out HAO5.out.rt (fun p hp => (HAO5.out.tx p hp).1)] at HPC
            have HSK : ∀ W, Below (wc.drewN 1).heap.size (wc.drewN 1) W → Hid (W.cell? ⟨w.heap.size + 1, 0, none⟩ = some (.slice sta (sndL a5.txs).length stc) ∧ W.cell? ⟨cb, 5, none⟩ = some (.slice (some ⟨xb, xo, none⟩) r.txs.length tc) ∧ W.cell? ⟨xb, xo + k * 4, none⟩ = some (.int .i64 (xt : Int)) ∧ W.cell? ⟨xb, xo + k * 4 + 1, none⟩ = some (.int .i64 x.state) ∧ W.cell? ⟨xb, xo + k * 4 + 2, none⟩ = some (.int .u64 (x.last : Int)) ∧ W.cell? ⟨xb, xo + k * 4 + 3, none⟩ = some (.int .u64 (x.next : Int))) := fun W hW => by
              have h8 := (HG8.out.drewN 1).below hW
              obtain ⟨g0, g1, g2, g3⟩ := (HFX _ h8.f.base).out
              exact ⟨h8.f.fbx.cell 0, h8.cbx.cell 5, g0, g1, g2, g3⟩
            have HS0 := HSK _ (Below.refl _ _)
            clear hbn
            go_upto_region 19 with (fail)
            refine wp_region_late (S := fun W => W.cell? ⟨w.heap.size + 1, 0, none⟩ = some (.slice sta (sndL a5.txs).length stc) ∧ W.cell? ⟨cb, 5, none⟩ = some (.slice (some ⟨xb, xo, none⟩) r.txs.length tc) ∧ W.cell? ⟨xb, xo + k * 4, none⟩ = some (.int .i64 (xt : Int)) ∧ W.cell? ⟨xb, xo + k * 4 + 1, none⟩ = some (.int .i64 x.state) ∧ W.cell? ⟨xb, xo + k * 4 + 2, none⟩ = some (.int .u64 (x.last : Int)) ∧ W.cell? ⟨xb, xo + k * 4 + 3, none⟩ = some (.int .u64 (x.next : Int))) (late := [9]) (by kernel_rfl) HS0.out (fun hHeld => ?_)
            refine wpAnyL_move (i := 0) (v := ?_) (by rfl) (by kernel_rfl) (by kernel_rfl) (by kernel_rfl) (by rfl) (by exact fun _ _ _ h => h) (Or.inl ⟨by rfl, ?_⟩) (by assumption) ?_; rotate_left; · (intro w0; go_simp; try with_reducible rfl)
            try simp only [Act.put, List.setIfInBounds_toArray, List.set_cons_zero, List.set_cons_succ]
            refine wpAnyL_load (i := 1) (v := ?_) (by rfl) (by kernel_rfl) (by kernel_rfl) (by kernel_rfl) (by rfl) (by kernel_rfl) (by exact fun _ _ _ h => h) (Or.inl ⟨by rfl, ?_⟩) (by assumption) ?_; rotate_left; · (intro w0 hS0; obtain ⟨s0, s1, s2, s3, s4, s5⟩ := hS0; go_simp; try with_reducible rfl)
            try simp only [Act.put, List.setIfInBounds_toArray, List.set_cons_zero, List.set_cons_succ]
            refine wpAnyL_move (i := 2) (v := ?_) (by rfl) (by kernel_rfl) (by kernel_rfl) (by kernel_rfl) (by rfl) (by exact fun _ _ _ h => h) (Or.inl ⟨by rfl, ?_⟩) (by assumption) ?_; rotate_left; · (intro w0; go_simp; try with_reducible rfl)
            try simp only [Act.put, List.setIfInBounds_toArray, List.set_cons_zero, List.set_cons_succ]
            refine wpAnyL_load (i := 3) (v := ?_) (by rfl) (by kernel_rfl) (by kernel_rfl) (by kernel_rfl) (by rfl) (by kernel_rfl) (by exact fun _ _ _ h => h) (Or.inl ⟨by rfl, ?_⟩) (by assumption) ?_; rotate_left; · (intro w0 hS0; obtain ⟨s0, s1, s2, s3, s4, s5⟩ := hS0; go_simp; try with_reducible rfl)
            try simp only [Act.put, List.setIfInBounds_toArray, List.set_cons_zero, List.set_cons_succ]
            refine wpAnyL_move (i := 4) (v := ?_) (by rfl) (by kernel_rfl) (by kernel_rfl) (by kernel_rfl) (by rfl) (by exact fun _ _ _ h => h) (Or.inl ⟨by rfl, ?_⟩) (by assumption) ?_; rotate_left; · (intro w0; go_simp; try with_reducible rfl)
            try simp only [Act.put, List.setIfInBounds_toArray, List.set_cons_zero, List.set_cons_succ]
            refine wpAnyL_move (i := 5) (v := ?_) (by rfl) (by kernel_rfl) (by kernel_rfl) (by kernel_rfl) (by rfl) (by exact fun _ _ _ h => h) (Or.inl ⟨by rfl, ?_⟩) (by assumption) ?_; rotate_left; · (intro w0; go_simp; try with_reducible rfl)
            try simp only [Act.put, List.setIfInBounds_toArray, List.set_cons_zero, List.set_cons_succ]
            refine wpAnyL_load (i := 6) (v := ?_) (by rfl) (by kernel_rfl) (by kernel_rfl) (by kernel_rfl) (by rfl) (by kernel_rfl) (by exact fun _ _ _ h => h) (Or.inl ⟨by rfl, ?_⟩) (by assumption) ?_; rotate_left; · (intro w0 hS0; obtain ⟨s0, s1, s2, s3, s4, s5⟩ := hS0; go_simp; try with_reducible rfl)
            try simp only [Act.put, List.setIfInBounds_toArray, List.set_cons_zero, List.set_cons_succ]
            refine wpAnyL_each (rs := [7]) (by kernel_rfl) (by simp) ?_
            refine EachL.cons (by rfl) (by rfl) (fun K hK => ?_) EachL.nil
            go_simp
            refine HPC.out.mono ?_
            rintro e w5 ⟨v', rfl, p1, p2, p3⟩
            obtain ⟨va, vc, rfl⟩ := p1.form
            dsimp only
            refine hK.out _ _ (HSK _ p2).out (fun hHeld => ?_)
            clear hK K
            try simp only [Act.put, List.setIfInBounds_toArray, List.set_cons_zero, List.set_cons_succ]
            refine wpAnyL_move (i := 8) (v := ?_) (by rfl) (by kernel_rfl) (by kernel_rfl) (by kernel_rfl) (by rfl) (by exact fun _ _ _ h => h) (Or.inl ⟨by rfl, ?_⟩) (by assumption) ?_; rotate_left; · (intro w0; go_simp; try with_reducible rfl)
            try simp only [Act.put, List.setIfInBounds_toArray, List.set_cons_zero, List.set_cons_succ]
            have HB5 := Lib.hid ((HG8.out.drewN 1).below p2)
            have HS := Lib.hid (HB5.out.set (HB5.out.f.setTxs _ p1 (fun q hq => Nat.le_trans (HG8.out.drewN 1).f.size (p3 q hq))))
            rw [← HE.out] at HS
            have q4 : w5.cell? ⟨w.heap.size + 1, 0, none⟩ = some (.slice sta (sndL a5.txs).length stc) := HB5.out.f.fbx.cell 0
            have f4 : w5.frozen? ⟨w.heap.size + 1, 0, none⟩ = false := HB5.out.f.fbx.frozen 0
            refine wpAnyL_late (i := 9) (by kernel_rfl) (by rfl) (by rfl) (fun K hK => ?_)
            go_simp
            refine hK.out _ _ ?_
            clear hK K
            try simp only [Act.put, List.setIfInBounds_toArray, List.set_cons_zero, List.set_cons_succ]
            refine wpAny_done (by kernel_rfl) ?_ _
            clear q4 f4 p1 p2 p3 hHeld
            go_wp2_with (fail)
            go_roundw
            case rel => exact ⟨k + 1, _, by go_num, HKJ.out, by rw [HTK5.out]; exact HS⟩
            case measure => have := HKJ.out; simp [intOf]; omega
        · obtain rfl : k = r.txs.length := by omega
          rw [List.take_length] at HG5
          have HAO5 : Hid (r.txs.foldl An.take a4).ok := An.ok.takes _ HAO4.out (fun t ht => ⟨HOK.out.a7 t ht, (HMI.out.txs t ht).2.2⟩)
          have HAL5 : Hid ((r.txs.foldl An.take a4).txs.length ≤ 6500100 ∧ (r.txs.foldl An.take a4).dirty.length ≤ 25700001) := by
            show _ ∧ _
            have h1 := takes_len r.txs a4
            have h2 := HAL4.out
            refine ⟨by omega, by rw [h1.2.1]; exact h2.2⟩
          generalize ha5 : r.txs.foldl An.take a4 = a5 at *
          have HA5 := Lib.hid ha5
          clear ha5 c0 c1 c2 c3 c4 c5 c6
          -- the pages of a checkpoint
          have c0 : wc.cell? ⟨cb, 0, none⟩ = some (.int .u64 (qn : Int)) := HG5.out.cbx.cell 0
          have c1 : wc.cell? ⟨cb, 1, none⟩ = some (.int .i64 r.kind) := HG5.out.cbx.cell 1
          have c2 : wc.cell? ⟨cb, 2, none⟩ = some (.int .i64 (kt : Int)) := by rw [← HKT.out]; exact HG5.out.cbx.cell 2
          have c3 : wc.cell? ⟨cb, 3, none⟩ = some (.int .u64 (r.next : Int)) := HG5.out.cbx.cell 3
          have c4 : wc.cell? ⟨cb, 4, none⟩ = some (.int .u32 (r.page : Int)) := HG5.out.cbx.cell 4
          have c5 : wc.cell? ⟨cb, 5, none⟩ = some (.slice ta r.txs.length tc) := HG5.out.cbx.cell 5
          have c6 : wc.cell? ⟨cb, 6, none⟩ = some (.slice da r.dirty.length dc) := HG5.out.cbx.cell 6
          go_wp2_with (fail)
          go_loopw [9] (fun s9 wx => ∃ (k : Nat) (dv' : Value), s9 = .int .i64 (k : Int) ∧ k ≤ r.dirty.length ∧ Hid (G19 w en ((r.dirty.take k).foldl An.page a5) tv5 dv' cb ⟨qn, r, .slice ta r.txs.length tc, .slice da r.dirty.length dc⟩ wx)) (fun s9 _ => r.dirty.length - (intOf s9).toNat)
          case atStart => exact ⟨0, _, rfl, Nat.zero_le _, HG5⟩
          case round =>
            clear HG5 c0 c1 c2 c3 c4 c5 c6
            obtain ⟨k, dv6, rfl, hk, HG6⟩ := hrel
            rename World => wc
            have c0 : wc.cell? ⟨cb, 0, none⟩ = some (.int .u64 (qn : Int)) := HG6.out.cbx.cell 0
            have c1 : wc.cell? ⟨cb, 1, none⟩ = some (.int .i64 r.kind) := HG6.out.cbx.cell 1
            have c2 : wc.cell? ⟨cb, 2, none⟩ = some (.int .i64 (kt : Int)) := by rw [← HKT.out]; exact HG6.out.cbx.cell 2
            have c3 : wc.cell? ⟨cb, 3, none⟩ = some (.int .u64 (r.next : Int)) := HG6.out.cbx.cell 3
            have c4 : wc.cell? ⟨cb, 4, none⟩ = some (.int .u32 (r.page : Int)) := HG6.out.cbx.cell 4
            have c5 : wc.cell? ⟨cb, 5, none⟩ = some (.slice ta r.txs.length tc) := HG6.out.cbx.cell 5
            have c6 : wc.cell? ⟨cb, 6, none⟩ = some (.slice da r.dirty.length dc) := HG6.out.cbx.cell 6
            by_cases hkl : k < r.dirty.length
            · obtain ⟨x, hx⟩ : ∃ x, r.dirty[k]? = some x := ⟨_, List.getElem?_eq_getElem hkl⟩
              have HXF := HDX.out
              obtain ⟨xb, xo, rfl, _, x1, x2, xbl, xc⟩ := HXF.at_ hx
              have HFX : ∀ W, Below w.heap.size w W → Hid (W.cell? ⟨xb, xo + k * 2, none⟩ = some (.int .u32 (x.1 : Int)) ∧ W.cell? ⟨xb, xo + k * 2 + 1, none⟩ = some (.int .u64 (x.2 : Int))) := fun W hW =>
                ⟨(hW.cell (p := ⟨xb, xo + k * 2 + 0, none⟩) xbl).trans (xc 0 _ rfl), (hW.cell (p := ⟨xb, xo + k * 2 + 1, none⟩) xbl).trans (xc 1 _ rfl)⟩
              have HTK6 : Hid ((r.dirty.take (k + 1)).foldl An.page a5 = ((r.dirty.take k).foldl An.page a5).page x) := by
                show _ = _
                rw [List.take_add_one, hx, Option.toList, List.foldl_append]
                rfl
              have HKJ := Lib.hid hkl
              have hA6 := pages_len (r.dirty.take k) a5
              have hA6l : (r.dirty.take k).length ≤ 256 := by rw [List.length_take]; omega
              have HAO6 : Hid ((r.dirty.take k).foldl An.page a5).ok := An.ok.pages _ HAO5.out (fun t ht => HMI.out.dirty t (List.mem_of_mem_take ht))
              have HAL6 : Hid (((r.dirty.take k).foldl An.page a5).dirty.length ≤ 25700300) := by have := HAL5.out.2; show _ ≤ _; omega
              clear hA6 hA6l hx HXF xc
              generalize ha6 : ((r.dirty.take k).foldl An.page a5) = a6 at *
              have HA6 := Lib.hid ha6
              clear ha6
              obtain ⟨dda, ddc, rfl⟩ : ∃ dda ddc, dv6 = .slice dda a6.dirty.length ddc := HG6.out.f.dirty.form
              have HPC : Hid (Calls Tryz.prog 84 #[.slice dda a6.dirty.length ddc, .agg #[.int .u32 (x.1 : Int), .int .u64 (x.2 : Int)]] (wc.drewN 1) fun e w' => ∃ v', e = .returned v' ∧ RdC 2 dpC w' v' (dirT x a6.dirty false) ∧ Below (wc.drewN 1).heap.size (wc.drewN 1) w' ∧ (∀ k, v'.ownBlock = some k → (wc.drewN 1).heap.size ≤ k)) := dirty19_c (HG6.out.drewN 1).f.dirty x (by have := HAL6.out; omega)
              rw [dirT_dirty x HAO6.out.rd] at HPC
              have HE : Hid (a6.page x = { a6 with dirty := dirtyE x a6.dirty }) := rfl
              have HSK : ∀ W, Below (wc.drewN 1).heap.size (wc.drewN 1) W → Hid ((fun W => W.cell? ⟨w.heap.size + 1, 1, none⟩ = some (.slice dda a6.dirty.length ddc) ∧ W.cell? ⟨cb, 6, none⟩ = some (.slice (some ⟨xb, xo, none⟩) r.dirty.length dc) ∧ W.cell? ⟨xb, xo + k * 2, none⟩ = some (.int .u32 (x.1 : Int)) ∧ W.cell? ⟨xb, xo + k * 2 + 1, none⟩ = some (.int .u64 (x.2 : Int))) W) := fun W hW => by
                have h8 := (HG6.out.drewN 1).below hW
                obtain ⟨g0, g1⟩ := (HFX _ h8.f.base).out
                exact ⟨h8.f.fbx.cell 1, h8.cbx.cell 6, g0, g1⟩
              have HS0 := HSK _ (Below.refl _ _)
              obtain ⟨d0, d1⟩ := (HFX _ HG6.out.f.base).out
              go_upto_region 23 with (fail)
              refine wp_region_late (S := fun W => W.cell? ⟨w.heap.size + 1, 1, none⟩ = some (.slice dda a6.dirty.length ddc) ∧ W.cell? ⟨cb, 6, none⟩ = some (.slice (some ⟨xb, xo, none⟩) r.dirty.length dc) ∧ W.cell? ⟨xb, xo + k * 2, none⟩ = some (.int .u32 (x.1 : Int)) ∧ W.cell? ⟨xb, xo + k * 2 + 1, none⟩ = some (.int .u64 (x.2 : Int))) (late := [9]) (by kernel_rfl) HS0.out (fun hHeld => ?_)
              refine wpAnyL_move (i := 0) (v := ?_) (by rfl) (by kernel_rfl) (by kernel_rfl) (by kernel_rfl) (by rfl) (by exact fun _ _ _ h => h) (Or.inl ⟨by rfl, ?_⟩) (by assumption) ?_; rotate_left; · (intro w0; go_simp; try with_reducible rfl)
              try simp only [Act.put, List.setIfInBounds_toArray, List.set_cons_zero, List.set_cons_succ]
              refine wpAnyL_load (i := 1) (v := ?_) (by rfl) (by kernel_rfl) (by kernel_rfl) (by kernel_rfl) (by rfl) (by kernel_rfl) (by exact fun _ _ _ h => h) (Or.inl ⟨by rfl, ?_⟩) (by assumption) ?_; rotate_left; · (intro w0 hS0; obtain ⟨s0, s1, s2, s3⟩ := hS0; go_simp; try with_reducible rfl)
              try simp only [Act.put, List.setIfInBounds_toArray, List.set_cons_zero, List.set_cons_succ]
              refine wpAnyL_move (i := 2) (v := ?_) (by rfl) (by kernel_rfl) (by kernel_rfl) (by kernel_rfl) (by rfl) (by exact fun _ _ _ h => h) (Or.inl ⟨by rfl, ?_⟩) (by assumption) ?_; rotate_left; · (intro w0; go_simp; try with_reducible rfl)
              try simp only [Act.put, List.setIfInBounds_toArray, List.set_cons_zero, List.set_cons_succ]
              refine wpAnyL_load (i := 3) (v := ?_) (by rfl) (by kernel_rfl) (by kernel_rfl) (by kernel_rfl) (by rfl) (by kernel_rfl) (by exact fun _ _ _ h => h) (Or.inl ⟨by rfl, ?_⟩) (by assumption) ?_; rotate_left; · (intro w0 hS0; obtain ⟨s0, s1, s2, s3⟩ := hS0; go_simp; try with_reducible rfl)
              try simp only [Act.put, List.setIfInBounds_toArray, List.set_cons_zero, List.set_cons_succ]
              refine wpAnyL_move (i := 4) (v := ?_) (by rfl) (by kernel_rfl) (by kernel_rfl) (by kernel_rfl) (by rfl) (by exact fun _ _ _ h => h) (Or.inl ⟨by rfl, ?_⟩) (by assumption) ?_; rotate_left; · (intro w0; go_simp; try with_reducible rfl)
              try simp only [Act.put, List.setIfInBounds_toArray, List.set_cons_zero, List.set_cons_succ]
              refine wpAnyL_move (i := 5) (v := ?_) (by rfl) (by kernel_rfl) (by kernel_rfl) (by kernel_rfl) (by rfl) (by exact fun _ _ _ h => h) (Or.inl ⟨by rfl, ?_⟩) (by assumption) ?_; rotate_left; · (intro w0; go_simp; try with_reducible rfl)
              try simp only [Act.put, List.setIfInBounds_toArray, List.set_cons_zero, List.set_cons_succ]
              refine wpAnyL_load (i := 6) (v := ?_) (by rfl) (by kernel_rfl) (by kernel_rfl) (by kernel_rfl) (by rfl) (by kernel_rfl) (by exact fun _ _ _ h => h) (Or.inl ⟨by rfl, ?_⟩) (by assumption) ?_; rotate_left; · (intro w0 hS0; obtain ⟨s0, s1, s2, s3⟩ := hS0; go_simp; try with_reducible rfl)
              try simp only [Act.put, List.setIfInBounds_toArray, List.set_cons_zero, List.set_cons_succ]
              refine wpAnyL_each (rs := [7]) (by kernel_rfl) (by simp) ?_
              refine EachL.cons (by rfl) (by rfl) (fun K hK => ?_) EachL.nil
              go_simp
              refine HPC.out.mono ?_
              rintro e w5 ⟨v', rfl, p1, p2, p3⟩
              obtain ⟨va, vc, rfl⟩ := p1.form
              dsimp only
              refine hK.out _ _ (HSK _ p2).out (fun hHeld => ?_)
              clear hK K
              try simp only [Act.put, List.setIfInBounds_toArray, List.set_cons_zero, List.set_cons_succ]
              refine wpAnyL_move (i := 8) (v := ?_) (by rfl) (by kernel_rfl) (by kernel_rfl) (by kernel_rfl) (by rfl) (by exact fun _ _ _ h => h) (Or.inl ⟨by rfl, ?_⟩) (by assumption) ?_; rotate_left; · (intro w0; go_simp; try with_reducible rfl)
              try simp only [Act.put, List.setIfInBounds_toArray, List.set_cons_zero, List.set_cons_succ]
              have HB5 := Lib.hid ((HG6.out.drewN 1).below p2)
              have HS := Lib.hid (HB5.out.set (HB5.out.f.setDirty _ p1 (fun q hq => Nat.le_trans (HG6.out.drewN 1).f.size (p3 q hq))))
              rw [← HE.out] at HS
              have q4 : w5.cell? ⟨w.heap.size + 1, 1, none⟩ = some (.slice dda a6.dirty.length ddc) := HB5.out.f.fbx.cell 1
              have f4 : w5.frozen? ⟨w.heap.size + 1, 1, none⟩ = false := HB5.out.f.fbx.frozen 1
              refine wpAnyL_late (i := 9) (by kernel_rfl) (by rfl) (by rfl) (fun K hK => ?_)
              go_simp
              refine hK.out _ _ ?_
              clear hK K
              try simp only [Act.put, List.setIfInBounds_toArray, List.set_cons_zero, List.set_cons_succ]
              refine wpAny_done (by kernel_rfl) ?_ _
              clear q4 f4 p1 p2 p3 hHeld c0 c1 c2 c3 c4 c5 c6 d0 d1
              go_wp2_with (fail)
              go_roundw
              case rel => exact ⟨k + 1, _, by go_num, HKJ.out, by rw [HTK6.out]; exact HS⟩
              case measure => have := HKJ.out; simp [intOf]; omega
            · obtain rfl : k = r.dirty.length := by omega
              rw [List.take_length] at HG6
              have HE : Hid (runAn (qs.take (j + 1)) = r.dirty.foldl An.page a5) := by
                show _ = _
                rw [HTK.out, ← step19 HOK.out a qn, HA2.out, HA3.out, HA4.out, HA5.out]
              go_wp2_with (fail)
              go_roundw
              case rel => exact ⟨j + 1, _, _, by go_num, HJ.out, by rw [HE.out]; exact HG6.out.f⟩
              case measure => have := HJ.out; simp [intOf]; omega
    · obtain rfl : j = qs.length := by omega
      rw [List.take_length] at HF
      have HAL := Lib.hid (runAn_len qs (fun x hx => (HQ.out x hx).ok))
      have hl : (runAn qs).dirty.length ≤ 25700000 := by have := HAL.out; omega
      generalize runAn qs = a at *
      obtain ⟨dda, ddc, rfl⟩ : ∃ dda ddc, dv = .slice dda a.dirty.length ddc := HF.out.dirty.form
      clear HAL
      have f0 : wr.cell? ⟨w.heap.size + 1, 0, none⟩ = some tv := HF.out.fbx.cell 0
      have f1 : wr.cell? ⟨w.heap.size + 1, 1, none⟩ = some (.slice dda a.dirty.length ddc) := HF.out.fbx.cell 1
      have f2 : wr.cell? ⟨w.heap.size + 1, 2, none⟩ = some (.int .u64 (en : Int)) := HF.out.fbx.cell 2
      have f3 : wr.cell? ⟨w.heap.size + 1, 3, none⟩ = some (.int .i64 (a.most : Int)) := HF.out.fbx.cell 3
      have f4 : wr.cell? ⟨w.heap.size + 1, 4, none⟩ = some (.int .i64 (a.recs : Int)) := HF.out.fbx.cell 4
      have z0 : wr.frozen? ⟨w.heap.size + 1, 0, none⟩ = false := HF.out.fbx.frozen 0
      have z1 : wr.frozen? ⟨w.heap.size + 1, 1, none⟩ = false := HF.out.fbx.frozen 1
      have z2 : wr.frozen? ⟨w.heap.size + 1, 2, none⟩ = false := HF.out.fbx.frozen 2
      have z3 : wr.frozen? ⟨w.heap.size + 1, 3, none⟩ = false := HF.out.fbx.frozen 3
      have z4 : wr.frozen? ⟨w.heap.size + 1, 4, none⟩ = false := HF.out.fbx.frozen 4
      go_wp2_with (fail)
      go_loopw [10] (fun s10 wx => ∃ k : Nat, s10 = .int .i64 (k : Int) ∧ k ≤ a.dirty.length ∧ Hid (F19 w (redoOf en (a.dirty.take k)) a tv (.slice dda a.dirty.length ddc) wx)) (fun s10 _ => a.dirty.length - (intOf s10).toNat)
      case atStart => exact ⟨0, rfl, Nat.zero_le _, HF⟩
      case round =>
        clear HF f0 f1 f2 f3 f4 z0 z1 z2 z3 z4
        obtain ⟨k, rfl, hk, HF1⟩ := hrel
        rename World => wc
        have f0 : wc.cell? ⟨w.heap.size + 1, 0, none⟩ = some tv := HF1.out.fbx.cell 0
        have f1 : wc.cell? ⟨w.heap.size + 1, 1, none⟩ = some (.slice dda a.dirty.length ddc) := HF1.out.fbx.cell 1
        have f2 : wc.cell? ⟨w.heap.size + 1, 2, none⟩ = some (.int .u64 (redoOf en (a.dirty.take k) : Int)) := HF1.out.fbx.cell 2
        have f3 : wc.cell? ⟨w.heap.size + 1, 3, none⟩ = some (.int .i64 (a.most : Int)) := HF1.out.fbx.cell 3
        have f4 : wc.cell? ⟨w.heap.size + 1, 4, none⟩ = some (.int .i64 (a.recs : Int)) := HF1.out.fbx.cell 4
        have z0 : wc.frozen? ⟨w.heap.size + 1, 0, none⟩ = false := HF1.out.fbx.frozen 0
        have z1 : wc.frozen? ⟨w.heap.size + 1, 1, none⟩ = false := HF1.out.fbx.frozen 1
        have z2 : wc.frozen? ⟨w.heap.size + 1, 2, none⟩ = false := HF1.out.fbx.frozen 2
        have z3 : wc.frozen? ⟨w.heap.size + 1, 3, none⟩ = false := HF1.out.fbx.frozen 3
        have z4 : wc.frozen? ⟨w.heap.size + 1, 4, none⟩ = false := HF1.out.fbx.frozen 4
        by_cases hkl : k < a.dirty.length
        · obtain ⟨x, hx⟩ : ∃ x, a.dirty[k]? = some x := ⟨_, List.getElem?_eq_getElem hkl⟩
          have HXF := HF1.out.dirty
          obtain ⟨xb, xo, rfl, _, x1, x2, xbl, xc⟩ := HXF.at_ hx
          have d1 : wc.cell? ⟨xb, xo + k * 2 + 1, none⟩ = some (.int .u64 (x.2 : Int)) := xc 1 _ rfl
          have HTK : Hid (redoOf en (a.dirty.take (k + 1)) = if k = 0 ∨ x.2 < redoOf en (a.dirty.take k) then x.2 else redoOf en (a.dirty.take k)) := by
            show _ = _
            have e : (a.dirty.take k).length = k := by rw [List.length_take]; omega
            have := redoOf_snoc en x (a.dirty.take k)
            rw [e] at this
            rw [List.take_add_one, hx]
            exact this
          have HKJ := Lib.hid hkl
          have HXC := Lib.hid xc
          clear hx HXF xc
          generalize redoOf en (a.dirty.take k) = rd at *
          go_upto_region 27 with (fail)
          go_cut [137] from 125 to 137 (fun s wx => ∃ b, s = .bool b ∧ Hid (TBool b (k = 0 ∨ x.2 < rd)) ∧ Hid (F19 w rd a tv (.slice (some ⟨xb, xo, none⟩) a.dirty.length ddc) wx) ∧ Hid (wx.cell? ⟨xb, xo + k * 2 + 1, none⟩ = some (.int .u64 (x.2 : Int))))
          case first =>
            by_cases h0 : k = 0
            · have h0' : ((k : Int) == 0) = true := by simp [h0]
              have HH := Lib.hid h0
              have HD1 := Lib.hid d1
              clear h0
              go_quiet (fail)
              go_wp2_with (fail)
              go_meet
              exact ⟨true, rfl, Lib.hid (iff_of_true rfl (.inl HH.out)), HF1.out.drewN _, HD1.out⟩
            · have h0' : ((k : Int) == 0) = false := by simp [h0]
              have HH := Lib.hid h0
              have HD1 := Lib.hid d1
              clear h0
              by_cases hm : (x.2 : Int) < (rd : Int)
              · have HM := Lib.hid hm
                go_quiet (fail)
                go_wp2_with (fail)
                go_meet
                exact ⟨true, rfl, Lib.hid (iff_of_true rfl (.inr (by have := HM.out; omega))), HF1.out.drewN _, HD1.out⟩
              · have HM := Lib.hid hm
                go_quiet (fail)
                go_wp2_with (fail)
                go_meet
                exact ⟨false, rfl, Lib.hid (iff_of_false Bool.false_ne_true (fun h => h.elim HH.out (fun h => by have := HM.out; omega))), HF1.out.drewN _, HD1.out⟩
          case rest =>
          obtain ⟨b, rfl, hb, HF2, HD1⟩ := hcut
          clear f0 f1 f2 f3 f4 z0 z1 z2 z3 z4 d1 HF1 HXC
          have d1 := HD1.out
          have f0 : wc.cell? ⟨w.heap.size + 1, 0, none⟩ = some tv := HF2.out.fbx.cell 0
          have f1 : wc.cell? ⟨w.heap.size + 1, 1, none⟩ = some (.slice (some ⟨xb, xo, none⟩) a.dirty.length ddc) := HF2.out.fbx.cell 1
          have f2 : wc.cell? ⟨w.heap.size + 1, 2, none⟩ = some (.int .u64 (rd : Int)) := HF2.out.fbx.cell 2
          have f3 : wc.cell? ⟨w.heap.size + 1, 3, none⟩ = some (.int .i64 (a.most : Int)) := HF2.out.fbx.cell 3
          have f4 : wc.cell? ⟨w.heap.size + 1, 4, none⟩ = some (.int .i64 (a.recs : Int)) := HF2.out.fbx.cell 4
          have z0 : wc.frozen? ⟨w.heap.size + 1, 0, none⟩ = false := HF2.out.fbx.frozen 0
          have z1 : wc.frozen? ⟨w.heap.size + 1, 1, none⟩ = false := HF2.out.fbx.frozen 1
          have z2 : wc.frozen? ⟨w.heap.size + 1, 2, none⟩ = false := HF2.out.fbx.frozen 2
          have z3 : wc.frozen? ⟨w.heap.size + 1, 3, none⟩ = false := HF2.out.fbx.frozen 3
          have z4 : wc.frozen? ⟨w.heap.size + 1, 4, none⟩ = false := HF2.out.fbx.frozen 4
          cases b with
          | true =>
            have HS := Lib.hid (HF2.out.setRedo x.2)
            have HTE := HTK.out
            rw [if_pos (hb.out.1 rfl)] at HTE
            rw [← HTE] at HS
            have HTEE := Lib.hid HTE
            clear HTE
            go_wp2_with (fail)
            go_roundw
            case rel => exact ⟨k + 1, by go_num, HKJ.out, by rw [HTEE.out] at HS ⊢; exact HS⟩
            case measure => have := HKJ.out; simp [intOf]; omega
          | false =>
            have HTE := HTK.out
            rw [if_neg (fun h => Bool.false_ne_true (hb.out.2 h))] at HTE
            have HTEE := Lib.hid HTE
            clear HTE
            go_wp2_with (fail)
            go_roundw
            case rel => exact ⟨k + 1, by go_num, HKJ.out, by rw [HTEE.out]; exact HF2⟩
            case measure => have := HKJ.out; simp [intOf]; omega
        · obtain rfl : k = a.dirty.length := by omega
          rw [List.take_length] at HF1 f2
          obtain ⟨sta, stc, rfl⟩ : ∃ sta stc, tv = .slice sta (sndL a.txs).length stc := HF1.out.txs.form
          have b0 : wc.cell? ⟨w.heap.size, 0, none⟩ = some (.slice none 0 0) := HF1.out.box.cell 0
          have b1 : wc.cell? ⟨w.heap.size, 1, none⟩ = some (.slice none 0 0) := HF1.out.box.cell 1
          have b2 : wc.cell? ⟨w.heap.size, 2, none⟩ = some (.int .u64 0) := HF1.out.box.cell 2
          have b3 : wc.cell? ⟨w.heap.size, 3, none⟩ = some (.int .i64 0) := HF1.out.box.cell 3
          have b4 : wc.cell? ⟨w.heap.size, 4, none⟩ = some (.int .i64 0) := HF1.out.box.cell 4
          have y0 : wc.frozen? ⟨w.heap.size, 0, none⟩ = false := HF1.out.box.frozen 0
          have y1 : wc.frozen? ⟨w.heap.size, 1, none⟩ = false := HF1.out.box.frozen 1
          have y2 : wc.frozen? ⟨w.heap.size, 2, none⟩ = false := HF1.out.box.frozen 2
          have y3 : wc.frozen? ⟨w.heap.size, 3, none⟩ = false := HF1.out.box.frozen 3
          have y4 : wc.frozen? ⟨w.heap.size, 4, none⟩ = false := HF1.out.box.frozen 4
          go_wp2_with (fail)
          (try simp only [Exit.inBlock, Exit.then])
          have B9' := Blk.set5 (show Blk wc w.heap.size 40 #[.slice none 0 0, .slice none 0 0, .int .u64 0, .int .i64 0, .int .i64 0] from HF1.out.box) (v0 := .slice sta (sndL a.txs).length stc) (v1 := .slice dda a.dirty.length ddc) (v2 := .int .u64 (redoOf en a.dirty : Int)) (v3 := .int .i64 (a.most : Int)) (v4 := .int .i64 (a.recs : Int))
          have r0 := B9'.cell 0
          have r1 := B9'.cell 1
          have r2 := B9'.cell 2
          have r3 := B9'.cell 3
          have r4 := B9'.cell 4
          simp at r0 r1 r2 r3 r4
          refine bodyPost_ret (v := .agg #[.slice sta (sndL a.txs).length stc, .slice dda a.dirty.length ddc, .int .u64 (redoOf en a.dirty : Int), .int .i64 (a.most : Int), .int .i64 (a.recs : Int)]) (by simp [results, Tryz.results19, go_sem, r0, r1, r2, r3, r4]) rfl ?_
          rw [← HPOST.out]
          have hS : ∀ q, q ≠ w.heap.size → (((((wc.setCell ⟨w.heap.size, 0, none⟩ (.slice sta (sndL a.txs).length stc)).setCell ⟨w.heap.size, 1, none⟩ (.slice dda a.dirty.length ddc)).setCell ⟨w.heap.size, 2, none⟩ (.int .u64 (redoOf en a.dirty : Int))).setCell ⟨w.heap.size, 3, none⟩ (.int .i64 (a.most : Int))).setCell ⟨w.heap.size, 4, none⟩ (.int .i64 (a.recs : Int))).heap[q]? = wc.heap[q]? := fun q hq => by simp only [same_set hq]
          exact ⟨_, _, rfl, HF1.out.txs.same (fun q hq => hS q (by have := HF1.out.tne q hq; omega)), HF1.out.dirty.same (fun q hq => hS q (by have := HF1.out.dne q hq; omega)), ((((HF1.out.base.setCell (Nat.le_refl _) _).setCell (Nat.le_refl _) _).setCell (Nat.le_refl _) _).setCell (Nat.le_refl _) _).setCell (Nat.le_refl _) _⟩
end
end Go.Proofs.YtpnndlahfllbhaaGreat
