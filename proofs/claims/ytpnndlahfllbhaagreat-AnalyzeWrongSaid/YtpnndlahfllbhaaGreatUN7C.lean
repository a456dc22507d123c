/-
  The walk of rec.Decode: what is cut or goes on. Printed by n7.py.
-/
import Derived.Test.YtpnndlahfllbhaaGreatUN7
namespace Go.Proofs.YtpnndlahfllbhaaGreat
open Go.RowKit
attribute [local go_sem ↓] Go.wp_at_zero Go.wp_at_succ

section
variable {w : World} {s : ByteArray}
set_option maxRecDepth 100000 in
set_option maxHeartbeats 8000000 in
theorem recDecode_C (hmode : (recOfRd ⟨s, 0, 0⟩).2.endOf ≠ 0) (hs : s.size ≤ 1000000000000) : Calls Tryz.prog 22 #[.string s] w (RecPost w s) := by
  have HZ : Hid (Blk (w.alloc (.cells #[.int .i64 0, .int .i64 0, .int .u64 0, .int .u64 0, .int .u32 0, .int .i64 0, .int .i64 0, .string ⟨#[]⟩, .string ⟨#[]⟩, .int .i64 0, .int .i64 0, .string ⟨#[]⟩, .int .u32 0, .int .i64 0, .bool false, .slice none 0 0, .slice none 0 0] 63)) w.heap.size 63 zeroRec ∧ Below w.heap.size w (w.alloc (.cells #[.int .i64 0, .int .i64 0, .int .u64 0, .int .u64 0, .int .u32 0, .int .i64 0, .int .i64 0, .string ⟨#[]⟩, .string ⟨#[]⟩, .int .i64 0, .int .i64 0, .string ⟨#[]⟩, .int .u32 0, .int .i64 0, .bool false, .slice none 0 0, .slice none 0 0] 63)) ∧ (w.alloc (.cells #[.int .i64 0, .int .i64 0, .int .u64 0, .int .u64 0, .int .u32 0, .int .i64 0, .int .i64 0, .string ⟨#[]⟩, .string ⟨#[]⟩, .int .i64 0, .int .i64 0, .string ⟨#[]⟩, .int .u32 0, .int .i64 0, .bool false, .slice none 0 0, .slice none 0 0] 63)).heap.size = w.heap.size + 1) := ⟨Blk.new w _ _, (Below.refl _ _).alloc (Nat.le_refl _) _, by simp⟩
  have HNR := Lib.hid (newReader_c (w.alloc (.cells #[.int .i64 0, .int .i64 0, .int .u64 0, .int .u64 0, .int .u32 0, .int .i64 0, .int .i64 0, .string ⟨#[]⟩, .string ⟨#[]⟩, .int .i64 0, .int .i64 0, .string ⟨#[]⟩, .int .u32 0, .int .i64 0, .bool false, .slice none 0 0, .slice none 0 0] 63)) s hs)
  have HM := Lib.hid (recOfRd_mild ⟨s, 0, 0⟩)
  obtain ⟨⟨xx, rr⟩, hxx⟩ : ∃ q, q = recOfRd ⟨s, 0, 0⟩ := ⟨_, rfl⟩
  have HRE : Hid (recE s = if rr.endOf = 0 ∧ xx.ok then (xx, 0) else (Rc.none, 40)) := by
    show _ = _
    unfold recE
    rw [← hxx]
  rw [← hxx] at HM hmode
  have HMODE := Lib.hid hmode
  clear hmode
  have HXX := Lib.hid hxx
  clear hxx hs
  simp only at HM HMODE
  generalize hpost : RecPost w s = Post
  have HPOST := Lib.hid hpost
  clear hpost
  go_enter Tryz.func22, Tryz.ntmps22
  go_wp2_with (fail)
  refine HNR.out.mono ?_
  rintro e w1 ⟨rb, rfl, hrb, hrd, hbl⟩
  have HA0 : Hid (RdAt w1 rb ⟨s, 0, 0⟩ ∧ Blk w1 w.heap.size 63 zeroRec ∧ Below w.heap.size w w1 ∧ w.heap.size < rb) := ⟨hrd, HZ.out.1.same (hbl.block _ HZ.out.1.lt), HZ.out.2.1.trans (hbl.mono (by rw [HZ.out.2.2]; omega)), by rw [HZ.out.2.2] at hrb; omega⟩
  clear hrd hbl hrb HNR HZ
  obtain ⟨⟨kn, r1⟩, hq⟩ : ∃ q, q = (⟨s, 0, 0⟩ : Rd).number 1 := ⟨_, rfl⟩
  have HC := Lib.hid (rnumber_c HA0.out.1 1 (by decide))
  have hbkn := ((⟨s, 0, 0⟩ : Rd) : Rd).number_lt 1
  rw [← hq] at HC hbkn
  have HQkn := Lib.hid hq
  clear hq
  simp only at HC hbkn
  have ewkn : IntKind.i64.wrap (kn : Int) = (kn : Int) := IntWalk.i64_in _ (by omega)
  go_wp2_with (fail)
  refine HC.out.mono ?_
  rintro e w2 ⟨rfl, hp⟩
  have HA1 : Hid (RdAt w2 rb r1 ∧ Blk w2 w.heap.size 63 zeroRec ∧ Below w.heap.size w w2 ∧ w.heap.size < rb) := ⟨hp.1, HA0.out.2.1.same (hp.2.block _ HA0.out.2.1.lt (fun e => HA0.out.2.1.ne_ HA0.out.1.blk (by decide) e)), HA0.out.2.2.1.trans (hp.2.belowB (fun q hq => by have := HA0.out.2.2.2; have e : q = rb := hq; omega) HA0.out.2.2.1.size), HA0.out.2.2.2⟩
  clear hp HC HA0
  obtain ⟨⟨tn, r2⟩, hq⟩ : ∃ q, q = r1.number 4 := ⟨_, rfl⟩
  have HC := Lib.hid (rnumber_c HA1.out.1 4 (by decide))
  have hbtn := (r1 : Rd).number_lt 4
  rw [← hq] at HC hbtn
  have HQtn := Lib.hid hq
  clear hq
  simp only at HC hbtn
  have ewtn : IntKind.i64.wrap (tn : Int) = (tn : Int) := IntWalk.i64_in _ (by omega)
  go_wp2_with (fail)
  refine HC.out.mono ?_
  rintro e w3 ⟨rfl, hp⟩
  have HA2 : Hid (RdAt w3 rb r2 ∧ Blk w3 w.heap.size 63 zeroRec ∧ Below w.heap.size w w3 ∧ w.heap.size < rb) := ⟨hp.1, HA1.out.2.1.same (hp.2.block _ HA1.out.2.1.lt (fun e => HA1.out.2.1.ne_ HA1.out.1.blk (by decide) e)), HA1.out.2.2.1.trans (hp.2.belowB (fun q hq => by have := HA1.out.2.2.2; have e : q = rb := hq; omega) HA1.out.2.2.1.size), HA1.out.2.2.2⟩
  clear hp HC HA1
  obtain ⟨⟨pn, r3⟩, hq⟩ : ∃ q, q = r2.number 8 := ⟨_, rfl⟩
  have HC := Lib.hid (rnumber_c HA2.out.1 8 (by decide))
  have hbpn := (r2 : Rd).number_lt 8
  rw [← hq] at HC hbpn
  have HQpn := Lib.hid hq
  clear hq
  simp only at HC hbpn
  go_wp2_with (fail)
  refine HC.out.mono ?_
  rintro e w4 ⟨rfl, hp⟩
  have HA3 : Hid (RdAt w4 rb r3 ∧ Blk w4 w.heap.size 63 zeroRec ∧ Below w.heap.size w w4 ∧ w.heap.size < rb) := ⟨hp.1, HA2.out.2.1.same (hp.2.block _ HA2.out.2.1.lt (fun e => HA2.out.2.1.ne_ HA2.out.1.blk (by decide) e)), HA2.out.2.2.1.trans (hp.2.belowB (fun q hq => by have := HA2.out.2.2.2; have e : q = rb := hq; omega) HA2.out.2.2.1.size), HA2.out.2.2.2⟩
  clear hp HC HA2
  have H4 : Hid (DecC w (w4.alloc (.cells #[.int .i64 (kn : Int), .int .i64 (tn : Int), .int .u64 (pn : Int), .int .u64 0, .int .u32 0, .int .i64 0, .int .i64 0, .string ⟨#[]⟩, .string ⟨#[]⟩, .int .i64 0, .int .i64 0, .string ⟨#[]⟩, .int .u32 0, .int .i64 0, .bool false, .slice none 0 0, .slice none 0 0] 63)) rb r3 w4.heap.size ⟨(kn : Int), (tn : Int), pn, 0, 0, .none, 0, 0, .none, false, [], []⟩ (.slice none 0 0) (.slice none 0 0)) := ⟨HA3.out.1.below ((Below.refl _ _).alloc (Nat.le_refl _) _), HA3.out.2.2.2, HA3.out.2.1.same (((Below.refl w4.heap.size w4).alloc (Nat.le_refl _) _).block _ HA3.out.2.1.lt), HA3.out.2.2.1.alloc HA3.out.2.2.1.size _, HA3.out.2.1.lt, Blk.new w4 _ _, World.ownsRow_nil _ _ _ _, World.ownsRow_nil _ _ _ _⟩
  have HH : Hid ((⟨s, 0, 0⟩ : Rd).headOf = (⟨(kn : Int), (tn : Int), pn, 0, 0, .none, 0, 0, .none, false, [], []⟩, r3)) := by
    show _ = _
    unfold Rd.headOf
    rw [← HQkn.out]
    simp only [← HQtn.out]
    simp only [← HQpn.out]
    rfl
  clear HQkn HQtn HQpn
  obtain ⟨bc, hbc⟩ : ∃ x, x = decide ((kn : Int) = 1 ∨ (kn : Int) = 2) := ⟨_, rfl⟩
  obtain ⟨bn, hbn⟩ : ∃ x, x = decide ((kn : Int) = 2 ∨ (kn : Int) = 3) := ⟨_, rfl⟩
  obtain ⟨bt, hbt⟩ : ∃ x, x = decide ((kn : Int) = 8) := ⟨_, rfl⟩
  have HN : ∀ W, Hid (Calls Tryz.prog 88 #[.int .i64 (kn : Int)] W fun e w' => e = .returned (.tuple #[.bool bc, .bool bn, .bool bt]) ∧ w' = W) := fun W => by
    rw [hbc, hbn, hbt]
    exact recNamed_c kn W
  have HBC := Lib.hid hbc
  have HBN := Lib.hid hbn
  have HBT := Lib.hid hbt
  clear hbc hbn hbt
  have c0 : (w4.alloc (.cells #[.int .i64 (kn : Int), .int .i64 (tn : Int), .int .u64 (pn : Int), .int .u64 0, .int .u32 0, .int .i64 0, .int .i64 0, .string ⟨#[]⟩, .string ⟨#[]⟩, .int .i64 0, .int .i64 0, .string ⟨#[]⟩, .int .u32 0, .int .i64 0, .bool false, .slice none 0 0, .slice none 0 0] 63)).cell? ⟨w4.heap.size, 0, none⟩ = some (.int .i64 (kn : Int)) := H4.out.pbx.cell 0
  have HPB : Hid (∃ pb, pb = w4.heap.size) := ⟨_, rfl⟩
  go_wp2_with (fail)
  refine (HN _).out.mono ?_
  rintro e w5 ⟨rfl, hw5⟩
  rw [← hw5] at H4
  have HW5 := Lib.hid hw5
  clear hw5 c0 HN HPB
  generalize hpb : w4.heap.size = pb at *
  have HPB := Lib.hid hpb
  clear hpb HA3
  obtain ⟨⟨x2, q2⟩, hn2⟩ : ∃ q, q = r3.nextOf ⟨(kn : Int), (tn : Int), pn, 0, 0, .none, 0, 0, .none, false, [], []⟩ := ⟨_, rfl⟩
  have HN2 := Lib.hid hn2
  clear hn2
  go_upto_if 29 with (fail)
  go_cut [] from 30 to 32 (fun wx => Hid (DecC w wx rb q2 pb x2 (.slice none 0 0) (.slice none 0 0)))
  case first =>
    cases bn with
    | true =>
      obtain ⟨⟨xn, r4⟩, hq⟩ : ∃ q, q = r3.number 8 := ⟨_, rfl⟩
      have HC := Lib.hid (H4.out.number 8 (by decide))
      rw [← hq] at HC
      have HQ := Lib.hid hq
      clear hq
      simp only at HC
      go_wp2_with (fail)
      refine HC.out.mono ?_
      rintro e w6 ⟨rfl, hp⟩
      have HP := Lib.hid hp
      clear hp HC
      have c3 : w6.cell? ⟨pb, 3, none⟩ = some (.int .u64 0) := HP.out.pbx.cell 3
      have z3 : w6.frozen? ⟨pb, 3, none⟩ = false := HP.out.pbx.frozen 3
      have HS := Lib.hid (HP.out.setNext xn)
      go_wp2_with (fail)
      go_meet
      have e := HN2.out
      rw [show r3.nextOf ⟨(kn : Int), (tn : Int), pn, 0, 0, .none, 0, 0, .none, false, [], []⟩ = ({ (⟨(kn : Int), (tn : Int), pn, 0, 0, .none, 0, 0, .none, false, [], []⟩ : Rc) with next := xn }, r4) from by unfold Rd.nextOf; rw [if_pos (show Rc.nxt (⟨(kn : Int), (tn : Int), pn, 0, 0, .none, 0, 0, .none, false, [], []⟩ : Rc) from (of_decide_eq_true HBN.out.symm : (kn : Int) = 2 ∨ (kn : Int) = 3)), ← HQ.out]] at e
      obtain ⟨rfl, rfl⟩ := Prod.mk.inj e
      exact HS
    | false =>
      go_wp2_with (fail)
      go_meet
      have e := HN2.out
      rw [show r3.nextOf ⟨(kn : Int), (tn : Int), pn, 0, 0, .none, 0, 0, .none, false, [], []⟩ = (⟨(kn : Int), (tn : Int), pn, 0, 0, .none, 0, 0, .none, false, [], []⟩, r3) from by unfold Rd.nextOf; rw [if_neg (show ¬ Rc.nxt (⟨(kn : Int), (tn : Int), pn, 0, 0, .none, 0, 0, .none, false, [], []⟩ : Rc) from (of_decide_eq_false HBN.out.symm : ¬ ((kn : Int) = 2 ∨ (kn : Int) = 3)))]] at e
      obtain ⟨rfl, rfl⟩ := Prod.mk.inj e
      exact H4
  case rest =>
  have H5 := hcut
  clear hcut H4
  have HK2 : Hid (x2.kind = (kn : Int)) := by
    show _ = _
    have e := congrArg Prod.fst HN2.out
    simp only at e
    rw [e]
    unfold Rd.nextOf
    split <;> rfl
  obtain ⟨⟨x3, q3⟩, hn3⟩ : ∃ q, q = q2.chgsOf x2 := ⟨_, rfl⟩
  have HN3 := Lib.hid hn3
  clear hn3
  have HX2 : Hid (x2.page = 0 ∧ x2.op = .none ∧ x2.undo = 0 ∧ x2.txs = [] ∧ x2.dirty = []) := by
    show _ ∧ _
    have e := congrArg Prod.fst HN2.out
    simp only at e
    rw [e]
    unfold Rd.nextOf
    split <;> exact ⟨rfl, rfl, rfl, rfl, rfl⟩
  go_upto_if 33 with (fail)
  go_cut [] from 34 to 35 (fun wx => Hid (DecC w wx rb q3 pb x3 (.slice none 0 0) (.slice none 0 0)))
  case first =>
    cases bc with
    | true =>
      have HC : Hid (Calls Tryz.prog 89 #[.pointer (some ⟨rb, 0, none⟩), .pointer (some ⟨pb, 0, none⟩)] wc fun e w' => e = .returned (.tuple #[]) ∧ TakeSt wc rb pb (q2.chgOf x2).2 (recC (q2.chgOf x2).1 (.slice none 0 0) (.slice none 0 0)).toArray w') := by
        obtain ⟨h1, h2, h3, h4, h5⟩ := HX2.out
        have hb := H5.out.pbx
        obtain ⟨kind, tx, prev, next, page, op, undo, index, ⟨key, rp, rs⟩, live, txs, dirty⟩ := x2
        simp only at h1 h2 h3 h4 h5
        subst h1 h2 h3 h4 h5
        exact recTake_w H5.out.rd hb
      have HR3 : Hid (q2.chgOf x2 = (x3, q3)) := by
        show _ = _
        rw [HN3.out]
        unfold Rd.chgsOf
        rw [if_pos (by unfold Rc.chg; rw [HK2.out]; exact of_decide_eq_true HBC.out.symm)]
      rw [HR3.out] at HC
      simp only at HC
      go_wp2_with (fail)
      refine HC.out.mono ?_
      rintro e w6 ⟨rfl, hp⟩
      have HS : Hid (DecC w w6 rb q3 pb x3 (.slice none 0 0) (.slice none 0 0)) := by
        have e := congrArg Prod.fst HR3.out
        simp only at e
        refine H5.out.upd hp.step hp.rd hp.box ?_ ?_
        · rw [← e]; unfold Rd.chgOf; simp only; split <;> rfl
        · rw [← e]; unfold Rd.chgOf; simp only; split <;> rfl
      clear hp HC
      go_wp2_with (fail)
      go_meet
      exact HS
    | false =>
      go_wp2_with (fail)
      go_meet
      have e := HN3.out
      rw [show q2.chgsOf x2 = (x2, q2) from by unfold Rd.chgsOf; rw [if_neg (by unfold Rc.chg; rw [HK2.out]; exact of_decide_eq_false HBC.out.symm)]] at e
      obtain ⟨rfl, rfl⟩ := Prod.mk.inj e
      exact H5
  case rest =>
  have H6 := hcut
  clear hcut H5
  have HX3 : Hid (x3.kind = (kn : Int) ∧ x3.txs = [] ∧ x3.dirty = []) := by
    show _ ∧ _
    have e := congrArg Prod.fst HN3.out
    simp only at e
    obtain ⟨h1, h2, h3, h4, h5⟩ := HX2.out
    rw [e, ← h4, ← h5, ← HK2.out]
    unfold Rd.chgsOf
    split
    · unfold Rd.chgOf; simp only; split <;> exact ⟨rfl, rfl, rfl⟩
    · exact ⟨rfl, rfl, rfl⟩
  have HXE : Hid ((xx, rr) = q3.tabsOf x3) := by
    show _ = _
    rw [HXX.out]
    unfold recOfRd
    simp only [HH.out, ← HN2.out, ← HN3.out]
  clear HXX HH HN2 HN3 HX2 HK2 HBN HBC
  go_upto_if 36 with (fail)
  go_cut [9, 10] from 37 to 87 (fun _ _ wx => ∃ tv dv, Hid (DecC w wx rb rr pb xx tv dv))
  case first =>
    cases bt with
    | false =>
      go_wp2_with (fail)
      go_meet
      have e := HXE.out
      rw [show q3.tabsOf x3 = (x3, q3) from by unfold Rd.tabsOf; rw [if_neg (by unfold Rc.tab; rw [HX3.out.1]; exact of_decide_eq_false HBT.out.symm)]] at e
      obtain ⟨rfl, rfl⟩ := Prod.mk.inj e
      exact ⟨_, _, H6⟩
    | true =>
      have HT3 : Hid (q3.tabsOf x3 = q3.tabOf x3) := by show _ = _; unfold Rd.tabsOf; rw [if_pos (by unfold Rc.tab; rw [HX3.out.1]; exact of_decide_eq_true HBT.out.symm)]
      obtain ⟨⟨nt, r5⟩, hq⟩ : ∃ q, q = q3.number 2 := ⟨_, rfl⟩
      have HC := Lib.hid (H6.out.number 2 (by decide))
      have hbnt := q3.number_lt 2
      rw [← hq] at HC hbnt
      have HQnt := Lib.hid hq
      clear hq
      simp only at HC hbnt
      have ewnt : IntKind.i64.wrap (nt : Int) = (nt : Int) := IntWalk.i64_in _ (by omega)
      go_wp2_with (fail)
      refine HC.out.mono ?_
      rintro e w6 ⟨rfl, hp⟩
      have H7 := Lib.hid hp
      clear hp HC
      obtain ⟨⟨L, r6⟩, hL⟩ : ∃ q, q = Rd.tss nt r5 := ⟨_, rfl⟩
      have HL := Lib.hid hL
      clear hL
      go_wp2_with (fail)
      have H7e : Hid (DecC w w6 rb r5 pb { x3 with txs := [] } (.slice none 0 0) (.slice none 0 0)) := by
        show DecC _ _ _ _ _ _ _ _
        have h := H7.out
        have e : ({ x3 with txs := [] } : Rc) = x3 := by rw [← HX3.out.2.1]
        rw [e]; exact h
      clear H7
      go_loopw [9] (fun sk wx => ∃ (ts : List (Ts)) (k : Nat) (rd : Rd) (v : Value), sk = .int .i64 (k : Int) ∧ ts.length + k ≤ 65535 ∧ Hid (DecC w wx rb rd pb { x3 with txs := ts } v (.slice none 0 0)) ∧ Hid ((L, r6) = (ts ++ (Rd.tss k rd).1, (Rd.tss k rd).2))) (fun sk _ => (intOf sk).toNat)
      case atStart => exact ⟨[], nt, r5, _, rfl, by simp; omega, H7e, Lib.hid (by rw [HL.out]; simp)⟩
      case round =>
        obtain ⟨ts, k, rd, v, rfl, hk, hq, hE⟩ := hrel
        have HE := Lib.hid (rerr_c hq.out.rd)
        go_upto_region 10 with (fail)
        go_cut [46] from 40 to 46 (fun sc wx => ∃ b, sc = .bool b ∧ Hid (TB b (0 < k ∧ rd.err = 0)) ∧ wx = wr)
        case first =>
          by_cases h1 : (0 : Int) < (k : Int)
          · by_cases h2 : rd.err = 0
            · rw [h2] at HE
              have H2 := Lib.hid h2
              clear h2
              go_wp2_with (fail)
              refine HE.out.mono ?_
              rintro e w' ⟨rfl, rfl⟩
              go_wp2_with (fail)
              go_meet
              exact ⟨true, rfl, Lib.hid (iff_of_true rfl ⟨by omega, H2.out⟩), rfl⟩
            · have h2' : (rd.err == 0) = false := by simp [h2]
              have H2 := Lib.hid h2
              clear h2
              go_wp2_with (fail)
              refine HE.out.mono ?_
              rintro e w' ⟨rfl, rfl⟩
              go_wp2_with (fail)
              go_meet
              exact ⟨false, rfl, Lib.hid (iff_of_false Bool.false_ne_true (fun h => H2.out h.2)), rfl⟩
          · go_wp2_with (fail)
            go_meet
            exact ⟨false, rfl, Lib.hid (iff_of_false Bool.false_ne_true (fun h => by omega)), rfl⟩
        case rest =>
        obtain ⟨b, rfl, hb, rfl⟩ := hcut
        cases b with
        | true =>
          obtain ⟨h0, h1⟩ := hb.out.1 rfl
          obtain ⟨n1, rd1, e1⟩ : ∃ a b, rd.number 4 = (a, b) := ⟨_, _, rfl⟩
          have hl1 := rd.number_lt 4
          rw [e1] at hl1
          simp only at hl1
          obtain ⟨n2, rd2, e2⟩ : ∃ a b, rd1.number 1 = (a, b) := ⟨_, _, rfl⟩
          have hl2 := rd1.number_lt 1
          rw [e2] at hl2
          simp only at hl2
          obtain ⟨n3, rd3, e3⟩ : ∃ a b, rd2.number 8 = (a, b) := ⟨_, _, rfl⟩
          have hl3 := rd2.number_lt 8
          rw [e3] at hl3
          simp only at hl3
          obtain ⟨n4, rd4, e4⟩ : ∃ a b, rd3.number 8 = (a, b) := ⟨_, _, rfl⟩
          have hl4 := rd3.number_lt 8
          rw [e4] at hl4
          simp only at hl4
          have HTS : Hid (rd.ts = (⟨(n1 : Int), (n2 : Int), n3, n4⟩, rd4)) := by
            show _ = _
            unfold Rd.ts
            simp only [e1, e2, e3, e4]
          have hE2 : Hid ((L, r6) = (ts ++ [⟨(n1 : Int), (n2 : Int), n3, n4⟩] ++ (Rd.tss (k - 1) rd4).1, (Rd.tss (k - 1) rd4).2)) := by
            show _ = _
            obtain ⟨m, rfl⟩ : ∃ m, k = m + 1 := ⟨k - 1, by omega⟩
            rw [hE.out, Rd.tss, if_pos h1, HTS.out, Nat.add_sub_cancel]
            simp
          have HC1 := Lib.hid ((hq.out.below (below_drewN wc 1)).number 4 (by decide))
          rw [e1] at HC1
          simp only at HC1
          have E1 := Lib.hid e1
          have E2 := Lib.hid e2
          have E3 := Lib.hid e3
          have E4 := Lib.hid e4
          have HS15 : Hid (OneC ⟨pb, 15, none⟩ v wc) := hq.out.pbx.cell 15
          have M1 : Hid (ts.length + 1 ≤ maxLen) := by show _ ≤ maxLen; simp only [maxLen]; omega
          have M2 : Hid ((ts.length + 1) * 32 ≤ 140737488355328) := by show _ ≤ 140737488355328; omega
          have M3 : Hid (∀ u ∈ [Value.int .i64 (n1 : Int), Value.int .i64 (n2 : Int), Value.int .u64 (n3 : Int), Value.int .u64 (n4 : Int)], u.oneCell' = true) := fun u hu => by
            simp only [List.mem_cons, List.not_mem_nil, or_false] at hu
            rcases hu with rfl | rfl | rfl | rfl <;> rfl
          obtain ⟨its, hits, hz0, hz1, hz2⟩ := info_parts infoTx
          have ew1 : IntKind.i64.wrap (n1 : Int) = (n1 : Int) := IntWalk.i64_in _ (by omega)
          have ew2 : IntKind.i64.wrap (n2 : Int) = (n2 : Int) := IntWalk.i64_in _ (by omega)
          have ewk : IntKind.i64.wrap ((k : Int) - 1) = (k : Int) - 1 := IntWalk.i64_in _ (by omega)
          have H0k := Lib.hid h0
          clear h0 h1 hE hq HE hb e1 e2 e3 e4 HTS
          go_wp2_with (fail)
          refine wp_region_late (S := OneC ⟨pb, 15, none⟩ v) (late := [16]) (by kernel_rfl) HS15.out.drew (fun hHeld => ?_)
          refine wpAnyL_move (i := 0) (v := ?_) (by rfl) (by kernel_rfl) (by kernel_rfl) (by kernel_rfl) (by rfl) (by exact fun _ _ _ h => h) (Or.inl ⟨by rfl, ?_⟩) (by assumption) ?_; rotate_left; · (intro w0; go_simp; try with_reducible rfl)
          try simp only [Act.put, List.setIfInBounds_toArray, List.set_cons_zero, List.set_cons_succ]
          refine wpAnyL_loadT 17 (i := 1) (v := ?_) (by rfl) (by kernel_rfl) (by kernel_rfl) (by kernel_rfl) (by rfl) (by kernel_rfl) (by kernel_rfl) (by exact fun _ _ _ h => h) (Or.inl ⟨by rfl, ?_⟩) (by assumption) ?_; rotate_left; · (intro w0 hS0; have hS1 : w0.cell? ⟨pb, 15, none⟩ = some v := hS0; go_simp; try with_reducible rfl)
          try simp only [Act.put, List.setIfInBounds_toArray, List.set_cons_zero, List.set_cons_succ]
          refine wpAnyL_move (i := 2) (v := ?_) (by rfl) (by kernel_rfl) (by kernel_rfl) (by kernel_rfl) (by rfl) (by exact fun _ _ _ h => h) (Or.inl ⟨by rfl, ?_⟩) (by assumption) ?_; rotate_left; · (intro w0; go_simp; try with_reducible rfl)
          try simp only [Act.put, List.setIfInBounds_toArray, List.set_cons_zero, List.set_cons_succ]
          refine wpAnyL_move (i := 5) (v := ?_) (by rfl) (by kernel_rfl) (by kernel_rfl) (by kernel_rfl) (by rfl) (by exact fun _ _ _ h => h) (Or.inl ⟨by rfl, ?_⟩) (by assumption) ?_; rotate_left; · (intro w0; go_simp; try with_reducible rfl)
          try simp only [Act.put, List.setIfInBounds_toArray, List.set_cons_zero, List.set_cons_succ]
          refine wpAnyL_move (i := 8) (v := ?_) (by rfl) (by kernel_rfl) (by kernel_rfl) (by kernel_rfl) (by rfl) (by exact fun _ _ _ h => h) (Or.inl ⟨by rfl, ?_⟩) (by assumption) ?_; rotate_left; · (intro w0; go_simp; try with_reducible rfl)
          try simp only [Act.put, List.setIfInBounds_toArray, List.set_cons_zero, List.set_cons_succ]
          refine wpAnyL_move (i := 10) (v := ?_) (by rfl) (by kernel_rfl) (by kernel_rfl) (by kernel_rfl) (by rfl) (by exact fun _ _ _ h => h) (Or.inl ⟨by rfl, ?_⟩) (by assumption) ?_; rotate_left; · (intro w0; go_simp; try with_reducible rfl)
          try simp only [Act.put, List.setIfInBounds_toArray, List.set_cons_zero, List.set_cons_succ]
          refine wpAnyL_each (rs := [3]) (by kernel_rfl) (by simp) ?_
          refine EachL.cons (by rfl) (by rfl) (fun K hK => ?_) ?_
          · go_simp
            refine HC1.out.mono ?_
            rintro e v1 ⟨rfl, hq1⟩
            dsimp only
            refine hK.out _ _ (hq1.pbx.cell 15) (fun hHeld => ?_)
            clear hK K
            try simp only [Act.put, List.setIfInBounds_toArray, List.set_cons_zero, List.set_cons_succ]
            refine wpAnyL_move (i := 4) (v := ?_) (by rfl) (by kernel_rfl) (by kernel_rfl) (by kernel_rfl) (by rfl) (by exact fun _ _ _ h => h) (Or.inl ⟨by rfl, ?_⟩) (by assumption) ?_; rotate_left; · (intro w0; go_simp; try with_reducible rfl)
            try simp only [Act.put, List.setIfInBounds_toArray, List.set_cons_zero, List.set_cons_succ]
            refine wpAnyL_each (rs := [6]) (by kernel_rfl) (by simp) ?_
            refine EachL.cons (by rfl) (by rfl) (fun K hK => ?_) ?_
            · have HC2 := Lib.hid (hq1.number 1 (by decide))
              rw [E2.out] at HC2
              simp only at HC2
              go_simp
              refine HC2.out.mono ?_
              rintro e v2 ⟨rfl, hq2⟩
              dsimp only
              refine hK.out _ _ (hq2.pbx.cell 15) (fun hHeld => ?_)
              clear hK K
              try simp only [Act.put, List.setIfInBounds_toArray, List.set_cons_zero, List.set_cons_succ]
              refine wpAnyL_move (i := 7) (v := ?_) (by rfl) (by kernel_rfl) (by kernel_rfl) (by kernel_rfl) (by rfl) (by exact fun _ _ _ h => h) (Or.inl ⟨by rfl, ?_⟩) (by assumption) ?_; rotate_left; · (intro w0; go_simp; try with_reducible rfl)
              try simp only [Act.put, List.setIfInBounds_toArray, List.set_cons_zero, List.set_cons_succ]
              refine wpAnyL_each (rs := [9]) (by kernel_rfl) (by simp) ?_
              refine EachL.cons (by rfl) (by rfl) (fun K hK => ?_) ?_
              · have HC3 := Lib.hid (hq2.number 8 (by decide))
                rw [E3.out] at HC3
                simp only at HC3
                go_simp
                refine HC3.out.mono ?_
                rintro e v3 ⟨rfl, hq3⟩
                dsimp only
                refine hK.out _ _ (hq3.pbx.cell 15) (fun hHeld => ?_)
                clear hK K
                try simp only [Act.put, List.setIfInBounds_toArray, List.set_cons_zero, List.set_cons_succ]
                refine wpAnyL_each (rs := [11]) (by kernel_rfl) (by simp) ?_
                refine EachL.cons (by rfl) (by rfl) (fun K hK => ?_) ?_
                · have HC4 := Lib.hid (hq3.number 8 (by decide))
                  rw [E4.out] at HC4
                  simp only at HC4
                  go_simp
                  refine HC4.out.mono ?_
                  rintro e v4 ⟨rfl, hq4⟩
                  dsimp only
                  refine hK.out _ _ (hq4.pbx.cell 15) (fun hHeld => ?_)
                  clear hK K
                  try simp only [Act.put, List.setIfInBounds_toArray, List.set_cons_zero, List.set_cons_succ]
                  refine wpAnyL_move (i := 12) (v := ?_) (by rfl) (by kernel_rfl) (by kernel_rfl) (by kernel_rfl) (by rfl) (by exact fun _ _ _ h => h) (Or.inl ⟨by rfl, ?_⟩) (by assumption) ?_; rotate_left; · (intro w0; go_simp; try with_reducible rfl)
                  try simp only [Act.put, List.setIfInBounds_toArray, List.set_cons_zero, List.set_cons_succ]
                  refine wpAnyL_each (rs := [13]) (by kernel_rfl) (by simp) ?_
                  refine EachL.cons (by rfl) (by rfl) (fun K hK => ?_) ?_
                  · go_simp
                    refine hK.out _ _ (hHeld.alloc _) (fun hHeld => ?_)
                    clear hK K
                    try simp only [Act.put, List.setIfInBounds_toArray, List.set_cons_zero, List.set_cons_succ]
                    refine wpAnyL_each (rs := [14]) (by kernel_rfl) (by simp) ?_
                    refine EachL.cons (by rfl) (by rfl) (fun K hK => ?_) ?_
                    · refine step_append_lies _ (by rfl) _ _ 28 (by rfl) w.heap.size 44 its _ 4 32 Tryz.underlying28 hits hz0 hz1 hz2 rfl (by omega) v ts.length (cellsL tsC ts) (by rfl) (hq4.below ((Below.refl _ _).alloc (Nat.le_refl _) _)).txs ⟨v4.heap.size, 0, none⟩ 1 1 [.int .i64 (n1 : Int), .int .i64 (n2 : Int), .int .u64 (n3 : Int), .int .u64 (n4 : Int)] (by rfl) (by rfl) (World.news_of_block (cs := #[.int .i64 (n1 : Int), .int .i64 (n2 : Int), .int .u64 (n3 : Int), .int .u64 (n4 : Int)]) (t := 44) (fr := (0, 0)) (heap_alloc_new v4 _)) M3.out (by omega) M1.out M2.out (hq4.below ((Below.refl _ _).alloc (Nat.le_refl _) _)).base.size _ rfl ?_; intro sg sc w6 so sgr sat slt
                      refine hK.out _ _ (((hq4.below ((Below.refl _ _).alloc (Nat.le_refl _) _)).grownTx sgr).cell 15) (fun hHeld => ?_)
                      clear hK K
                      try simp only [Act.put, List.setIfInBounds_toArray, List.set_cons_zero, List.set_cons_succ]
                      refine wpAnyL_move (i := 15) (v := ?_) (by rfl) (by kernel_rfl) (by kernel_rfl) (by kernel_rfl) (by rfl) (by exact fun _ _ _ h => h) (Or.inl ⟨by rfl, ?_⟩) (by assumption) ?_; rotate_left; · (intro w0; go_simp; try with_reducible rfl)
                      try simp only [Act.put, List.setIfInBounds_toArray, List.set_cons_zero, List.set_cons_succ]
                      have q4 : w6.cell? ⟨pb, 15, none⟩ = some v := hHeld
                      have f4 : w6.frozen? ⟨pb, 15, none⟩ = false := ((hq4.below ((Below.refl _ _).alloc (Nat.le_refl _) _)).grownTx sgr).frozen 15
                      refine wpAnyL_late (i := 16) (by kernel_rfl) (by rfl) (by rfl) (fun K hK => ?_)
                      go_simp
                      refine hK.out _ _ ?_
                      clear hK K
                      try simp only [Act.put, List.setIfInBounds_toArray, List.set_cons_zero, List.set_cons_succ]
                      refine wpAny_done (by kernel_rfl) ?_ _
                      have R1 : Hid (DecC w (w6.setCell ⟨pb, 15, none⟩ (.slice (some ⟨sg, 0, none⟩) (ts.length + 1) sc)) rb rd4 pb { x3 with txs := ts ++ [⟨(n1 : Int), (n2 : Int), n3, n4⟩] } (.slice (some ⟨sg, 0, none⟩) (ts.length + 1) sc) (.slice none 0 0)) := (hq4.below ((Below.refl _ _).alloc (Nat.le_refl _) _)).pushTx so sgr
                      clear q4 f4 so sgr sat slt hHeld hq1 hq2 hq3 hq4
                      go_wp2_with (fail)
                      go_roundw
                      case rel => exact ⟨ts ++ [⟨(n1 : Int), (n2 : Int), n3, n4⟩], k - 1, rd4, _, by have := H0k.out; go_num, by have := H0k.out; simp; omega, R1, hE2⟩
                      case measure => have := H0k.out; simp [intOf]; omega
                    exact EachL.nil
                  exact EachL.nil
                exact EachL.nil
              exact EachL.nil
            exact EachL.nil
          exact EachL.nil
        | false =>
          have HEE : Hid (L = ts ∧ r6 = rd) := by
            show _ ∧ _
            have hn : ¬ (0 < k ∧ rd.err = 0) := fun h => Bool.false_ne_true (hb.out.2 h)
            have e := hE.out
            cases k with
            | zero => simpa [Rd.tss] using e
            | succ k =>
              rw [Rd.tss, if_neg (fun h => hn ⟨by omega, h⟩)] at e
              simpa using e
          obtain ⟨rfl, rfl⟩ := HEE.out
          clear HEE hb hE HE hk
          obtain ⟨⟨nd, r7⟩, hqd⟩ : ∃ q, q = r6.number 2 := ⟨_, rfl⟩
          have HC := Lib.hid (hq.out.number 2 (by decide))
          have hbd := r6.number_lt 2
          rw [← hqd] at HC hbd
          have HQd := Lib.hid hqd
          clear hqd
          simp only at HC hbd
          have ewd : IntKind.i64.wrap (nd : Int) = (nd : Int) := IntWalk.i64_in _ (by omega)
          go_wp2_with (fail)
          refine HC.out.mono ?_
          rintro e w7 ⟨rfl, hp⟩
          have H8e : Hid (DecC w w7 rb r7 pb { x3 with txs := L, dirty := [] } v (.slice none 0 0)) := by
            show DecC _ _ _ _ _ _ _ _
            have e : ({ x3 with txs := L, dirty := [] } : Rc) = { x3 with txs := L } := by rw [← HX3.out.2.2]
            rw [e]; exact hp
          clear hp HC hq
          obtain ⟨⟨D, r8⟩, hD⟩ : ∃ q, q = Rd.dps nd r7 := ⟨_, rfl⟩
          have HD := Lib.hid hD
          clear hD
          have HTE : Hid ((xx, rr) = ({ x3 with txs := L, dirty := D }, r8)) := by
            show _ = _
            rw [HXE.out, HT3.out]
            unfold Rd.tabOf
            simp only [← HQnt.out, ← HL.out, ← HQd.out, ← HD.out, HX3.out.2.1, HX3.out.2.2, List.nil_append]
          clear HXE HT3 HQnt HL HQd
          generalize htv : v = tv1 at *
          clear htv
          go_wp2_with (fail)
          go_loopw [10] (fun sk wx => ∃ (ts : List (Nat × Nat)) (k : Nat) (rd : Rd) (v : Value), sk = .int .i64 (k : Int) ∧ ts.length + k ≤ 65535 ∧ Hid (DecC w wx rb rd pb { x3 with txs := L, dirty := ts } tv1 v) ∧ Hid ((D, r8) = (ts ++ (Rd.dps k rd).1, (Rd.dps k rd).2))) (fun sk _ => (intOf sk).toNat)
          case atStart => exact ⟨[], nd, r7, _, rfl, by simp; omega, H8e, Lib.hid (by rw [HD.out]; simp)⟩
          case round =>
            obtain ⟨ts, k, rd, v, rfl, hk, hq, hE⟩ := hrel
            have HE := Lib.hid (rerr_c hq.out.rd)
            go_upto_region 14 with (fail)
            go_cut [74] from 68 to 74 (fun sc wx => ∃ b, sc = .bool b ∧ Hid (TB b (0 < k ∧ rd.err = 0)) ∧ wx = wr)
            case first =>
              by_cases h1 : (0 : Int) < (k : Int)
              · by_cases h2 : rd.err = 0
                · rw [h2] at HE
                  have H2 := Lib.hid h2
                  clear h2
                  go_wp2_with (fail)
                  refine HE.out.mono ?_
                  rintro e w' ⟨rfl, rfl⟩
                  go_wp2_with (fail)
                  go_meet
                  exact ⟨true, rfl, Lib.hid (iff_of_true rfl ⟨by omega, H2.out⟩), rfl⟩
                · have h2' : (rd.err == 0) = false := by simp [h2]
                  have H2 := Lib.hid h2
                  clear h2
                  go_wp2_with (fail)
                  refine HE.out.mono ?_
                  rintro e w' ⟨rfl, rfl⟩
                  go_wp2_with (fail)
                  go_meet
                  exact ⟨false, rfl, Lib.hid (iff_of_false Bool.false_ne_true (fun h => H2.out h.2)), rfl⟩
              · go_wp2_with (fail)
                go_meet
                exact ⟨false, rfl, Lib.hid (iff_of_false Bool.false_ne_true (fun h => by omega)), rfl⟩
            case rest =>
            obtain ⟨b, rfl, hb, rfl⟩ := hcut
            cases b with
            | true =>
              obtain ⟨h0, h1⟩ := hb.out.1 rfl
              obtain ⟨n1, rd1, e1⟩ : ∃ a b, rd.number 4 = (a, b) := ⟨_, _, rfl⟩
              have hl1 := rd.number_lt 4
              rw [e1] at hl1
              simp only at hl1
              obtain ⟨n2, rd2, e2⟩ : ∃ a b, rd1.number 8 = (a, b) := ⟨_, _, rfl⟩
              have hl2 := rd1.number_lt 8
              rw [e2] at hl2
              simp only at hl2
              have HTS : Hid (rd.dp = ((n1, n2), rd2)) := by
                show _ = _
                unfold Rd.dp
                simp only [e1, e2]
              have hE2 : Hid ((D, r8) = (ts ++ [(n1, n2)] ++ (Rd.dps (k - 1) rd2).1, (Rd.dps (k - 1) rd2).2)) := by
                show _ = _
                obtain ⟨m, rfl⟩ : ∃ m, k = m + 1 := ⟨k - 1, by omega⟩
                rw [hE.out, Rd.dps, if_pos h1, HTS.out, Nat.add_sub_cancel]
                simp
              have HC1 := Lib.hid ((hq.out.below (below_drewN wc 1)).number 4 (by decide))
              rw [e1] at HC1
              simp only at HC1
              have E1 := Lib.hid e1
              have E2 := Lib.hid e2
              have HS15 : Hid (OneC ⟨pb, 16, none⟩ v wc) := hq.out.pbx.cell 16
              have M1 : Hid (ts.length + 1 ≤ maxLen) := by show _ ≤ maxLen; simp only [maxLen]; omega
              have M2 : Hid ((ts.length + 1) * 16 ≤ 140737488355328) := by show _ ≤ 140737488355328; omega
              have M3 : Hid (∀ u ∈ [Value.int .u32 (n1 : Int), Value.int .u64 (n2 : Int)], u.oneCell' = true) := fun u hu => by
                simp only [List.mem_cons, List.not_mem_nil, or_false] at hu
                rcases hu with rfl | rfl <;> rfl
              obtain ⟨its, hits, hz0, hz1, hz2⟩ := info_parts infoDirty
              have ew1 : IntKind.u32.wrap (n1 : Int) = (n1 : Int) := IntWalk.u32_in _ (by omega)
              have ewk : IntKind.i64.wrap ((k : Int) - 1) = (k : Int) - 1 := IntWalk.i64_in _ (by omega)
              have H0k := Lib.hid h0
              clear h0 h1 hE hq HE hb e1 e2 HTS
              go_wp2_with (fail)
              refine wp_region_late (S := OneC ⟨pb, 16, none⟩ v) (late := [11]) (by kernel_rfl) HS15.out.drew (fun hHeld => ?_)
              refine wpAnyL_move (i := 0) (v := ?_) (by rfl) (by kernel_rfl) (by kernel_rfl) (by kernel_rfl) (by rfl) (by exact fun _ _ _ h => h) (Or.inl ⟨by rfl, ?_⟩) (by assumption) ?_; rotate_left; · (intro w0; go_simp; try with_reducible rfl)
              try simp only [Act.put, List.setIfInBounds_toArray, List.set_cons_zero, List.set_cons_succ]
              refine wpAnyL_loadT 12 (i := 1) (v := ?_) (by rfl) (by kernel_rfl) (by kernel_rfl) (by kernel_rfl) (by rfl) (by kernel_rfl) (by kernel_rfl) (by exact fun _ _ _ h => h) (Or.inl ⟨by rfl, ?_⟩) (by assumption) ?_; rotate_left; · (intro w0 hS0; have hS1 : w0.cell? ⟨pb, 16, none⟩ = some v := hS0; go_simp; try with_reducible rfl)
              try simp only [Act.put, List.setIfInBounds_toArray, List.set_cons_zero, List.set_cons_succ]
              refine wpAnyL_move (i := 2) (v := ?_) (by rfl) (by kernel_rfl) (by kernel_rfl) (by kernel_rfl) (by rfl) (by exact fun _ _ _ h => h) (Or.inl ⟨by rfl, ?_⟩) (by assumption) ?_; rotate_left; · (intro w0; go_simp; try with_reducible rfl)
              try simp only [Act.put, List.setIfInBounds_toArray, List.set_cons_zero, List.set_cons_succ]
              refine wpAnyL_move (i := 5) (v := ?_) (by rfl) (by kernel_rfl) (by kernel_rfl) (by kernel_rfl) (by rfl) (by exact fun _ _ _ h => h) (Or.inl ⟨by rfl, ?_⟩) (by assumption) ?_; rotate_left; · (intro w0; go_simp; try with_reducible rfl)
              try simp only [Act.put, List.setIfInBounds_toArray, List.set_cons_zero, List.set_cons_succ]
              refine wpAnyL_each (rs := [3]) (by kernel_rfl) (by simp) ?_
              refine EachL.cons (by rfl) (by rfl) (fun K hK => ?_) ?_
              · go_simp
                refine HC1.out.mono ?_
                rintro e v1 ⟨rfl, hq1⟩
                dsimp only
                refine hK.out _ _ (hq1.pbx.cell 16) (fun hHeld => ?_)
                clear hK K
                try simp only [Act.put, List.setIfInBounds_toArray, List.set_cons_zero, List.set_cons_succ]
                refine wpAnyL_move (i := 4) (v := ?_) (by rfl) (by kernel_rfl) (by kernel_rfl) (by kernel_rfl) (by rfl) (by exact fun _ _ _ h => h) (Or.inl ⟨by rfl, ?_⟩) (by assumption) ?_; rotate_left; · (intro w0; go_simp; try with_reducible rfl)
                try simp only [Act.put, List.setIfInBounds_toArray, List.set_cons_zero, List.set_cons_succ]
                refine wpAnyL_each (rs := [6]) (by kernel_rfl) (by simp) ?_
                refine EachL.cons (by rfl) (by rfl) (fun K hK => ?_) ?_
                · have HC2 := Lib.hid (hq1.number 8 (by decide))
                  rw [E2.out] at HC2
                  simp only at HC2
                  go_simp
                  refine HC2.out.mono ?_
                  rintro e v2 ⟨rfl, hq2⟩
                  dsimp only
                  refine hK.out _ _ (hq2.pbx.cell 16) (fun hHeld => ?_)
                  clear hK K
                  try simp only [Act.put, List.setIfInBounds_toArray, List.set_cons_zero, List.set_cons_succ]
                  refine wpAnyL_move (i := 7) (v := ?_) (by rfl) (by kernel_rfl) (by kernel_rfl) (by kernel_rfl) (by rfl) (by exact fun _ _ _ h => h) (Or.inl ⟨by rfl, ?_⟩) (by assumption) ?_; rotate_left; · (intro w0; go_simp; try with_reducible rfl)
                  try simp only [Act.put, List.setIfInBounds_toArray, List.set_cons_zero, List.set_cons_succ]
                  refine wpAnyL_each (rs := [8]) (by kernel_rfl) (by simp) ?_
                  refine EachL.cons (by rfl) (by rfl) (fun K hK => ?_) ?_
                  · go_simp
                    refine hK.out _ _ (hHeld.alloc _) (fun hHeld => ?_)
                    clear hK K
                    try simp only [Act.put, List.setIfInBounds_toArray, List.set_cons_zero, List.set_cons_succ]
                    refine wpAnyL_each (rs := [9]) (by kernel_rfl) (by simp) ?_
                    refine EachL.cons (by rfl) (by rfl) (fun K hK => ?_) ?_
                    · refine step_append_lies _ (by rfl) _ _ 29 (by rfl) w.heap.size 50 its _ 2 16 Tryz.underlying29 hits hz0 hz1 hz2 rfl (by omega) v ts.length (cellsL dpC ts) (by rfl) (hq2.below ((Below.refl _ _).alloc (Nat.le_refl _) _)).dirty ⟨v2.heap.size, 0, none⟩ 1 1 [.int .u32 (n1 : Int), .int .u64 (n2 : Int)] (by rfl) (by rfl) (World.news_of_block (cs := #[.int .u32 (n1 : Int), .int .u64 (n2 : Int)]) (t := 50) (fr := (0, 0)) (heap_alloc_new v2 _)) M3.out (by omega) M1.out M2.out (hq2.below ((Below.refl _ _).alloc (Nat.le_refl _) _)).base.size _ rfl ?_; intro sg sc w6 so sgr sat slt
                      refine hK.out _ _ (((hq2.below ((Below.refl _ _).alloc (Nat.le_refl _) _)).grownDp sgr).cell 16) (fun hHeld => ?_)
                      clear hK K
                      try simp only [Act.put, List.setIfInBounds_toArray, List.set_cons_zero, List.set_cons_succ]
                      refine wpAnyL_move (i := 10) (v := ?_) (by rfl) (by kernel_rfl) (by kernel_rfl) (by kernel_rfl) (by rfl) (by exact fun _ _ _ h => h) (Or.inl ⟨by rfl, ?_⟩) (by assumption) ?_; rotate_left; · (intro w0; go_simp; try with_reducible rfl)
                      try simp only [Act.put, List.setIfInBounds_toArray, List.set_cons_zero, List.set_cons_succ]
                      have q4 : w6.cell? ⟨pb, 16, none⟩ = some v := hHeld
                      have f4 : w6.frozen? ⟨pb, 16, none⟩ = false := ((hq2.below ((Below.refl _ _).alloc (Nat.le_refl _) _)).grownDp sgr).frozen 16
                      refine wpAnyL_late (i := 11) (by kernel_rfl) (by rfl) (by rfl) (fun K hK => ?_)
                      go_simp
                      refine hK.out _ _ ?_
                      clear hK K
                      try simp only [Act.put, List.setIfInBounds_toArray, List.set_cons_zero, List.set_cons_succ]
                      refine wpAny_done (by kernel_rfl) ?_ _
                      have R1 : Hid (DecC w (w6.setCell ⟨pb, 16, none⟩ (.slice (some ⟨sg, 0, none⟩) (ts.length + 1) sc)) rb rd2 pb { x3 with txs := L, dirty := ts ++ [(n1, n2)] } tv1 (.slice (some ⟨sg, 0, none⟩) (ts.length + 1) sc)) := (hq2.below ((Below.refl _ _).alloc (Nat.le_refl _) _)).pushDp so sgr
                      clear q4 f4 so sgr sat slt hHeld hq1 hq2
                      go_wp2_with (fail)
                      go_roundw
                      case rel => exact ⟨ts ++ [(n1, n2)], k - 1, rd2, _, by have := H0k.out; go_num, by have := H0k.out; simp; omega, R1, hE2⟩
                      case measure => have := H0k.out; simp [intOf]; omega
                    exact EachL.nil
                  exact EachL.nil
                exact EachL.nil
              exact EachL.nil
            | false =>
              have HEE : Hid (D = ts ∧ r8 = rd) := by
                show _ ∧ _
                have hn : ¬ (0 < k ∧ rd.err = 0) := fun h => Bool.false_ne_true (hb.out.2 h)
                have e := hE.out
                cases k with
                | zero => simpa [Rd.dps] using e
                | succ k =>
                  rw [Rd.dps, if_neg (fun h => hn ⟨by omega, h⟩)] at e
                  simpa using e
              obtain ⟨rfl, rfl⟩ := HEE.out
              clear HEE hb hE HE hk
              obtain ⟨rfl, rfl⟩ := Prod.mk.inj HTE.out
              go_wp2_with (fail)
              go_meet
              exact ⟨_, _, hq⟩
  case rest =>
  obtain ⟨tv, dv, H8⟩ := hcut
  clear H6 HX3 HXE HBT
  have HE := Lib.hid (rend_c H8.out.rd)
  obtain ⟨ta, tc, rfl⟩ := (RdC.of_own tsC_len H8.out.txs).form
  obtain ⟨da, dc, rfl⟩ := (RdC.of_own dpC_len H8.out.dirty).form
  obtain ⟨kind, tx, prev, next, page, ⟨k, a, os, od⟩, undo, index, ⟨key, rp, rs⟩, live, txs, dirty⟩ := xx
  go_upto_region 17 with (fail)
  refine wp_region_lit ?_
  refine wpList_plain (by rfl) fun K hK => ?_
  go_simp
  refine hK _ _ ?_
  clear hK K
  refine wpList_plain (by rfl) fun K hK => ?_
  go_simp
  refine HE.out.mono ?_
  rintro e w7 ⟨rfl, r9, hp⟩
  have H9 := Lib.hid (H8.out.next hp)
  clear hp H8 HE
  refine hK _ _ ?_
  clear hK K
  have he : rr.endOf ≠ 0 := HMODE.out
  have he' : (rr.endOf == 0) = false := by simp [he]
  have HEN := Lib.hid he
  clear he
  have HZR : Hid (w7.heap[w.heap.size]? = some (.cells zeroRec 63 (0, 0))) := H9.out.box
  go_upto_region 18 with (fail)
  refine wp_region_lit ?_
  refine wpList_plain (by rfl) fun K hK => ?_
  go_simp
  refine hK _ _ ?_
  clear hK K
  refine wpList_store_row (by rfl) _ _ _ (by rfl) w.heap.size 63 #[.int .i64 0, .int .i64 0, .int .u64 0, .int .u64 0, .int .u32 0, .int .i64 0, .int .i64 0, .string ⟨#[]⟩, .string ⟨#[]⟩, .int .i64 0, .int .i64 0, .string ⟨#[]⟩, .int .u32 0, .int .i64 0, .bool false, .slice none 0 0, .slice none 0 0] zeroRec (by rfl) (by rfl) HZR.out (by kernel_rfl) (by rfl) (by simp [Value.oneCell']) ?_
  go_wp2_with (fail)
  (try simp only [Exit.inBlock, Exit.then])
  have B9' : Blk (w7.setRow w.heap.size #[.int .i64 0, .int .i64 0, .int .u64 0, .int .u64 0, .int .u32 0, .int .i64 0, .int .i64 0, .string ⟨#[]⟩, .string ⟨#[]⟩, .int .i64 0, .int .i64 0, .string ⟨#[]⟩, .int .u32 0, .int .i64 0, .bool false, .slice none 0 0, .slice none 0 0]) w.heap.size 63 #[.int .i64 0, .int .i64 0, .int .u64 0, .int .u64 0, .int .u32 0, .int .i64 0, .int .i64 0, .string ⟨#[]⟩, .string ⟨#[]⟩, .int .i64 0, .int .i64 0, .string ⟨#[]⟩, .int .u32 0, .int .i64 0, .bool false, .slice none 0 0, .slice none 0 0] := setRow_heap w7 w.heap.size _ _ _ _ HZR.out
  have HSO : Hid (∀ q, q ≠ w.heap.size → (w7.setRow w.heap.size #[.int .i64 0, .int .i64 0, .int .u64 0, .int .u64 0, .int .u32 0, .int .i64 0, .int .i64 0, .string ⟨#[]⟩, .string ⟨#[]⟩, .int .i64 0, .int .i64 0, .string ⟨#[]⟩, .int .u32 0, .int .i64 0, .bool false, .slice none 0 0, .slice none 0 0]).heap[q]? = w7.heap[q]?) := fun q hq => setRow_other _ _ _ _ hq
  have HBB : Hid (Below w.heap.size w (w7.setRow w.heap.size #[.int .i64 0, .int .i64 0, .int .u64 0, .int .u64 0, .int .u32 0, .int .i64 0, .int .i64 0, .string ⟨#[]⟩, .string ⟨#[]⟩, .int .i64 0, .int .i64 0, .string ⟨#[]⟩, .int .u32 0, .int .i64 0, .bool false, .slice none 0 0, .slice none 0 0])) := belowRow H9.out.base HZR.out
  generalize w7.setRow w.heap.size #[.int .i64 0, .int .i64 0, .int .u64 0, .int .u64 0, .int .u32 0, .int .i64 0, .int .i64 0, .string ⟨#[]⟩, .string ⟨#[]⟩, .int .i64 0, .int .i64 0, .string ⟨#[]⟩, .int .u32 0, .int .i64 0, .bool false, .slice none 0 0, .slice none 0 0] = wz at *
  have r0 := B9'.cell 0
  have r1 := B9'.cell 1
  have r2 := B9'.cell 2
  have r3 := B9'.cell 3
  have r4 := B9'.cell 4
  have r5 := B9'.cell 5
  have r6 := B9'.cell 6
  have r7 := B9'.cell 7
  have r8 := B9'.cell 8
  have r9 := B9'.cell 9
  have r10 := B9'.cell 10
  have r11 := B9'.cell 11
  have r12 := B9'.cell 12
  have r13 := B9'.cell 13
  have r14 := B9'.cell 14
  have r15 := B9'.cell 15
  have r16 := B9'.cell 16
  simp at r0 r1 r2 r3 r4 r5 r6 r7 r8 r9 r10 r11 r12 r13 r14 r15 r16
  refine bodyPost_ret (v := .tuple #[.agg #[.int .i64 0, .int .i64 0, .int .u64 0, .int .u64 0, .int .u32 0, .int .i64 0, .int .i64 0, .string ⟨#[]⟩, .string ⟨#[]⟩, .int .i64 0, .int .i64 0, .string ⟨#[]⟩, .int .u32 0, .int .i64 0, .bool false, .slice none 0 0, .slice none 0 0], .int .i64 40]) (by simp [results, Tryz.results22, go_sem, r0, r1, r2, r3, r4, r5, r6, r7, r8, r9, r10, r11, r12, r13, r14, r15, r16]) rfl ?_
  rw [← HPOST.out]
  have hre := HRE.out
  rw [if_neg (fun h => HEN.out h.1)] at hre
  refine ⟨.slice none 0 0, .slice none 0 0, by rw [hre]; rfl, ?_, HBB.out, fun k hk => by simp [Value.ownBlock] at hk, fun k hk => by simp [Value.ownBlock] at hk⟩
  rw [hre]
  exact ⟨RdC.nil _ _, RdC.nil _ _, Rc.none_mild⟩
end
end Go.Proofs.YtpnndlahfllbhaaGreat
