/-
  The walk of rec.Encode. Printed by n4.py.
-/
import Derived.Test.YtpnndlahfllbhaaGreatUNC
import Derived.Test.YtpnndlahfllbhaaGreatUN3
import Derived.Deep.CutRange
namespace Go.Proofs.YtpnndlahfllbhaaGreat
open Go.RowKit
attribute [local go_sem ↓] Go.wp_at_zero Go.wp_at_succ

theorem tssB_snoc (t : Ts) : ∀ l : List Ts, tssB (l ++ [t]) = tssB l ++ tsB t
  | [] => by simp [tssB, bytes_nil, bytes_nil']
  | x :: l => by
    have e : tssB (x :: l ++ [t]) = tsB x ++ tssB (l ++ [t]) := rfl
    rw [e, tssB_snoc t l, ← ByteArray.append_assoc]
    rfl
theorem dpsB_snoc (t : Nat × Nat) : ∀ l : List (Nat × Nat), dpsB (l ++ [t]) = dpsB l ++ dpB t
  | [] => by simp [dpsB, bytes_nil, bytes_nil']
  | x :: l => by
    have e : dpsB (x :: l ++ [t]) = dpB x ++ dpsB (l ++ [t]) := rfl
    rw [e, dpsB_snoc t l, ← ByteArray.append_assoc]
    rfl
section
variable {kind tx prev next page : Nat} {k a : Int} {s d : ByteArray} {undo index : Int} {key : ByteArray} {rp : Nat} {rs : Int} {live : Bool} {txs : List Ts} {dirty : List (Nat × Nat)}
/-- a change of a record that may be is put -/
theorem recPut_c {w : World} {B wb : Nat} {bs : ByteArray} (h : WrAt w B wb bs) (ta da : Option Addr) (tc dc : Nat) (hr : (⟨(kind : Int), (tx : Int), prev, next, page, ⟨k, a, s, d⟩, undo, index, ⟨key, rp, rs⟩, live, txs, dirty⟩ : Rc).ok) (hm : (⟨(kind : Int), (tx : Int), prev, next, page, ⟨k, a, s, d⟩, undo, index, ⟨key, rp, rs⟩, live, txs, dirty⟩ : Rc).mild) (hc : (⟨(kind : Int), (tx : Int), prev, next, page, ⟨k, a, s, d⟩, undo, index, ⟨key, rp, rs⟩, live, txs, dirty⟩ : Rc).chg) (hz : bs.size ≤ 500000) :
    Calls Tryz.prog 94 #[.pointer (some ⟨wb, 0, none⟩), .agg #[.int .i64 (kind : Int), .int .i64 (tx : Int), .int .u64 (prev : Int), .int .u64 (next : Int), .int .u32 (page : Int), .int .i64 k, .int .i64 a, .string s, .string d, .int .i64 undo, .int .i64 index, .string key, .int .u32 (rp : Int), .int .i64 rs, .bool live, .slice ta txs.length tc, .slice da dirty.length dc]] w fun e w' => e = .returned (.tuple #[]) ∧ WrAt w' B wb (bs ++ (⟨(kind : Int), (tx : Int), prev, next, page, ⟨k, a, s, d⟩, undo, index, ⟨key, rp, rs⟩, live, txs, dirty⟩ : Rc).chgB) ∧ Below B w w' := by
  obtain ⟨⟨o1, o2⟩, ⟨o3, o4⟩, o5, o6⟩ := (hr.a3.1 hc).2.small
  have hu := hr.a2
  have hq := hr.a4
  have hp1 := hm.page
  have hp2 := hm.ridPage
  have hs0 := hr.a4.2
  unfold Rc.ok2 at hu
  simp only at o1 o2 o3 o4 o5 o6 hu hp1 hp2 hs0
  have hrs : 0 ≤ rs := by
    by_cases h2 : undo = 2
    · exact (hq.1 h2).2.2.2.1
    · have := (hs0 h2).2.1
      rw [en_none_iff] at this
      omega
  have hix : 0 ≤ index := by
    by_cases h2 : undo = 2
    · exact (hq.1 h2).1
    · have := (hs0 h2).1
      omega
  obtain ⟨kn, rfl⟩ : ∃ n : Nat, k = (n : Int) := ⟨k.toNat, by omega⟩
  obtain ⟨an, rfl⟩ : ∃ n : Nat, a = (n : Int) := ⟨a.toNat, by omega⟩
  obtain ⟨un, rfl⟩ : ∃ n : Nat, undo = (n : Int) := ⟨undo.toNat, by omega⟩
  obtain ⟨xn, rfl⟩ : ∃ n : Nat, index = (n : Int) := ⟨index.toNat, by omega⟩
  obtain ⟨sn, rfl⟩ : ∃ n : Nat, rs = (n : Int) := ⟨rs.toNat, by omega⟩
  refine (recPut_w h ta da txs.length tc dirty.length dc hp1 hp2 (by omega) (by omega) o5 o6 (by omega) (fun h2 => ?_) hz).mono fun e w' ⟨he, h1, h2⟩ => ⟨he, ?_, h2⟩
  · have := hq.1 (by show (un : Int) = 2; omega)
    simp only at this
    omega
  · have e1 : ∀ x y : ByteArray, (if un = 2 then x else y) = if (un : Int) = 2 then x else y := fun x y => by
      by_cases h : un = 2
      · rw [if_pos h, if_pos (by omega)]
      · rw [if_neg h, if_neg (by omega)]
    unfold Rc.chgB Rc.keyB
    simp only [ByteArray.append_assoc, Int.toNat_natCast, e1] at h1 ⊢
    exact h1

set_option maxRecDepth 100000 in
set_option maxHeartbeats 4000000 in
theorem recEncode_w (ta da : Option Addr) (tc dc : Nat) (w : World) (hT : RdC 4 tsC w (.slice ta txs.length tc) txs) (hD : RdC 2 dpC w (.slice da dirty.length dc) dirty) (hr : (⟨(kind : Int), (tx : Int), prev, next, page, ⟨k, a, s, d⟩, undo, index, ⟨key, rp, rs⟩, live, txs, dirty⟩ : Rc).ok) (hm : (⟨(kind : Int), (tx : Int), prev, next, page, ⟨k, a, s, d⟩, undo, index, ⟨key, rp, rs⟩, live, txs, dirty⟩ : Rc).mild) :
    Calls Tryz.prog 23 #[.agg #[.int .i64 (kind : Int), .int .i64 (tx : Int), .int .u64 (prev : Int), .int .u64 (next : Int), .int .u32 (page : Int), .int .i64 k, .int .i64 a, .string s, .string d, .int .i64 undo, .int .i64 index, .string key, .int .u32 (rp : Int), .int .i64 rs, .bool live, .slice ta txs.length tc, .slice da dirty.length dc]] w fun e w' => e = .returned (.tuple #[.string (⟨(kind : Int), (tx : Int), prev, next, page, ⟨k, a, s, d⟩, undo, index, ⟨key, rp, rs⟩, live, txs, dirty⟩ : Rc).enc, .int .i64 0]) ∧ Below w.heap.size w w' := by
  have hsz := hr.size.2
  generalize hE : (⟨(kind : Int), (tx : Int), prev, next, page, ⟨k, a, s, d⟩, undo, index, ⟨key, rp, rs⟩, live, txs, dirty⟩ : Rc).enc = enc at *
  have HE := Lib.hid hE
  have hprev := hm.prev
  have hnext := hm.next
  have ha1 := hr.a1
  have ha6 := hr.a6
  simp only at hprev hnext
  obtain ⟨hk1, hk2, htx1, htx2⟩ := ha1
  obtain ⟨_, hlt, hld⟩ := ha6
  simp only at hk1 hk2 htx1 htx2 hlt hld
  have H7 := Lib.hid hr.a7
  have HMT := Lib.hid hm.txs
  have HMD := Lib.hid hm.dirty
  have HCK := Lib.hid (recCheck_w (kind := (kind : Int)) (tx := (tx : Int)) (prev := prev) (next := next) (page := page) (k := k) (a := a) (s := s) (d := d) (undo := undo) (index := index) (key := key) (rp := rp) (rs := rs) (live := live) (dirty := dirty) ta da tc dc (w.alloc (.cells #[.int .i64 (kind : Int), .int .i64 (tx : Int), .int .u64 (prev : Int), .int .u64 (next : Int), .int .u32 (page : Int), .int .i64 k, .int .i64 a, .string s, .string d, .int .i64 undo, .int .i64 index, .string key, .int .u32 (rp : Int), .int .i64 rs, .bool live, .slice ta txs.length tc, .slice da dirty.length dc] 63)) (hT.below ((Below.refl _ _).alloc (Nat.le_refl _) _)) (by unfold maxLen; omega) (by unfold maxLen; omega))
  rw [if_pos hr] at HCK
  have HR := Lib.hid hr
  have HM := Lib.hid hm
  have HT := Lib.hid hT
  have HD := Lib.hid hD
  obtain ⟨bc, hbc⟩ : ∃ x, x = decide ((kind : Int) = 1 ∨ (kind : Int) = 2) := ⟨_, rfl⟩
  obtain ⟨bn, hbn⟩ : ∃ x, x = decide ((kind : Int) = 2 ∨ (kind : Int) = 3) := ⟨_, rfl⟩
  obtain ⟨bt, hbt⟩ : ∃ x, x = decide ((kind : Int) = 8) := ⟨_, rfl⟩
  have HN : ∀ W, Hid (Calls Tryz.prog 88 #[.int .i64 (kind : Int)] W fun e w' => e = .returned (.tuple #[.bool bc, .bool bn, .bool bt]) ∧ w' = W) := fun W => by
    rw [hbc, hbn, hbt]
    exact recNamed_c kind W
  have HBC : Hid ((⟨(kind : Int), (tx : Int), prev, next, page, ⟨k, a, s, d⟩, undo, index, ⟨key, rp, rs⟩, live, txs, dirty⟩ : Rc).chgsB = if bc then (⟨(kind : Int), (tx : Int), prev, next, page, ⟨k, a, s, d⟩, undo, index, ⟨key, rp, rs⟩, live, txs, dirty⟩ : Rc).chgB else ⟨#[]⟩) := by
    show _ = _
    unfold Rc.chgsB Rc.chg
    rw [hbc]
    simp only [decide_eq_true_eq]
  have HBN : Hid ((⟨(kind : Int), (tx : Int), prev, next, page, ⟨k, a, s, d⟩, undo, index, ⟨key, rp, rs⟩, live, txs, dirty⟩ : Rc).nxtB = if bn then leB next 8 else ⟨#[]⟩) := by
    show _ = _
    unfold Rc.nxtB Rc.nxt
    rw [hbn]
    simp only [decide_eq_true_eq]
  have HBT : Hid ((⟨(kind : Int), (tx : Int), prev, next, page, ⟨k, a, s, d⟩, undo, index, ⟨key, rp, rs⟩, live, txs, dirty⟩ : Rc).tabsB = if bt then (⟨(kind : Int), (tx : Int), prev, next, page, ⟨k, a, s, d⟩, undo, index, ⟨key, rp, rs⟩, live, txs, dirty⟩ : Rc).tabB else ⟨#[]⟩) := by
    show _ = _
    unfold Rc.tabsB Rc.tab
    rw [hbt]
    simp only [decide_eq_true_eq]
  have HCG : Hid (bc = true → (⟨(kind : Int), (tx : Int), prev, next, page, ⟨k, a, s, d⟩, undo, index, ⟨key, rp, rs⟩, live, txs, dirty⟩ : Rc).chg) := by
    show _ → _
    intro h
    rw [hbc] at h
    exact of_decide_eq_true h
  clear hbc hbn hbt hT hD hr hm hE
  have ek : IntKind.u64.wrap (kind : Int) = (kind : Int) := IntWalk.u64_in _ (by omega)
  have et : IntKind.u64.wrap (tx : Int) = (tx : Int) := IntWalk.u64_in _ (by omega)
  have elt : IntKind.u64.wrap (txs.length : Int) = (txs.length : Int) := IntWalk.u64_in _ (by omega)
  have eld : IntKind.u64.wrap (dirty.length : Int) = (dirty.length : Int) := IntWalk.u64_in _ (by omega)
  have hE0 : Hid (enc = leB kind 1 ++ (leB tx 4 ++ (leB prev 8 ++ ((⟨(kind : Int), (tx : Int), prev, next, page, ⟨k, a, s, d⟩, undo, index, ⟨key, rp, rs⟩, live, txs, dirty⟩ : Rc).nxtB ++ ((⟨(kind : Int), (tx : Int), prev, next, page, ⟨k, a, s, d⟩, undo, index, ⟨key, rp, rs⟩, live, txs, dirty⟩ : Rc).chgsB ++ (⟨(kind : Int), (tx : Int), prev, next, page, ⟨k, a, s, d⟩, undo, index, ⟨key, rp, rs⟩, live, txs, dirty⟩ : Rc).tabsB))))) := by
    show _ = _
    rw [← HE.out]
    unfold Rc.enc
    simp only [Int.toNat_natCast]
  have HSC := Lib.hid (show (⟨(kind : Int), (tx : Int), prev, next, page, ⟨k, a, s, d⟩, undo, index, ⟨key, rp, rs⟩, live, txs, dirty⟩ : Rc).nxtB.size ≤ 5700 ∧ (⟨(kind : Int), (tx : Int), prev, next, page, ⟨k, a, s, d⟩, undo, index, ⟨key, rp, rs⟩, live, txs, dirty⟩ : Rc).chgsB.size ≤ 5700 ∧ (⟨(kind : Int), (tx : Int), prev, next, page, ⟨k, a, s, d⟩, undo, index, ⟨key, rp, rs⟩, live, txs, dirty⟩ : Rc).tabsB.size ≤ 5700 by
    have := hE0.out
    have h2 : enc.size = (leB kind 1 ++ (leB tx 4 ++ (leB prev 8 ++ ((⟨(kind : Int), (tx : Int), prev, next, page, ⟨k, a, s, d⟩, undo, index, ⟨key, rp, rs⟩, live, txs, dirty⟩ : Rc).nxtB ++ ((⟨(kind : Int), (tx : Int), prev, next, page, ⟨k, a, s, d⟩, undo, index, ⟨key, rp, rs⟩, live, txs, dirty⟩ : Rc).chgsB ++ (⟨(kind : Int), (tx : Int), prev, next, page, ⟨k, a, s, d⟩, undo, index, ⟨key, rp, rs⟩, live, txs, dirty⟩ : Rc).tabsB))))).size := by rw [← this]
    simp only [ByteArray.size_append, leB_size] at h2
    omega)
  rw [HBN.out, HBC.out, HBT.out] at hE0 HSC
  have HTB : Hid ((⟨(kind : Int), (tx : Int), prev, next, page, ⟨k, a, s, d⟩, undo, index, ⟨key, rp, rs⟩, live, txs, dirty⟩ : Rc).tabB = leB txs.length 2 ++ (tssB txs ++ (leB dirty.length 2 ++ dpsB dirty))) := rfl
  have HPC : ∀ (W : World) (acc : ByteArray) (B wb : Nat), WrAt W B wb acc → acc.size ≤ 500000 → bc = true → Hid (Calls Tryz.prog 94 #[.pointer (some ⟨wb, 0, none⟩), .agg #[.int .i64 (kind : Int), .int .i64 (tx : Int), .int .u64 (prev : Int), .int .u64 (next : Int), .int .u32 (page : Int), .int .i64 k, .int .i64 a, .string s, .string d, .int .i64 undo, .int .i64 index, .string key, .int .u32 (rp : Int), .int .i64 rs, .bool live, .slice ta txs.length tc, .slice da dirty.length dc]] W fun e w' => e = .returned (.tuple #[]) ∧ WrAt w' B wb (acc ++ (⟨(kind : Int), (tx : Int), prev, next, page, ⟨k, a, s, d⟩, undo, index, ⟨key, rp, rs⟩, live, txs, dirty⟩ : Rc).chgB) ∧ Below B W w') := fun W acc B wb hw hz hb => recPut_c hw ta da tc dc HR.out HM.out (HCG.out hb) hz
  clear HE HBC HBN HBT HCG
  generalize (⟨(kind : Int), (tx : Int), prev, next, page, ⟨k, a, s, d⟩, undo, index, ⟨key, rp, rs⟩, live, txs, dirty⟩ : Rc).chgB = chgB at *
  generalize (⟨(kind : Int), (tx : Int), prev, next, page, ⟨k, a, s, d⟩, undo, index, ⟨key, rp, rs⟩, live, txs, dirty⟩ : Rc).tabB = tabB at *
  have hB6 := Blk.new w 63 #[.int .i64 (kind : Int), .int .i64 (tx : Int), .int .u64 (prev : Int), .int .u64 (next : Int), .int .u32 (page : Int), .int .i64 k, .int .i64 a, .string s, .string d, .int .i64 undo, .int .i64 index, .string key, .int .u32 (rp : Int), .int .i64 rs, .bool live, .slice ta txs.length tc, .slice da dirty.length dc]
  go_enter Tryz.func23, Tryz.ntmps23
  go_wp2_with (fail)
  refine HCK.out.mono ?_
  rintro e w2 ⟨rfl, hb2⟩
  obtain ⟨w1, hw1⟩ : ∃ w1, w.alloc (.cells #[.int .i64 (kind : Int), .int .i64 (tx : Int), .int .u64 (prev : Int), .int .u64 (next : Int), .int .u32 (page : Int), .int .i64 k, .int .i64 a, .string s, .string d, .int .i64 undo, .int .i64 index, .string key, .int .u32 (rp : Int), .int .i64 rs, .bool live, .slice ta txs.length tc, .slice da dirty.length dc] 63) = w1 := ⟨_, rfl⟩
  have hsz1 : w1.heap.size = w.heap.size + 1 := by rw [← hw1]; simp
  have hbw1 : Below w.heap.size w w1 := by rw [← hw1]; exact (Below.refl _ _).alloc (Nat.le_refl _) _
  rw [hw1] at hb2 hB6
  have hNW := newWriter_c w2 w1.heap.size hb2.size
  have HNW := Lib.hid hNW
  have HB2 := Lib.hid hb2
  have HB6 := Lib.hid (hB6.same (hb2.block _ (by omega)))
  have HW1 := Lib.hid hsz1
  have HBW := Lib.hid hbw1
  clear hNW hb2 hB6 hw1 hbw1 hsz1 HCK
  go_wp2_with (fail)
  refine HNW.out.mono ?_
  rintro e w3 ⟨wb, rfl, hw3, hb3⟩
  have hbb : Below w1.heap.size w1 w3 := HB2.out.trans (hb3.mono HB2.out.size)
  have H0 : Hid (PutSt w1 w1.heap.size wb w.heap.size 63 #[.int .i64 (kind : Int), .int .i64 (tx : Int), .int .u64 (prev : Int), .int .u64 (next : Int), .int .u32 (page : Int), .int .i64 k, .int .i64 a, .string s, .string d, .int .i64 undo, .int .i64 index, .string key, .int .u32 (rp : Int), .int .i64 rs, .bool live, .slice ta txs.length tc, .slice da dirty.length dc] ⟨#[]⟩ w3) := ⟨hw3, hbb, HB6.out.same (hb3.block _ HB6.out.lt)⟩
  have HFIN : ∀ W, Below w1.heap.size w1 W → Hid (Below w.heap.size w W) := fun W hW => HBW.out.trans (hW.mono HBW.out.size)
  have hz0 : (⟨#[]⟩ : ByteArray).size = 0 := rfl
  clear HNW hw3 hb3 HB2 HB6 HBW hbb
  have c0 : w3.cell? ⟨w.heap.size, 0, none⟩ = some (.int .i64 (kind : Int)) := H0.out.box.cell 0
  have HC := Lib.hid (H0.out.number (by decide) (by decide) kind 1 (by decide) (by first | omega | (simp only [ByteArray.size_append, leB_size]; omega)))
  go_wp2_with (fail)
  refine HC.out.mono ?_
  rintro e x1 ⟨rfl, hp, _⟩
  have H1 := Lib.hid hp
  clear hp HC c0
  have c1 : x1.cell? ⟨w.heap.size, 1, none⟩ = some (.int .i64 (tx : Int)) := H1.out.box.cell 1
  have HC := Lib.hid (H1.out.number (by decide) (by decide) tx 4 (by decide) (by first | omega | (simp only [ByteArray.size_append, leB_size]; omega)))
  go_wp2_with (fail)
  refine HC.out.mono ?_
  rintro e x2 ⟨rfl, hp, _⟩
  have H2 := Lib.hid hp
  clear hp HC c1
  have c2 : x2.cell? ⟨w.heap.size, 2, none⟩ = some (.int .u64 (prev : Int)) := H2.out.box.cell 2
  have HC := Lib.hid (H2.out.number (by decide) (by decide) prev 8 (by decide) (by first | omega | (simp only [ByteArray.size_append, leB_size]; omega)))
  go_wp2_with (fail)
  refine HC.out.mono ?_
  rintro e x3 ⟨rfl, hp, _⟩
  have H3 := Lib.hid hp
  clear hp HC c2
  have c0 : x3.cell? ⟨w.heap.size, 0, none⟩ = some (.int .i64 (kind : Int)) := H3.out.box.cell 0
  go_wp2_with (fail)
  refine (HN _).out.mono ?_
  rintro e w' ⟨rfl, rfl⟩
  clear HN c0
  have HA3 := Lib.hid (show (⟨#[]⟩ ++ leB kind 1 ++ leB tx 4 ++ leB prev 8 : ByteArray).size ≤ 13 by simp only [ByteArray.size_append, leB_size]; omega)
  generalize hA3 : (⟨#[]⟩ ++ leB kind 1 ++ leB tx 4 ++ leB prev 8 : ByteArray) = A3 at *
  have HA3e := Lib.hid hA3
  clear hA3
  go_upto_if 40 with (fail)
  go_cut [] from 41 to 44 (fun wx => Hid (PutSt w1 w1.heap.size wb w.heap.size 63 #[.int .i64 (kind : Int), .int .i64 (tx : Int), .int .u64 (prev : Int), .int .u64 (next : Int), .int .u32 (page : Int), .int .i64 k, .int .i64 a, .string s, .string d, .int .i64 undo, .int .i64 index, .string key, .int .u32 (rp : Int), .int .i64 rs, .bool live, .slice ta txs.length tc, .slice da dirty.length dc] (A3 ++ (if bn then leB next 8 else ⟨#[]⟩)) wx))
  case first =>
    cases bn with
    | true =>
      have c3 : w'.cell? ⟨w.heap.size, 3, none⟩ = some (.int .u64 (next : Int)) := H3.out.box.cell 3
      have HC := Lib.hid (H3.out.number (by decide) (by decide) next 8 (by decide) (by have := HA3.out; omega))
      go_wp2_with (fail)
      refine HC.out.mono ?_
      rintro e y ⟨rfl, hp, _⟩
      have HP := Lib.hid hp
      clear hp HC
      go_wp2_with (fail)
      go_meet
      rw [if_pos (by trivial)]
      exact HP
    | false =>
      go_wp2_with (fail)
      go_meet
      rw [if_neg (by simp), bytes_nil]
      exact H3
  case rest =>
  have H4 := hcut
  clear hcut H3
  have HA4 := Lib.hid (show (A3 ++ (if bn then leB next 8 else ⟨#[]⟩)).size ≤ 5713 by have h1 := HA3.out; have h2 := HSC.out.1; rw [ByteArray.size_append]; omega)
  generalize hA4 : A3 ++ (if bn then leB next 8 else ⟨#[]⟩) = A4 at *
  have HA4e := Lib.hid hA4
  clear hA4
  go_upto_if 45 with (fail)
  go_cut [] from 46 to 48 (fun wx => Hid (PutSt w1 w1.heap.size wb w.heap.size 63 #[.int .i64 (kind : Int), .int .i64 (tx : Int), .int .u64 (prev : Int), .int .u64 (next : Int), .int .u32 (page : Int), .int .i64 k, .int .i64 a, .string s, .string d, .int .i64 undo, .int .i64 index, .string key, .int .u32 (rp : Int), .int .i64 rs, .bool live, .slice ta txs.length tc, .slice da dirty.length dc] (A4 ++ (if bc then chgB else ⟨#[]⟩)) wx))
  case first =>
    cases bc with
    | true =>
      have c0 : wc.cell? ⟨w.heap.size, 0, none⟩ = some (.int .i64 (kind : Int)) := H4.out.box.cell 0
      have c1 : wc.cell? ⟨w.heap.size, 1, none⟩ = some (.int .i64 (tx : Int)) := H4.out.box.cell 1
      have c2 : wc.cell? ⟨w.heap.size, 2, none⟩ = some (.int .u64 (prev : Int)) := H4.out.box.cell 2
      have c3 : wc.cell? ⟨w.heap.size, 3, none⟩ = some (.int .u64 (next : Int)) := H4.out.box.cell 3
      have c4 : wc.cell? ⟨w.heap.size, 4, none⟩ = some (.int .u32 (page : Int)) := H4.out.box.cell 4
      have c5 : wc.cell? ⟨w.heap.size, 5, none⟩ = some (.int .i64 k) := H4.out.box.cell 5
      have c6 : wc.cell? ⟨w.heap.size, 6, none⟩ = some (.int .i64 a) := H4.out.box.cell 6
      have c7 : wc.cell? ⟨w.heap.size, 7, none⟩ = some (.string s) := H4.out.box.cell 7
      have c8 : wc.cell? ⟨w.heap.size, 8, none⟩ = some (.string d) := H4.out.box.cell 8
      have c9 : wc.cell? ⟨w.heap.size, 9, none⟩ = some (.int .i64 undo) := H4.out.box.cell 9
      have c10 : wc.cell? ⟨w.heap.size, 10, none⟩ = some (.int .i64 index) := H4.out.box.cell 10
      have c11 : wc.cell? ⟨w.heap.size, 11, none⟩ = some (.string key) := H4.out.box.cell 11
      have c12 : wc.cell? ⟨w.heap.size, 12, none⟩ = some (.int .u32 (rp : Int)) := H4.out.box.cell 12
      have c13 : wc.cell? ⟨w.heap.size, 13, none⟩ = some (.int .i64 rs) := H4.out.box.cell 13
      have c14 : wc.cell? ⟨w.heap.size, 14, none⟩ = some (.bool live) := H4.out.box.cell 14
      have c15 : wc.cell? ⟨w.heap.size, 15, none⟩ = some (.slice ta txs.length tc) := H4.out.box.cell 15
      have c16 : wc.cell? ⟨w.heap.size, 16, none⟩ = some (.slice da dirty.length dc) := H4.out.box.cell 16
      have HC := HPC wc A4 _ _ H4.out.wr (by have := HA4.out; omega) rfl
      clear HPC
      go_wp2_with (fail)
      refine HC.out.mono ?_
      rintro e y ⟨rfl, hp1, hp2⟩
      have HP : Hid (PutSt w1 w1.heap.size wb w.heap.size 63 #[.int .i64 (kind : Int), .int .i64 (tx : Int), .int .u64 (prev : Int), .int .u64 (next : Int), .int .u32 (page : Int), .int .i64 k, .int .i64 a, .string s, .string d, .int .i64 undo, .int .i64 index, .string key, .int .u32 (rp : Int), .int .i64 rs, .bool live, .slice ta txs.length tc, .slice da dirty.length dc] (A4 ++ chgB) y) := ⟨hp1, H4.out.base.trans hp2, H4.out.box.same (hp2.block _ (by have := HW1.out; omega))⟩
      clear hp1 hp2 HC c0 c1 c2 c3 c4 c5 c6 c7 c8 c9 c10 c11 c12 c13 c14 c15 c16
      go_wp2_with (fail)
      go_meet
      rw [if_pos (by trivial)]
      exact HP
    | false =>
      go_wp2_with (fail)
      go_meet
      rw [if_neg (by simp), bytes_nil]
      exact H4
  case rest =>
  have H5 := hcut
  clear hcut H4 HPC
  have HA5 := Lib.hid (show (A4 ++ (if bc then chgB else ⟨#[]⟩)).size ≤ 11413 by have h1 := HA4.out; have h2 := HSC.out.2.1; rw [ByteArray.size_append]; omega)
  generalize hA5 : A4 ++ (if bc then chgB else ⟨#[]⟩) = A5 at *
  have HA5e := Lib.hid hA5
  clear hA5
  have HENC : Hid (enc = A5 ++ (if bt then tabB else ⟨#[]⟩)) := by
    show _ = _
    rw [hE0.out, ← HA5e.out, ← HA4e.out, ← HA3e.out, bytes_nil']
    simp only [ByteArray.append_assoc]
  clear hE0 HSC HA3 HA3e HA4 HA4e HA5e
  cases bt with
  | false =>
    have HAL := Lib.hid (wall_c H5.out.wr)
    go_wp2_with (fail)
    refine HAL.out.mono ?_
    rintro e w' ⟨rfl, rfl⟩
    go_wp2_with (fail)
    refine bodyPost_ret (results_tmp2 rfl _ _ _) rfl ?_
    have e := HENC.out
    rw [if_neg (by simp), bytes_nil] at e
    exact ⟨by rw [e]; rfl, (HFIN _ H5.out.base).out⟩
  | true =>
    have hA5z := HA5.out
    have c15 : wc.cell? ⟨w.heap.size, 15, none⟩ = some (.slice ta txs.length tc) := H5.out.box.cell 15
    have HC := Lib.hid (H5.out.number (by decide) (by decide) txs.length 2 (by decide) (by omega))
    go_wp2_with (fail)
    refine HC.out.mono ?_
    rintro e x6 ⟨rfl, hp, _⟩
    have H6 := Lib.hid hp
    clear hp HC c15 H5
    have c15 : x6.cell? ⟨w.heap.size, 15, none⟩ = some (.slice ta txs.length tc) := H6.out.box.cell 15
    go_wp2_with (fail)
    go_loopw [59] (fun sj wx => ∃ j : Nat, sj = .int .i64 (j : Int) ∧ j ≤ txs.length ∧ Hid (PutSt w1 w1.heap.size wb w.heap.size 63 #[.int .i64 (kind : Int), .int .i64 (tx : Int), .int .u64 (prev : Int), .int .u64 (next : Int), .int .u32 (page : Int), .int .i64 k, .int .i64 a, .string s, .string d, .int .i64 undo, .int .i64 index, .string key, .int .u32 (rp : Int), .int .i64 rs, .bool live, .slice ta txs.length tc, .slice da dirty.length dc] (A5 ++ leB txs.length 2 ++ tssB (txs.take j)) wx)) (fun sj _ => txs.length - (intOf sj).toNat)
    case atStart => exact ⟨0, rfl, Nat.zero_le _, by rw [List.take_zero]; show Hid (PutSt _ _ _ _ _ _ (A5 ++ leB txs.length 2 ++ ⟨#[]⟩) _); rw [bytes_nil]; exact H6⟩
    case round =>
      clear c15 H6
      obtain ⟨j, rfl, hj, HL⟩ := hrel
      by_cases hjl : j < txs.length
      · obtain ⟨t, ht⟩ : ∃ t, txs[j]? = some t := ⟨_, List.getElem?_eq_getElem hjl⟩
        obtain ⟨tb, off, rfl, _, h1, h2, hbl, hc⟩ := HT.out.at_ ht
        have hHS := (HFIN _ HL.out.base).out
        obtain ⟨q1, q2, q3, q4⟩ := H7.out t (List.mem_of_getElem? ht)
        obtain ⟨_, _, q5, q6⟩ := HMT.out t (List.mem_of_getElem? ht)
        obtain ⟨tt, htt⟩ : ∃ n : Nat, t.tx = (n : Int) := ⟨t.tx.toNat, by omega⟩
        obtain ⟨ts, hts⟩ : ∃ n : Nat, t.state = (n : Int) := ⟨t.state.toNat, by omega⟩
        have HTE : Hid (tsB t = leB tt 4 ++ (leB ts 1 ++ (leB t.last 8 ++ leB t.next 8))) := by show _ = _; unfold tsB; rw [htt, hts]; rfl
        have etx : IntKind.u64.wrap (tt : Int) = (tt : Int) := IntWalk.u64_in _ (by omega)
        have ets : IntKind.u64.wrap (ts : Int) = (ts : Int) := IntWalk.u64_in _ (by omega)
        have d : ∀ (i : Nat) (u : Value), (tsC t)[i]? = some u → wr.cell? ⟨tb, off + j * 4 + i, none⟩ = some u := fun i u hu => (hHS.cell (p := ⟨tb, off + j * 4 + i, none⟩) hbl).trans (hc i u hu)
        have d0 : wr.cell? ⟨tb, off + j * 4, none⟩ = some (.int .i64 (tt : Int)) := by rw [← htt]; exact d 0 _ rfl
        have d1 : wr.cell? ⟨tb, off + j * 4 + 1, none⟩ = some (.int .i64 (ts : Int)) := by rw [← hts]; exact d 1 _ rfl
        have d2 : wr.cell? ⟨tb, off + j * 4 + 2, none⟩ = some (.int .u64 (t.last : Int)) := d 2 _ rfl
        have d3 : wr.cell? ⟨tb, off + j * 4 + 3, none⟩ = some (.int .u64 (t.next : Int)) := d 3 _ rfl
        have HTK : Hid (txs.take (j + 1) = txs.take j ++ [t]) := by show _ = _; rw [List.take_add_one, ht]; rfl
        have HQ := Lib.hid (And.intro htt hts)
        clear hc d hHS ht htt hts q1 q2 q3 q4
        have hcs := tssB_size (txs.take j)
        have htl : (txs.take j).length ≤ 256 := by rw [List.length_take]; omega
        have HZA : Hid ((A5 ++ leB txs.length 2 ++ tssB (txs.take j)).size ≤ 100000) := by show _ ≤ _; simp only [ByteArray.size_append, leB_size]; omega
        generalize hA9 : A5 ++ leB txs.length 2 ++ tssB (txs.take j) = A9 at *
        have HA9e := Lib.hid hA9
        clear hA9 hcs htl
        have hA9z := HZA.out
        have HS0 : Hid (PutSt w1 w1.heap.size wb wr.heap.size 44 #[.int .i64 (tt : Int), .int .i64 (ts : Int), .int .u64 (t.last : Int), .int .u64 (t.next : Int)] A9 (wr.alloc (.cells #[.int .i64 (tt : Int), .int .i64 (ts : Int), .int .u64 (t.last : Int), .int .u64 (t.next : Int)] 44)) ∧ Blk (wr.alloc (.cells #[.int .i64 (tt : Int), .int .i64 (ts : Int), .int .u64 (t.last : Int), .int .u64 (t.next : Int)] 44)) w.heap.size 63 #[.int .i64 (kind : Int), .int .i64 (tx : Int), .int .u64 (prev : Int), .int .u64 (next : Int), .int .u32 (page : Int), .int .i64 k, .int .i64 a, .string s, .string d, .int .i64 undo, .int .i64 index, .string key, .int .u32 (rp : Int), .int .i64 rs, .bool live, .slice (some ⟨tb, off, none⟩) txs.length tc, .slice da dirty.length dc]) := ⟨⟨HL.out.wr.below ((Below.refl _ _).alloc (Nat.le_refl _) _), HL.out.base.alloc (HL.out.base.size) _, Blk.new wr _ _⟩, HL.out.box.same (((Below.refl wr.heap.size wr).alloc (Nat.le_refl _) _).block _ HL.out.box.lt)⟩
        have f0 : (wr.alloc (.cells #[.int .i64 (tt : Int), .int .i64 (ts : Int), .int .u64 (t.last : Int), .int .u64 (t.next : Int)] 44)).cell? ⟨wr.heap.size, 0, none⟩ = some (.int .i64 (tt : Int)) := HS0.out.1.box.cell 0
        have HC := Lib.hid (HS0.out.1.number (by decide) (by decide) tt 4 (by decide) (by first | omega | (simp only [ByteArray.size_append, leB_size]; omega)))
        go_wp2_with (fail)
        refine HC.out.mono ?_
        rintro e z1 ⟨rfl, hp, hk⟩
        have HS1 := Lib.hid (And.intro hp (hk.blk_ HS0.out.2 (by decide) (by decide)))
        clear hp hk HC f0 d0 d1 d2 d3
        have f1 : z1.cell? ⟨wr.heap.size, 1, none⟩ = some (.int .i64 (ts : Int)) := HS1.out.1.box.cell 1
        have HC := Lib.hid (HS1.out.1.number (by decide) (by decide) ts 1 (by decide) (by first | omega | (simp only [ByteArray.size_append, leB_size]; omega)))
        go_wp2_with (fail)
        refine HC.out.mono ?_
        rintro e z2 ⟨rfl, hp, hk⟩
        have HS2 := Lib.hid (And.intro hp (hk.blk_ HS1.out.2 (by decide) (by decide)))
        clear hp hk HC f1
        have f2 : z2.cell? ⟨wr.heap.size, 2, none⟩ = some (.int .u64 (t.last : Int)) := HS2.out.1.box.cell 2
        have HC := Lib.hid (HS2.out.1.number (by decide) (by decide) t.last 8 (by decide) (by first | omega | (simp only [ByteArray.size_append, leB_size]; omega)))
        go_wp2_with (fail)
        refine HC.out.mono ?_
        rintro e z3 ⟨rfl, hp, hk⟩
        have HS3 := Lib.hid (And.intro hp (hk.blk_ HS2.out.2 (by decide) (by decide)))
        clear hp hk HC f2
        have f3 : z3.cell? ⟨wr.heap.size, 3, none⟩ = some (.int .u64 (t.next : Int)) := HS3.out.1.box.cell 3
        have HC := Lib.hid (HS3.out.1.number (by decide) (by decide) t.next 8 (by decide) (by first | omega | (simp only [ByteArray.size_append, leB_size]; omega)))
        go_wp2_with (fail)
        refine HC.out.mono ?_
        rintro e z4 ⟨rfl, hp, hk⟩
        have HS4 := Lib.hid (And.intro hp (hk.blk_ HS3.out.2 (by decide) (by decide)))
        clear hp hk HC f3
        go_wp2_with (fail)
        go_roundw
        case rel => exact ⟨j + 1, by go_num, by omega, Lib.hid ⟨by
          have h := HS4.out.1.wr
          rw [HTK.out, tssB_snoc, HTE.out, ← ByteArray.append_assoc, HA9e.out]
          simp only [ByteArray.append_assoc] at h ⊢
          exact h, HS4.out.1.base, HS4.out.2⟩⟩
        case measure => simp [intOf]; omega
      · obtain rfl : j = txs.length := by omega
        rw [List.take_length] at HL
        clear HT H7 HMT
        have HZ : Hid ((A5 ++ leB txs.length 2 ++ tssB txs).size ≤ 13000) := by show _ ≤ _; simp only [ByteArray.size_append, leB_size, tssB_size]; omega
        generalize hA6 : A5 ++ leB txs.length 2 ++ tssB txs = A6 at *
        have HA6e := Lib.hid hA6
        clear hA6
        have hA6z := HZ.out
        have c16 : wr.cell? ⟨w.heap.size, 16, none⟩ = some (.slice da dirty.length dc) := HL.out.box.cell 16
        have HC := Lib.hid (HL.out.number (by decide) (by decide) dirty.length 2 (by decide) (by omega))
        go_wp2_with (fail)
        refine HC.out.mono ?_
        rintro e x7 ⟨rfl, hp, _⟩
        have H7 := Lib.hid hp
        clear hp HC c16 HL
        have c16 : x7.cell? ⟨w.heap.size, 16, none⟩ = some (.slice da dirty.length dc) := H7.out.box.cell 16
        go_wp2_with (fail)
        go_loopw [91] (fun sj wx => ∃ j : Nat, sj = .int .i64 (j : Int) ∧ j ≤ dirty.length ∧ Hid (PutSt w1 w1.heap.size wb w.heap.size 63 #[.int .i64 (kind : Int), .int .i64 (tx : Int), .int .u64 (prev : Int), .int .u64 (next : Int), .int .u32 (page : Int), .int .i64 k, .int .i64 a, .string s, .string d, .int .i64 undo, .int .i64 index, .string key, .int .u32 (rp : Int), .int .i64 rs, .bool live, .slice ta txs.length tc, .slice da dirty.length dc] (A6 ++ leB dirty.length 2 ++ dpsB (dirty.take j)) wx)) (fun sj _ => dirty.length - (intOf sj).toNat)
        case atStart => exact ⟨0, rfl, Nat.zero_le _, by rw [List.take_zero]; show Hid (PutSt _ _ _ _ _ _ (A6 ++ leB dirty.length 2 ++ ⟨#[]⟩) _); rw [bytes_nil]; exact H7⟩
        case round =>
          clear c16 H7
          obtain ⟨j, rfl, hj, HL⟩ := hrel
          by_cases hjl : j < dirty.length
          · obtain ⟨t, ht⟩ : ∃ t, dirty[j]? = some t := ⟨_, List.getElem?_eq_getElem hjl⟩
            obtain ⟨tb, off, rfl, _, h1, h2, hbl, hc⟩ := HD.out.at_ ht
            have hHS := (HFIN _ HL.out.base).out
            obtain ⟨q5, q6⟩ := HMD.out t (List.mem_of_getElem? ht)
            have HTE : Hid (dpB t = leB t.1 4 ++ leB t.2 8) := rfl
            have etx : IntKind.u64.wrap (t.1 : Int) = (t.1 : Int) := IntWalk.u64_in _ (by omega)
            have d : ∀ (i : Nat) (u : Value), (dpC t)[i]? = some u → wr.cell? ⟨tb, off + j * 2 + i, none⟩ = some u := fun i u hu => (hHS.cell (p := ⟨tb, off + j * 2 + i, none⟩) hbl).trans (hc i u hu)
            have d0 : wr.cell? ⟨tb, off + j * 2, none⟩ = some (.int .u32 (t.1 : Int)) := d 0 _ rfl
            have d1 : wr.cell? ⟨tb, off + j * 2 + 1, none⟩ = some (.int .u64 (t.2 : Int)) := d 1 _ rfl
            have HTK : Hid (dirty.take (j + 1) = dirty.take j ++ [t]) := by show _ = _; rw [List.take_add_one, ht]; rfl
            clear hc d hHS ht
            have hcs := dpsB_size (dirty.take j)
            have htl : (dirty.take j).length ≤ 256 := by rw [List.length_take]; omega
            have HZA : Hid ((A6 ++ leB dirty.length 2 ++ dpsB (dirty.take j)).size ≤ 100000) := by show _ ≤ _; simp only [ByteArray.size_append, leB_size]; omega
            generalize hA9 : A6 ++ leB dirty.length 2 ++ dpsB (dirty.take j) = A9 at *
            have HA9e := Lib.hid hA9
            clear hA9 hcs htl
            have hA9z := HZA.out
            have HS0 : Hid (PutSt w1 w1.heap.size wb wr.heap.size 50 #[.int .u32 (t.1 : Int), .int .u64 (t.2 : Int)] A9 (wr.alloc (.cells #[.int .u32 (t.1 : Int), .int .u64 (t.2 : Int)] 50)) ∧ Blk (wr.alloc (.cells #[.int .u32 (t.1 : Int), .int .u64 (t.2 : Int)] 50)) w.heap.size 63 #[.int .i64 (kind : Int), .int .i64 (tx : Int), .int .u64 (prev : Int), .int .u64 (next : Int), .int .u32 (page : Int), .int .i64 k, .int .i64 a, .string s, .string d, .int .i64 undo, .int .i64 index, .string key, .int .u32 (rp : Int), .int .i64 rs, .bool live, .slice ta txs.length tc, .slice (some ⟨tb, off, none⟩) dirty.length dc]) := ⟨⟨HL.out.wr.below ((Below.refl _ _).alloc (Nat.le_refl _) _), HL.out.base.alloc (HL.out.base.size) _, Blk.new wr _ _⟩, HL.out.box.same (((Below.refl wr.heap.size wr).alloc (Nat.le_refl _) _).block _ HL.out.box.lt)⟩
            have f0 : (wr.alloc (.cells #[.int .u32 (t.1 : Int), .int .u64 (t.2 : Int)] 50)).cell? ⟨wr.heap.size, 0, none⟩ = some (.int .u32 (t.1 : Int)) := HS0.out.1.box.cell 0
            have HC := Lib.hid (HS0.out.1.number (by decide) (by decide) t.1 4 (by decide) (by first | omega | (simp only [ByteArray.size_append, leB_size]; omega)))
            go_wp2_with (fail)
            refine HC.out.mono ?_
            rintro e z1 ⟨rfl, hp, hk⟩
            have HS1 := Lib.hid (And.intro hp (hk.blk_ HS0.out.2 (by decide) (by decide)))
            clear hp hk HC f0 d0 d1
            have f1 : z1.cell? ⟨wr.heap.size, 1, none⟩ = some (.int .u64 (t.2 : Int)) := HS1.out.1.box.cell 1
            have HC := Lib.hid (HS1.out.1.number (by decide) (by decide) t.2 8 (by decide) (by first | omega | (simp only [ByteArray.size_append, leB_size]; omega)))
            go_wp2_with (fail)
            refine HC.out.mono ?_
            rintro e z2 ⟨rfl, hp, hk⟩
            have HS2 := Lib.hid (And.intro hp (hk.blk_ HS1.out.2 (by decide) (by decide)))
            clear hp hk HC f1
            go_wp2_with (fail)
            go_roundw
            case rel => exact ⟨j + 1, by go_num, by omega, Lib.hid ⟨by
              have h := HS2.out.1.wr
              rw [HTK.out, dpsB_snoc, HTE.out, ← ByteArray.append_assoc, HA9e.out]
              simp only [ByteArray.append_assoc] at h ⊢
              exact h, HS2.out.1.base, HS2.out.2⟩⟩
            case measure => simp [intOf]; omega
          · obtain rfl : j = dirty.length := by omega
            rw [List.take_length] at HL
            have HAL := Lib.hid (wall_c HL.out.wr)
            go_wp2_with (fail)
            refine HAL.out.mono ?_
            rintro e w' ⟨rfl, rfl⟩
            go_wp2_with (fail)
            refine bodyPost_ret (results_tmp2 rfl _ _ _) rfl ?_
            have e := HENC.out
            rw [if_pos (by trivial), HTB.out] at e
            have e2 : A6 ++ leB dirty.length 2 ++ dpsB dirty = enc := by rw [e, ← HA6e.out]; simp only [ByteArray.append_assoc]
            rw [e2]
            exact ⟨rfl, (HFIN _ HL.out.base).out⟩
end
end Go.Proofs.YtpnndlahfllbhaaGreat
