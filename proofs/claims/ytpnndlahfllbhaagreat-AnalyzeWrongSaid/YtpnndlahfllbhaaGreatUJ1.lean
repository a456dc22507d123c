/-
  The walks of the document's small functions on lists (girderref19): without, dirty, fresh.
-/
import Derived.Test.YtpnndlahfllbhaaGreatUJ0
namespace Go.Proofs.YtpnndlahfllbhaaGreat
open Go.RowKit
attribute [local go_sem ↓] Go.wp_at_zero Go.wp_at_succ

theorem alloc2_new (w : World) (o o' : Obj) : ((w.alloc o).alloc o').heap[w.heap.size + 1]? = some o' := by
  have := heap_alloc_new (w.alloc o) o'
  simpa using this
section
variable {w : World} {l : List Ts}
set_option maxRecDepth 100000 in
set_option maxHeartbeats 2000000 in
theorem without19_c {v : Value} (hr : RdC 4 tsC w v l) (tx : Int) (hlen : l.length ≤ 1000000000) :
    Calls Tryz.prog 167 #[v, .int .i64 tx] w fun e w' => ∃ v', e = .returned v' ∧ RdC 4 tsC w' v' (l.filter fun t => !decide (t.tx = tx)) ∧ Below w.heap.size w w' ∧ (∀ k, v'.ownBlock = some k → w.heap.size ≤ k) := by
  obtain ⟨la, lc, rfl⟩ := hr.form
  obtain ⟨its, hits, hz0, hz1, hz2⟩ := info_parts infoSt19
  have HR := Lib.hid hr
  have HS0 : Hid (RowSt 46 4 tsC w (.slice (some ⟨w.heap.size, 0, none⟩) 0 0) [] (w.alloc (.cells #[] 46))) := RowSt.made w
  clear hr
  generalize hpt : (l.filter fun t => !decide (t.tx = tx)) = res
  have HPT := Lib.hid hpt
  clear hpt
  go_enter Tryz.func167, Tryz.ntmps167
  go_wp2_with (fail)
  go_loopw [6, 5] (fun i v wr => ∃ (k : Nat) (ys : List Ts) (va : Option Addr) (vc : Nat), i = .int .i64 (k : Int) ∧ v = .slice va ys.length vc ∧ k ≤ l.length ∧ ys.length ≤ k ∧ Hid (RowSt 46 4 tsC w v ys wr) ∧ Hid (res = ys ++ (l.drop k).filter fun t => !decide (t.tx = tx))) (fun i _ _ => l.length - (intOf i).toNat)
  case atStart => exact ⟨0, [], _, _, rfl, rfl, Nat.zero_le _, Nat.zero_le _, HS0, Lib.hid (by rw [← HPT.out]; simp)⟩
  case round =>
    obtain ⟨k, ys, va, vc, rfl, rfl, hk, hys, hS, hP⟩ := hrel
    by_cases hkl : k < l.length
    · obtain ⟨x, hx⟩ : ∃ x, l[k]? = some x := ⟨_, List.getElem?_eq_getElem hkl⟩
      obtain ⟨tb, off, rfl, _, h1, h2, hbl, hc⟩ := HR.out.at_ hx
      have hW := hS.out.base
      have d0 : wr.cell? ⟨tb, off + k * 4, none⟩ = some (.int .i64 x.tx) := (hW.cell (p := ⟨tb, off + k * 4 + 0, none⟩) hbl).trans (hc 0 _ rfl)
      have d1 : wr.cell? ⟨tb, off + k * 4 + 1, none⟩ = some (.int .i64 x.state) := (hW.cell (p := ⟨tb, off + k * 4 + 1, none⟩) hbl).trans (hc 1 _ rfl)
      have d2 : wr.cell? ⟨tb, off + k * 4 + 2, none⟩ = some (.int .u64 (x.last : Int)) := (hW.cell (p := ⟨tb, off + k * 4 + 2, none⟩) hbl).trans (hc 2 _ rfl)
      have d3 : wr.cell? ⟨tb, off + k * 4 + 3, none⟩ = some (.int .u64 (x.next : Int)) := (hW.cell (p := ⟨tb, off + k * 4 + 3, none⟩) hbl).trans (hc 3 _ rfl)
      have HPK : Hid (res = ys ++ (x :: l.drop (k + 1)).filter fun t => !decide (t.tx = tx)) := by
        show _ = _
        rw [hP.out, List.drop_eq_getElem_cons hkl]
        congr 3
        rw [List.getElem?_eq_getElem hkl] at hx
        exact Option.some.inj hx
      have HJ := Lib.hid hkl
      have HYS := Lib.hid hys
      have hkl2 : k < 1000000000 := by omega
      clear hc hx hP hys hW
      by_cases he : x.tx = tx
      · have he' : (x.tx == tx) = true := by simp [he]
        have he2 : (x.tx != tx) = false := by simp [he]
        have HP2 : Hid (res = ys ++ (l.drop (k + 1)).filter fun t => !decide (t.tx = tx)) := by
          show _ = _
          rw [HPK.out, List.filter_cons_of_neg (by simp [he])]
        clear he
        go_wp2_with (fail)
        go_roundw
        case rel => exact ⟨k + 1, ys, va, vc, by go_num, rfl, HJ.out, by have := HYS.out; omega, hS, HP2⟩
        case measure => have := HJ.out; simp [intOf]; omega
      · have he' : (x.tx == tx) = false := by simp [he]
        have he2 : (x.tx != tx) = true := by simp [he]
        have HP2 : Hid (res = (ys ++ [x]) ++ (l.drop (k + 1)).filter fun t => !decide (t.tx = tx)) := by
          show _ = _
          rw [HPK.out, List.filter_cons_of_pos (by simp [he])]
          simp
        have M1 : Hid (ys.length + 1 ≤ maxLen) := by have := HYS.out; show _ ≤ maxLen; simp only [maxLen]; omega
        have M2 : Hid ((ys.length + 1) * 32 ≤ 140737488355328) := by have := HYS.out; show _ ≤ 140737488355328; omega
        clear he
        go_wp2_with (at_builtin; refine wpList_append_own_at _ (by rfl) _ _ 37 (by rfl) w.heap.size 46 its _ 4 32 Tryz.underlying37 hits hz0 hz1 hz2 rfl (by omega) (.slice va ys.length vc) ys.length (cellsL tsC ys) (by rfl) (hS.out.below ((Below.refl _ _).alloc (Nat.le_refl _) _)).row ⟨_, 0, none⟩ 1 1 (tsC x) (by rfl) (by rfl) (World.news_of_block (cs := (tsC x).toArray) (t := 46) (fr := (0, 0)) (heap_alloc_new _ _)) (tsC_one x) M1.out M2.out (hS.out.below ((Below.refl _ _).alloc (Nat.le_refl _) _)).base.size ?_; intro v1 w5 q1 q2 q3 q4; obtain ⟨va1, vc1, rfl⟩ := own_form q1; have HS5 := Lib.hid ((hS.out.below ((Below.refl _ _).alloc (Nat.le_refl _) _)).push q1 rfl q2); clear q1 q2 q3 q4)
        go_roundw
        case rel => exact ⟨k + 1, ys ++ [x], va1, vc1, by go_num, by simp, HJ.out, by have := HYS.out; simp; omega, HS5, HP2⟩
        case measure => have := HJ.out; simp [intOf]; omega
    · obtain rfl : k = l.length := by omega
      have HP2 : Hid (res = ys) := by show _ = _; rw [hP.out, List.drop_length]; simp
      go_wp2_with (fail)
      go_ret
      refine ⟨_, rfl, ?_, hS.out.base, fun q hq => (hS.out.row.lt q hq).1⟩
      rw [HP2.out]
      exact RdC.of_own tsC_len' hS.out.row
end
section
variable {w : World} {l : List (Nat × Nat)}
set_option maxRecDepth 100000 in
set_option maxHeartbeats 2000000 in
theorem dirty19_c {v : Value} (hr : RdC 2 dpC w v l) (y : Nat × Nat) (hlen : l.length ≤ 1000000000) :
    Calls Tryz.prog 84 #[v, .agg (dpC y).toArray] w fun e w' => ∃ v', e = .returned v' ∧ RdC 2 dpC w' v' (dirT y l false) ∧ Below w.heap.size w w' ∧ (∀ k, v'.ownBlock = some k → w.heap.size ≤ k) := by
  obtain ⟨la, lc, rfl⟩ := hr.form
  obtain ⟨its, hits, hz0, hz1, hz2⟩ := info_parts infoDt19
  have hBX := BoxAt.new w 52 #[.int .u32 (y.1 : Int), .int .u64 (y.2 : Int)]
  show Calls Tryz.prog 84 #[_, .agg #[.int .u32 (y.1 : Int), .int .u64 (y.2 : Int)]] w _
  obtain ⟨w1, hw1⟩ : ∃ w1, w.alloc (.cells #[.int .u32 (y.1 : Int), .int .u64 (y.2 : Int)] 52) = w1 := ⟨_, rfl⟩
  rw [hw1] at hBX
  have HR := Lib.hid (hr.below hBX.base)
  have HS0 : Hid (RowSt 52 2 dpC w1 (.slice (some ⟨w1.heap.size, 0, none⟩) 0 0) [] (w1.alloc (.cells #[] 52))) := RowSt.made w1
  have HBX := Lib.hid hBX
  clear hr hBX
  generalize hpt : dirT y l false = res
  have HPT := Lib.hid hpt
  clear hpt
  go_enter Tryz.func84, Tryz.ntmps84
  go_wp2_with (fail)
  clear hw1
  go_loopw [7, 6, 5] (fun i d v wr => ∃ (k : Nat) (db : Bool) (ys : List (Nat × Nat)) (va : Option Addr) (vc : Nat), i = .int .i64 (k : Int) ∧ d = .bool db ∧ v = .slice va ys.length vc ∧ k ≤ l.length ∧ ys.length ≤ 2 * k ∧ Hid (RowSt 52 2 dpC w1 v ys wr) ∧ Hid (res = ys ++ dirT y (l.drop k) db)) (fun i _ _ _ => l.length - (intOf i).toNat)
  case atStart => exact ⟨0, false, [], _, _, rfl, rfl, rfl, Nat.zero_le _, by simp, HS0, Lib.hid (by rw [← HPT.out]; simp)⟩
  case round =>
    obtain ⟨k, db, ys, va, vc, rfl, rfl, rfl, hk, hys, hS, hP⟩ := hrel
    by_cases hkl : k < l.length
    · obtain ⟨x, hx⟩ : ∃ x, l[k]? = some x := ⟨_, List.getElem?_eq_getElem hkl⟩
      obtain ⟨tb, off, rfl, _, h1, h2, hbl, hc⟩ := HR.out.at_ hx
      have HFX : ∀ W, Below w1.heap.size w1 W → Hid (W.cell? ⟨tb, off + k * 2, none⟩ = some (.int .u32 (x.1 : Int)) ∧ W.cell? ⟨tb, off + k * 2 + 1, none⟩ = some (.int .u64 (x.2 : Int)) ∧ W.cell? ⟨w.heap.size, 0, none⟩ = some (.int .u32 (y.1 : Int)) ∧ W.cell? ⟨w.heap.size, 1, none⟩ = some (.int .u64 (y.2 : Int))) := fun W hW =>
        ⟨(hW.cell (p := ⟨tb, off + k * 2 + 0, none⟩) hbl).trans (hc 0 _ rfl), (hW.cell (p := ⟨tb, off + k * 2 + 1, none⟩) hbl).trans (hc 1 _ rfl), (HBX.out.blk.same (hW.block _ HBX.out.blk.lt)).cell 0, (HBX.out.blk.same (hW.block _ HBX.out.blk.lt)).cell 1⟩
      have HPK : Hid (res = ys ++ dirT y (x :: l.drop (k + 1)) db) := by
        show _ = _
        rw [hP.out, List.drop_eq_getElem_cons hkl]
        congr 3
        rw [List.getElem?_eq_getElem hkl] at hx
        exact Option.some.inj hx
      have HJ := Lib.hid hkl
      have HYS := Lib.hid hys
      have hkl2 : k < 1000000000 := by omega
      have M1 : Hid (ys.length + 1 ≤ maxLen) := by have := HYS.out; show _ ≤ maxLen; simp only [maxLen]; omega
      have M2 : Hid ((ys.length + 1) * 16 ≤ 140737488355328) := by have := HYS.out; show _ ≤ 140737488355328; omega
      obtain ⟨d0, d1, b0, b1⟩ := (HFX _ hS.out.base).out
      clear hc hx hP hys
      go_upto_region 6 with (fail)
      go_cut [23] (fun s22 wx => ∃ b, s22 = .bool b ∧ Hid (TBool b (x.1 = y.1)) ∧ Hid (RowSt 52 2 dpC w1 (.slice va ys.length vc) ys wx))
      case first =>
        by_cases he : x.1 = y.1
        · have he' : ((x.1 : Int) == (y.1 : Int)) = true := by simp [he]
          have he2 : (x.1 == y.1) = true := by simp [he]
          have HE := Lib.hid he
          clear he
          go_quiet (fail)
          go_wp2_with (fail)
          go_meet
          exact ⟨true, rfl, Lib.hid (iff_of_true rfl HE.out), hS.out.drewN _⟩
        · have he' : ((x.1 : Int) == (y.1 : Int)) = false := by simp; omega
          have he2 : (x.1 == y.1) = false := by simp [he]
          have HE := Lib.hid he
          clear he
          go_quiet (fail)
          go_wp2_with (fail)
          go_meet
          exact ⟨false, rfl, Lib.hid (iff_of_false Bool.false_ne_true HE.out), hS.out.drewN _⟩
      case rest =>
      clear d0 d1 b0 b1
      obtain ⟨b, rfl, hb, hS1⟩ := hcut
      obtain ⟨d0, d1, b0, b1⟩ := (HFX _ hS1.out.base).out
      clear hS
      cases b with
      | true =>
        have hwl : w.heap.size < wc.heap.size := Nat.lt_of_lt_of_le HBX.out.blk.lt hS1.out.base.size
        by_cases hlt : (y.2 : Int) < (x.2 : Int)
        · have HP2 : Hid (res = (ys ++ [y]) ++ dirT y (l.drop (k + 1)) true) := by
            show _ = _
            rw [HPK.out, dirT, if_pos (hb.out.1 rfl), if_pos (by omega)]
            simp
          go_wp2_with (at_builtin; refine wpList_append_own_at _ (by rfl) _ _ 38 (by rfl) w1.heap.size 52 its _ 2 16 Tryz.underlying38 hits hz0 hz1 hz2 rfl (by omega) (.slice va ys.length vc) ys.length (cellsL dpC ys) (by rfl) ((hS1.out.below ((Below.refl _ _).alloc (Nat.le_refl _) _)).below ((Below.refl _ _).alloc (Nat.le_refl _) _)).row ⟨wc.heap.size + 1, 0, none⟩ 1 1 (dpC y) (by rfl) (by rfl) (World.news_of_block (cs := (dpC y).toArray) (t := 52) (fr := (0, 0)) (alloc2_new wc _ _)) (dpC_one y) M1.out M2.out ((hS1.out.below ((Below.refl _ _).alloc (Nat.le_refl _) _)).below ((Below.refl _ _).alloc (Nat.le_refl _) _)).base.size ?_; intro v1 w5 q1 q2 q3 q4; obtain ⟨va1, vc1, rfl⟩ := own_form q1; have HS5 := Lib.hid (((hS1.out.below ((Below.refl _ _).alloc (Nat.le_refl _) _)).below ((Below.refl _ _).alloc (Nat.le_refl _) _)).push q1 rfl q2); clear q1 q2 q3 q4)
          go_roundw
          case rel => exact ⟨k + 1, true, ys ++ [y], va1, vc1, by go_num, rfl, by simp, HJ.out, by have := HYS.out; simp; omega, by simpa using HS5, HP2⟩
          case measure => have := HJ.out; simp [intOf]; omega
        · have HP2 : Hid (res = (ys ++ [x]) ++ dirT y (l.drop (k + 1)) true) := by
            show _ = _
            rw [HPK.out, dirT, if_pos (hb.out.1 rfl), if_neg (by omega)]
            simp
          go_wp2_with (at_builtin; refine wpList_append_own_at _ (by rfl) _ _ 38 (by rfl) w1.heap.size 52 its _ 2 16 Tryz.underlying38 hits hz0 hz1 hz2 rfl (by omega) (.slice va ys.length vc) ys.length (cellsL dpC ys) (by rfl) ((hS1.out.below ((Below.refl _ _).alloc (Nat.le_refl _) _)).below ((Below.refl _ _).alloc (Nat.le_refl _) _)).row ⟨wc.heap.size + 1, 0, none⟩ 1 1 (dpC x) (by rfl) (by rfl) (World.news_of_block (cs := (dpC x).toArray) (t := 52) (fr := (0, 0)) (alloc2_new wc _ _)) (dpC_one x) M1.out M2.out ((hS1.out.below ((Below.refl _ _).alloc (Nat.le_refl _) _)).below ((Below.refl _ _).alloc (Nat.le_refl _) _)).base.size ?_; intro v1 w5 q1 q2 q3 q4; obtain ⟨va1, vc1, rfl⟩ := own_form q1; have HS5 := Lib.hid (((hS1.out.below ((Below.refl _ _).alloc (Nat.le_refl _) _)).below ((Below.refl _ _).alloc (Nat.le_refl _) _)).push q1 rfl q2); clear q1 q2 q3 q4)
          go_roundw
          case rel => exact ⟨k + 1, true, ys ++ [x], va1, vc1, by go_num, rfl, by simp, HJ.out, by have := HYS.out; simp; omega, by simpa using HS5, HP2⟩
          case measure => have := HJ.out; simp [intOf]; omega
      | false =>
        have hne : ¬ x.1 = y.1 := fun h => Bool.false_ne_true (hb.out.2 h)
        have HNE := Lib.hid hne
        clear hne hb
        go_upto_region 12 with (fail)
        go_cut [49] (fun s34 wx => ∃ b, s34 = .bool b ∧ Hid (TBool b (ahead19 db (y.1 : Int) (x.1 : Int))) ∧ Hid (RowSt 52 2 dpC w1 (.slice va ys.length vc) ys wx))
        case first =>
          cases db with
          | true =>
            go_quiet (fail)
            go_wp2_with (fail)
            go_meet
            exact ⟨false, rfl, Lib.hid (iff_of_false Bool.false_ne_true (fun h => by cases h.1)), hS1.out.drewN _⟩
          | false =>
            by_cases hlt : (y.1 : Int) < (x.1 : Int)
            · have HLT := Lib.hid hlt
              go_quiet (fail)
              go_wp2_with (fail)
              go_meet
              exact ⟨true, rfl, Lib.hid (iff_of_true rfl ⟨rfl, HLT.out⟩), hS1.out.drewN _⟩
            · have HLT := Lib.hid hlt
              go_quiet (fail)
              go_wp2_with (fail)
              go_meet
              exact ⟨false, rfl, Lib.hid (iff_of_false Bool.false_ne_true (fun h => by have h1 := HLT.out; have h2 := h.2; omega)), hS1.out.drewN _⟩
        case rest =>
        clear d0 d1 b0 b1
        obtain ⟨b2, rfl, hb2, hS2⟩ := hcut
        obtain ⟨d0, d1, b0, b1⟩ := (HFX _ hS2.out.base).out
        clear hS1
        go_upto_if 49 with (fail)
        go_cut [5, 6] (fun s5 s6 wx => ∃ (db' : Bool) (ys' : List (Nat × Nat)) (va' : Option Addr) (vc' : Nat), s6 = .bool db' ∧ s5 = .slice va' ys'.length vc' ∧ ys'.length ≤ 2 * k + 1 ∧ Hid (RowSt 52 2 dpC w1 (.slice va' ys'.length vc') ys' wx) ∧ Hid (res = ys' ++ x :: dirT y (l.drop (k + 1)) db'))
        case first =>
          cases b2 with
          | false =>
            have HP2 : Hid (res = ys ++ x :: dirT y (l.drop (k + 1)) db) := by
              show _ = _
              rw [HPK.out, dirT, if_neg HNE.out, if_neg (show ¬ (db = false ∧ y.1 < x.1) from fun h => Bool.false_ne_true (hb2.out.2 ⟨h.1, by have := h.2; omega⟩))]
            go_wp2_with (fail)
            go_meet
            exact ⟨db, ys, va, vc, rfl, rfl, by have := HYS.out; omega, hS2, HP2⟩
          | true =>
            have HP2 : Hid (res = (ys ++ [y]) ++ x :: dirT y (l.drop (k + 1)) true) := by
              show _ = _
              rw [HPK.out, dirT, if_neg HNE.out, if_pos (show db = false ∧ y.1 < x.1 from ⟨(hb2.out.1 rfl).1, by have := (hb2.out.1 rfl).2; omega⟩)]
              simp
            go_wp2_with (at_builtin; refine wpList_append_own_at _ (by rfl) _ _ 38 (by rfl) w1.heap.size 52 its _ 2 16 Tryz.underlying38 hits hz0 hz1 hz2 rfl (by omega) (.slice va ys.length vc) ys.length (cellsL dpC ys) (by rfl) (hS2.out.below ((Below.refl _ _).alloc (Nat.le_refl _) _)).row ⟨_, 0, none⟩ 1 1 (dpC y) (by rfl) (by rfl) (World.news_of_block (cs := (dpC y).toArray) (t := 52) (fr := (0, 0)) (heap_alloc_new _ _)) (dpC_one y) M1.out M2.out (hS2.out.below ((Below.refl _ _).alloc (Nat.le_refl _) _)).base.size ?_; intro v1 w5 q1 q2 q3 q4; obtain ⟨va1, vc1, rfl⟩ := own_form q1; have HS5 := Lib.hid ((hS2.out.below ((Below.refl _ _).alloc (Nat.le_refl _) _)).push q1 rfl q2); clear q1 q2 q3 q4)
            go_meet
            exact ⟨true, ys ++ [y], va1, vc1, rfl, by simp, by have := HYS.out; simp; omega, by simpa using HS5, HP2⟩
        case rest =>
        clear d0 d1 b0 b1 hS2
        obtain ⟨db', ys', va', vc', rfl, rfl, hys', hS3, hP3⟩ := hcut
        obtain ⟨d0, d1, b0, b1⟩ := (HFX _ hS3.out.base).out
        have M1 : Hid (ys'.length + 1 ≤ maxLen) := by show _ ≤ maxLen; simp only [maxLen]; omega
        have M2 : Hid ((ys'.length + 1) * 16 ≤ 140737488355328) := by show _ ≤ 140737488355328; omega
        have HYS' := Lib.hid hys'
        go_wp2_with (at_builtin; refine wpList_append_own_at _ (by rfl) _ _ 38 (by rfl) w1.heap.size 52 its _ 2 16 Tryz.underlying38 hits hz0 hz1 hz2 rfl (by omega) (.slice va' ys'.length vc') ys'.length (cellsL dpC ys') (by rfl) (hS3.out.below ((Below.refl _ _).alloc (Nat.le_refl _) _)).row ⟨_, 0, none⟩ 1 1 (dpC x) (by rfl) (by rfl) (World.news_of_block (cs := (dpC x).toArray) (t := 52) (fr := (0, 0)) (heap_alloc_new _ _)) (dpC_one x) M1.out M2.out (hS3.out.below ((Below.refl _ _).alloc (Nat.le_refl _) _)).base.size ?_; intro v1 w5 q1 q2 q3 q4; obtain ⟨va1, vc1, rfl⟩ := own_form q1; have HS5 := Lib.hid ((hS3.out.below ((Below.refl _ _).alloc (Nat.le_refl _) _)).push q1 rfl q2); clear q1 q2 q3 q4)
        go_roundw
        case rel => exact ⟨k + 1, db', ys' ++ [x], va1, vc1, by go_num, rfl, by simp, HJ.out, by have := HYS'.out; simp; omega, by simpa using HS5, Lib.hid (by rw [hP3.out]; simp)⟩
        case measure => have := HJ.out; simp [intOf]; omega
    · obtain rfl : k = l.length := by omega
      have HYS := Lib.hid hys
      have HP2 : Hid (res = ys ++ dirT y [] db) := by show _ = _; rw [hP.out, List.drop_length]
      have HFX : Hid (wr.cell? ⟨w.heap.size, 0, none⟩ = some (.int .u32 (y.1 : Int)) ∧ wr.cell? ⟨w.heap.size, 1, none⟩ = some (.int .u64 (y.2 : Int))) :=
        ⟨(HBX.out.blk.same (hS.out.base.block _ HBX.out.blk.lt)).cell 0, (HBX.out.blk.same (hS.out.base.block _ HBX.out.blk.lt)).cell 1⟩
      obtain ⟨b0, b1⟩ := HFX.out
      clear hP hys
      cases db with
      | true =>
        go_wp2_with (fail)
        go_ret
        refine ⟨_, rfl, ?_, HBX.out.base.trans (hS.out.base.mono HBX.out.base.size), fun q hq => Nat.le_trans HBX.out.base.size (hS.out.row.lt q hq).1⟩
        rw [HP2.out]
        have := RdC.of_own dpC_len' hS.out.row
        simpa [dirT] using this
      | false =>
        have M1 : Hid (ys.length + 1 ≤ maxLen) := by have := HYS.out; show _ ≤ maxLen; simp only [maxLen]; omega
        have M2 : Hid ((ys.length + 1) * 16 ≤ 140737488355328) := by have := HYS.out; show _ ≤ 140737488355328; omega
        go_wp2_with (at_builtin; refine wpList_append_own_at _ (by rfl) _ _ 38 (by rfl) w1.heap.size 52 its _ 2 16 Tryz.underlying38 hits hz0 hz1 hz2 rfl (by omega) (.slice va ys.length vc) ys.length (cellsL dpC ys) (by rfl) (hS.out.below ((Below.refl _ _).alloc (Nat.le_refl _) _)).row ⟨_, 0, none⟩ 1 1 (dpC y) (by rfl) (by rfl) (World.news_of_block (cs := (dpC y).toArray) (t := 52) (fr := (0, 0)) (heap_alloc_new _ _)) (dpC_one y) M1.out M2.out (hS.out.below ((Below.refl _ _).alloc (Nat.le_refl _) _)).base.size ?_; intro v1 w5 q1 q2 q3 q4; obtain ⟨va1, vc1, rfl⟩ := own_form q1; have HS5 := Lib.hid ((hS.out.below ((Below.refl _ _).alloc (Nat.le_refl _) _)).push q1 rfl q2); clear q1 q2 q3 q4)
        go_ret
        refine ⟨_, rfl, ?_, HBX.out.base.trans (HS5.out.base.mono HBX.out.base.size), fun q hq => Nat.le_trans HBX.out.base.size (HS5.out.row.lt q hq).1⟩
        rw [HP2.out]
        exact RdC.of_own dpC_len' HS5.out.row
/-- the same slice, or one of the call's own -/
def Fresh19 (w : World) (v v' : Value) : Prop := v' = v ∨ ∀ k, v'.ownBlock = some k → w.heap.size ≤ k
def freshT (y : Nat × Nat) (l : List (Nat × Nat)) : List (Nat × Nat) := if (getL y.1 l).isSome then l else dirT y l false
set_option maxRecDepth 100000 in
set_option maxHeartbeats 2000000 in
theorem fresh19_c {v : Value} (hr : RdC 2 dpC w v l) (y : Nat × Nat) (hlen : l.length ≤ 1000000000) :
    Calls Tryz.prog 81 #[v, .agg (dpC y).toArray] w fun e w' => ∃ v', e = .returned v' ∧ RdC 2 dpC w' v' (freshT y l) ∧ Below w.heap.size w w' ∧ Fresh19 w v v' := by
  obtain ⟨la, lc, rfl⟩ := hr.form
  have hBX := BoxAt.new w 52 #[.int .u32 (y.1 : Int), .int .u64 (y.2 : Int)]
  show Calls Tryz.prog 81 #[_, .agg #[.int .u32 (y.1 : Int), .int .u64 (y.2 : Int)]] w _
  have HR := Lib.hid hr
  have HDC : ∀ W, Below w.heap.size w W → Hid (Calls Tryz.prog 84 #[.slice la l.length lc, .agg #[.int .u32 (y.1 : Int), .int .u64 (y.2 : Int)]] W fun e w' => ∃ v', e = .returned v' ∧ RdC 2 dpC w' v' (dirT y l false) ∧ Below W.heap.size W w' ∧ (∀ k, v'.ownBlock = some k → W.heap.size ≤ k)) := fun W hW => dirty19_c (HR.out.below hW) y hlen
  have HBX := Lib.hid hBX
  clear hr hBX
  generalize hpt : freshT y l = res
  have HPT := Lib.hid hpt
  clear hpt
  go_enter Tryz.func81, Tryz.ntmps81
  go_wp2_with (fail)
  go_loopw [5] (fun i wr => ∃ k : Nat, i = .int .i64 (k : Int) ∧ k ≤ l.length ∧ Hid (∀ x ∈ l.take k, x.1 ≠ y.1) ∧ Hid (BoxAt w 52 #[.int .u32 (y.1 : Int), .int .u64 (y.2 : Int)] wr)) (fun i _ => l.length - (intOf i).toNat)
  case atStart => exact ⟨0, rfl, Nat.zero_le _, Lib.hid (fun x hx => by simp at hx), HBX⟩
  case round =>
    obtain ⟨k, rfl, hk, hn, hB⟩ := hrel
    have b0 : wr.cell? ⟨w.heap.size, 0, none⟩ = some (.int .u32 (y.1 : Int)) := hB.out.blk.cell 0
    have b1 : wr.cell? ⟨w.heap.size, 1, none⟩ = some (.int .u64 (y.2 : Int)) := hB.out.blk.cell 1
    by_cases hkl : k < l.length
    · obtain ⟨x, hx⟩ : ∃ x, l[k]? = some x := ⟨_, List.getElem?_eq_getElem hkl⟩
      have HRF := HR.out
      obtain ⟨tb, off, rfl, _, h1, h2, hbl, hc⟩ := HRF.at_ hx
      have d0 : wr.cell? ⟨tb, off + k * 2, none⟩ = some (.int .u32 (x.1 : Int)) := (hB.out.base.cell (p := ⟨tb, off + k * 2 + 0, none⟩) hbl).trans (hc 0 _ rfl)
      have HX := Lib.hid hx
      have HJ := Lib.hid hkl
      clear hc hx HRF
      by_cases he : x.1 = y.1
      · have he' : ((x.1 : Int) == (y.1 : Int)) = true := by simp [he]
        have he2 : (x.1 == y.1) = true := by simp [he]
        have HE : Hid (res = l) := by
          show _ = _
          rw [← HPT.out]
          unfold freshT
          cases hg : getL y.1 l with
          | some z => rfl
          | none => exact absurd he (getL_none.1 hg x (List.mem_of_getElem? HX.out))
        clear he
        go_wp2_with (fail)
        go_quiet (fail)
        go_wp2_with (fail)
        go_ret
        refine ⟨_, rfl, ?_, below_drewN' hB.out.base _, .inl rfl⟩
        rw [HE.out]
        exact HR.out.below (below_drewN' hB.out.base _)
      · have he' : ((x.1 : Int) == (y.1 : Int)) = false := by simp; omega
        have he2 : (x.1 == y.1) = false := by simp [he]
        have HN : Hid (∀ z ∈ l.take (k + 1), z.1 ≠ y.1) := by
          show ∀ z ∈ _, _
          rw [List.take_add_one, HX.out]
          intro z hz
          rcases List.mem_append.1 hz with hz | hz
          · exact hn.out z hz
          · rw [show z = x by simpa using hz]; exact he
        clear he
        go_wp2_with (fail)
        go_quiet (fail)
        go_wp2_with (fail)
        go_roundw
        case rel => exact ⟨k + 1, by go_num, HJ.out, HN, hB.out.drewN _⟩
        case measure => have := HJ.out; simp [intOf]; omega
    · obtain rfl : k = l.length := by omega
      have HE : Hid (res = dirT y l false) := by
        show _ = _
        rw [← HPT.out]
        unfold freshT
        have := hn.out
        rw [List.take_length] at this
        rw [getL_none.2 this]
        rfl
      have HD := HDC _ hB.out.base
      clear hn HDC
      go_wp2_with (fail)
      refine HD.out.mono ?_
      rintro e w5 ⟨v', rfl, q1, q2, q3⟩
      have HQ := Lib.hid (And.intro q1 (And.intro (hB.out.base.trans (q2.mono hB.out.base.size)) (show Fresh19 w (.slice la l.length lc) v' from .inr (fun k hk => Nat.le_trans hB.out.base.size (q3 k hk)))))
      clear q1 q2 q3
      go_wp2_with (fail)
      go_ret
      refine ⟨_, rfl, ?_, HQ.out.2.1, HQ.out.2.2⟩
      rw [HE.out]
      exact HQ.out.1
end
end Go.Proofs.YtpnndlahfllbhaaGreat
