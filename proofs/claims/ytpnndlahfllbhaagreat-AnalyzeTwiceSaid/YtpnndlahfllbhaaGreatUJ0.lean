/-
  The walks of the document's small functions on lists (girderref19): state, put, without.
-/
import Derived.Test.YtpnndlahfllbhaaGreatUN1
import Derived.Test.YtpnndlahfllbhaaGreatUO0
namespace Go.Proofs.YtpnndlahfllbhaaGreat
open Go.RowKit
attribute [local go_sem ↓] Go.wp_at_zero Go.wp_at_succ

def ahead19 (db : Bool) (a b : Int) : Prop := db = false ∧ a < b
def TBool (b : Bool) (P : Prop) : Prop := b = true ↔ P
/-- a row of the call's own, and what lies below -/
structure RowSt {α : Type} (ty : TypeId) (size : Nat) (f : α → List Value) (w1 : World) (v : Value) (ys : List α) (W : World) : Prop where
  row : W.ownsRow w1.heap.size ty size v ys.length (cellsL f ys)
  base : Below w1.heap.size w1 W
section
variable {α : Type} {ty : TypeId} {size : Nat} {f : α → List Value} {w1 W W' : World} {v v' : Value} {ys : List α}
theorem RowSt.below (h : RowSt ty size f w1 v ys W) (hb : Below W.heap.size W W') : RowSt ty size f w1 v ys W' := ⟨own_same h.row (fun k hk => hb.block k (h.row.lt k hk).2), h.base.trans (hb.mono h.base.size)⟩
theorem RowSt.drewN (h : RowSt ty size f w1 v ys W) (n : Nat) : RowSt ty size f w1 v ys (W.drewN n) := h.below (below_drewN _ _)
theorem RowSt.drew (h : RowSt ty size f w1 v ys W) : RowSt ty size f w1 v ys W.drew := h.below ⟨rfl, rfl, rfl, Nat.le_refl _, fun _ _ => rfl⟩
theorem RowSt.push (h : RowSt ty size f w1 v ys W) {x : α} {n : Nat} (ho : W'.ownsRow w1.heap.size ty size v' n (cellsL f ys ++ f x)) (hn : n = ys.length + 1) (hg : W.grownBy W' v.ownBlock) : RowSt ty size f w1 v' (ys ++ [x]) W' := by
  refine ⟨?_, h.base.grown hg h.base.size (fun k hk => (h.row.lt k hk).1)⟩
  rw [cellsL_snoc, show (ys ++ [x]).length = n by rw [hn]; simp]
  exact ho
end
theorem RowSt.made {α : Type} {ty : TypeId} {size : Nat} {f : α → List Value} (w1 : World) : RowSt ty size f w1 (.slice (some ⟨w1.heap.size, 0, none⟩) 0 0) [] (w1.alloc (.cells #[] ty)) :=
  ⟨⟨by simp [cellsL], .inr ⟨w1.heap.size, 0, #[], rfl, Nat.le_refl _, heap_alloc_new w1 _, Nat.le_refl _, Nat.zero_le _, by simp, by simp [cellsL]⟩⟩, (Below.refl _ _).alloc (Nat.le_refl _) _⟩
theorem infoSt19 : (Tryz.prog.info? 46).map (fun i => (i.zero, i.size, i.bytes)) = some (some (.agg #[.int .i64 0, .int .i64 0, .int .u64 0, .int .u64 0]), 4, 32) := by kernel_rfl
theorem infoDt19 : (Tryz.prog.info? 52).map (fun i => (i.zero, i.size, i.bytes)) = some (some (.agg #[.int .u32 0, .int .u64 0]), 2, 16) := by kernel_rfl
theorem tsC_len' (t : Ts) : (tsC t).length = 4 := rfl
theorem dpC_len' (t : Nat × Nat) : (dpC t).length = 2 := rfl
theorem tsC_one (t : Ts) : ∀ u ∈ tsC t, u.oneCell' = true := fun u hu => by
  unfold tsC at hu
  simp only [List.mem_cons, List.not_mem_nil, or_false] at hu
  rcases hu with rfl | rfl | rfl | rfl <;> rfl
theorem dpC_one (t : Nat × Nat) : ∀ u ∈ dpC t, u.oneCell' = true := fun u hu => by
  unfold dpC at hu
  simp only [List.mem_cons, List.not_mem_nil, or_false] at hu
  rcases hu with rfl | rfl <;> rfl
def State19Post (l : List Ts) (tx : Int) (e : Ending) : Prop := (e = .returned (.int .i64 (-1)) ∧ ∀ x ∈ l, x.tx ≠ tx) ∨ (∃ (k : Nat) (x : Ts), e = .returned (.int .i64 (k : Int)) ∧ l[k]? = some x ∧ x.tx = tx)
section
variable {w : World} {l : List Ts}
set_option maxRecDepth 100000 in
set_option maxHeartbeats 1000000 in
theorem state19_c {v : Value} (hr : RdC 4 tsC w v l) (tx : Int) (hlen : l.length ≤ 1000000000) :
    Calls Tryz.prog 82 #[v, .int .i64 tx] w fun e w' => State19Post l tx e ∧ Below w.heap.size w w' := by
  obtain ⟨la, lc, rfl⟩ := hr.form
  have HR := Lib.hid hr
  clear hr
  go_enter Tryz.func82, Tryz.ntmps82
  go_wp2_with (fail)
  go_loopw [5] (fun i wr => ∃ k : Nat, i = .int .i64 (k : Int) ∧ k ≤ l.length ∧ Hid (∀ x ∈ l.take k, x.tx ≠ tx) ∧ Hid (Below w.heap.size w wr)) (fun i _ => l.length - (intOf i).toNat)
  case atStart => exact ⟨0, rfl, Nat.zero_le _, Lib.hid (fun x hx => by simp at hx), Below.refl _ _⟩
  case round =>
    obtain ⟨k, rfl, hk, hn, hB⟩ := hrel
    by_cases hkl : k < l.length
    · obtain ⟨x, hx⟩ : ∃ x, l[k]? = some x := ⟨_, List.getElem?_eq_getElem hkl⟩
      obtain ⟨tb, off, rfl, _, h1, h2, hbl, hc⟩ := HR.out.at_ hx
      have d0 : wr.cell? ⟨tb, off + k * 4, none⟩ = some (.int .i64 x.tx) := (hB.out.cell (p := ⟨tb, off + k * 4 + 0, none⟩) hbl).trans (hc 0 _ rfl)
      have HX := Lib.hid hx
      have HJ := Lib.hid hkl
      clear hc hx
      by_cases he : x.tx = tx
      · have he' : (x.tx == tx) = true := by simp [he]
        have HE := Lib.hid he
        clear he
        go_wp2_with (fail)
        go_ret
        exact ⟨.inr ⟨k, x, rfl, HX.out, HE.out⟩, hB.out⟩
      · have he' : (x.tx == tx) = false := by simp [he]
        have HN : Hid (∀ y ∈ l.take (k + 1), y.tx ≠ tx) := by
          show ∀ y ∈ _, _
          rw [List.take_add_one, HX.out]
          intro y hy
          rcases List.mem_append.1 hy with hy | hy
          · exact hn.out y hy
          · rw [show y = x by simpa using hy]; exact he
        clear he
        go_wp2_with (fail)
        go_roundw
        case rel => exact ⟨k + 1, by go_num, HJ.out, HN, hB⟩
        case measure => have := HJ.out; simp [intOf]; omega
    · obtain rfl : k = l.length := by omega
      rw [List.take_length] at hn
      go_wp2_with (fail)
      go_ret
      exact ⟨.inl ⟨rfl, hn.out⟩, hB.out⟩

set_option maxRecDepth 100000 in
set_option maxHeartbeats 2000000 in
theorem put19_c {v : Value} (hr : RdC 4 tsC w v l) (t : Ts) (hlen : l.length ≤ 1000000000) :
    Calls Tryz.prog 83 #[v, .agg (tsC t).toArray] w fun e w' => ∃ v', e = .returned v' ∧ RdC 4 tsC w' v' (putT t l false) ∧ Below w.heap.size w w' ∧ (∀ k, v'.ownBlock = some k → w.heap.size ≤ k) := by
  obtain ⟨la, lc, rfl⟩ := hr.form
  obtain ⟨its, hits, hz0, hz1, hz2⟩ := info_parts infoSt19
  have hBX := BoxAt.new w 46 #[.int .i64 t.tx, .int .i64 t.state, .int .u64 (t.last : Int), .int .u64 (t.next : Int)]
  show Calls Tryz.prog 83 #[_, .agg #[.int .i64 t.tx, .int .i64 t.state, .int .u64 (t.last : Int), .int .u64 (t.next : Int)]] w _
  obtain ⟨w1, hw1⟩ : ∃ w1, w.alloc (.cells #[.int .i64 t.tx, .int .i64 t.state, .int .u64 (t.last : Int), .int .u64 (t.next : Int)] 46) = w1 := ⟨_, rfl⟩
  rw [hw1] at hBX
  have HR := Lib.hid (hr.below hBX.base)
  have HS0 : Hid (RowSt 46 4 tsC w1 (.slice (some ⟨w1.heap.size, 0, none⟩) 0 0) [] (w1.alloc (.cells #[] 46))) := RowSt.made w1
  have HBX := Lib.hid hBX
  clear hr hBX
  generalize hpt : putT t l false = res
  have HPT := Lib.hid hpt
  clear hpt
  go_enter Tryz.func83, Tryz.ntmps83
  go_wp2_with (fail)
  clear hw1
  go_loopw [7, 6, 5] (fun i d v wr => ∃ (k : Nat) (db : Bool) (ys : List Ts) (va : Option Addr) (vc : Nat), i = .int .i64 (k : Int) ∧ d = .bool db ∧ v = .slice va ys.length vc ∧ k ≤ l.length ∧ ys.length ≤ 2 * k ∧ Hid (RowSt 46 4 tsC w1 v ys wr) ∧ Hid (res = ys ++ putT t (l.drop k) db)) (fun i _ _ _ => l.length - (intOf i).toNat)
  case atStart => exact ⟨0, false, [], _, _, rfl, rfl, rfl, Nat.zero_le _, by simp, HS0, Lib.hid (by rw [← HPT.out]; simp)⟩
  case round =>
    obtain ⟨k, db, ys, va, vc, rfl, rfl, rfl, hk, hys, hS, hP⟩ := hrel
    by_cases hkl : k < l.length
    · obtain ⟨x, hx⟩ : ∃ x, l[k]? = some x := ⟨_, List.getElem?_eq_getElem hkl⟩
      obtain ⟨tb, off, rfl, _, h1, h2, hbl, hc⟩ := HR.out.at_ hx
      have HFX : ∀ W, Below w1.heap.size w1 W → Hid (W.cell? ⟨tb, off + k * 4, none⟩ = some (.int .i64 x.tx) ∧ W.cell? ⟨tb, off + k * 4 + 1, none⟩ = some (.int .i64 x.state) ∧ W.cell? ⟨tb, off + k * 4 + 2, none⟩ = some (.int .u64 (x.last : Int)) ∧ W.cell? ⟨tb, off + k * 4 + 3, none⟩ = some (.int .u64 (x.next : Int)) ∧ W.cell? ⟨w.heap.size, 0, none⟩ = some (.int .i64 t.tx) ∧ W.cell? ⟨w.heap.size, 1, none⟩ = some (.int .i64 t.state) ∧ W.cell? ⟨w.heap.size, 2, none⟩ = some (.int .u64 (t.last : Int)) ∧ W.cell? ⟨w.heap.size, 3, none⟩ = some (.int .u64 (t.next : Int))) := fun W hW =>
        ⟨(hW.cell (p := ⟨tb, off + k * 4 + 0, none⟩) hbl).trans (hc 0 _ rfl), (hW.cell (p := ⟨tb, off + k * 4 + 1, none⟩) hbl).trans (hc 1 _ rfl), (hW.cell (p := ⟨tb, off + k * 4 + 2, none⟩) hbl).trans (hc 2 _ rfl), (hW.cell (p := ⟨tb, off + k * 4 + 3, none⟩) hbl).trans (hc 3 _ rfl), (HBX.out.blk.same (hW.block _ HBX.out.blk.lt)).cell 0, (HBX.out.blk.same (hW.block _ HBX.out.blk.lt)).cell 1, (HBX.out.blk.same (hW.block _ HBX.out.blk.lt)).cell 2, (HBX.out.blk.same (hW.block _ HBX.out.blk.lt)).cell 3⟩
      have HPK : Hid (res = ys ++ putT t (x :: l.drop (k + 1)) db) := by
        show _ = _
        rw [hP.out, List.drop_eq_getElem_cons hkl]
        congr 3
        rw [List.getElem?_eq_getElem hkl] at hx
        exact Option.some.inj hx
      have HJ := Lib.hid hkl
      have HYS := Lib.hid hys
      have hkl2 : k < 1000000000 := by omega
      obtain ⟨d0, d1, d2, d3, b0, b1, b2, b3⟩ := (HFX _ hS.out.base).out
      clear hc hx hP hys
      go_upto_region 6 with (fail)
      go_cut [22] (fun s22 wx => ∃ b, s22 = .bool b ∧ Hid (TBool b (x.tx = t.tx)) ∧ Hid (RowSt 46 4 tsC w1 (.slice va ys.length vc) ys wx))
      case first =>
        by_cases he : x.tx = t.tx
        · have he' : (x.tx == t.tx) = true := by simp [he]
          have HE := Lib.hid he
          clear he
          go_quiet (fail)
          go_wp2_with (fail)
          go_meet
          exact ⟨true, rfl, Lib.hid (iff_of_true rfl HE.out), hS.out.drewN _⟩
        · have he' : (x.tx == t.tx) = false := by simp [he]
          have HE := Lib.hid he
          clear he
          go_quiet (fail)
          go_wp2_with (fail)
          go_meet
          exact ⟨false, rfl, Lib.hid (iff_of_false Bool.false_ne_true HE.out), hS.out.drewN _⟩
      case rest =>
      clear d0 d1 d2 d3 b0 b1 b2 b3
      obtain ⟨b, rfl, hb, hS1⟩ := hcut
      cases b with
      | true =>
        have HP2 : Hid (res = ys ++ putT t (l.drop (k + 1)) db) := by
          show _ = _
          rw [HPK.out, putT, if_pos (hb.out.1 rfl)]
        go_wp2_with (fail)
        go_roundw
        case rel => exact ⟨k + 1, db, ys, va, vc, by go_num, rfl, rfl, HJ.out, by have := HYS.out; omega, hS1, HP2⟩
        case measure => have := HJ.out; simp [intOf]; omega
      | false =>
        have hne : ¬ x.tx = t.tx := fun h => Bool.false_ne_true (hb.out.2 h)
        have HNE := Lib.hid hne
        obtain ⟨d0, d1, d2, d3, b0, b1, b2, b3⟩ := (HFX _ hS1.out.base).out
        clear hne hb hS
        go_upto_region 7 with (fail)
        go_cut [34] (fun s34 wx => ∃ b, s34 = .bool b ∧ Hid (TBool b (ahead19 db t.tx x.tx)) ∧ Hid (RowSt 46 4 tsC w1 (.slice va ys.length vc) ys wx))
        case first =>
          cases db with
          | true =>
            go_quiet (fail)
            go_wp2_with (fail)
            go_meet
            exact ⟨false, rfl, Lib.hid (iff_of_false Bool.false_ne_true (fun h => by cases h.1)), hS1.out.drewN _⟩
          | false =>
            by_cases hlt : t.tx < x.tx
            · have HLT := Lib.hid hlt
              go_quiet (fail)
              go_wp2_with (fail)
              go_meet
              exact ⟨true, rfl, Lib.hid (iff_of_true rfl ⟨rfl, HLT.out⟩), hS1.out.drewN _⟩
            · have HLT := Lib.hid hlt
              go_quiet (fail)
              go_wp2_with (fail)
              go_meet
              exact ⟨false, rfl, Lib.hid (iff_of_false Bool.false_ne_true (fun h => by have h1 := HLT.out; have h2 := h.2; omega)), hS1.out.drewN _⟩
        case rest =>
        clear d0 d1 d2 d3 b0 b1 b2 b3
        obtain ⟨b2, rfl, hb2, hS2⟩ := hcut
        obtain ⟨d0, d1, d2, d3, b0, b1, b2', b3⟩ := (HFX _ hS2.out.base).out
        clear hS1
        go_upto_if 34 with (fail)
        go_cut [5, 6] (fun s5 s6 wx => ∃ (db' : Bool) (ys' : List Ts) (va' : Option Addr) (vc' : Nat), s6 = .bool db' ∧ s5 = .slice va' ys'.length vc' ∧ ys'.length ≤ 2 * k + 1 ∧ Hid (RowSt 46 4 tsC w1 (.slice va' ys'.length vc') ys' wx) ∧ Hid (res = ys' ++ x :: putT t (l.drop (k + 1)) db'))
        case first =>
          cases b2 with
          | false =>
            have HP2 : Hid (res = ys ++ x :: putT t (l.drop (k + 1)) db) := by
              show _ = _
              rw [HPK.out, putT, if_neg HNE.out, if_neg (show ¬ (db = false ∧ t.tx < x.tx) from fun h => Bool.false_ne_true (hb2.out.2 h))]
            go_wp2_with (fail)
            go_meet
            exact ⟨db, ys, va, vc, rfl, rfl, by have := HYS.out; omega, hS2, HP2⟩
          | true =>
            have HP2 : Hid (res = (ys ++ [t]) ++ x :: putT t (l.drop (k + 1)) true) := by
              show _ = _
              rw [HPK.out, putT, if_neg HNE.out, if_pos (show db = false ∧ t.tx < x.tx from hb2.out.1 rfl)]
              simp
            have M1 : Hid (ys.length + 1 ≤ maxLen) := by have := HYS.out; show _ ≤ maxLen; simp only [maxLen]; omega
            have M2 : Hid ((ys.length + 1) * 32 ≤ 140737488355328) := by have := HYS.out; show _ ≤ 140737488355328; omega
            go_wp2_with (at_builtin; refine wpList_append_own_at _ (by rfl) _ _ 37 (by rfl) w1.heap.size 46 its _ 4 32 Tryz.underlying37 hits hz0 hz1 hz2 rfl (by omega) (.slice va ys.length vc) ys.length (cellsL tsC ys) (by rfl) (hS2.out.below ((Below.refl _ _).alloc (Nat.le_refl _) _)).row ⟨wc.heap.size, 0, none⟩ 1 1 (tsC t) (by rfl) (by rfl) (World.news_of_block (cs := (tsC t).toArray) (t := 46) (fr := (0, 0)) (heap_alloc_new wc _)) (tsC_one t) M1.out M2.out (hS2.out.below ((Below.refl _ _).alloc (Nat.le_refl _) _)).base.size ?_; intro v1 w5 q1 q2 q3 q4; obtain ⟨va1, vc1, rfl⟩ := own_form q1; have HS5 := Lib.hid ((hS2.out.below ((Below.refl _ _).alloc (Nat.le_refl _) _)).push q1 rfl q2); clear q1 q2 q3 q4)
            go_meet
            exact ⟨true, ys ++ [t], va1, vc1, rfl, by simp, by have := HYS.out; simp; omega, by simpa using HS5, HP2⟩
        case rest =>
        clear d0 d1 d2 d3 b0 b1 b2' b3 hS2
        obtain ⟨db', ys', va', vc', rfl, rfl, hys', hS3, hP3⟩ := hcut
        obtain ⟨d0, d1, d2, d3, b0, b1, b2', b3⟩ := (HFX _ hS3.out.base).out
        have M1 : Hid (ys'.length + 1 ≤ maxLen) := by show _ ≤ maxLen; simp only [maxLen]; omega
        have M2 : Hid ((ys'.length + 1) * 32 ≤ 140737488355328) := by show _ ≤ 140737488355328; omega
        have HYS' := Lib.hid hys'
        go_wp2_with (at_builtin; refine wpList_append_own_at _ (by rfl) _ _ 37 (by rfl) w1.heap.size 46 its _ 4 32 Tryz.underlying37 hits hz0 hz1 hz2 rfl (by omega) (.slice va' ys'.length vc') ys'.length (cellsL tsC ys') (by rfl) (hS3.out.below ((Below.refl _ _).alloc (Nat.le_refl _) _)).row ⟨wc.heap.size, 0, none⟩ 1 1 (tsC x) (by rfl) (by rfl) (World.news_of_block (cs := (tsC x).toArray) (t := 46) (fr := (0, 0)) (heap_alloc_new wc _)) (tsC_one x) M1.out M2.out (hS3.out.below ((Below.refl _ _).alloc (Nat.le_refl _) _)).base.size ?_; intro v1 w5 q1 q2 q3 q4; obtain ⟨va1, vc1, rfl⟩ := own_form q1; have HS5 := Lib.hid ((hS3.out.below ((Below.refl _ _).alloc (Nat.le_refl _) _)).push q1 rfl q2); clear q1 q2 q3 q4)
        go_roundw
        case rel => exact ⟨k + 1, db', ys' ++ [x], va1, vc1, by go_num, rfl, by simp, HJ.out, by have := HYS'.out; simp; omega, by simpa using HS5, Lib.hid (by rw [hP3.out]; simp)⟩
        case measure => have := HJ.out; simp [intOf]; omega
    · obtain rfl : k = l.length := by omega
      have HYS := Lib.hid hys
      have HP2 : Hid (res = ys ++ putT t [] db) := by show _ = _; rw [hP.out, List.drop_length]
      have HFX : Hid (wr.cell? ⟨w.heap.size, 0, none⟩ = some (.int .i64 t.tx) ∧ wr.cell? ⟨w.heap.size, 1, none⟩ = some (.int .i64 t.state) ∧ wr.cell? ⟨w.heap.size, 2, none⟩ = some (.int .u64 (t.last : Int)) ∧ wr.cell? ⟨w.heap.size, 3, none⟩ = some (.int .u64 (t.next : Int))) :=
        ⟨(HBX.out.blk.same (hS.out.base.block _ HBX.out.blk.lt)).cell 0, (HBX.out.blk.same (hS.out.base.block _ HBX.out.blk.lt)).cell 1, (HBX.out.blk.same (hS.out.base.block _ HBX.out.blk.lt)).cell 2, (HBX.out.blk.same (hS.out.base.block _ HBX.out.blk.lt)).cell 3⟩
      obtain ⟨b0, b1, b2, b3⟩ := HFX.out
      clear hP hys
      cases db with
      | true =>
        go_wp2_with (fail)
        go_ret
        refine ⟨_, rfl, ?_, HBX.out.base.trans (hS.out.base.mono HBX.out.base.size), fun q hq => Nat.le_trans HBX.out.base.size (hS.out.row.lt q hq).1⟩
        rw [HP2.out]
        have := RdC.of_own tsC_len' hS.out.row
        simpa [putT] using this
      | false =>
        have M1 : Hid (ys.length + 1 ≤ maxLen) := by have := HYS.out; show _ ≤ maxLen; simp only [maxLen]; omega
        have M2 : Hid ((ys.length + 1) * 32 ≤ 140737488355328) := by have := HYS.out; show _ ≤ 140737488355328; omega
        go_wp2_with (at_builtin; refine wpList_append_own_at _ (by rfl) _ _ 37 (by rfl) w1.heap.size 46 its _ 4 32 Tryz.underlying37 hits hz0 hz1 hz2 rfl (by omega) (.slice va ys.length vc) ys.length (cellsL tsC ys) (by rfl) (hS.out.below ((Below.refl _ _).alloc (Nat.le_refl _) _)).row ⟨wr.heap.size, 0, none⟩ 1 1 (tsC t) (by rfl) (by rfl) (World.news_of_block (cs := (tsC t).toArray) (t := 46) (fr := (0, 0)) (heap_alloc_new wr _)) (tsC_one t) M1.out M2.out (hS.out.below ((Below.refl _ _).alloc (Nat.le_refl _) _)).base.size ?_; intro v1 w5 q1 q2 q3 q4; obtain ⟨va1, vc1, rfl⟩ := own_form q1; have HS5 := Lib.hid ((hS.out.below ((Below.refl _ _).alloc (Nat.le_refl _) _)).push q1 rfl q2); clear q1 q2 q3 q4)
        go_ret
        refine ⟨_, rfl, ?_, HBX.out.base.trans (HS5.out.base.mono HBX.out.base.size), fun q hq => Nat.le_trans HBX.out.base.size (HS5.out.row.lt q hq).1⟩
        rw [HP2.out]
        exact RdC.of_own tsC_len' HS5.out.row
end
end Go.Proofs.YtpnndlahfllbhaaGreat
