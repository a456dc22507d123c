/-
  The keys of a map of transactions, collected and sorted.
-/
import Derived.Test.YtpnndlahfllbhaaGreatUO1
import Derived.Sort.OwnSorted
import Derived.Lib.SlKeysI
import Derived.RangeFuncNested
import Derived.RangeFuncBound
import Derived.RangeFuncCalls
import Derived.RangeFuncLeaves
import Derived.RangeFuncBox
import Derived.RangeFuncStops
import Derived.Shelf.Abstract
import Derived.Maps.OwnIn
import Derived.Maps.AppendAt
import Derived.WalkKit
import Derived.OwnWalkIn
import Derived.TacticsInMore
import Derived.LoopNIn
import Derived.LoopIn
import Derived.Sort.WalkA
import Derived.Sort.MapsRangeIn
import Derived.Deep.QuietTactic
import Derived.BigQuiet
namespace Go.Proofs.YtpnndlahfllbhaaGreat
open Go Go.RowKit Go.Sort Go.Shelf Go.Proofs
open Go.Maps (Keyed)

abbrev encT (x : Nat) : Value := .int .i64 (x : Int)
theorem keyOf_intT {key : Value} {kl : Lit} (h : keyOf Tryz.prog 3 key = some kl) : ∃ z : Int, key = .int .i64 z ∧ kl = .int .i64 z := by
  obtain ⟨x, h1, h2, _⟩ := Maps.keyOf_int_inv Tryz.underlying3 h
  exact ⟨x, h1, h2⟩
/-- what has come of a map's keys -/
def GotT (l : List (Nat × Value)) (left : Lit → Bool) (ss : List Nat) : Prop := ss.Nodup ∧ ∀ x, x ∈ ss ↔ ((getL x l).isSome = true ∧ left (keyI x) = false)
theorem GotT.start (l : List (Nat × Value)) : GotT l (Maps.has (mapT l)) [] := ⟨List.nodup_nil, fun x => by rw [mapT_has]; cases (getL x l).isSome <;> simp⟩
theorem GotT.step {l : List (Nat × Value)} {left : Lit → Bool} {ss : List Nat} (h : GotT l left ss) {x : Nat} (hx : left (keyI x) = true) (hin : (getL x l).isSome = true) : GotT l (fun z => left z && !z.sameKey (keyI x)) (ss ++ [x]) := by
  have hnew : x ∉ ss := fun hm => by have := ((h.2 x).1 hm).2; rw [hx] at this; cases this
  refine ⟨List.nodup_append.2 ⟨h.1, by simp, fun a ha b hb => by simp at hb; subst hb; exact fun e => hnew (e ▸ ha)⟩, fun y => ?_⟩
  rw [List.mem_append, h.2 y, List.mem_singleton]
  show _ ↔ (getL y l).isSome = true ∧ (left (keyI y) && !(keyI y).sameKey (keyI x)) = false
  rw [keyI_same]
  by_cases e : y = x
  · subst e; simp [hin]
  · simp [e]
theorem GotT.done {l : List (Nat × Value)} {left : Lit → Bool} {ss : List Nat} (h : GotT l left ss) (hr : RisingL l) (hl : ∀ kl, left kl = false) : ss.Perm (l.map (·.1)) := by
  refine (List.perm_ext_iff_of_nodup h.1 ?_).2 fun x => ?_
  · exact List.pairwise_map.2 (hr.imp fun hlt e => by omega)
  · rw [h.2 x, hl]
    simp only [and_true, List.mem_map]
    constructor
    · intro hs
      obtain ⟨v, hv⟩ := Option.isSome_iff_exists.1 hs
      exact ⟨(x, v), getL_some_mem hv, rfl⟩
    · rintro ⟨⟨k, v⟩, hm, rfl⟩
      rw [getL_of_mem hr hm]; rfl
theorem nat_of_atT {l : List (Nat × Value)} {z : Int} {y : DataW Value} (h : ∀ zd, (mapT l).atKey (.int .i64 z) zd = y) : ∃ n : Nat, z = (n : Int) ∧ (getL n l).isSome = true := by
  have key : ∀ zd, (∀ p ∈ l, (p.1 : Int) ≠ z) → (mapT l).atKey (.int .i64 z) zd = zd := fun zd hn => by
    have hf : (l.map fun p => (keyI p.1, DataW.held p.2)).find? (fun e => e.1.sameKey (.int .i64 z)) = none := List.find?_eq_none.2 (by
      intro x hx
      obtain ⟨p, hp, rfl⟩ := List.mem_map.1 hx
      have := hn p hp
      simp [keyI, Lit.sameKey]
      exact this)
    unfold mapT DataW.atKey
    simp only [hf]
  by_cases hex : ∃ p ∈ l, (p.1 : Int) = z
  · obtain ⟨p, hp, rfl⟩ := hex
    refine ⟨p.1, rfl, ?_⟩
    cases hg : getL p.1 l with
    | some v => rfl
    | none => exact absurd rfl (getL_none.1 hg p hp)
  · have hn : ∀ p ∈ l, (p.1 : Int) ≠ z := fun p hp e => hex ⟨p, hp, e⟩
    have h1 := h (.held (.bool true))
    have h2 := h (.held (.bool false))
    rw [key _ hn] at h1 h2
    rw [← h2] at h1
    simp at h1

set_option maxRecDepth 100000 in
set_option maxHeartbeats 1000000 in
theorem keysT1_in (n : Nat) (hn : 1 ≤ n) (l Bm b nn : Nat) (vs : List (Nat × Value)) (hrs : RisingL vs) (J Jx : List Nat → World → Prop)
    (hY : ∀ pre x W, J pre W → pre.length < vs.length → YieldAt Fence.wide (n - 1) Tryz.prog l #[encT x] W fun e W' =>
      (e = .returned (.bool true) ∧ J (pre ++ [x]) W' ∧ KeepsWalks W W') ∨ (e = .returned (.bool false) ∧ Jx (pre ++ [x]) W'))
    (W : World) (hJ : AbidesFrom W.heap.size J) (hm : W.cell? ⟨Bm, 0, none⟩ = some (.map (some b))) (hown : W.ownsMap Tryz.prog 3 anyV b nn (mapT vs)) (h0 : J [] W) :
    CallsIn Fence.wide n Tryz.prog 211 #[.func (.yield l) #[] #[], .pointer (some ⟨Bm, 0, none⟩)] W fun e W' => (∃ v, e = .returned v) ∧
      ((∃ ss : List Nat, ss.Perm (vs.map (·.1)) ∧ J ss W') ∨ (∃ pre : List Nat, True ∧ Jx pre W')) := by
  refine callsIn_of_wp Tryz.func211 rfl trivial ?_ rfl
  simp only [Tryz.ntmps211, List.size_toArray, List.length_cons, List.length_nil, Nat.reduceAdd, Nat.reduceSub, Array.replicate_succ, Array.replicate_zero, List.push_toArray, List.append_toArray, List.nil_append, List.cons_append]
  gi_wp2_with (first
    | (gi_at_range; refine wpListIn_range_own _ rfl _ 175 rfl 3 44 keyedI Tryz.underlying175 anyV b nn (mapT vs) rfl hown ?_; intro w0 hrg0 hg0 hs0)
    | gi_in)
  go_frame
  gi_loopw [3] (fun _ wr => ∃ (left : Lit → Bool) (cnt : Nat) (ss : List Nat), wr.ranges Tryz.prog 3 anyV b W.heap.size nn (mapT vs) left cnt ∧ ss.length + cnt ≤ vs.length ∧ GotT vs left ss ∧ J ss wr)
    (fun _ wr => wr.rangeLeft b W.heap.size)
  case atStart =>
    exact ⟨_, _, [], hrg0, by simp [mapT_size], GotT.start vs, hJ [] W w0 none h0 hg0 (fun r e => by cases e)⟩
  case round =>
    obtain ⟨left, cnt, ss, hrg, hcs, hC, hJs⟩ := hrel
    gi_wp2_with (first
      | (gi_at_next; refine wpListIn_next_ranges _ rfl _ rfl 3 keyedI anyV (fun z : Int => .int .i64 z) id (fun key kl hk => by obtain ⟨x, hx, _⟩ := keyOf_intT hk; exact ⟨x, hx⟩) (fun v _ _ => ⟨v, rfl⟩) b W.heap.size nn _ _ _ rfl hrg ?_ ?_)
      | gi_in)
    · intro hc0 hl0
      gi_wp2
      go_end0
      exact ⟨⟨_, rfl⟩, .inl ⟨ss, hC.done hrs hl0, hJs⟩⟩
    · intro x c kl yd yp w2 cnt2 hkey hlk hv hat hrg2 hlt hg2 hs2 hen
      obtain ⟨x', ex, rfl⟩ := keyOf_intT hkey
      obtain rfl : x = x' := by simpa using ex
      obtain ⟨xn, rfl, hxin⟩ := nat_of_atT hat
      have hJ2 : J ss w2 := hJ ss wr w2 (some W.heap.size) hJs hg2 (fun r e => by cases e; exact ⟨Nat.le_refl _, hrg.iter_walk⟩)
      obtain ⟨fn, tmps, assign, body, hy, hR⟩ := hY ss xn w2 hJ2 (by omega)
      clear hs2
      gi_wp2
      refine hR.mono ?_
      have hC2 := hC.step hlk hxin
      rintro e W3 (⟨rfl, hJ3, hk3⟩ | ⟨rfl, hJx3⟩)
      · gi_wp2
        have hrg3 := hrg2.of_walks hk3
        go_roundw
        case rel => exact ⟨_, cnt2, ss ++ [xn], hrg3, by simp; omega, hC2, hJ3⟩
        case measure => rw [hrg3.left_eq, hrg.left_eq]; exact hlt
      · gi_wp2
        refine bodyPost_ret (results_none rfl _ _ _) rfl ?_
        exact ⟨⟨_, rfl⟩, .inr ⟨ss ++ [xn], trivial, hJx3⟩⟩
theorem keysT_stops (n : Nat) (hn : 1 ≤ n) (Bm b nn : Nat) (vs : List (Nat × Value)) (hrs : RisingL vs) (w : World) (hBm : Bm < w.heap.size) (hm : w.cell? ⟨Bm, 0, none⟩ = some (.map (some b))) (hown : w.ownsMap Tryz.prog 3 anyV b nn (mapT vs)) :
    SeqStopsK Fence.wide n Tryz.prog 211 #[.pointer (some ⟨Bm, 0, none⟩)] (fun x : Nat => #[encT x]) KeepsWalks (fun ss => ss.Perm (vs.map (·.1))) (fun _ => True) vs.length w := fun l J Jx W hW hJ _ hY h0 => by
  have hown' : W.ownsMap Tryz.prog 3 anyV b nn (mapT vs) := by
    have hbl := hown.lt
    obtain ⟨es, clock, hb, Ft, hs, hD⟩ := hown
    exact ⟨es, clock, (hW.block b hbl).trans hb, Ft, hs, hD⟩
  exact keysT1_in n hn l Bm b nn vs hrs J Jx hY W hJ ((hW.cell (p := ⟨Bm, 0, none⟩) hBm).trans hm) hown' h0
theorem keysT_in (n : Nat) (mb : Option Nat) (w : World) :
    CallsIn Fence.wide n Tryz.prog 160 #[.map mb] w fun e w' => e = .returned (.func (.func 211) #[] #[.pointer (some ⟨w.heap.size, 0, none⟩)]) ∧ w' = w.alloc (.cells #[.map mb] 175) := by
  refine callsIn_of_wp Tryz.func160 rfl trivial ?_ rfl
  simp only [Tryz.ntmps160, List.size_toArray, List.length_cons, List.length_nil, Nat.reduceAdd, Nat.reduceSub, Array.replicate_succ, Array.replicate_zero, List.push_toArray, List.append_toArray, List.nil_append, List.cons_append]
  gi_wp2
  go_ret
  exact ⟨rfl, rfl⟩

theorem infoIntT : (Tryz.prog.info? 3).map (fun i => (i.zero, i.size, i.bytes)) = some (some (.int .i64 0), 1, 8) := by kernel_rfl
section
attribute [local go_sem] Oper.semAt_some
set_option maxRecDepth 100000 in
set_option maxHeartbeats 2000000 in
theorem appendSeqT_in (n : Nat) (hn : 3 ≤ n) (gf : Nat) (lb : Array Value) (eg : ∀ args w, (callFunc gf args).run Tryz.prog w = .ok (.enter gf args) w) (S : List Nat → Prop) (N : Nat) (hN : N ≤ 1000000000000) (w : World)
    (hseq : SeqStopsK Fence.wide (n - 1) Tryz.prog gf lb (fun x : Nat => #[encT x]) KeepsWalks S (fun _ => True) N w) :
    CallsIn Fence.wide n Tryz.prog 245 #[.slice none 0 0, .func (.func gf) #[] lb] w fun e W' => ∃ (v : Value) (ss : List Nat), e = .returned v ∧ S ss ∧ W'.ownsRow w.heap.size 3 1 v ss.length (ss.map encT) ∧ Below w.heap.size w W' := by
  have h1 : 1 ≤ n := by omega
  obtain ⟨i0, hi, hz0, hz1, hz2⟩ := info_parts infoIntT
  refine callsIn_of_wp_marks Tryz.func245 rfl trivial ?_ rfl
  simp only [Tryz.ntmps245, List.size_toArray, List.length_cons, List.length_nil, Nat.reduceAdd, Nat.reduceSub, Array.replicate_succ, Array.replicate_zero, List.push_toArray, List.append_toArray, List.nil_append, List.cons_append]
  gi_wp2
  have bO := Boxed.new w 72 (.slice none 0 0)
  have hB0 : Below w.heap.size w (w.alloc (.cells #[.slice none 0 0] 72)) := (Below.refl _ w).alloc (Nat.le_refl _) _
  refine wpIn_rangeFunc_ownG rfl h1 (gf := gf) (lb := lb) rfl trivial eg hseq walksK_t walksK_b hB0 (fun _ => rfl)
    (fun pre W => (∃ v, Boxed W w.heap.size 72 v ∧ W.ownsRow w.heap.size 3 1 v pre.length (pre.map encT) ∧ (v = .slice none 0 0 ↔ pre = [])) ∧ Below w.heap.size w W)
    (fun _ _ _ => False)
    (OwnFrom.and (Own.from (holdsRow_own w.heap.size w.heap.size 72 3 1 (fun pre : List Nat => pre.length) (fun pre => pre.map encT) (fun pre v => v = .slice none 0 0 ↔ pre = [])) _) (ownFrom_below (Nat.le_refl _) (by simp)))
    (fun _ _ _ _ _ hs _ _ => hs)
    ⟨⟨_, bO, World.ownsRow_nil _ _ _ _, by simp⟩, hB0⟩
    (fun x => { tmps := #[.slice none 0 0, .func (.func gf) #[] lb, .pointer (some ⟨w.heap.size, 0, none⟩), undef, .slice none 0 0, encT x, .func (.func gf) #[] lb, encT x, undef, undef, undef, undef, undef], defers := [] }) ?assign ?body ?done ?stop
  case assign =>
    intro l x W K hK
    gi_wp2
    exact hK
  case body =>
    rintro l pre x W ⟨⟨v, hv, hrow, hnil⟩, hB⟩ hlt
    have hc := hv.cell
    have k1 : pre.length + 1 ≤ maxLen := by simp only [maxLen]; omega
    have k2 : (pre.length + 1) * 8 ≤ 140737488355328 := by omega
    gi_wp2_with (gi_at_builtin; refine wpListIn_append_own _ rfl _ _ 72 rfl w.heap.size 3 i0 (.int .i64 0) 1 8 Tryz.underlying72 hi hz0 hz1 hz2 rfl (by decide) _ _ _ rfl (hrow.alloc _) ⟨W.heap.size, 0, none⟩ 1 1 [encT x] rfl rfl (cell_one_new _ _ _) (by simp [Value.oneCell']) k1 k2 (by have := hB.size; simp; omega) ?_; intro v' w1 hown' hgrow _; obtain ⟨g', cap', rfl⟩ := ownsRow_succ hown'; obtain ⟨hv1, hv2, hr2, hk2, hb2⟩ := hv.appended (by decide) hrow hB.size (Nat.le_refl _) hown' hgrow; have hc1 := hv1.cell; have hf1 := hv1.frozen)
    refine ⟨hk2.from _, ?_, ⟨_, hv2, by simpa using hr2, by simp⟩, hB.trans hb2⟩
    exact hk2.walks
  case done =>
    rintro D ys W hD hS ⟨⟨v, hv, hrow, hnil⟩, hB⟩ hK
    have hc := hv.cell
    gi_wp2
    refine ⟨by simp, .inl ⟨_, _, rfl, run_takeDeferred hK, ?_⟩⟩
    exact ⟨_, results_tmp rfl _ _ _, v, ys, rfl, hS, ownsRow_putObj hrow _ hK rfl, hB.trans (belowK_b (w := w) (Nat.le_refl _) W D _ _ (by simp at hD; omega) hK rfl rfl)⟩
  case stop =>
    rintro D c pre W _ _ h _
    exact h.elim
end

theorem collectT_in (n : Nat) (hn : 4 ≤ n) (gf : Nat) (lb : Array Value) (eg : ∀ args w, (callFunc gf args).run Tryz.prog w = .ok (.enter gf args) w) (S : List Nat → Prop) (N : Nat) (hN : N ≤ 1000000000000) (w : World)
    (hseq : SeqStopsK Fence.wide (n - 1 - 1) Tryz.prog gf lb (fun x : Nat => #[encT x]) KeepsWalks S (fun _ => True) N w) :
    CallsIn Fence.wide n Tryz.prog 207 #[.func (.func gf) #[] lb] w fun e W' => ∃ (v : Value) (ss : List Nat), e = .returned v ∧ S ss ∧ W'.ownsRow w.heap.size 3 1 v ss.length (ss.map encT) ∧ Below w.heap.size w W' := by
  have h1 : 1 ≤ n := by omega
  refine callsIn_of_wp Tryz.func207 rfl trivial ?_ rfl
  simp only [Tryz.ntmps207, List.size_toArray, List.length_cons, List.length_nil, Nat.reduceAdd, Nat.reduceSub, Array.replicate_succ, Array.replicate_zero, List.push_toArray, List.append_toArray, List.nil_append, List.cons_append]
  have hfA : Fence.wide.fn 245 := trivial
  gi_wp2_with (gi_at_call 245; refine (appendSeqT_in (n - 1) (by omega) gf lb eg S N hN _ hseq).mono ?_; rintro e w' ⟨v, ss, rfl, hS, hrow, hb⟩)
  go_ret
  exact ⟨v, ss, rfl, hS, hrow, hb⟩

/-! sorted -/
theorem merge_rising {ss ts : List Nat} (hp : ss.Perm ts) (hr : ts.Pairwise (· < ·)) : ((ss.map (Int.ofNat ·)).mergeSort fun x y => decide (x ≤ y)) = ts.map (Int.ofNat ·) := by
  refine List.Perm.eq_of_pairwise (le := fun x y : Int => x ≤ y) (fun a b _ _ h1 h2 => Int.le_antisymm h1 h2) ?_ ?_ ((List.mergeSort_perm _ _).trans (hp.map _))
  · have := List.pairwise_mergeSort (le := fun x y : Int => decide (x ≤ y)) (fun a b c h1 h2 => by simp at *; omega) (fun a b => by simp; omega) (ss.map (Int.ofNat ·))
    exact this.imp fun h => by simpa using h
  · exact List.pairwise_map.2 (hr.imp fun h => by simp; omega)
set_option maxRecDepth 100000 in
set_option maxHeartbeats 2000000 in
theorem sortedT_in (n : Nat) (hn : 5 ≤ n) (gf : Nat) (lb : Array Value) (eg : ∀ args w, (callFunc gf args).run Tryz.prog w = .ok (.enter gf args) w) (ts : List Nat) (hts : ts.length ≤ 1000000000) (hr : ts.Pairwise (· < ·)) (w : World)
    (hseq : SeqStopsK Fence.wide (n - 1 - 1 - 1) Tryz.prog gf lb (fun x : Nat => #[encT x]) KeepsWalks (fun ss => ss.Perm ts) (fun _ => True) ts.length w) :
    CallsIn Fence.wide n Tryz.prog 150 #[.func (.func gf) #[] lb] w fun e W' => ∃ (v : Value), e = .returned v ∧ W'.ownsRow w.heap.size 3 1 v ts.length (ts.map encT) ∧ Below w.heap.size w W' := by
  have h1 : 1 ≤ n := by omega
  refine callsIn_of_wp Tryz.func150 rfl trivial ?_ rfl
  simp only [Tryz.ntmps150, List.size_toArray, List.length_cons, List.length_nil, Nat.reduceAdd, Nat.reduceSub, Array.replicate_succ, Array.replicate_zero, List.push_toArray, List.append_toArray, List.nil_append, List.cons_append]
  have hfC : Fence.wide.fn 207 := trivial
  have hfS : Fence.wide.fn 208 := trivial
  gi_wp2_with (gi_at_call 207; refine (collectT_in (n - 1) (by omega) gf lb eg (fun ss => ss.Perm ts) ts.length (by omega) _ hseq).mono ?_; rintro e W ⟨v, ss, rfl, hS, hrow, hb⟩)
  have hl := hS.length_eq
  rcases hrow.2 with ⟨rfl, hz⟩ | ⟨gb, cap, cur, rfl, hbase, hgb, r1, r2, r3, r4⟩
  · have ht : ts = [] := List.eq_nil_of_length_eq_zero (by omega)
    subst ht
    gi_wp2_with (gi_at_call 208; refine (callsIn_wide.2 (Tryz.slices_Sort_int_none none 0 W)).mono ?_; rintro e w' ⟨rfl, rfl⟩)
    go_ret
    exact ⟨.slice none 0 0, rfl, ⟨rfl, .inl ⟨rfl, rfl⟩⟩, hb⟩
  · have hH : Holds encZ W gb 0 (ss.map (Int.ofNat ·)).toArray := holds_of_block_i hgb (by
      rw [List.length_map, List.map_map]
      rw [Nat.mul_one] at r4
      exact r4)
    have hlt : gb < W.heap.size := (Array.getElem?_eq_some_iff.1 hgb).1
    have cS := callsIn_wide (n := n - 1) |>.2 (Tryz.slices_Sort_int gb 0 cap (ss.map (Int.ofNat ·)) W hH hlt (by rw [List.length_map]; omega))
    rw [merge_rising hS hr, List.length_map] at cS
    have hout : ∀ nn os, (grow (putRow encZ (Sort.ahead W nn) gb 0 (ts.map (Int.ofNat ·)).toArray) os).ownsRow w.heap.size 3 1 (.slice (some ⟨gb, 0, none⟩) ss.length cap) ss.length (ts.map encT) := fun nn os => by
      have := ownsRow_sorted_i (n := nn) (os := os) (ss := ss.map (Int.ofNat ·)) (ts := ts.map (Int.ofNat ·)) (by simp [hl]) hbase hgb (by rw [List.length_map]; exact r1) r2 r3
      rw [List.length_map, List.map_map] at this
      exact this
    have hbel : ∀ nn os, Below w.heap.size w (grow (putRow encZ (Sort.ahead W nn) gb 0 (ts.map (Int.ofNat ·)).toArray) os) := fun nn os => hb.grown (grownBy_sorted_i _) hb.size (fun k e => by cases e; exact hbase)
    have HO := Lib.hid hout
    have HBL := Lib.hid hbel
    clear hout hbel hH hrow r4
    gi_wp2_with (gi_at_call 208; refine cS.mono ?_; rintro e w' ⟨rfl, nn, os, rfl⟩)
    go_ret
    refine ⟨_, rfl, ?_, HBL.out _ _⟩
    have := HO.out nn os
    rw [← hl]
    exact this
/-- the keys of a map of transactions, sorted: the two calls -/
theorem keysT_c (mb : Option Nat) (W : World) : Calls Tryz.prog 160 #[.map mb] W fun e w' => e = .returned (.func (.func 211) #[] #[.pointer (some ⟨W.heap.size, 0, none⟩)]) ∧ w' = W.alloc (.cells #[.map mb] 175) := (callsIn_wide (n := 6)).1 (keysT_in 6 mb W)
theorem sortedT_c {w : World} {b : Nat} {vs : List (Nat × Value)} (h : MapT w b vs) (hl : vs.length ≤ 1000000000) :
    Calls Tryz.prog 150 #[.func (.func 211) #[] #[.pointer (some ⟨w.heap.size, 0, none⟩)]] (w.alloc (.cells #[.map (some b)] 175)) fun e w' => ∃ v, e = .returned v ∧ w'.ownsRow (w.heap.size + 1) 3 1 v vs.length (vs.map fun p => encT p.1) ∧ Below (w.heap.size + 1) (w.alloc (.cells #[.map (some b)] 175)) w' := by
  refine (callsIn_wide (n := 6)).1 ?_
  have hbl := h.lt
  have hseq : SeqStopsK Fence.wide 3 Tryz.prog 211 #[.pointer (some ⟨w.heap.size, 0, none⟩)] (fun x : Nat => #[encT x]) KeepsWalks (fun ss => ss.Perm (vs.map (·.1))) (fun _ => True) vs.length (w.alloc (.cells #[.map (some b)] 175)) :=
    keysT_stops 3 (by omega) w.heap.size b vs.length vs h.rising _ (by simp) (by simp) (by
      obtain ⟨es, clock, hb, r⟩ := h.own
      exact ⟨es, clock, (Below.heap_alloc _ _ b hbl).trans hb, r⟩)
  have hr : (vs.map (·.1)).Pairwise (· < ·) := List.pairwise_map.2 h.rising
  have e1 : (vs.map (·.1)).length = vs.length := by simp
  rw [← e1] at hseq
  have cS := sortedT_in 6 (by omega) 211 #[.pointer (some ⟨w.heap.size, 0, none⟩)] (enters_of Tryz.func211 (by kernel_rfl) rfl) (vs.map (·.1)) (by rw [e1]; exact hl) hr _ hseq
  refine cS.mono ?_
  rintro e w' ⟨v, rfl, hrow, hb⟩
  have hz : (w.alloc (.cells #[.map (some b)] 175)).heap.size = w.heap.size + 1 := by simp
  rw [hz, e1] at hrow
  rw [hz] at hb
  refine ⟨v, rfl, ?_, hb⟩
  simpa [List.map_map, Function.comp_def] using hrow
end Go.Proofs.YtpnndlahfllbhaaGreat
