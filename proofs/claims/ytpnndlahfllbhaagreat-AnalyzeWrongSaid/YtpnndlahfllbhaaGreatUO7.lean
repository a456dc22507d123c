/-
  The values of a map from pages to places, collected; the least of them.
-/
import Derived.Test.YtpnndlahfllbhaaGreatUO6
import Derived.Test.YtpnndlahfllbhaaGreatUO2
import Derived.Test.YtpnndlahfllbhaaGreatUKS
import Derived.Sort.OwnSorted
import Derived.Lib.SlKeysI
import Derived.RangeFuncNested
import Derived.RangeFuncBound
import Derived.RangeFuncCalls
import Derived.RangeFuncLeaves
import Derived.RangeFuncBox
import Derived.RangeFuncStops
import Derived.Shelf.Abstract
import Derived.Maps.OwnIn
import Derived.Maps.AppendAt
import Derived.WalkKit
import Derived.OwnWalkIn
import Derived.TacticsInMore
import Derived.LoopNIn
import Derived.LoopIn
import Derived.Sort.WalkA
import Derived.Sort.MapsRangeIn
import Derived.Deep.QuietTactic
import Derived.BigQuiet
namespace Go.Proofs.YtpnndlahfllbhaaGreat
open Go Go.RowKit Go.Sort Go.Shelf Go.Proofs
open Go.Maps (Keyed)


/-! values of a rising list -/
def valsL (l : List (Nat × Nat)) (ss : List Nat) : List Nat := ss.map fun k => (getL k l).getD 0
theorem valsL_perm {l : List (Nat × Nat)} {ss : List Nat} (hr : RisingL l) (h : ss.Perm (l.map (·.1))) : (valsL l ss).Perm (l.map (·.2)) := by
  have h1 := h.map fun k => (getL k l).getD 0
  have h2 : (l.map (·.1)).map (fun k => (getL k l).getD 0) = l.map (·.2) := by
    rw [List.map_map]
    refine List.map_congr_left fun p hp => ?_
    obtain ⟨k, v⟩ := p
    show (getL k l).getD 0 = v
    rw [getL_of_mem hr hp]; rfl
  rw [h2] at h1
  exact h1
theorem val_of_at {l : List (Nat × Nat)} {x : Nat} {c : Value} (h : ∀ zd, (mapD (mapL_ lsnV l)).atKey (keyD x) zd = .held c) : (getL x (mapL_ lsnV l)).isSome = true ∧ c = lsnV ((getL x l).getD 0) := by
  have h1 := has_of_at h
  refine ⟨h1, ?_⟩
  have h2 := h (.held (.bool true))
  rw [mapD_at, mapL_get] at h2
  rw [mapL_get] at h1
  cases hg : getL x l with
  | none => rw [hg] at h1; cases h1
  | some v =>
    rw [hg] at h2
    simpa using h2.symm

set_option maxRecDepth 100000 in
set_option maxHeartbeats 1000000 in
theorem valuesL1_in (n : Nat) (hn : 1 ≤ n) (l Bm b nn : Nat) (vs : List (Nat × Nat)) (hrs : RisingL (mapL_ lsnV vs)) (J Jx : List Nat → World → Prop)
    (hY : ∀ pre x W, J pre W → pre.length < vs.length → YieldAt Fence.wide (n - 1) Tryz.prog l #[lsnV x] W fun e W' =>
      (e = .returned (.bool true) ∧ J (pre ++ [x]) W' ∧ KeepsWalks W W') ∨ (e = .returned (.bool false) ∧ Jx (pre ++ [x]) W'))
    (W : World) (hJ : AbidesFrom W.heap.size J) (hm : W.cell? ⟨Bm, 0, none⟩ = some (.map (some b))) (hown : W.ownsMap Tryz.prog 48 anyV b nn (mapD (mapL_ lsnV vs))) (h0 : J [] W) :
    CallsIn Fence.wide n Tryz.prog 213 #[.func (.yield l) #[] #[], .pointer (some ⟨Bm, 0, none⟩)] W fun e W' => (∃ v, e = .returned v) ∧
      ((∃ ss : List Nat, (∃ ks : List Nat, ks.Perm (vs.map (·.1)) ∧ ss = valsL vs ks) ∧ J ss W') ∨ (∃ pre : List Nat, True ∧ Jx pre W')) := by
  refine callsIn_of_wp Tryz.func213 rfl trivial ?_ rfl
  simp only [Tryz.ntmps213, List.size_toArray, List.length_cons, List.length_nil, Nat.reduceAdd, Nat.reduceSub, Array.replicate_succ, Array.replicate_zero, List.push_toArray, List.append_toArray, List.nil_append, List.cons_append]
  have hlv : (mapL_ lsnV vs).length = vs.length := mapL_length vs
  gi_wp2_with (first
    | (gi_at_range; refine wpListIn_range_own _ rfl _ 176 rfl 48 31 keyedP Tryz.underlying176 anyV b nn (mapD (mapL_ lsnV vs)) rfl hown ?_; intro w0 hrg0 hg0 hs0)
    | gi_in)
  go_frame
  gi_loopw [4] (fun _ wr => ∃ (left : Lit → Bool) (cnt : Nat) (ss : List Nat), wr.ranges Tryz.prog 48 anyV b W.heap.size nn (mapD (mapL_ lsnV vs)) left cnt ∧ ss.length + cnt ≤ vs.length ∧ GotK (mapL_ lsnV vs) left ss ∧ J (valsL vs ss) wr)
    (fun _ wr => wr.rangeLeft b W.heap.size)
  case atStart =>
    exact ⟨_, _, [], hrg0, by rw [← hlv]; simp [mapD_size], GotK.start _, hJ [] W w0 none h0 hg0 (fun r e => by cases e)⟩
  case round =>
    obtain ⟨left, cnt, ss, hrg, hcs, hC, hJs⟩ := hrel
    gi_wp2_with (first
      | (gi_at_next; refine wpListIn_next_ranges _ rfl _ rfl 48 keyedP anyV encP id (fun key kl hk => by obtain ⟨x, hx, _⟩ := keyOf_page hk; exact ⟨x, hx⟩) (fun v _ _ => ⟨v, rfl⟩) b W.heap.size nn _ _ _ rfl hrg ?_ ?_)
      | gi_in)
    · intro hc0 hl0
      gi_wp2
      go_end0
      refine ⟨⟨_, rfl⟩, .inl ⟨valsL vs ss, ⟨ss, ?_, rfl⟩, hJs⟩⟩
      have := hC.done hrs hl0
      simpa [mapL_, List.map_map, Function.comp_def] using this
    · intro x c kl yd yp w2 cnt2 hkey hlk hv hat hrg2 hlt hg2 hs2 hen
      obtain ⟨x', ex, rfl⟩ := keyOf_page hkey
      obtain rfl : x = x' := encP_inj ex
      obtain ⟨rfl, -⟩ : yd = .held c ∧ True := by
        unfold anyV at hv
        simp at hv
        exact ⟨hv.1.symm, trivial⟩
      obtain ⟨hin, rfl⟩ := val_of_at hat
      have hJ2 : J (valsL vs ss) w2 := hJ _ wr w2 (some W.heap.size) hJs hg2 (fun r e => by cases e; exact ⟨Nat.le_refl _, hrg.iter_walk⟩)
      have e1 : valsL vs (ss ++ [x]) = valsL vs ss ++ [(getL x vs).getD 0] := by unfold valsL; rw [List.map_append]; rfl
      have hvl : (valsL vs ss).length = ss.length := by unfold valsL; rw [List.length_map]
      obtain ⟨fn, tmps, assign, body, hy, hR⟩ := hY (valsL vs ss) ((getL x vs).getD 0) w2 hJ2 (by omega)
      rw [← e1] at hR
      clear hs2 e1 hvl
      have hC2 := hC.step hlk hin
      generalize (getL x vs).getD 0 = yv at *
      gi_wp2
      refine hR.mono ?_
      rintro e W3 (⟨rfl, hJ3, hk3⟩ | ⟨rfl, hJx3⟩)
      · gi_wp2
        have hrg3 := hrg2.of_walks hk3
        go_roundw
        case rel => exact ⟨_, cnt2, ss ++ [x], hrg3, by simp; omega, hC2, hJ3⟩
        case measure => rw [hrg3.left_eq, hrg.left_eq]; exact hlt
      · gi_wp2
        refine bodyPost_ret (results_none rfl _ _ _) rfl ?_
        exact ⟨⟨_, rfl⟩, .inr ⟨_, trivial, hJx3⟩⟩
theorem valuesL_stops (n : Nat) (hn : 1 ≤ n) (Bm b nn : Nat) (vs : List (Nat × Nat)) (hrs : RisingL (mapL_ lsnV vs)) (w : World) (hBm : Bm < w.heap.size) (hm : w.cell? ⟨Bm, 0, none⟩ = some (.map (some b))) (hown : w.ownsMap Tryz.prog 48 anyV b nn (mapD (mapL_ lsnV vs))) :
    SeqStopsK Fence.wide n Tryz.prog 213 #[.pointer (some ⟨Bm, 0, none⟩)] (fun x : Nat => #[lsnV x]) KeepsWalks (fun ss => ∃ ks : List Nat, ks.Perm (vs.map (·.1)) ∧ ss = valsL vs ks) (fun _ => True) vs.length w := fun l J Jx W hW hJ _ hY h0 => by
  have hown' : W.ownsMap Tryz.prog 48 anyV b nn (mapD (mapL_ lsnV vs)) := by
    have hbl := hown.lt
    obtain ⟨es, clock, hb, Ft, hs, hD⟩ := hown
    exact ⟨es, clock, (hW.block b hbl).trans hb, Ft, hs, hD⟩
  exact valuesL1_in n hn l Bm b nn vs hrs J Jx hY W hJ ((hW.cell (p := ⟨Bm, 0, none⟩) hBm).trans hm) hown' h0
theorem valuesL_in (n : Nat) (mb : Option Nat) (w : World) :
    CallsIn Fence.wide n Tryz.prog 163 #[.map mb] w fun e w' => e = .returned (.func (.func 213) #[] #[.pointer (some ⟨w.heap.size, 0, none⟩)]) ∧ w' = w.alloc (.cells #[.map mb] 176) := by
  refine callsIn_of_wp Tryz.func163 rfl trivial ?_ rfl
  simp only [Tryz.ntmps163, List.size_toArray, List.length_cons, List.length_nil, Nat.reduceAdd, Nat.reduceSub, Array.replicate_succ, Array.replicate_zero, List.push_toArray, List.append_toArray, List.nil_append, List.cons_append]
  gi_wp2
  go_ret
  exact ⟨rfl, rfl⟩
theorem valuesL_c (mb : Option Nat) (W : World) : Calls Tryz.prog 163 #[.map mb] W fun e w' => e = .returned (.func (.func 213) #[] #[.pointer (some ⟨W.heap.size, 0, none⟩)]) ∧ w' = W.alloc (.cells #[.map mb] 176) := (callsIn_wide (n := 6)).1 (valuesL_in 6 mb W)
abbrev encL (x : Nat) : Value := .int .u64 (x : Int)
theorem infoLSNv : (Tryz.prog.info? 31).map (fun i => (i.zero, i.size, i.bytes)) = some (some (.int .u64 0), 1, 8) := by kernel_rfl
section
attribute [local go_sem] Oper.semAt_some
set_option maxRecDepth 100000 in
set_option maxHeartbeats 2000000 in
theorem appendSeqL_in (n : Nat) (hn : 3 ≤ n) (gf : Nat) (lb : Array Value) (eg : ∀ args w, (callFunc gf args).run Tryz.prog w = .ok (.enter gf args) w) (S : List Nat → Prop) (N : Nat) (hN : N ≤ 1000000000000) (w : World)
    (hseq : SeqStopsK Fence.wide (n - 1) Tryz.prog gf lb (fun x : Nat => #[encL x]) KeepsWalks S (fun _ => True) N w) :
    CallsIn Fence.wide n Tryz.prog 212 #[.slice none 0 0, .func (.func gf) #[] lb] w fun e W' => ∃ (v : Value) (ss : List Nat), e = .returned v ∧ S ss ∧ W'.ownsRow w.heap.size 31 1 v ss.length (ss.map encL) ∧ Below w.heap.size w W' := by
  have h1 : 1 ≤ n := by omega
  obtain ⟨i0, hi, hz0, hz1, hz2⟩ := info_parts infoLSNv
  refine callsIn_of_wp_marks Tryz.func212 rfl trivial ?_ rfl
  simp only [Tryz.ntmps212, List.size_toArray, List.length_cons, List.length_nil, Nat.reduceAdd, Nat.reduceSub, Array.replicate_succ, Array.replicate_zero, List.push_toArray, List.append_toArray, List.nil_append, List.cons_append]
  gi_wp2
  have bO := Boxed.new w 140 (.slice none 0 0)
  have hB0 : Below w.heap.size w (w.alloc (.cells #[.slice none 0 0] 140)) := (Below.refl _ w).alloc (Nat.le_refl _) _
  refine wpIn_rangeFunc_ownG rfl h1 (gf := gf) (lb := lb) rfl trivial eg hseq walksK_t walksK_b hB0 (fun _ => rfl)
    (fun pre W => (∃ v, Boxed W w.heap.size 140 v ∧ W.ownsRow w.heap.size 31 1 v pre.length (pre.map encL) ∧ (v = .slice none 0 0 ↔ pre = [])) ∧ Below w.heap.size w W)
    (fun _ _ _ => False)
    (OwnFrom.and (Own.from (holdsRow_own w.heap.size w.heap.size 140 31 1 (fun pre : List Nat => pre.length) (fun pre => pre.map encL) (fun pre v => v = .slice none 0 0 ↔ pre = [])) _) (ownFrom_below (Nat.le_refl _) (by simp)))
    (fun _ _ _ _ _ hs _ _ => hs)
    ⟨⟨_, bO, World.ownsRow_nil _ _ _ _, by simp⟩, hB0⟩
    (fun x => { tmps := #[.slice none 0 0, .func (.func gf) #[] lb, .pointer (some ⟨w.heap.size, 0, none⟩), undef, .slice none 0 0, encL x, .func (.func gf) #[] lb, encL x, undef, undef, undef, undef, undef], defers := [] }) ?assign ?body ?done ?stop
  case assign =>
    intro l x W K hK
    gi_wp2
    exact hK
  case body =>
    rintro l pre x W ⟨⟨v, hv, hrow, hnil⟩, hB⟩ hlt
    have hc := hv.cell
    have k1 : pre.length + 1 ≤ maxLen := by simp only [maxLen]; omega
    have k2 : (pre.length + 1) * 8 ≤ 140737488355328 := by omega
    gi_wp2_with (gi_at_builtin; refine wpListIn_append_own _ rfl _ _ 140 rfl w.heap.size 31 i0 (.int .u64 0) 1 8 Tryz.underlying140 hi hz0 hz1 hz2 rfl (by decide) _ _ _ rfl (hrow.alloc _) ⟨W.heap.size, 0, none⟩ 1 1 [encL x] rfl rfl (cell_one_new _ _ _) (by simp [Value.oneCell']) k1 k2 (by have := hB.size; simp; omega) ?_; intro v' w1 hown' hgrow _; obtain ⟨g', cap', rfl⟩ := ownsRow_succ hown'; obtain ⟨hv1, hv2, hr2, hk2, hb2⟩ := hv.appended (by decide) hrow hB.size (Nat.le_refl _) hown' hgrow; have hc1 := hv1.cell; have hf1 := hv1.frozen)
    refine ⟨hk2.from _, ?_, ⟨_, hv2, by simpa using hr2, by simp⟩, hB.trans hb2⟩
    exact hk2.walks
  case done =>
    rintro D ys W hD hS ⟨⟨v, hv, hrow, hnil⟩, hB⟩ hK
    have hc := hv.cell
    gi_wp2
    refine ⟨by simp, .inl ⟨_, _, rfl, run_takeDeferred hK, ?_⟩⟩
    exact ⟨_, results_tmp rfl _ _ _, v, ys, rfl, hS, ownsRow_putObj hrow _ hK rfl, hB.trans (belowK_b (w := w) (Nat.le_refl _) W D _ _ (by simp at hD; omega) hK rfl rfl)⟩
  case stop =>
    rintro D c pre W _ _ h _
    exact h.elim
end

theorem collectLs_in (n : Nat) (hn : 4 ≤ n) (gf : Nat) (lb : Array Value) (eg : ∀ args w, (callFunc gf args).run Tryz.prog w = .ok (.enter gf args) w) (S : List Nat → Prop) (N : Nat) (hN : N ≤ 1000000000000) (w : World)
    (hseq : SeqStopsK Fence.wide (n - 1 - 1) Tryz.prog gf lb (fun x : Nat => #[encL x]) KeepsWalks S (fun _ => True) N w) :
    CallsIn Fence.wide n Tryz.prog 162 #[.func (.func gf) #[] lb] w fun e W' => ∃ (v : Value) (ss : List Nat), e = .returned v ∧ S ss ∧ W'.ownsRow w.heap.size 31 1 v ss.length (ss.map encL) ∧ Below w.heap.size w W' := by
  have h1 : 1 ≤ n := by omega
  refine callsIn_of_wp Tryz.func162 rfl trivial ?_ rfl
  simp only [Tryz.ntmps162, List.size_toArray, List.length_cons, List.length_nil, Nat.reduceAdd, Nat.reduceSub, Array.replicate_succ, Array.replicate_zero, List.push_toArray, List.append_toArray, List.nil_append, List.cons_append]
  have hfA : Fence.wide.fn 212 := trivial
  gi_wp2_with (gi_at_call 212; refine (appendSeqL_in (n - 1) (by omega) gf lb eg S N hN _ hseq).mono ?_; rintro e w' ⟨v, ss, rfl, hS, hrow, hb⟩)
  go_ret
  exact ⟨v, ss, rfl, hS, hrow, hb⟩


theorem collectLs_c {w : World} {b : Nat} {vs : List (Nat × Nat)} (h : MapL w b (mapL_ lsnV vs)) (hl : vs.length ≤ 1000000000) :
    Calls Tryz.prog 162 #[.func (.func 213) #[] #[.pointer (some ⟨w.heap.size, 0, none⟩)]] (w.alloc (.cells #[.map (some b)] 176)) fun e w' => ∃ (v : Value) (ss : List Nat), e = .returned v ∧ ss.Perm (vs.map (·.2)) ∧ w'.ownsRow (w.heap.size + 1) 31 1 v ss.length (ss.map lsnV) ∧ Below (w.heap.size + 1) (w.alloc (.cells #[.map (some b)] 176)) w' := by
  refine (callsIn_wide (n := 6)).1 ?_
  have hbl := h.lt
  have hseq : SeqStopsK Fence.wide 4 Tryz.prog 213 #[.pointer (some ⟨w.heap.size, 0, none⟩)] (fun x : Nat => #[lsnV x]) KeepsWalks (fun ss => ∃ ks : List Nat, ks.Perm (vs.map (·.1)) ∧ ss = valsL vs ks) (fun _ => True) vs.length (w.alloc (.cells #[.map (some b)] 176)) :=
    valuesL_stops 4 (by omega) w.heap.size b _ vs h.rising _ (by simp) (by simp) (by
      obtain ⟨es, clock, hb, r⟩ := h.own
      exact ⟨es, clock, (Below.heap_alloc _ _ b hbl).trans hb, r⟩)
  have cS := collectLs_in 6 (by omega) 213 #[.pointer (some ⟨w.heap.size, 0, none⟩)] (enters_of Tryz.func213 (by kernel_rfl) rfl) _ vs.length (by omega) _ hseq
  refine cS.mono ?_
  rintro e w' ⟨v, ss, rfl, ⟨ks, hp, rfl⟩, hrow, hb⟩
  have hz : (w.alloc (.cells #[.map (some b)] 176)).heap.size = w.heap.size + 1 := by simp
  rw [hz] at hrow hb
  have hr : RisingL vs := by
    have := h.rising
    unfold RisingL mapL_ at this
    have h2 := List.pairwise_map.1 this
    exact h2
  exact ⟨v, _, rfl, valsL_perm hr hp, hrow, hb⟩

/-! the least -/
def minL (x : Nat) (l : List Nat) : Nat := l.foldl min x
theorem minL_mem : ∀ (l : List Nat) (x : Nat), minL x l = x ∨ minL x l ∈ l
  | [], _ => .inl rfl
  | y :: l, x => by
    have ih := minL_mem l (min x y)
    unfold minL at ih ⊢
    rw [List.foldl_cons]
    rcases ih with ih | ih
    · rw [ih]
      rcases Nat.le_total x y with h | h
      · rw [Nat.min_eq_left h]; exact .inl rfl
      · rw [Nat.min_eq_right h]; exact .inr (List.mem_cons_self ..)
    · exact .inr (List.mem_cons_of_mem _ ih)
theorem minL_le : ∀ (l : List Nat) (x : Nat), minL x l ≤ x ∧ ∀ y ∈ l, minL x l ≤ y
  | [], _ => ⟨Nat.le_refl _, fun _ h => by cases h⟩
  | y :: l, x => by
    obtain ⟨h1, h2⟩ := minL_le l (min x y)
    unfold minL at h1 h2 ⊢
    rw [List.foldl_cons]
    refine ⟨Nat.le_trans h1 (Nat.min_le_left ..), fun z hz => ?_⟩
    rcases List.mem_cons.1 hz with rfl | hz
    · exact Nat.le_trans h1 (Nat.min_le_right ..)
    · exact h2 z hz
theorem minL_perm {x y : Nat} {l m : List Nat} (h : (x :: l).Perm (y :: m)) : minL x l = minL y m := by
  have key : ∀ {x y : Nat} {l m : List Nat}, (x :: l).Perm (y :: m) → minL x l ≤ minL y m := fun {x y l m} h => by
    obtain ⟨h1, h2⟩ := minL_le l x
    have hm : minL y m ∈ x :: l := h.symm.subset (by
      rcases minL_mem m y with e | e
      · rw [e]; exact List.mem_cons_self ..
      · exact List.mem_cons_of_mem _ e)
    rcases List.mem_cons.1 hm with e | e
    · rw [e]; exact h1
    · exact h2 _ e
  exact Nat.le_antisymm (key h) (key h.symm)
theorem redoOf_perm {en x : Nat} {l : List Nat} {vs : List (Nat × Nat)} (h : (x :: l).Perm (vs.map (·.2))) : minL x l = redoOf en vs := by
  cases vs with
  | nil => exact absurd h.length_eq (by simp)
  | cons d vs =>
    rw [List.map_cons] at h
    rw [minL_perm h]
    unfold minL redoOf
    rw [List.foldl_map]
theorem minL_take (x : Nat) (l : List Nat) (j : Nat) (hj : j < l.length) : minL x (l.take (j + 1)) = min (minL x (l.take j)) (l[j]'hj) := by
  unfold minL
  rw [List.take_succ_eq_append_getElem hj, List.foldl_append]
  rfl

set_option maxRecDepth 100000 in
set_option maxHeartbeats 2000000 in
theorem minLs_c {w : World} {v : Value} {x : Nat} {l : List Nat} {base : Nat} (h : w.ownsRow base 31 1 v (x :: l).length ((x :: l).map lsnV)) (hl : l.length < 1000000000) (hu : ∀ y ∈ x :: l, y < 18446744073709551616) :
    Calls Tryz.prog 161 #[v] w fun e w' => e = .returned (lsnV (minL x l)) ∧ w' = w := by
  rcases h.2 with ⟨rfl, hz⟩ | ⟨gb, cap, cur, rfl, hbase, hgb, r1, r2, r3, r4⟩
  · simp at hz
  · have hld : ∀ j (hj : j < (x :: l).length), w.cell? ⟨gb, j, none⟩ = some (lsnV ((x :: l)[j]'hj)) := fun j hj => by
      have h1 : (cur.toList.take (x :: l).length)[j]? = ((x :: l).map lsnV)[j]? := by rw [← r4, Nat.mul_one]
      rw [List.getElem?_take_of_lt hj] at h1
      simp only [World.cell?, hgb]
      simp only [Option.isSome_none, Bool.false_eq_true, if_false]
      rw [← Array.getElem?_toList, h1, List.getElem?_map, List.getElem?_eq_getElem hj]
      rfl
    have HLD := Lib.hid hld
    have h0 := hld 0 (by simp)
    simp only [List.getElem_cons_zero] at h0
    have HU := Lib.hid hu
    have hlen : (x :: l).length = l.length + 1 := rfl
    have HLEN := Lib.hid hlen
    clear h r1 r2 r3 r4 hld hu hgb hlen
    unfold lsnV at h0 ⊢
    go_enter Tryz.func161, Tryz.ntmps161
    go_wp2
    go_loopw [3, 4] (fun a b wr => ∃ j : Nat, b = .int .i64 ((j : Int) + 1) ∧ Hid (j ≤ l.length) ∧ a = .int .u64 (minL x (l.take j) : Nat) ∧ wr = w) (fun _ b _ => match b with | .int _ z => l.length + 1 - z.toNat | _ => 0)
    case atStart => exact ⟨0, rfl, Nat.zero_le _, rfl, rfl⟩
    case round =>
      obtain ⟨j, rfl, HJ, rfl, rfl⟩ := hrel
      have hj := HJ.out
      by_cases hd : j < l.length
      · have hc := HLD.out (j + 1) (by rw [HLEN.out]; omega)
        simp only [List.getElem_cons_succ] at hc
        unfold lsnV at hc
        have hx1 := HU.out _ (List.mem_cons_of_mem _ (List.getElem_mem hd))
        have hx2 : minL x (l.take j) < 18446744073709551616 := Nat.lt_of_le_of_lt (minL_le _ _).1 (HU.out x (List.mem_cons_self ..))
        have HTK := Lib.hid (minL_take x l j hd)
        generalize l[j]'hd = y at hc hx1 HTK
        generalize hm : minL x (l.take j) = m at hx2 HTK ⊢
        go_wp2
        refine ⟨⟨j + 1, by push_cast; rfl, (by show _ ≤ _; omega), ?_, trivial⟩, by simp only []; omega⟩
        rw [HTK.out]
        congr 1
        omega
      · go_wp2
        go_ret
        refine ⟨?_, rfl⟩
        rw [List.take_of_length_le (by omega)]
        rfl
end Go.Proofs.YtpnndlahfllbhaaGreat
