/-
  The keys of a map of frames, collected and sorted: at most twelve of them.
-/
import Derived.Test.YtnghgkaoopcglaaGreatM2
import Derived.RangeFuncNested
import Derived.RangeFuncBound
import Derived.RangeFuncCalls
import Derived.RangeFuncLeaves
import Derived.RangeFuncBox
import Derived.RangeFuncStops
import Derived.Shelf.Abstract
import Derived.Maps.OwnIn
import Derived.Maps.AppendAt
import Derived.WalkKit
import Derived.OwnWalkIn
import Derived.TacticsInMore
import Derived.LoopNIn
import Derived.LoopIn
import Derived.Sort.WalkA
import Derived.Sort.MapsRangeIn
import Derived.Deep.QuietTactic
import Derived.BigQuiet
namespace Go.Proofs.YtnghgkaoopcglaaGreat
open Go Go.RowKit Go.Sort Go.Shelf
open Go.Maps (Keyed)

abbrev encP (x : Nat) : Value := .int .u32 (x : Int)
theorem encP_inj {x y : Nat} (h : encP x = encP y) : x = y := by
  simp [encP] at h
  omega
theorem keyOf_page {key : Value} {kl : Lit} (h : keyOf Tryz.prog 48 key = some kl) : ∃ x : Nat, key = encP x ∧ kl = keyD x := by
  obtain ⟨x, h1, h2, h3⟩ := Maps.keyOf_int_inv Tryz.underlying48 h
  have hw : 0 ≤ x := by
    unfold Lit.wf at h3
    simp [IntKind.min, IntKind.max, IntKind.signed, IntKind.bits] at h3
    exact h3.1
  refine ⟨x.toNat, ?_, ?_⟩
  · rw [h1, encP, Int.toNat_of_nonneg hw]
  · rw [h2, keyD, Int.toNat_of_nonneg hw]
/-- what has come of a map's keys -/
def GotK (l : List (Nat × Value)) (left : Lit → Bool) (ss : List Nat) : Prop := ss.Nodup ∧ ∀ x, x ∈ ss ↔ ((getL x l).isSome = true ∧ left (keyD x) = false)
theorem GotK.start (l : List (Nat × Value)) : GotK l (Maps.has (mapD l)) [] := ⟨List.nodup_nil, fun x => by rw [mapD_has]; cases (getL x l).isSome <;> simp⟩
theorem GotK.step {l : List (Nat × Value)} {left : Lit → Bool} {ss : List Nat} (h : GotK l left ss) {x : Nat} (hx : left (keyD x) = true) (hin : (getL x l).isSome = true) : GotK l (fun z => left z && !z.sameKey (keyD x)) (ss ++ [x]) := by
  have hnew : x ∉ ss := fun hm => by have := ((h.2 x).1 hm).2; rw [hx] at this; cases this
  refine ⟨List.nodup_append.2 ⟨h.1, by simp, fun a ha b hb => by simp at hb; subst hb; exact fun e => hnew (e ▸ ha)⟩, fun y => ?_⟩
  rw [List.mem_append, h.2 y, List.mem_singleton]
  show _ ↔ (getL y l).isSome = true ∧ (left (keyD y) && !(keyD y).sameKey (keyD x)) = false
  rw [keyD_same]
  by_cases e : y = x
  · subst e; simp [hin]
  · simp [e]
theorem GotK.done {l : List (Nat × Value)} {left : Lit → Bool} {ss : List Nat} (h : GotK l left ss) (hr : RisingL l) (hl : ∀ kl, left kl = false) : ss.Perm (l.map (·.1)) := by
  refine (List.perm_ext_iff_of_nodup h.1 ?_).2 fun x => ?_
  · exact List.pairwise_map.2 (hr.imp fun hlt e => by omega)
  · rw [h.2 x, hl]
    simp only [and_true, List.mem_map]
    constructor
    · intro hs
      obtain ⟨v, hv⟩ := Option.isSome_iff_exists.1 hs
      exact ⟨(x, v), getL_some_mem hv, rfl⟩
    · rintro ⟨⟨k, v⟩, hm, rfl⟩
      rw [getL_of_mem hr hm]; rfl
theorem has_of_at {l : List (Nat × Value)} {x : Nat} {y : DataW Value} (h : ∀ zd, (mapD l).atKey (keyD x) zd = y) : (getL x l).isSome = true := by
  cases hg : getL x l with
  | some v => rfl
  | none =>
    have h1 := h (.held (.bool true))
    have h2 := h (.held (.bool false))
    rw [mapD_at, hg] at h1 h2
    rw [← h2] at h1
    simp at h1

set_option maxRecDepth 100000 in
set_option maxHeartbeats 1000000 in
theorem keysP1_in (n : Nat) (hn : 1 ≤ n) (l Bm b nn : Nat) (vs : List (Nat × Value)) (hrs : RisingL vs) (J Jx : List Nat → World → Prop)
    (hY : ∀ pre x W, J pre W → pre.length < vs.length → YieldAt Fence.wide (n - 1) Tryz.prog l #[encP x] W fun e W' =>
      (e = .returned (.bool true) ∧ J (pre ++ [x]) W' ∧ KeepsWalks W W') ∨ (e = .returned (.bool false) ∧ Jx (pre ++ [x]) W'))
    (W : World) (hJ : AbidesFrom W.heap.size J) (hm : W.cell? ⟨Bm, 0, none⟩ = some (.map (some b))) (hown : W.ownsMap Tryz.prog 48 anyV b nn (mapD vs)) (h0 : J [] W) :
    CallsIn Fence.wide n Tryz.prog 135 #[.func (.yield l) #[] #[], .pointer (some ⟨Bm, 0, none⟩)] W fun e W' => (∃ v, e = .returned v) ∧
      ((∃ ss : List Nat, ss.Perm (vs.map (·.1)) ∧ J ss W') ∨ (∃ pre : List Nat, True ∧ Jx pre W')) := by
  refine callsIn_of_wp Tryz.func135 rfl trivial ?_ rfl
  simp only [Tryz.ntmps135, List.size_toArray, List.length_cons, List.length_nil, Nat.reduceAdd, Nat.reduceSub, Array.replicate_succ, Array.replicate_zero, List.push_toArray, List.append_toArray, List.nil_append, List.cons_append]
  gi_wp2_with (first
    | (gi_at_range; refine wpListIn_range_own _ rfl _ 158 rfl 48 156 keyedP Tryz.underlying158 anyV b nn (mapD vs) rfl hown ?_; intro w0 hrg0 hg0 hs0)
    | gi_in)
  go_frame
  gi_loopw [3] (fun _ wr => ∃ (left : Lit → Bool) (cnt : Nat) (ss : List Nat), wr.ranges Tryz.prog 48 anyV b W.heap.size nn (mapD vs) left cnt ∧ ss.length + cnt ≤ vs.length ∧ GotK vs left ss ∧ J ss wr)
    (fun _ wr => wr.rangeLeft b W.heap.size)
  case atStart =>
    exact ⟨_, _, [], hrg0, by simp [mapD_size], GotK.start vs, hJ [] W w0 none h0 hg0 (fun r e => by cases e)⟩
  case round =>
    obtain ⟨left, cnt, ss, hrg, hcs, hC, hJs⟩ := hrel
    gi_wp2_with (first
      | (gi_at_next; refine wpListIn_next_ranges _ rfl _ rfl 48 keyedP anyV encP id (fun key kl hk => by obtain ⟨x, hx, _⟩ := keyOf_page hk; exact ⟨x, hx⟩) (fun v _ _ => ⟨v, rfl⟩) b W.heap.size nn _ _ _ rfl hrg ?_ ?_)
      | gi_in)
    · intro hc0 hl0
      gi_wp2
      go_end0
      exact ⟨⟨_, rfl⟩, .inl ⟨ss, hC.done hrs hl0, hJs⟩⟩
    · intro x c kl yd yp w2 cnt2 hkey hlk hv hat hrg2 hlt hg2 hs2 hen
      obtain ⟨x', ex, rfl⟩ := keyOf_page hkey
      obtain rfl : x = x' := encP_inj ex
      have hJ2 : J ss w2 := hJ ss wr w2 (some W.heap.size) hJs hg2 (fun r e => by cases e; exact ⟨Nat.le_refl _, hrg.iter_walk⟩)
      obtain ⟨fn, tmps, assign, body, hy, hR⟩ := hY ss x w2 hJ2 (by omega)
      clear hs2
      gi_wp2
      refine hR.mono ?_
      have hC2 := hC.step hlk (has_of_at hat)
      rintro e W3 (⟨rfl, hJ3, hk3⟩ | ⟨rfl, hJx3⟩)
      · gi_wp2
        have hrg3 := hrg2.of_walks hk3
        go_roundw
        case rel => exact ⟨_, cnt2, ss ++ [x], hrg3, by simp; omega, hC2, hJ3⟩
        case measure => rw [hrg3.left_eq, hrg.left_eq]; exact hlt
      · gi_wp2
        refine bodyPost_ret (results_none rfl _ _ _) rfl ?_
        exact ⟨⟨_, rfl⟩, .inr ⟨ss ++ [x], trivial, hJx3⟩⟩
theorem keysP_stops (n : Nat) (hn : 1 ≤ n) (Bm b nn : Nat) (vs : List (Nat × Value)) (hrs : RisingL vs) (w : World) (hBm : Bm < w.heap.size) (hm : w.cell? ⟨Bm, 0, none⟩ = some (.map (some b))) (hown : w.ownsMap Tryz.prog 48 anyV b nn (mapD vs)) :
    SeqStopsK Fence.wide n Tryz.prog 135 #[.pointer (some ⟨Bm, 0, none⟩)] (fun x : Nat => #[encP x]) KeepsWalks (fun ss => ss.Perm (vs.map (·.1))) (fun _ => True) vs.length w := fun l J Jx W hW hJ _ hY h0 => by
  have hown' : W.ownsMap Tryz.prog 48 anyV b nn (mapD vs) := by
    have hbl := hown.lt
    obtain ⟨es, clock, hb, Ft, hs, hD⟩ := hown
    exact ⟨es, clock, (hW.block b hbl).trans hb, Ft, hs, hD⟩
  exact keysP1_in n hn l Bm b nn vs hrs J Jx hY W hJ ((hW.cell (p := ⟨Bm, 0, none⟩) hBm).trans hm) hown' h0
theorem keysP_in (n : Nat) (mb : Option Nat) (w : World) :
    CallsIn Fence.wide n Tryz.prog 90 #[.map mb] w fun e w' => e = .returned (.func (.func 135) #[] #[.pointer (some ⟨w.heap.size, 0, none⟩)]) ∧ w' = w.alloc (.cells #[.map mb] 158) := by
  refine callsIn_of_wp Tryz.func90 rfl trivial ?_ rfl
  simp only [Tryz.ntmps90, List.size_toArray, List.length_cons, List.length_nil, Nat.reduceAdd, Nat.reduceSub, Array.replicate_succ, Array.replicate_zero, List.push_toArray, List.append_toArray, List.nil_append, List.cons_append]
  gi_wp2
  go_ret
  exact ⟨rfl, rfl⟩

theorem infoPage : (Tryz.prog.info? 48).map (fun i => (i.zero, i.size, i.bytes)) = some (some (.int .u32 0), 1, 4) := by kernel_rfl
section
attribute [local go_sem] Oper.semAt_some
set_option maxRecDepth 100000 in
set_option maxHeartbeats 2000000 in
theorem appendSeqP_in (n : Nat) (hn : 3 ≤ n) (gf : Nat) (lb : Array Value) (eg : ∀ args w, (callFunc gf args).run Tryz.prog w = .ok (.enter gf args) w) (S : List Nat → Prop) (N : Nat) (hN : N ≤ 1000000000000) (w : World)
    (hseq : SeqStopsK Fence.wide (n - 1) Tryz.prog gf lb (fun x : Nat => #[encP x]) KeepsWalks S (fun _ => True) N w) :
    CallsIn Fence.wide n Tryz.prog 159 #[.slice none 0 0, .func (.func gf) #[] lb] w fun e W' => ∃ (v : Value) (ss : List Nat), e = .returned v ∧ S ss ∧ W'.ownsRow w.heap.size 48 1 v ss.length (ss.map encP) ∧ Below w.heap.size w W' := by
  have h1 : 1 ≤ n := by omega
  obtain ⟨i0, hi, hz0, hz1, hz2⟩ := info_parts infoPage
  refine callsIn_of_wp_marks Tryz.func159 rfl trivial ?_ rfl
  simp only [Tryz.ntmps159, List.size_toArray, List.length_cons, List.length_nil, Nat.reduceAdd, Nat.reduceSub, Array.replicate_succ, Array.replicate_zero, List.push_toArray, List.append_toArray, List.nil_append, List.cons_append]
  gi_wp2
  have bO := Boxed.new w 103 (.slice none 0 0)
  have hB0 : Below w.heap.size w (w.alloc (.cells #[.slice none 0 0] 103)) := (Below.refl _ w).alloc (Nat.le_refl _) _
  refine wpIn_rangeFunc_ownG rfl h1 (gf := gf) (lb := lb) rfl trivial eg hseq walksK_t walksK_b hB0 (fun _ => rfl)
    (fun pre W => (∃ v, Boxed W w.heap.size 103 v ∧ W.ownsRow w.heap.size 48 1 v pre.length (pre.map encP) ∧ (v = .slice none 0 0 ↔ pre = [])) ∧ Below w.heap.size w W)
    (fun _ _ _ => False)
    (OwnFrom.and (Own.from (holdsRow_own w.heap.size w.heap.size 103 48 1 (fun pre : List Nat => pre.length) (fun pre => pre.map encP) (fun pre v => v = .slice none 0 0 ↔ pre = [])) _) (ownFrom_below (Nat.le_refl _) (by simp)))
    (fun _ _ _ _ _ hs _ _ => hs)
    ⟨⟨_, bO, World.ownsRow_nil _ _ _ _, by simp⟩, hB0⟩
    (fun x => { tmps := #[.slice none 0 0, .func (.func gf) #[] lb, .pointer (some ⟨w.heap.size, 0, none⟩), undef, .slice none 0 0, encP x, .func (.func gf) #[] lb, encP x, undef, undef, undef, undef, undef], defers := [] }) ?assign ?body ?done ?stop
  case assign =>
    intro l x W K hK
    gi_wp2
    exact hK
  case body =>
    rintro l pre x W ⟨⟨v, hv, hrow, hnil⟩, hB⟩ hlt
    have hc := hv.cell
    have k1 : pre.length + 1 ≤ maxLen := by simp only [maxLen]; omega
    have k2 : (pre.length + 1) * 4 ≤ 140737488355328 := by omega
    gi_wp2_with (gi_at_builtin; refine wpListIn_append_own _ rfl _ _ 103 rfl w.heap.size 48 i0 (.int .u32 0) 1 4 Tryz.underlying103 hi hz0 hz1 hz2 rfl (by decide) _ _ _ rfl (hrow.alloc _) ⟨W.heap.size, 0, none⟩ 1 1 [encP x] rfl rfl (cell_one_new _ _ _) (by simp [Value.oneCell']) k1 k2 (by have := hB.size; simp; omega) ?_; intro v' w1 hown' hgrow _; obtain ⟨g', cap', rfl⟩ := ownsRow_succ hown'; obtain ⟨hv1, hv2, hr2, hk2, hb2⟩ := hv.appended (by decide) hrow hB.size (Nat.le_refl _) hown' hgrow; have hc1 := hv1.cell; have hf1 := hv1.frozen)
    refine ⟨hk2.from _, ?_, ⟨_, hv2, by simpa using hr2, by simp⟩, hB.trans hb2⟩
    exact hk2.walks
  case done =>
    rintro D ys W hD hS ⟨⟨v, hv, hrow, hnil⟩, hB⟩ hK
    have hc := hv.cell
    gi_wp2
    refine ⟨by simp, .inl ⟨_, _, rfl, run_takeDeferred hK, ?_⟩⟩
    exact ⟨_, results_tmp rfl _ _ _, v, ys, rfl, hS, ownsRow_putObj hrow _ hK rfl, hB.trans (belowK_b (w := w) (Nat.le_refl _) W D _ _ (by simp at hD; omega) hK rfl rfl)⟩
  case stop =>
    rintro D c pre W _ _ h _
    exact h.elim
end

/-! the sort of at most twelve -/
abbrev encU : Int → Value := Value.int .u32
set_option maxHeartbeats 1000000 in
theorem isNaNP_c (x : Int) (w : World) : Calls Tryz.prog 144 #[.int .u32 x] w fun e w' => e = .returned (.bool false) ∧ w' = w := by
  go_enter Tryz.func144, Tryz.ntmps144
  go_wp2
  go_ret
  exact ⟨by simp, rfl⟩
set_option maxHeartbeats 1000000 in
theorem lessP_c (x y : Int) (w : World) : Calls Tryz.prog 189 #[.int .u32 x, .int .u32 y] w fun e w' => e = .returned (.bool (Sort.ltInt x y)) ∧ w' = w := by
  go_enter Tryz.func189, Tryz.ntmps189
  go_wp2_with (go_at_call 144; refine (isNaNP_c _ _).mono ?_; rintro e w' ⟨rfl, rfl⟩)
  go_ret
  exact ⟨rfl, rfl⟩
set_option maxRecDepth 100000 in
set_option maxHeartbeats 4000000 in
theorem insP_c (blk off cap a b : Nat) (d : Array Int) (w : World) (hH : Holds encU w blk off d) (hab : a ≤ b) (hb : b ≤ d.size) (hsz : d.size < 4611686018427387904) :
    Calls Tryz.prog 183 #[.slice (some ⟨blk, off, none⟩) d.size cap, .int .i64 a, .int .i64 b] w fun e w' =>
      e = .returned (.tuple #[]) ∧ ∃ n, w' = putRow encU (Sort.ahead w n) blk off (Sort.insertionSort ltInt d a b) := by
  go_enter Tryz.func183, Tryz.ntmps183
  go_wp2
  go_loopw [6] (fun vi wr => ∃ (i n : Nat) (dk : Array Int), vi = .int .i64 i ∧ a < i ∧ i ≤ b + 1 ∧ dk.size = d.size ∧ wr = putRow encU (Sort.ahead w n) blk off dk ∧
      insOuter ltInt a b i dk = insOuter ltInt a b (a + 1) d) (fun vi _ => b + 1 - (intOf vi).toNat)
  case atStart => exact ⟨a + 1, 0, d, by go_num, by omega, by omega, rfl, (putRow_self _ _ _ _ _ hH).symm, rfl⟩
  case round =>
    obtain ⟨i, n, dk, rfl, hai, hib, hsk, hwr, hO⟩ := hrel
    have HO : Hid (insOuter ltInt a b i dk = insOuter ltInt a b (a + 1) d) := hO
    clear hO
    go_wp2
    · go_loopw [7] (fun vj wr2 => ∃ (j m : Nat) (dj : Array Int), vj = .int .i64 j ∧ a ≤ j ∧ j ≤ i ∧ dj.size = d.size ∧ wr2 = putRow encU (Sort.ahead w m) blk off dj ∧
          insInner ltInt a j dj = insInner ltInt a i dk) (fun vj _ => (intOf vj).toNat)
      case atStart => exact ⟨i, n, dk, rfl, by omega, Nat.le_refl _, hsk, rfl, rfl⟩
      case round =>
        obtain ⟨j, m, dj, rfl, haj, hji, hsj, hw2, hI⟩ := hrel
        have hlt : i < b := by assumption
        obtain ⟨G, hG⟩ : ∃ G : Nat → Int, ∀ t, G t = dj[t]! := ⟨fun t => dj[t]!, fun _ => rfl⟩
        have hcw : ∀ t, t < d.size → wr.cell? ⟨blk, off + t, none⟩ = some (.int .u32 (G t)) := fun t ht => by
          rw [hw2, hG]; exact cell?_putRow _ _ _ _ d dj (holds_ahead _ _ _ _ _ _ hH) hsj t (by omega)
        have hfw : ∀ t, t < d.size → wr.frozen? ⟨blk, off + t, none⟩ = false := fun t ht => by
          rw [hw2, frozen?_putRow]; exact ((holds_ahead _ _ m _ _ _ hH) t ht).2
        have HW : Hid (wr = putRow encU (Sort.ahead w m) blk off dj) := hw2
        have HG : Hid (∀ t, G t = dj[t]!) := hG
        have HI : Hid (insInner ltInt a j dj = insInner ltInt a i dk) := hI
        clear hw2 hG hI hH
        have out : (j ≤ a ∨ ltInt dj[j]! dj[j - 1]! = false) → ∀ q, ∃ i' n' dk', Value.int .i64 ((i : Int) + 1) = .int .i64 (i' : Nat) ∧ a < i' ∧ i' ≤ b + 1 ∧ dk'.size = d.size ∧
            wr.drewN q = putRow encU (Sort.ahead w n') blk off dk' ∧ insOuter ltInt a b i' dk' = insOuter ltInt a b (a + 1) d := fun hs q =>
          ⟨i + 1, m + q, dj, by go_num, by omega, by omega, hsj, by rw [HW.out]; exact putRow_drewN _ _ _ _ _ _ _,
            by rw [← HO.out, insOuter_go _ _ _ _ _ hlt, ← HI.out, insInner_stop _ _ _ _ hs]⟩
        have OUT : Hid _ := out
        clear out
        go_wp2
        by_cases hja : a < j
        · go_quiet (first | (go_at_call 189; refine Calls.quiet_of_same (lessP_c _ _ _)))
          go_wp2
          · have hl : ltInt (G j) (G (j - 1)) = true := by assumption
            go_region
            all_goals go_wp2
            go_roundw
            case rel =>
              refine ⟨j - 1, m + (nq + 1), swp dj j (j - 1), by congr 1; omega, by omega, by omega, by rw [size_swp]; exact hsj, ?_, ?_⟩
              · rw [HW.out, HG.out, HG.out]
                exact swap_worldA _ w m (nq + 1) blk off dj j (j - 1) (by omega) (by omega)
              · rw [← HI.out, insInner_go ltInt a j dj hja (by rw [← HG.out, ← HG.out]; exact hl)]
            case measure => simp [intOf]; omega
          · have hl : ltInt (G j) (G (j - 1)) = false := by assumption
            go_roundw
            case rel => exact OUT.out (Or.inr (by rw [← HG.out, ← HG.out]; exact hl)) nq
            case measure => simp [intOf]; omega
        · go_quiet (first | (go_at_call 189; refine Calls.quiet_of_same (lessP_c _ _ _)))
          go_wp2
          go_roundw
          case rel => exact OUT.out (Or.inl (by omega)) nq
          case measure => simp [intOf]; omega
    · have hge : ¬ i < b := by assumption
      go_end0
      exact ⟨rfl, n, by unfold Sort.insertionSort; rw [← HO.out, insOuter_stop _ _ _ _ _ hge]⟩
set_option maxRecDepth 100000 in
set_option maxHeartbeats 2000000 in
theorem pdqP_c (blk off cap : Nat) (lim : Int) (d : Array Int) (w : World) (hH : Holds encU w blk off d) (hsz : d.size ≤ 12) :
    Calls Tryz.prog 160 #[.slice (some ⟨blk, off, none⟩) d.size cap, .int .i64 0, .int .i64 (d.size : Int), .int .i64 lim] w fun e w' =>
      e = .returned (.tuple #[]) ∧ ∃ n, w' = putRow encU (Sort.ahead w n) blk off (Sort.insertionSort ltInt d 0 d.size) := by
  have HI := Lib.hid (insP_c blk off cap 0 d.size d w hH (Nat.zero_le _) (Nat.le_refl _) (by omega))
  clear hH
  go_enter Tryz.func160, Tryz.ntmps160
  go_wp2_with (fail)
  go_loopw [1, 2, 3] (fun a b c wr => a = .int .i64 0 ∧ b = .int .i64 (d.size : Int) ∧ wr = w) (fun _ _ _ _ => 0)
  case atStart => exact ⟨rfl, rfl, rfl⟩
  case round =>
    obtain ⟨rfl, rfl, rfl⟩ := hrel
    go_wp2_with (fail)
    refine HI.out.mono ?_
    rintro e w' ⟨rfl, h⟩
    go_wp2
    refine bodyPost_ret (results_none rfl _ _ _) rfl ?_
    exact ⟨rfl, h⟩
set_option maxRecDepth 100000 in
set_option maxHeartbeats 2000000 in
theorem sortP_c (blk off cap : Nat) (d : Array Int) (w : World) (hH : Holds encU w blk off d) (hsz : d.size ≤ 12) :
    Calls Tryz.prog 134 #[.slice (some ⟨blk, off, none⟩) d.size cap] w fun e w' =>
      e = .returned (.tuple #[]) ∧ ∃ n, w' = putRow encU (Sort.ahead w n) blk off (Sort.insertionSort ltInt d 0 d.size) := by
  have HB := fun W => Lib.hid (Tryz.bits_Len (d.size : Int) W (by omega) (by omega))
  have HI := fun lim => Lib.hid (pdqP_c blk off cap lim d w hH hsz)
  have u1 : IntKind.u64.wrap (d.size : Int) = (d.size : Int) := by rw [IntKind.wrap_u64]; omega
  clear hH
  go_enter Tryz.func134, Tryz.ntmps134
  go_wp2_with (fail)
  refine (HB _).out.mono ?_
  rintro e w' ⟨rfl, rfl⟩
  go_wp2_with (fail)
  refine (HI _).out.mono ?_
  rintro e w' ⟨rfl, h⟩
  go_wp2
  go_end0
  exact ⟨rfl, h⟩
set_option maxRecDepth 100000 in
set_option maxHeartbeats 2000000 in
theorem insP_none (w : World) : Calls Tryz.prog 183 #[.slice none 0 0, .int .i64 0, .int .i64 0] w fun e w' => e = .returned (.tuple #[]) ∧ w' = w := by
  go_enter Tryz.func183, Tryz.ntmps183
  go_wp2
  go_loopw [6] (fun vi wr => vi = .int .i64 1 ∧ wr = w) (fun _ _ => 0)
  case atStart => exact ⟨rfl, rfl⟩
  case round =>
    obtain ⟨rfl, rfl⟩ := hrel
    go_wp2
    go_end0
    exact ⟨rfl, rfl⟩
set_option maxRecDepth 100000 in
set_option maxHeartbeats 2000000 in
theorem sortP_none (w : World) : Calls Tryz.prog 134 #[.slice none 0 0] w fun e w' => e = .returned (.tuple #[]) ∧ w' = w := by
  have HB := fun W => Lib.hid (Tryz.bits_Len 0 W (by omega) (by omega))
  have HP : ∀ lim : Int, Hid (Calls Tryz.prog 160 #[.slice none 0 0, .int .i64 0, .int .i64 0, .int .i64 lim] w fun e w' => e = .returned (.tuple #[]) ∧ w' = w) := fun lim => by
    have HI := Lib.hid (insP_none w)
    show Calls _ _ _ _ _
    go_enter Tryz.func160, Tryz.ntmps160
    go_wp2_with (fail)
    go_loopw [1, 2, 3] (fun a b c wr => a = .int .i64 0 ∧ b = .int .i64 0 ∧ wr = w) (fun _ _ _ _ => 0)
    case atStart => exact ⟨rfl, rfl, rfl⟩
    case round =>
      obtain ⟨rfl, rfl, rfl⟩ := hrel
      go_wp2_with (fail)
      refine HI.out.mono ?_
      rintro e w' ⟨rfl, h⟩
      go_wp2
      refine bodyPost_ret (results_none rfl _ _ _) rfl ?_
      first | exact ⟨rfl, h⟩ | exact ⟨rfl, rfl⟩
  go_enter Tryz.func134, Tryz.ntmps134
  go_wp2_with (fail)
  refine (HB _).out.mono ?_
  rintro e w' ⟨rfl, rfl⟩
  go_wp2_with (fail)
  refine (HP _).out.mono ?_
  rintro e w' ⟨rfl, rfl⟩
  go_wp2
  go_end0
  exact ⟨rfl, rfl⟩

/-! what is sorted is the rising list -/
theorem ins_rising {ss ts : List Nat} (hp : ss.Perm ts) (hr : ts.Pairwise (· < ·)) : (Sort.insertionSort ltInt (ss.map (Int.ofNat ·)).toArray 0 (ss.map (Int.ofNat ·)).toArray.size).toList = ts.map (Int.ofNat ·) := by
  obtain ⟨hP, hSo⟩ := insertionSort_holds swo_ltInt (ss.map (Int.ofNat ·)).toArray 0 (ss.map (Int.ofNat ·)).toArray.size (Nat.zero_le _) (Nat.le_refl _)
  have h := sorted_unique_holds swo_ltInt (fun x y h1 h2 => by simp only [ltInt, decide_eq_false_iff_not] at h1 h2; omega) (ss.map (Int.ofNat ·)).toArray _ hP hSo
  rw [h]
  refine List.Perm.eq_of_pairwise (le := fun x y : Int => x ≤ y) (fun a b _ _ h1 h2 => Int.le_antisymm h1 h2) ?_ ?_ ((List.mergeSort_perm _ _).trans (hp.map _))
  · have := List.pairwise_mergeSort (le := fun x y : Int => !ltInt y x) (fun a b c h1 h2 => by simp [ltInt] at *; omega) (fun a b => by simp [ltInt]; omega) (ss.map (Int.ofNat ·)).toArray.toList
    exact this.imp fun h => by simpa [ltInt] using h
  · exact List.pairwise_map.2 (hr.imp fun h => by simp; omega)
theorem ahead_heap (w : World) (n : Nat) : (Sort.ahead w n).heap = w.heap := rfl
/-- behind the sort the row is the rising one -/
theorem ownsRow_rising {w : World} {base g cap n : Nat} {cur : Array Value} {ss ts : List Nat} (hp : ss.Perm ts) (hr : ts.Pairwise (· < ·)) (hbase : base ≤ g) (hb : w.heap[g]? = some (.cells cur 48 (0, 0))) (h1 : ss.length ≤ cap) (h2 : cap ≤ maxLen) (h3 : cur.size = cap * 1) :
    (putRow encU (Sort.ahead w n) g 0 (Sort.insertionSort ltInt (ss.map (Int.ofNat ·)).toArray 0 (ss.map (Int.ofNat ·)).toArray.size)).ownsRow base 48 1 (.slice (some ⟨g, 0, none⟩) ss.length cap) ss.length (ts.map encP) := by
  have hl := hp.length_eq
  obtain ⟨d, hd⟩ : ∃ d, d = Sort.insertionSort ltInt (ss.map (Int.ofNat ·)).toArray 0 (ss.map (Int.ofNat ·)).toArray.size := ⟨_, rfl⟩
  have hdl := ins_rising hp hr
  rw [← hd] at hdl ⊢
  have hds : d.size = ts.length := by rw [← Array.length_toList, hdl, List.length_map]
  refine ⟨by simp [hl], .inr ⟨g, cap, putCells encU 0 d cur, rfl, hbase, ?_, h1, h2, by simp [putCells, h3], ?_⟩⟩
  · simp [putRow, mapBlock, Sort.ahead, Array.getElem?_modify, hb, onCells]
  · apply List.ext_getElem?
    intro j
    by_cases hj : j < ss.length
    · rw [Nat.mul_one, List.getElem?_take_of_lt hj, Array.getElem?_toList]
      have hjd : j < d.size := by omega
      have hjt : j < ts.length := by omega
      have e : d[j] = Int.ofNat ts[j] := by
        rw [← Array.getElem_toList]
        simp only [hdl, List.getElem_map]
      simp [putCells, hjd, show j < cur.size by omega, hjt, encU, encP]
      simpa using e
    · rw [Nat.mul_one, List.getElem?_take_eq_none (by omega), List.getElem?_eq_none (by simp; omega)]
theorem holds_row {w : World} {g : Nat} {cur : Array Value} {ss : List Nat} (hb : w.heap[g]? = some (.cells cur 48 (0, 0))) (ht : cur.toList.take (ss.length * 1) = ss.map encP) : Holds encU w g 0 (ss.map (Int.ofNat ·)).toArray := by
  intro j hj
  have hj' : j < ss.length := by simpa using hj
  refine ⟨?_, by simp [World.frozen?, hb]⟩
  have h1 : (cur.toList.take ss.length)[j]? = (ss.map encP)[j]? := by rw [← ht, Nat.mul_one]
  rw [List.getElem?_take_of_lt hj'] at h1
  simp only [World.cell?, hb, Nat.zero_add]
  simp only [Option.isSome_none, Bool.false_eq_true, if_false]
  rw [← Array.getElem?_toList, h1]
  simp [hj', encU, encP]

theorem collectP_in (n : Nat) (hn : 4 ≤ n) (gf : Nat) (lb : Array Value) (eg : ∀ args w, (callFunc gf args).run Tryz.prog w = .ok (.enter gf args) w) (S : List Nat → Prop) (N : Nat) (hN : N ≤ 1000000000000) (w : World)
    (hseq : SeqStopsK Fence.wide (n - 1 - 1) Tryz.prog gf lb (fun x : Nat => #[encP x]) KeepsWalks S (fun _ => True) N w) :
    CallsIn Fence.wide n Tryz.prog 133 #[.func (.func gf) #[] lb] w fun e W' => ∃ (v : Value) (ss : List Nat), e = .returned v ∧ S ss ∧ W'.ownsRow w.heap.size 48 1 v ss.length (ss.map encP) ∧ Below w.heap.size w W' := by
  have h1 : 1 ≤ n := by omega
  refine callsIn_of_wp Tryz.func133 rfl trivial ?_ rfl
  simp only [Tryz.ntmps133, List.size_toArray, List.length_cons, List.length_nil, Nat.reduceAdd, Nat.reduceSub, Array.replicate_succ, Array.replicate_zero, List.push_toArray, List.append_toArray, List.nil_append, List.cons_append]
  have hfA : Fence.wide.fn 159 := trivial
  gi_wp2_with (gi_at_call 159; refine (appendSeqP_in (n - 1) (by omega) gf lb eg S N hN _ hseq).mono ?_; rintro e w' ⟨v, ss, rfl, hS, hrow, hb⟩)
  go_ret
  exact ⟨v, ss, rfl, hS, hrow, hb⟩
set_option maxRecDepth 100000 in
set_option maxHeartbeats 2000000 in
theorem sortedP_in (n : Nat) (hn : 5 ≤ n) (gf : Nat) (lb : Array Value) (eg : ∀ args w, (callFunc gf args).run Tryz.prog w = .ok (.enter gf args) w) (ts : List Nat) (hts : ts.length ≤ 12) (hr : ts.Pairwise (· < ·)) (w : World)
    (hseq : SeqStopsK Fence.wide (n - 1 - 1 - 1) Tryz.prog gf lb (fun x : Nat => #[encP x]) KeepsWalks (fun ss => ss.Perm ts) (fun _ => True) ts.length w) :
    CallsIn Fence.wide n Tryz.prog 89 #[.func (.func gf) #[] lb] w fun e W' => ∃ (v : Value), e = .returned v ∧ W'.ownsRow w.heap.size 48 1 v ts.length (ts.map encP) ∧ Below w.heap.size w W' := by
  have h1 : 1 ≤ n := by omega
  refine callsIn_of_wp Tryz.func89 rfl trivial ?_ rfl
  simp only [Tryz.ntmps89, List.size_toArray, List.length_cons, List.length_nil, Nat.reduceAdd, Nat.reduceSub, Array.replicate_succ, Array.replicate_zero, List.push_toArray, List.append_toArray, List.nil_append, List.cons_append]
  have hfC : Fence.wide.fn 133 := trivial
  have hfS : Fence.wide.fn 134 := trivial
  gi_wp2_with (gi_at_call 133; refine (collectP_in (n - 1) (by omega) gf lb eg (fun ss => ss.Perm ts) ts.length (by omega) _ hseq).mono ?_; rintro e W ⟨v, ss, rfl, hS, hrow, hb⟩)
  have hl := hS.length_eq
  rcases hrow.2 with ⟨rfl, hz⟩ | ⟨gb, cap, cur, rfl, hbase, hgb, r1, r2, r3, r4⟩
  · have ht : ts = [] := List.eq_nil_of_length_eq_zero (by omega)
    subst ht
    gi_wp2_with (gi_at_call 134; refine (callsIn_wide.2 (sortP_none W)).mono ?_; rintro e w' ⟨rfl, rfl⟩)
    go_ret
    exact ⟨.slice none 0 0, rfl, ⟨rfl, .inl ⟨rfl, rfl⟩⟩, hb⟩
  · have hH := holds_row hgb r4
    have hsz : (ss.map (Int.ofNat ·)).toArray.size = ss.length := by simp
    have cS := callsIn_wide (n := n - 1) |>.2 (sortP_c gb 0 cap (ss.map (Int.ofNat ·)).toArray W hH (by rw [hsz]; omega))
    have hout : ∀ nn, (putRow encU (Sort.ahead W nn) gb 0 (Sort.insertionSort ltInt (ss.map (Int.ofNat ·)).toArray 0 (ss.map (Int.ofNat ·)).toArray.size)).ownsRow w.heap.size 48 1 (.slice (some ⟨gb, 0, none⟩) ss.length cap) ss.length (ts.map encP) := fun nn => ownsRow_rising hS hr hbase hgb r1 r2 r3
    have hbel : ∀ nn (d : Array Int), Below w.heap.size w (putRow encU (Sort.ahead W nn) gb 0 d) := fun nn d => by
      refine hb.grown (row := some gb) ⟨rfl, rfl, rfl, by simp, fun k hk hne => ?_⟩ hb.size (fun k e => by cases e; exact hbase)
      have : gb ≠ k := fun e => hne (by rw [e])
      simp [putRow, mapBlock, Sort.ahead, Array.getElem?_modify, this]
    rw [hsz] at cS
    have HO := Lib.hid hout
    have HBL := Lib.hid hbel
    have HSZ := Lib.hid hsz
    clear hout hbel hsz hH hrow r4
    gi_wp2_with (gi_at_call 134; refine cS.mono ?_; rintro e w' ⟨rfl, nn, rfl⟩)
    go_ret
    refine ⟨_, rfl, ?_, HBL.out _ _⟩
    have := HO.out nn
    rw [HSZ.out] at this
    rw [← hl]
    exact this
set_option maxHeartbeats 1000000 in
theorem numbersP_c (w : World) (b : Nat) (vs : List (Nat × Value)) (h : MapL w b vs) (hl : vs.length ≤ 12) (pb : Nat) (hc : w.cell? ⟨pb, 3, none⟩ = some (.map (some b))) :
    Calls Tryz.prog 36 #[.pointer (some ⟨pb, 0, none⟩)] w fun e w' => ∃ v, e = .returned v ∧ w'.ownsRow w.heap.size 48 1 v vs.length (vs.map fun p => encP p.1) ∧ Below w.heap.size w w' := by
  refine (callsIn_wide (n := 7)).1 ?_
  have hbl := h.lt
  have hseq : SeqStopsK Fence.wide 3 Tryz.prog 135 #[.pointer (some ⟨w.heap.size, 0, none⟩)] (fun x : Nat => #[encP x]) KeepsWalks (fun ss => ss.Perm (vs.map (·.1))) (fun _ => True) vs.length (w.alloc (.cells #[.map (some b)] 158)) :=
    keysP_stops 3 (by omega) w.heap.size b vs.length vs h.rising _ (by simp) (by simp) (by
      obtain ⟨es, clock, hb, r⟩ := h.own
      exact ⟨es, clock, (Below.heap_alloc _ _ b hbl).trans hb, r⟩)
  have cK : ∀ mb W, CallsIn Fence.wide 6 Tryz.prog 90 #[.map mb] W fun e w' => e = .returned (.func (.func 135) #[] #[.pointer (some ⟨W.heap.size, 0, none⟩)]) ∧ w' = W.alloc (.cells #[.map mb] 158) := fun mb W => keysP_in 6 mb W
  have hr : (vs.map (·.1)).Pairwise (· < ·) := List.pairwise_map.2 h.rising
  have e1 : (vs.map (·.1)).length = vs.length := by simp
  rw [← e1] at hseq
  have cS := sortedP_in 6 (by omega) 135 #[.pointer (some ⟨w.heap.size, 0, none⟩)] (enters_of Tryz.func135 (by kernel_rfl) rfl) (vs.map (·.1)) (by rw [e1]; exact hl) hr _ hseq
  have hfK : Fence.wide.fn 90 := trivial
  have hfS : Fence.wide.fn 89 := trivial
  refine callsIn_of_wp Tryz.func36 rfl trivial ?_ rfl
  simp only [Tryz.ntmps36, List.size_toArray, List.length_cons, List.length_nil, Nat.reduceAdd, Nat.reduceSub, Array.replicate_succ, Array.replicate_zero, List.push_toArray, List.append_toArray, List.nil_append, List.cons_append]
  have HE := Lib.hid e1
  clear e1 hseq hr
  gi_wp2_with (first
    | (gi_at_call 90; refine (cK _ _).mono ?_; rintro e w' ⟨rfl, rfl⟩)
    | (gi_at_call 89; refine cS.mono ?_; rintro e w' ⟨v, rfl, hrow, hb⟩))
  go_ret
  refine ⟨v, rfl, ?_, ((Below.refl _ w).alloc (Nat.le_refl _) _).trans (hb.mono (by simp))⟩
  have h2 : w'.ownsRow (w.alloc (.cells #[.map (some b)] 158)).heap.size 48 1 v vs.length (vs.map fun p => encP p.1) := by
    rw [HE.out] at hrow
    simpa [List.map_map, Function.comp_def] using hrow
  refine ⟨h2.1, ?_⟩
  rcases h2.2 with hn | ⟨g, cap, cur, hv, hbg, rest⟩
  · exact .inl hn
  · exact .inr ⟨g, cap, cur, hv, by simp at hbg; omega, rest⟩
end Go.Proofs.YtnghgkaoopcglaaGreat
