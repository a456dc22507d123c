/-
  The document's state while records are gone through (girderref19.Run): laws.
-/
import Derived.Test.YtpnndlahfllbhaaGreatUJ2
import Derived.Test.YtpnndlahfllbhaaGreatUV2
namespace Go.Proofs.YtpnndlahfllbhaaGreat
open Go.RowKit
attribute [local go_sem ↓] Go.wp_at_zero Go.wp_at_succ

/-! the plain law of the order -/
theorem foldl_take_next (l : List Ts) : ∀ a : An, l.foldl An.take a.next = (l.foldl An.take a).next := by
  induction l with
  | nil => intro a; rfl
  | cons t l ih => intro a; rw [List.foldl_cons, List.foldl_cons, ← ih]; rfl
theorem foldl_page_next (l : List (Nat × Nat)) : ∀ a : An, l.foldl An.page a.next = (l.foldl An.page a).next := by
  induction l with
  | nil => intro a; rfl
  | cons t l ih => intro a; rw [List.foldl_cons, List.foldl_cons, ← ih]; rfl
def An.fresh_ (a : An) (n : Nat) (r : Rc) : An := if r.chg then { a with dirty := freshE (r.page, n) a.dirty } else a
theorem step19 {r : Rc} (hr : r.ok) (a : An) (n : Nat) : r.dirty.foldl An.page (r.txs.foldl An.take ((((a.next).most_ r).tx_ n r).fresh_ n r)) = (a.step n r).next := by
  have e1 : ((a.next).most_ r).tx_ n r = ((a.most_ r).tx_ n r).next := by
    unfold An.tx_
    by_cases h : r.kind < 7
    · rw [if_pos h, if_pos h]; rfl
    · rw [if_neg h, if_neg h]; rfl
  rw [e1]
  unfold An.step
  generalize (a.most_ r).tx_ n r = b
  have e2 : b.next.fresh_ n r = (b.fresh_ n r).next := by
    unfold An.fresh_
    split <;> rfl
  rw [e2, foldl_take_next, foldl_page_next]
  congr 1
  unfold An.rest An.fresh_
  by_cases hc : r.chg
  · rw [if_pos hc, if_pos hc]
    have hk : ¬ r.tab := fun h => by unfold Rc.tab at h; unfold Rc.chg at hc; omega
    obtain ⟨h1, h2⟩ := hr.a6.1.resolve_left hk
    rw [List.eq_nil_of_length_eq_zero h1, List.eq_nil_of_length_eq_zero h2]
    rfl
  · rw [if_neg hc, if_neg hc]
    by_cases hk : r.tab
    · rw [if_pos hk]; rfl
    · rw [if_neg hk]
      obtain ⟨h1, h2⟩ := hr.a6.1.resolve_left hk
      rw [List.eq_nil_of_length_eq_zero h1, List.eq_nil_of_length_eq_zero h2]
      rfl
theorem redoOf_snoc (en : Nat) (d : Nat × Nat) : ∀ l : List (Nat × Nat), redoOf en (l ++ [d]) = if l.length = 0 ∨ d.2 < redoOf en l then d.2 else redoOf en l
  | [] => by simp [redoOf]
  | x :: l => by
    have e : ((x :: l).length = 0) = False := by simp
    simp only [e, false_or]
    show (l ++ [d]).foldl (fun m x => min m x.2) x.2 = _
    rw [List.foldl_append]
    show min (l.foldl (fun m x => min m x.2) x.2) d.2 = if d.2 < l.foldl (fun m x => min m x.2) x.2 then d.2 else l.foldl (fun m x => min m x.2) x.2
    split <;> omega
/-- a record of the document's list: its place, what it is, its slices -/
structure Q19 where
  at_ : Nat
  r : Rc
  tv : Value
  dv : Value
def q19C (q : Q19) : List Value := r19C q.at_ q.r q.tv q.dv
theorem q19C_len (q : Q19) : (q19C q).length = 7 := rfl
structure Q19.ok (w : World) (q : Q19) : Prop where
  ok : q.r.ok
  mild : q.r.mild
  at_ : q.at_ < 18446744073709551616
  txs : RdC 4 tsC w q.tv q.r.txs
  dirty : RdC 2 dpC w q.dv q.r.dirty
def runAn (qs : List Q19) : An := qs.foldl (fun a q => (a.step q.at_ q.r).next) An.zero
theorem runAn_snoc (qs : List Q19) (q : Q19) : runAn (qs ++ [q]) = ((runAn qs).step q.at_ q.r).next := by unfold runAn; rw [List.foldl_append]; rfl
theorem runAn_ok : ∀ (qs : List Q19) {w : World}, (∀ q ∈ qs, q.ok w) → (runAn qs).ok := by
  intro qs w h
  have : ∀ (l : List Q19) (a : An), a.ok → (∀ q ∈ l, q.ok w) → (l.foldl (fun a q => (a.step q.at_ q.r).next) a).ok := by
    intro l
    induction l with
    | nil => intro a ha _; exact ha
    | cons q l ih =>
      intro a ha hl
      have hq := hl q (List.mem_cons_self ..)
      exact ih _ (ha.step hq.ok hq.mild hq.at_).next (fun x hx => hl x (List.mem_cons_of_mem _ hx))
  exact this qs _ An.ok.zero h
theorem An.take_len (a : An) (t : Ts) : (a.take t).txs.length ≤ a.txs.length + 1 ∧ (a.take t).dirty = a.dirty ∧ (a.take t).recs = a.recs := by
  refine ⟨?_, rfl, rfl⟩
  unfold An.take
  simp only
  split
  · omega
  · exact putL_length _ _ _
theorem dirtyE_len (d : Nat × Nat) (l : List (Nat × Nat)) : (dirtyE d l).length ≤ l.length + 1 := by
  unfold dirtyE
  split
  · exact putL_length _ _ _
  · split
    · exact putL_length _ _ _
    · omega
theorem takes_len : ∀ (l : List Ts) (a : An), (l.foldl An.take a).txs.length ≤ a.txs.length + l.length ∧ (l.foldl An.take a).dirty = a.dirty ∧ (l.foldl An.take a).recs = a.recs
  | [], a => ⟨by simp, rfl, rfl⟩
  | t :: l, a => by
    obtain ⟨h1, h2, h3⟩ := takes_len l (a.take t)
    obtain ⟨g1, g2, g3⟩ := a.take_len t
    rw [List.foldl_cons]
    exact ⟨by simp only [List.length_cons]; omega, h2.trans g2, h3.trans g3⟩
theorem pages_len : ∀ (l : List (Nat × Nat)) (a : An), (l.foldl An.page a).dirty.length ≤ a.dirty.length + l.length ∧ (l.foldl An.page a).txs = a.txs ∧ (l.foldl An.page a).recs = a.recs
  | [], a => ⟨by simp, rfl, rfl⟩
  | t :: l, a => by
    obtain ⟨h1, h2, h3⟩ := pages_len l (a.page t)
    have g := dirtyE_len t a.dirty
    rw [List.foldl_cons]
    exact ⟨by simp only [List.length_cons]; have : (a.page t).dirty.length = (dirtyE t a.dirty).length := rfl; omega, h2, h3⟩
theorem step_len {r : Rc} (hr : r.ok) (a : An) (n : Nat) : (a.step n r).txs.length ≤ a.txs.length + 65 ∧ (a.step n r).dirty.length ≤ a.dirty.length + 257 ∧ (a.step n r).recs = a.recs := by
  obtain ⟨_, h2, h3⟩ := hr.a6
  have e1 : ((a.most_ r).tx_ n r).txs.length ≤ a.txs.length + 1 ∧ ((a.most_ r).tx_ n r).dirty = a.dirty ∧ ((a.most_ r).tx_ n r).recs = a.recs := by
    unfold An.tx_
    split
    · refine ⟨?_, rfl, rfl⟩
      show (r.txE n a.txs).length ≤ _
      unfold Rc.txE
      split
      · have : (delL r.tx.toNat a.txs).length ≤ a.txs.length := List.length_filter_le _ _
        omega
      · exact putL_length _ _ _
    · exact ⟨Nat.le_succ _, rfl, rfl⟩
  unfold An.step
  generalize (a.most_ r).tx_ n r = b at *
  unfold An.rest
  split
  · refine ⟨?_, ?_, e1.2.2⟩
    · show b.txs.length ≤ _
      omega
    · show (freshE _ b.dirty).length ≤ _
      unfold freshE
      rw [e1.2.1]
      split
      · omega
      · have := putL_length r.page n a.dirty; simp only at this ⊢; omega
  · split
    · unfold An.check
      obtain ⟨t1, t2, t3⟩ := takes_len r.txs b
      obtain ⟨p1, p2, p3⟩ := pages_len r.dirty (r.txs.foldl An.take b)
      refine ⟨by rw [p2]; omega, by rw [t2, e1.2.1] at p1; omega, by rw [p3, t3, e1.2.2]⟩
    · exact ⟨by omega, by rw [e1.2.1]; omega, e1.2.2⟩
theorem runAn_len : ∀ (qs : List Q19), (∀ q ∈ qs, q.r.ok) → (runAn qs).txs.length ≤ 65 * qs.length ∧ (runAn qs).dirty.length ≤ 257 * qs.length ∧ (runAn qs).recs = qs.length := by
  intro qs h
  have : ∀ (l : List Q19) (a : An), (∀ q ∈ l, q.r.ok) → (l.foldl (fun a q => (a.step q.at_ q.r).next) a).txs.length ≤ a.txs.length + 65 * l.length ∧ (l.foldl (fun a q => (a.step q.at_ q.r).next) a).dirty.length ≤ a.dirty.length + 257 * l.length ∧ (l.foldl (fun a q => (a.step q.at_ q.r).next) a).recs = a.recs + l.length := by
    intro l
    induction l with
    | nil => intro a _; exact ⟨by simp, by simp, rfl⟩
    | cons q l ih =>
      intro a hl
      obtain ⟨h1, h2, h3⟩ := ih (a.step q.at_ q.r).next (fun x hx => hl x (List.mem_cons_of_mem _ hx))
      obtain ⟨s1, s2, s3⟩ := step_len (hl q (List.mem_cons_self ..)) a q.at_
      rw [List.foldl_cons]
      have n1 : (a.step q.at_ q.r).next.txs = (a.step q.at_ q.r).txs := rfl
      have n2 : (a.step q.at_ q.r).next.dirty = (a.step q.at_ q.r).dirty := rfl
      have n3 : (a.step q.at_ q.r).next.recs = (a.step q.at_ q.r).recs + 1 := rfl
      rw [n1] at h1
      rw [n2] at h2
      rw [n3] at h3
      simp only [List.length_cons]
      omega
  have h0 := this qs An.zero h
  have z1 : An.zero.txs.length = 0 := rfl
  have z2 : An.zero.dirty.length = 0 := rfl
  have z3 : An.zero.recs = 0 := rfl
  unfold runAn
  omega

/-! the state in memory -/
structure F19 (w : World) (en : Nat) (a : An) (tv dv : Value) (W : World) : Prop where
  base : Below w.heap.size w W
  box : Blk W w.heap.size 40 #[.slice none 0 0, .slice none 0 0, .int .u64 0, .int .i64 0, .int .i64 0]
  fbx : Blk W (w.heap.size + 1) 40 #[tv, dv, .int .u64 (en : Int), .int .i64 (a.most : Int), .int .i64 (a.recs : Int)]
  txs : RdC 4 tsC W tv (sndL a.txs)
  dirty : RdC 2 dpC W dv a.dirty
  tne : ∀ k, tv.ownBlock = some k → w.heap.size + 2 ≤ k
  dne : ∀ k, dv.ownBlock = some k → w.heap.size + 2 ≤ k
section
variable {w W W' : World} {en : Nat} {a a' : An} {tv dv tv' dv' : Value}
theorem F19.size (h : F19 w en a tv dv W) : w.heap.size + 2 ≤ W.heap.size := h.fbx.lt
theorem F19.below (h : F19 w en a tv dv W) (hb : Below W.heap.size W W') : F19 w en a tv dv W' :=
  ⟨h.base.trans (hb.mono h.base.size), h.box.same (hb.block _ h.box.lt), h.fbx.same (hb.block _ h.fbx.lt), h.txs.below hb, h.dirty.below hb, h.tne, h.dne⟩
theorem F19.drewN (h : F19 w en a tv dv W) (n : Nat) : F19 w en a tv dv (W.drewN n) := h.below (below_drewN _ _)
theorem F19.upd (h : F19 w en a tv dv W) {en' : Nat} (i : Nat) (v : Value) (hv : (#[tv, dv, .int .u64 (en : Int), .int .i64 (a.most : Int), .int .i64 (a.recs : Int)] : Array Value).setIfInBounds i v = #[tv', dv', .int .u64 (en' : Int), .int .i64 (a'.most : Int), .int .i64 (a'.recs : Int)])
    (ht : RdC 4 tsC W tv' (sndL a'.txs)) (hd : RdC 2 dpC W dv' a'.dirty) (h1 : ∀ k, tv'.ownBlock = some k → w.heap.size + 2 ≤ k) (h2 : ∀ k, dv'.ownBlock = some k → w.heap.size + 2 ≤ k) : F19 w en' a' tv' dv' (W.setCell ⟨w.heap.size + 1, i, none⟩ v) := by
  have hS : ∀ k, k ≠ w.heap.size + 1 → (W.setCell ⟨w.heap.size + 1, i, none⟩ v).heap[k]? = W.heap[k]? := fun k hk => same_set hk
  refine ⟨h.base.setCell (by simp) _, h.box.same (hS _ (by omega)), ?_, ht.same (fun k hk => hS k (by have := h1 k hk; omega)), hd.same (fun k hk => hS k (by have := h2 k hk; omega)), h1, h2⟩
  have := h.fbx.set_ i v
  rwa [hv] at this
theorem F19.next (h : F19 w en a tv dv W) : F19 w en a.next tv dv (W.setCell ⟨w.heap.size + 1, 4, none⟩ (.int .i64 ((a.recs : Int) + 1))) :=
  h.upd 4 _ (by simp [An.next]) h.txs h.dirty h.tne h.dne
theorem F19.setMost (h : F19 w en a tv dv W) (n : Nat) : F19 w en { a with most := n } tv dv (W.setCell ⟨w.heap.size + 1, 3, none⟩ (.int .i64 (n : Int))) :=
  h.upd 3 _ (by simp) h.txs h.dirty h.tne h.dne
theorem F19.setTxs (h : F19 w en a tv dv W) (l : List (Nat × Ts)) (ht : RdC 4 tsC W tv' (sndL l)) (hn : ∀ k, tv'.ownBlock = some k → w.heap.size + 2 ≤ k) : F19 w en { a with txs := l } tv' dv (W.setCell ⟨w.heap.size + 1, 0, none⟩ tv') :=
  h.upd 0 _ (by simp) ht h.dirty hn h.dne
theorem F19.setDirty (h : F19 w en a tv dv W) (l : List (Nat × Nat)) (ht : RdC 2 dpC W dv' l) (hn : ∀ k, dv'.ownBlock = some k → w.heap.size + 2 ≤ k) : F19 w en { a with dirty := l } tv dv' (W.setCell ⟨w.heap.size + 1, 1, none⟩ dv') :=
  h.upd 1 _ (by simp) h.txs ht h.tne hn
theorem F19.setRedo (h : F19 w en a tv dv W) (n : Nat) : F19 w n a tv dv (W.setCell ⟨w.heap.size + 1, 2, none⟩ (.int .u64 (n : Int))) :=
  h.upd 2 _ (by simp) h.txs h.dirty h.tne h.dne
end
section
variable {w : World} {l : List Ts}
set_option maxRecDepth 100000 in
set_option maxHeartbeats 1000000 in
/-- nothing is changed where a transaction is looked for -/
theorem state19_q {v : Value} (hr : RdC 4 tsC w v l) (tx : Int) (hlen : l.length ≤ 1000000000) :
    Calls Tryz.prog 82 #[v, .int .i64 tx] w fun e w' => State19Post l tx e ∧ w' = w := by
  obtain ⟨la, lc, rfl⟩ := hr.form
  have HR := Lib.hid hr
  clear hr
  go_enter Tryz.func82, Tryz.ntmps82
  go_wp2_with (fail)
  go_loopw [5] (fun i wr => ∃ k : Nat, i = .int .i64 (k : Int) ∧ k ≤ l.length ∧ Hid (∀ x ∈ l.take k, x.tx ≠ tx) ∧ wr = w) (fun i _ => l.length - (intOf i).toNat)
  case atStart => exact ⟨0, rfl, Nat.zero_le _, Lib.hid (fun x hx => by simp at hx), rfl⟩
  case round =>
    obtain ⟨k, rfl, hk, hn, rfl⟩ := hrel
    by_cases hkl : k < l.length
    · obtain ⟨x, hx⟩ : ∃ x, l[k]? = some x := ⟨_, List.getElem?_eq_getElem hkl⟩
      have HRF := HR.out
      obtain ⟨tb, off, rfl, _, h1, h2, hbl, hc⟩ := HRF.at_ hx
      have d0 : wr.cell? ⟨tb, off + k * 4, none⟩ = some (.int .i64 x.tx) := hc 0 _ rfl
      have HX := Lib.hid hx
      have HJ := Lib.hid hkl
      clear hc hx HRF
      by_cases he : x.tx = tx
      · have he' : (x.tx == tx) = true := by simp [he]
        have HE := Lib.hid he
        clear he
        go_wp2_with (fail)
        go_ret
        exact ⟨.inr ⟨k, x, rfl, HX.out, HE.out⟩, rfl⟩
      · have he' : (x.tx == tx) = false := by simp [he]
        have HN : Hid (∀ y ∈ l.take (k + 1), y.tx ≠ tx) := by
          show ∀ y ∈ _, _
          rw [List.take_add_one, HX.out]
          intro y hy
          rcases List.mem_append.1 hy with hy | hy
          · exact hn.out y hy
          · rw [show y = x by simpa using hy]; exact he
        clear he
        go_wp2_with (fail)
        go_roundw
        case rel => exact ⟨k + 1, by go_num, HJ.out, HN, by first | rfl | trivial⟩
        case measure => have := HJ.out; simp [intOf]; omega
    · obtain rfl : k = l.length := by omega
      rw [List.take_length] at hn
      go_wp2_with (fail)
      go_ret
      exact ⟨.inl ⟨rfl, hn.out⟩, rfl⟩
theorem RisingL.inj {α : Type} {L : List (Nat × α)} (hL : RisingL L) {i j : Nat} {p q : Nat × α} (hi : L[i]? = some p) (hj : L[j]? = some q) (he : p.1 = q.1) : i = j := by
  obtain ⟨hi1, rfl⟩ := List.getElem?_eq_some_iff.1 hi
  obtain ⟨hj1, rfl⟩ := List.getElem?_eq_some_iff.1 hj
  rcases Nat.lt_trichotomy i j with h | h | h
  · have := List.pairwise_iff_getElem.1 hL i j hi1 hj1 h
    omega
  · exact h
  · have := List.pairwise_iff_getElem.1 hL j i hj1 hi1 h
    omega
/-- what is told of a transaction that is looked for -/
theorem state19_v {L : List (Nat × Ts)} (hL : RisingL L) (hx : ∀ p ∈ L, p.2.tx = (p.1 : Int)) (xt : Nat) (v : Value) (hlen : (sndL L).length ≤ 1000000000) :
    ∃ iv : Int, (iv < 0 ↔ getL xt L = none) ∧ ∀ W, RdC 4 tsC W v (sndL L) → Calls Tryz.prog 82 #[v, .int .i64 (xt : Int)] W fun e w' => e = .returned (.int .i64 iv) ∧ w' = W := by
  cases hg : getL xt L with
  | none =>
    refine ⟨-1, ⟨fun _ => rfl, fun _ => by decide⟩, fun W hr => (state19_q hr (xt : Int) hlen).mono ?_⟩
    rintro e w' ⟨h | ⟨k, x, rfl, hk, ht⟩, rfl⟩
    · exact ⟨h.1, rfl⟩
    · have := getL_of_tx hL hx (List.mem_of_getElem? hk) ht
      simp only [Int.toNat_natCast] at this
      rw [hg] at this
      cases this
  | some x =>
    obtain ⟨k0, hk0⟩ := List.getElem?_of_mem (getL_some_mem hg)
    refine ⟨(k0 : Int), ⟨fun h => by omega, fun h => by cases h⟩, fun W hr => (state19_q hr (xt : Int) hlen).mono ?_⟩
    rintro e w' ⟨⟨rfl, hn⟩ | ⟨k, y, rfl, hk, ht⟩, rfl⟩
    · have hm : x ∈ sndL L := List.mem_map.2 ⟨_, getL_some_mem hg, rfl⟩
      have := hx _ (getL_some_mem hg)
      exact absurd this (hn x hm)
    · unfold sndL at hk
      rw [List.getElem?_map] at hk
      cases hp : L[k]? with
      | none => rw [hp] at hk; cases hk
      | some p =>
        rw [hp] at hk
        cases hk
        have e1 := hx p (List.mem_of_getElem? hp)
        have e2 : p.2.tx = (xt : Int) := ht
        have := hL.inj hp hk0 (by simp only; omega)
        rw [this]
        exact ⟨rfl, rfl⟩
end
end Go.Proofs.YtpnndlahfllbhaaGreat
