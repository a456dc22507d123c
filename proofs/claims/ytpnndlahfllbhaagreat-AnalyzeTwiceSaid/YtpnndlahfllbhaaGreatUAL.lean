/-
  What girderlaw19's laid leaves: the plain law, and what lies in memory meanwhile.
-/
import Derived.Test.YtpnndlahfllbhaaGreatUO9
import Derived.Test.YtpnndlahfllbhaaGreatUN9
import Derived.Test.YtpnndlahfllbhaaGreatUJ4
import Derived.Test.YtpnndlahfllbhaaGreatUV1
namespace Go.Proofs.YtpnndlahfllbhaaGreat
open Go.RowKit

/-! plain -/
open Classical in
noncomputable def keepR (l : List Rc) : List Rc := l.filter fun r => decide r.ok
theorem keepR_yes {l : List Rc} {r : Rc} (h : r.ok) : keepR (l ++ [r]) = keepR l ++ [r] := by
  unfold keepR
  rw [List.filter_append, List.filter_cons_of_pos (by simpa using h)]
  rfl
theorem keepR_no {l : List Rc} {r : Rc} (h : ¬ r.ok) : keepR (l ++ [r]) = keepR l := by
  unfold keepR
  rw [List.filter_append, List.filter_cons_of_neg (by simpa using h)]
  simp
theorem keepR_ok {l : List Rc} {r : Rc} (h : r ∈ keepR l) : r ∈ l ∧ r.ok := by
  unfold keepR at h
  rw [List.mem_filter] at h
  exact ⟨h.1, by simpa using h.2⟩
theorem keepR_len (l : List Rc) : (keepR l).length ≤ l.length := List.length_filter_le _ _
/-- the log of records that are not flushed yet -/
def gOf (l : List ByteArray) : Lg := ⟨l, 0, 0, frames 1 l, 0⟩
theorem gOf_end (l : List ByteArray) : (gOf l).end_ = endFrom 1 l := rfl
theorem gOf_add (l : List ByteArray) (s : ByteArray) : (gOf l).add s = gOf (l ++ [s]) := by
  unfold gOf Lg.add Lg.put
  rw [frames_snoc]
  rfl
theorem gOf_tight (l : List ByteArray) : (gOf l).tight := by
  unfold Lg.tight
  have := frames_size l 1
  show (frames 1 l).size + 1 ≤ endFrom 1 l
  omega
theorem gOf_try {l : List ByteArray} {s : ByteArray} (h1 : 1 ≤ s.size) (h2 : s.size ≤ 8192) (h3 : endFrom 1 l ≤ 4000000) : (gOf l).tryAdd s (gOf l).kept = gOf (l ++ [s]) ∧ addV (gOf l) s (gOf l).kept = .tuple #[.int .u64 (endFrom 1 l : Int), .int .i64 0] := by
  have e1 : ¬ badRec s := by unfold badRec; omega
  have e2 : ¬ addFull (gOf l) s (gOf l).kept := by
    unfold addFull
    rw [gOf_end]
    show ¬ _ < _ + _ + (0 : Int)
    omega
  unfold Lg.tryAdd addV
  rw [if_neg e1, if_neg e2, if_neg e1, if_neg e2, gOf_add, gOf_end]
  exact ⟨rfl, rfl⟩
/-- flushed, the master at mk -/
def gF (l : List ByteArray) (mk : Nat) : Lg := ⟨l, l.length, 0, ⟨#[]⟩, mk⟩
theorem gOf_flush (l : List ByteArray) : (gOf l).flush (endFrom 1 l : Int) = gF l 0 ∧ (gOf l).flushLog ⟨#[]⟩ (endFrom 1 l : Int) = frames 1 l := by
  unfold Lg.flush Lg.flushLog
  cases l with
  | nil => exact ⟨rfl, rfl⟩
  | cons x l =>
    have h1 : ¬ ((gOf (x :: l)).tail = ⟨#[]⟩ ∨ (endFrom 1 (x :: l) : Int) < ((gOf (x :: l)).flushed : Int)) := by
      rintro (h | h)
      · have h2 := frames_size (x :: l) 1
        have h3 : (frames 1 (x :: l)).size = 0 := by show (gOf (x :: l)).tail.size = 0; rw [h]; rfl
        have h4 := endFrom_length (x :: l) 1
        rw [List.length_cons] at h4
        omega
      · have h2 : (gOf (x :: l)).flushed = 1 := rfl
        have h4 := endFrom_length (x :: l) 1
        omega
    rw [if_neg h1, if_neg h1]
    exact ⟨rfl, bytes_nil' _⟩
def encs (l : List Rc) : List ByteArray := l.map Rc.enc
theorem encs_end : ∀ (l : List Rc) (p : Nat), (∀ r ∈ l, r.ok) → endFrom p (encs l) ≤ p + 5712 * l.length
  | [], p, _ => Nat.le_refl _
  | r :: l, p, h => by
    have h1 := (h r (List.mem_cons_self ..)).size.2
    have h2 := encs_end l (p + r.enc.size + 12) (fun x hx => h x (List.mem_cons_of_mem _ hx))
    show endFrom (p + r.enc.size + 12) (encs l) ≤ _
    rw [List.length_cons]
    omega
/-- records and where they begin -/
def placed (p : Nat) : List Rc → List (Nat × Rc)
  | [] => []
  | r :: l => (p, r) :: placed (p + r.enc.size + 12) l
theorem placed_snoc (r : Rc) : ∀ (l : List Rc) (p : Nat), placed p (l ++ [r]) = placed p l ++ [(endFrom p (encs l), r)]
  | [], _ => rfl
  | x :: l, p => by
    show (p, x) :: placed _ (l ++ [r]) = (p, x) :: (placed _ l ++ _)
    rw [placed_snoc r l]
    rfl
theorem placed_length : ∀ (l : List Rc) (p : Nat), (placed p l).length = l.length
  | [], _ => rfl
  | x :: l, p => by simp [placed, placed_length l]
theorem placed_at : ∀ (l : List Rc) (p i : Nat), i < l.length → (placed p l)[i]?.map (·.1) = some (endFrom p ((encs l).take i))
  | [], _, _, h => by simp at h
  | x :: l, p, 0, _ => rfl
  | x :: l, p, i + 1, h => by
    have := placed_at l (p + x.enc.size + 12) i (by simpa using h)
    simpa [placed, encs, endFrom] using this
theorem placed_drop : ∀ (l : List Rc) (p i : Nat), (placed p l).drop i = placed (endFrom p ((encs l).take i)) (l.drop i)
  | [], _, i => by simp [placed]
  | x :: l, p, 0 => rfl
  | x :: l, p, i + 1 => by
    show (placed (p + x.enc.size + 12) l).drop i = _
    rw [placed_drop l]
    rfl
theorem runA_placed : ∀ (l : List Rc) (p : Nat) (a : An), (∀ r ∈ l, r.ok ∧ r.mild) → runA p (encs l) a = some ((placed p l).foldl (fun a q => (a.step q.1 q.2).next) a)
  | [], _, _, _ => rfl
  | r :: l, p, a, h => by
    obtain ⟨h1, h2⟩ := h r (List.mem_cons_self ..)
    show runA p (r.enc :: encs l) a = _
    rw [runA, h1.dec h2, if_pos rfl, runA_placed l _ _ (fun x hx => h x (List.mem_cons_of_mem _ hx))]
    rfl
/-- the document's list says what records stand where -/
def SaysQ (qs : List Q19) (l : List (Nat × Rc)) : Prop := qs.map (fun q => (q.at_, q.r)) = l
theorem SaysQ.run {qs : List Q19} {l : List (Nat × Rc)} (h : SaysQ qs l) : runAn qs = l.foldl (fun a q => (a.step q.1 q.2).next) An.zero := by
  unfold SaysQ at h
  subst h
  unfold runAn
  rw [List.foldl_map]
theorem SaysQ.drop {qs : List Q19} {l : List (Nat × Rc)} (h : SaysQ qs l) (i : Nat) : SaysQ (qs.drop i) (l.drop i) := by
  unfold SaysQ at h ⊢
  rw [← h, List.map_drop]
theorem SaysQ.length {qs : List Q19} {l : List (Nat × Rc)} (h : SaysQ qs l) : qs.length = l.length := by
  unfold SaysQ at h
  rw [← h, List.length_map]

/-! in memory -/
section
variable {w0 w w' : World} {K : Nat → Prop} {P : World → Prop} {b lb : Nat} {m : Dk} {lg : ByteArray} {mk : Int} {g : Lg}
theorem LW.wal (h : LW w0 K P b lb lg mk g w) : ∃ G, WalAt w G lb b g := by obtain ⟨c, h⟩ := h; exact h.wal
theorem LW.free (h : LW w0 K P b lb lg mk g w) : LW w0 (fun _ => False) (fun _ => True) b lb lg mk g w := h.turn (Step.refl _ _) (fun _ h => h.elim) trivial
set_option maxRecDepth 100000 in
theorem LW.master19 (hst : Stable K P) (h : LW w0 K P b lb lg mk g w) (x : Nat) (hx : x < 18446744073709551616) (hh : g.has x = true) (hf : ¬ g.flushed ≤ x) :
    Calls Tryz.prog 25 #[.pointer (some ⟨lb, 0, none⟩), .int .u64 (x : Int)] w fun e w' => e = .returned (.int .i64 0) ∧ LW w0 K P b lb lg (x : Int) { g with marks := x } w' := by
  obtain ⟨c, h⟩ := h
  have e1 : (dk c lg mk).setMark x = (0, { dk c lg mk with calls := wrapI (c + 1), loose := [⟨0, ⟨#[]⟩, x⟩] }) := by
    unfold Dk.setMark
    rw [if_neg (show ¬ (dk c lg mk).dead = true from Bool.false_ne_true), Dk.strikes_plan rfl]
    rfl
  have e2 : ({ dk c lg mk with calls := wrapI (c + 1), loose := [⟨0, ⟨#[]⟩, x⟩] } : Dk).sync = (0, dk (wrapI (wrapI (c + 1) + 1)) lg x) := by
    unfold Dk.sync
    rw [if_neg (show ¬ ({ dk c lg mk with calls := wrapI (c + 1), loose := [⟨0, ⟨#[]⟩, x⟩] } : Dk).dead = true from Bool.false_ne_true), Dk.strikes_plan rfl]
    rfl
  refine (h.calls (m' := dk (wrapI (wrapI (c + 1) + 1)) lg x) (g' := { g with marks := x }) (v := .returned (.int .i64 0)) hst fun F G h1 => ?_).mono fun e w' ⟨he, hp⟩ => ⟨he, _, hp⟩
  have := lsetMaster_hit h1 x hx hh hf (strikes_plan rfl) (Nat.zero_le _) (by rw [e1]) (by rw [e1]; exact strikes_plan rfl) (by rw [e1]; show (1 : Nat) ≤ _; omega) (by rw [e1, e2])
  rw [e1, e2] at this
  exact this
end
/-- the blocks of the document's list -/
def LaidK (ov : Value) (qs : List Q19) (r : Nat) : Prop := ov.ownBlock = some r ∨ ∃ q ∈ qs, q.tv.ownBlock = some r ∨ q.dv.ownBlock = some r
structure LaidP (B : Nat) (ov : Value) (qs : List Q19) (W : World) : Prop where
  row : W.ownsRow B 173 7 ov qs.length (cellsL q19C qs)
  ok : ∀ q ∈ qs, q.ok W
  sep : ∀ q ∈ qs, ∀ k, ov.ownBlock = some k → q.tv.ownBlock ≠ some k ∧ q.dv.ownBlock ≠ some k
theorem LW.kbound {w0 w : World} {K : Nat → Prop} {P : World → Prop} {b lb : Nat} {lg : ByteArray} {mk : Int} {g : Lg} (h : LW w0 K P b lb lg mk g w) : ∀ r, K r → r < w.heap.size := by
  obtain ⟨c, F, G, _, _, h3, _⟩ := h
  exact fun r hr => (h3 r hr).2
theorem stable_laid (B : Nat) (ov : Value) (qs : List Q19) : Stable (LaidK ov qs) (LaidP B ov qs) := fun _w _w' h hk =>
  ⟨own_same h.row (fun k hk2 => hk k (.inl hk2)), fun q hq => by
    obtain ⟨h1, h2, h3, h4, h5⟩ := h.ok q hq
    exact ⟨h1, h2, h3, h4.same (fun k hk2 => hk k (.inr ⟨q, hq, .inl hk2⟩)), h5.same (fun k hk2 => hk k (.inr ⟨q, hq, .inr hk2⟩))⟩, h.sep⟩
/-- a record of the document's list while it is filled -/
structure XSt (w : World) (n : Nat) (r : Rc) (tv dv : Value) (ts : List Ts) (ds : List (Nat × Nat)) (W : World) : Prop where
  base : Below w.heap.size w W
  box : Blk W w.heap.size 173 (r19C n r tv dv).toArray
  txs : W.ownsRow (w.heap.size + 1) 46 4 tv ts.length (cellsL tsC ts)
  dirty : W.ownsRow (w.heap.size + 1) 52 2 dv ds.length (cellsL dpC ds)
section
variable {w W W' : World} {n : Nat} {r : Rc} {tv dv : Value} {ts : List Ts} {ds : List (Nat × Nat)}
theorem XSt.size (h : XSt w n r tv dv ts ds W) : w.heap.size + 1 ≤ W.heap.size := h.box.lt
theorem XSt.below (h : XSt w n r tv dv ts ds W) (hb : Below W.heap.size W W') : XSt w n r tv dv ts ds W' :=
  ⟨h.base.trans (hb.mono h.base.size), h.box.same (hb.block _ h.box.lt), own_same h.txs (fun k hk => hb.block k (h.txs.lt k hk).2), own_same h.dirty (fun k hk => hb.block k (h.dirty.lt k hk).2)⟩
theorem XSt.grownT (h : XSt w n r tv dv ts ds W) (hg : W.grownBy W' tv.ownBlock) : Blk W' w.heap.size 173 (r19C n r tv dv).toArray := h.box.same (hg.block _ h.box.lt (fun e => own_blk_ne h.txs h.box (by decide) e.symm))
theorem XSt.grownD (h : XSt w n r tv dv ts ds W) (hg : W.grownBy W' dv.ownBlock) : Blk W' w.heap.size 173 (r19C n r tv dv).toArray := h.box.same (hg.block _ h.box.lt (fun e => own_blk_ne h.dirty h.box (by decide) e.symm))
theorem XSt.pushT (h : XSt w n r tv dv ts ds W) {t : Ts} {g c : Nat} (ho : W'.ownsRow (w.heap.size + 1) 46 4 (.slice (some ⟨g, 0, none⟩) (ts.length + 1) c) (ts.length + 1) (cellsL tsC ts ++ tsC t)) (hg : W.grownBy W' tv.ownBlock) :
    XSt w n r (.slice (some ⟨g, 0, none⟩) (ts.length + 1) c) dv (ts ++ [t]) ds (W'.setCell ⟨w.heap.size, 5, none⟩ (.slice (some ⟨g, 0, none⟩) (ts.length + 1) c)) := by
  have e : (ts ++ [t]).length = ts.length + 1 := by simp
  have hO : ∀ {t : TypeId} {n sz : Nat} {v : Value} {l : List Value}, W.ownsRow (w.heap.size + 1) t sz v n l → t ≠ 46 → W'.ownsRow (w.heap.size + 1) t sz v n l := fun ho' ht => own_same ho' (fun k hk => hg.block k (ho'.lt k hk).2 (fun e => own_own_ne ho' h.txs ht hk e.symm))
  have hD := hO h.dirty (by decide)
  have hS : ∀ q, q ≠ w.heap.size → (W'.setCell ⟨w.heap.size, 5, none⟩ (.slice (some ⟨g, 0, none⟩) (ts.length + 1) c)).heap[q]? = W'.heap[q]? := fun q hq => Below.heap_setCell W' _ _ q hq
  have hK : ∀ {t : TypeId} {n sz : Nat} {v : Value} {l : List Value}, W'.ownsRow (w.heap.size + 1) t sz v n l → ∀ k, v.ownBlock = some k → k ≠ w.heap.size := fun ho k hk => by have := (ho.lt k hk).1; omega
  refine ⟨(h.base.grown hg h.base.size (fun k hk => by have := (h.txs.lt k hk).1; omega)).setCell (by simp) _, ?_, ?_, own_same hD (fun k hk => hS k (hK hD k hk))⟩
  · have := (h.grownT hg).set_ 5 (.slice (some ⟨g, 0, none⟩) (ts.length + 1) c)
    simpa [r19C] using this
  · rw [e, cellsL_snoc]
    exact own_same ho (fun k hk => hS k (hK ho k hk))
theorem XSt.pushD (h : XSt w n r tv dv ts ds W) {t : Nat × Nat} {g c : Nat} (ho : W'.ownsRow (w.heap.size + 1) 52 2 (.slice (some ⟨g, 0, none⟩) (ds.length + 1) c) (ds.length + 1) (cellsL dpC ds ++ dpC t)) (hg : W.grownBy W' dv.ownBlock) :
    XSt w n r tv (.slice (some ⟨g, 0, none⟩) (ds.length + 1) c) ts (ds ++ [t]) (W'.setCell ⟨w.heap.size, 6, none⟩ (.slice (some ⟨g, 0, none⟩) (ds.length + 1) c)) := by
  have e : (ds ++ [t]).length = ds.length + 1 := by simp
  have hO : ∀ {t : TypeId} {n sz : Nat} {v : Value} {l : List Value}, W.ownsRow (w.heap.size + 1) t sz v n l → t ≠ 52 → W'.ownsRow (w.heap.size + 1) t sz v n l := fun ho' ht => own_same ho' (fun k hk => hg.block k (ho'.lt k hk).2 (fun e => own_own_ne ho' h.dirty ht hk e.symm))
  have hD := hO h.txs (by decide)
  have hS : ∀ q, q ≠ w.heap.size → (W'.setCell ⟨w.heap.size, 6, none⟩ (.slice (some ⟨g, 0, none⟩) (ds.length + 1) c)).heap[q]? = W'.heap[q]? := fun q hq => Below.heap_setCell W' _ _ q hq
  have hK : ∀ {t : TypeId} {n sz : Nat} {v : Value} {l : List Value}, W'.ownsRow (w.heap.size + 1) t sz v n l → ∀ k, v.ownBlock = some k → k ≠ w.heap.size := fun ho k hk => by have := (ho.lt k hk).1; omega
  refine ⟨(h.base.grown hg h.base.size (fun k hk => by have := (h.dirty.lt k hk).1; omega)).setCell (by simp) _, ?_, own_same hD (fun k hk => hS k (hK hD k hk)), ?_⟩
  · have := (h.grownD hg).set_ 6 (.slice (some ⟨g, 0, none⟩) (ds.length + 1) c)
    simpa [r19C] using this
  · rw [e, cellsL_snoc]
    exact own_same ho (fun k hk => hS k (hK ho k hk))
end
end Go.Proofs.YtpnndlahfllbhaaGreat
