/-
  The parts of 'WalTorn'.
-/
import Derived.Test.YtnobiekgifjaeaaT3
import Derived.Test.YtnobiekgifjaeaaKF
import Derived.Test.YtnobiekgifjaeaaZ0
namespace Go.Proofs.Ytnobiekgifjaeaa
open Go.RowKit
attribute [local go_sem ↓] Go.wp_at_zero Go.wp_at_succ

/-- the bytes that are put behind the records -/
def cutRest (s : ByteArray) : ByteArray := if 100000 < s.size then s.extract 0 100000 else s
theorem cutRest_size (s : ByteArray) : (cutRest s).size ≤ 100000 := by
  unfold cutRest
  split
  · rw [ByteArray.size_extract]; omega
  · omega

/-- while the records are put: w1 is the world behind 'New', the model's box is the first block behind it -/
structure TornA (w1 : World) (lv : Value) (l : List ByteArray) (wr : World) : Prop where
  base : Below w1.heap.size w1 wr
  box : Blk wr w1.heap.size 89 #[lv, .int .i64 0, .int .i64 0, .int .u64 0]
  reads : Reads wr lv l
  own : ∀ k, lv.ownBlock = some k → w1.heap.size ≤ k
  sizes : ∀ s ∈ l, 1 ≤ s.size ∧ s.size ≤ 8192
  some_ : ∀ k, lv.ownBlock = some k → 0 < l.length

theorem TornA.below {w1 wr W : World} {lv : Value} {l : List ByteArray} (h : TornA w1 lv l wr) (hb : Below wr.heap.size wr W) : TornA w1 lv l W :=
  ⟨h.base.trans (hb.mono h.base.size), h.box.same (hb.block _ h.box.lt), h.reads.below hb, h.own, h.sizes, h.some_⟩
theorem TornA.store {w1 wr : World} {lv lv2 : Value} {l : List ByteArray} {s : ByteArray} (h : TornA w1 lv l wr) (hr : Reads wr lv2 (l ++ [s])) (ho : ∀ k, lv2.ownBlock = some k → w1.heap.size ≤ k) (hs : 1 ≤ s.size ∧ s.size ≤ 8192) :
    TornA w1 lv2 (l ++ [s]) ((((wr.setCell ⟨w1.heap.size, 0, none⟩ lv2).setCell ⟨w1.heap.size, 1, none⟩ (.int .i64 0)).setCell ⟨w1.heap.size, 2, none⟩ (.int .i64 0)).setCell ⟨w1.heap.size, 3, none⟩ (.int .u64 0)) := by
  have hh : ∀ r, r ≠ w1.heap.size → ((((wr.setCell ⟨w1.heap.size, 0, none⟩ lv2).setCell ⟨w1.heap.size, 1, none⟩ (.int .i64 0)).setCell ⟨w1.heap.size, 2, none⟩ (.int .i64 0)).setCell ⟨w1.heap.size, 3, none⟩ (.int .u64 0)).heap[r]? = wr.heap[r]? := fun r hr =>
    (Below.heap_setCell _ _ _ r hr).trans ((Below.heap_setCell _ _ _ r hr).trans ((Below.heap_setCell _ _ _ r hr).trans (Below.heap_setCell _ _ _ r hr)))
  have hz : ((((wr.setCell ⟨w1.heap.size, 0, none⟩ lv2).setCell ⟨w1.heap.size, 1, none⟩ (.int .i64 0)).setCell ⟨w1.heap.size, 2, none⟩ (.int .i64 0)).setCell ⟨w1.heap.size, 3, none⟩ (.int .u64 0)).heap.size = wr.heap.size := by simp
  have hb : Below w1.heap.size w1 ((((wr.setCell ⟨w1.heap.size, 0, none⟩ lv2).setCell ⟨w1.heap.size, 1, none⟩ (.int .i64 0)).setCell ⟨w1.heap.size, 2, none⟩ (.int .i64 0)).setCell ⟨w1.heap.size, 3, none⟩ (.int .u64 0)) := (((h.base.setCell (Nat.le_refl _) _).setCell (Nat.le_refl _) _).setCell (Nat.le_refl _) _).setCell (Nat.le_refl _) _
  have hx : Blk ((((wr.setCell ⟨w1.heap.size, 0, none⟩ lv2).setCell ⟨w1.heap.size, 1, none⟩ (.int .i64 0)).setCell ⟨w1.heap.size, 2, none⟩ (.int .i64 0)).setCell ⟨w1.heap.size, 3, none⟩ (.int .u64 0)) w1.heap.size 89 #[lv2, .int .i64 0, .int .i64 0, .int .u64 0] := by
    have := (((h.box.set_ 0 lv2).set_ 1 (.int .i64 0)).set_ 2 (.int .i64 0)).set_ 3 (.int .u64 0)
    simpa using this
  generalize ((((wr.setCell ⟨w1.heap.size, 0, none⟩ lv2).setCell ⟨w1.heap.size, 1, none⟩ (.int .i64 0)).setCell ⟨w1.heap.size, 2, none⟩ (.int .i64 0)).setCell ⟨w1.heap.size, 3, none⟩ (.int .u64 0)) = V at *
  refine ⟨hb, hx, ?_, ho, fun x hx => ?_, fun k _ => by simp⟩
  · rcases hr with hr | ⟨b, cap, e, h1, h2, h3, h4⟩
    · exact .inl hr
    · refine .inr ⟨b, cap, e, h1, h2, by omega, fun i t hi => ?_⟩
      have hc := h4 i t hi
      have hne : b ≠ w1.heap.size := by
        intro hbe
        have h5 := h.box.cell i
        obtain ⟨a', c', hf⟩ := h.reads.form
        rw [← hbe, hc, hf] at h5
        match i, h5 with
        | 0, h5 => simp at h5
        | 1, h5 => simp at h5
        | 2, h5 => simp at h5
        | j + 3, h5 => cases j <;> simp at h5
      refine Eq.trans ?_ hc
      exact World.cell?_of_block (hh b hne)
  · rcases List.mem_append.1 hx with hx | hx
    · exact h.sizes x hx
    · rw [List.mem_singleton.1 hx]; exact hs
theorem torn_recsOk {l : List ByteArray} (h : ∀ s ∈ l, 1 ≤ s.size ∧ s.size ≤ 8192) (hl : l.length ≤ 60) : RecsOk l := by
  have := endFrom_max l 1 (fun x hx => (h x hx).2)
  exact ⟨by omega, by omega, fun s hs => (h s hs).2⟩


theorem Reads.same {w w' : World} {v : Value} {l : List ByteArray} (h : Reads w v l) (hk : ∀ k, v.ownBlock = some k → w'.heap[k]? = w.heap[k]?) : Reads w' v l := by
  rcases h with h | ⟨b, cap, e, h1, h2, h3, h4⟩
  · exact .inl h
  · have hb : w'.heap[b]? = w.heap[b]? := hk b (by rw [e]; rfl)
    have hlt : b < w'.heap.size := by
      rw [Array.getElem?_eq_getElem h3] at hb
      exact (Array.getElem?_eq_some_iff.1 hb).1
    exact .inr ⟨b, cap, e, h1, h2, hlt, fun i s hi => (World.cell?_of_block (a := ⟨b, i, none⟩) hb).trans (h4 i s hi)⟩
theorem Reads.lt {w : World} {v : Value} {l : List ByteArray} (h : Reads w v l) : ∀ k, v.ownBlock = some k → k < w.heap.size := by
  intro k hk
  rcases h with ⟨rfl, _⟩ | ⟨b, cap, rfl, h1, h2, h3, h4⟩
  · simp [Value.ownBlock] at hk
  · simp [Value.ownBlock] at hk
    omega

/-- the model of the law: its box and its records -/
def tK (m : Nat) (lv : Value) : Nat → Prop := fun r => r = m ∨ lv.ownBlock = some r
def tP (m : Nat) (lv : Value) (l : List ByteArray) (n : Nat) : World → Prop := fun W => Blk W m 89 #[lv, .int .i64 (n : Int), .int .i64 0, .int .u64 0] ∧ Reads W lv l
theorem t_stable (m : Nat) (lv : Value) (l : List ByteArray) (n : Nat) : Stable (tK m lv) (tP m lv l n) := fun _ _ h hk => ⟨h.1.same (hk m (.inl rfl)), h.2.same (fun k hg => hk k (.inr hg))⟩
theorem DW.turn {w0 w w' : World} {K K' : Nat → Prop} {P P' : World → Prop} {b : Nat} {lg : ByteArray} {mk : Int} (h : DW w0 K P b lg mk w) (hs : Step K w w') (hk : ∀ r, K' r → (K r ∨ w.heap.size ≤ r) ∧ r < w'.heap.size) (hp : P' w') : DW w0 K' P' b lg mk w' := by
  obtain ⟨c, h⟩ := h
  exact ⟨c, h.turn hs hk hp⟩
theorem TornA.disk {w w1 wr : World} {lv : Value} {l : List ByteArray} {b : Nat} (h : TornA w1 lv l wr) (hd : Live w b (Dk.fresh 8) w1) : DW w (tK w1.heap.size lv) (tP w1.heap.size lv l 0) b ⟨#[]⟩ 0 wr := by
  refine (DW.of_live hd).turn (Step.below h.base) (fun r hr => ?_) ⟨h.box, h.reads⟩
  rcases hr with rfl | hr
  · exact ⟨.inr (Nat.le_refl _), h.box.lt⟩
  · exact ⟨.inr (h.own r hr), h.reads.lt r hr⟩

section
variable {w0 w w' : World} {K : Nat → Prop} {P : World → Prop} {b : Nat} {lg : ByteArray} {mk : Int}
theorem DW.appends (hst : Stable K P) (h : DW w0 K P b lg mk w) (s : ByteArray) (hsz : lg.size + s.size ≤ 4194304) :
    Calls Try.prog 23 #[.pointer (some ⟨b, 0, none⟩), .string s] w fun e w' => e = .returned (.int .i64 0) ∧ ∃ c, DX w0 K P b { dk c lg mk with tail := s } w' := by
  obtain ⟨c, h⟩ := h
  have e1 := appendLog_plan (m := dk c lg mk) rfl rfl (s := s) (by show lg.size + 0 + _ ≤ _; omega)
  refine (h.calls (m' := ((dk c lg mk).appendLog s).2) (v := .returned (.int .i64 ((dk c lg mk).appendLog s).1)) hst fun F h1 => appendLog_c h1 (strikes_plan rfl) s (by omega)).mono ?_
  rintro e w' ⟨he, hp⟩
  rw [e1] at he hp
  have e2 : (dk c lg mk).tail ++ s = s := bytes_nil' s
  dsimp only at hp
  rw [e2] at hp
  exact ⟨he, wrapI (c + 1), hp⟩
theorem DX.syncs {c : Int} {s : ByteArray} (hst : Stable K P) (h : DX w0 K P b { dk c lg mk with tail := s } w) :
    Calls Try.prog 24 #[.pointer (some ⟨b, 0, none⟩)] w fun e w' => e = .returned (.int .i64 0) ∧ DW w0 K P b (lg ++ s) mk w' := by
  have e1 := Dk.syncLog_plan (m := { dk c lg mk with tail := s }) rfl rfl
  refine (h.calls (m' := ({ dk c lg mk with tail := s } : Dk).syncLog.2) (v := .returned (.int .i64 ({ dk c lg mk with tail := s } : Dk).syncLog.1)) hst fun F h1 => syncLog_c h1 (strikes_plan rfl)).mono ?_
  rintro e w' ⟨he, hp⟩
  rw [e1] at he hp
  exact ⟨he, wrapI (c + 1), hp⟩
end

theorem ext_join (t : ByteArray) {k : Nat} (h : k ≤ t.size) : t.extract 0 k ++ t.extract k t.size = t := by
  apply ByteArray.ext
  have h' : k ≤ t.data.size := h
  rw [ByteArray.data_append, ByteArray.data_extract, ByteArray.data_extract, Array.extract_append_extract]
  have : Nat.min 0 k = 0 := Nat.zero_min k
  have h2 : Nat.max k t.size = t.data.size := by show max k t.data.size = _; omega
  rw [show min 0 k = 0 from this, show max k t.size = t.data.size from h2]
  exact Array.extract_size
theorem numAt_cut {t : ByteArray} (h : 4 ≤ t.size) : numAt (t.extract 0 4) 0 4 = numAt t 0 4 := by
  have hz : (t.extract 0 4).size = 4 := by rw [ByteArray.size_extract]; omega
  have h1 := numAt_front (a := t.extract 0 4) (b := t.extract 4 t.size) (k := 4) (by omega)
  have h2 := numAt_front (a := t.extract 0 4) (b := ⟨#[]⟩) (k := 4) (by omega)
  rw [bytes_nil] at h2
  rw [ext_join t h] at h1
  rw [h2, ← h1]

def strLen : Value → Nat
  | .string s => s.size
  | _ => 0
/-- while what is behind is read -/
structure TornB (w : World) (m b : Nat) (full : ByteArray) (lv : Value) (l : List ByteArray) (left : ByteArray) (wr : World) : Prop where
  disk : DW w (tK m lv) (tP m lv l 0) b full 0 wr
  cut : full = frames 1 l ++ left
  sizes : ∀ s ∈ l, 1 ≤ s.size ∧ s.size ≤ 8192
  some_ : ∀ k, lv.ownBlock = some k → 0 < l.length
  small : full.size ≤ 300000
section
variable {w wr W1 W2 : World} {m b : Nat} {full : ByteArray} {lv lv2 : Value} {l : List ByteArray} {left left2 s : ByteArray}
theorem TornB.below (h : TornB w m b full lv l left wr) (hb : Below wr.heap.size wr W1) : TornB w m b full lv l left W1 :=
  ⟨h.disk.below (t_stable _ _ _ _) hb, h.cut, h.sizes, h.some_, h.small⟩
theorem DW.ownP {w0 w : World} {K : Nat → Prop} {P : World → Prop} {b : Nat} {lg : ByteArray} {mk : Int} (h : DW w0 K P b lg mk w) : P w := by obtain ⟨c, h⟩ := h; exact h.own
theorem TornB.own (h : TornB w m b full lv l left wr) : tP m lv l 0 wr := h.disk.ownP
theorem TornB.recsOk (h : TornB w m b full lv l left wr) : endFrom 1 l + left.size ≤ 300001 ∧ RecsOk l := by
  have h1 := h.cut
  have h2 := h.small
  have h3 := frames_size l 1
  have h4 := endFrom_length l 1
  rw [h1, ByteArray.size_append] at h2
  exact ⟨by omega, by omega, by omega, fun s hs => (h.sizes s hs).2⟩
theorem TornB.push (h : TornB w m b full lv l left W1) (hb : Below W1.heap.size W1 W2) (ho : W2.ownsRow W1.heap.size 9 1 lv2 (l.length + 1) ((l ++ [s]).map Value.string)) (hs : 1 ≤ s.size ∧ s.size ≤ 8192) (hc : full = frames 1 (l ++ [s]) ++ left2) :
    TornB w m b full lv2 (l ++ [s]) left2 (W2.setCell ⟨m, 0, none⟩ lv2) := by
  have hl1 : (l ++ [s]).length = l.length + 1 := by simp
  have hm : m < W1.heap.size := h.own.1.lt
  refine ⟨h.disk.turn ((Step.below hb).setCell (.inl (.inl rfl)) lv2) (fun r hr => ?_) ⟨?_, ?_⟩, hc, fun x hx => ?_, fun k hk => by omega, h.small⟩
  · rcases hr with rfl | hr
    · exact ⟨.inl (.inl rfl), by simpa [World.setCell] using Nat.lt_of_lt_of_le hm hb.size⟩
    · have := ho.lt r hr
      exact ⟨.inr this.1, by simpa [World.setCell] using this.2⟩
  · exact (h.own.1.same (hb.block m hm)).set_ 0 lv2
  · refine Reads.of_own (B := W1.heap.size) (l := l ++ [s]) ?_
    rw [hl1]
    refine own_same ho (fun k hk => Below.heap_setCell _ _ _ k ?_)
    have := (ho.lt k hk).1
    show k ≠ m
    omega
  · rcases List.mem_append.1 hx with hx | hx
    · exact h.sizes x hx
    · rw [List.mem_singleton.1 hx]; exact hs
/-- the model says how many there are -/
theorem TornB.sure (h : TornB w m b full lv l left wr) (n : Nat) : DW w (tK m lv) (tP m lv l n) b full 0 (wr.setCell ⟨m, 1, none⟩ (.int .i64 (n : Int))) := by
  have hm : m < wr.heap.size := h.own.1.lt
  refine h.disk.turn ((Step.refl _ _).setCell (.inl (.inl rfl)) _) (fun r hr => ?_) ⟨?_, ?_⟩
  · rcases hr with rfl | hr
    · exact ⟨.inl (.inl rfl), by simpa [World.setCell] using hm⟩
    · exact ⟨.inl (.inr hr), by simpa [World.setCell] using h.own.2.lt r hr⟩
  · exact h.own.1.set_ 1 (.int .i64 (n : Int))
  · refine h.own.2.same (fun k hk => Below.heap_setCell _ _ _ k ?_)
    intro hkm
    have hc := h.own.1.cell 0
    have h0 := h.some_ _ hk
    rcases h.own.2 with ⟨rfl, hl⟩ | ⟨g, cap, e, h1, h2, h3, h4⟩
    · simp [Value.ownBlock] at hk
    · rw [e] at hk hc
      have hg : g = m := by
        have : g = k := by simpa [Value.ownBlock] using hk
        exact this.trans hkm
      obtain ⟨x, hx⟩ : ∃ x, l[0]? = some x := ⟨_, List.getElem?_eq_getElem h0⟩
      have := h4 0 x hx
      rw [hg, hc] at this
      simp at this
theorem frame_next (h : TornB w m b full lv l left wr) {n : Nat} (_h1 : 8 + n ≤ left.size) (hn : n + 12 ≤ left.size) (he : frameB (endFrom 1 l) (left.extract 8 (8 + n)) = left.extract 0 (n + 12)) :
    full = frames 1 (l ++ [left.extract 8 (8 + n)]) ++ left.extract (n + 12) left.size := by
  rw [frames_snoc, he, ByteArray.append_assoc, ext_join left hn]
  exact h.cut
end
theorem torn_act : (⟨0, 0, ⟨#[]⟩, 0, ⟨0, 0, 0, 0, 0⟩⟩ : Ac).ok := by
  refine ⟨?_, ?_, ?_, ?_, ?_, ?_, ?_, ?_, ?_, ?_, ?_, ?_, ?_, ?_, ?_, ?_, ?_⟩ <;> first | decide | (simp [maxLen]; try omega)
theorem LW.ownP {w0 w : World} {K : Nat → Prop} {P : World → Prop} {b lb : Nat} {lg : ByteArray} {mk : Int} {g : Lg} (h : LW w0 K P b lb lg mk g w) : P w := h.own
theorem openG_marks (l : List ByteArray) : (openG l 0).marks = 0 := by
  unfold openG
  dsimp only
  split <;> rfl
theorem LW.says0 {w0 w : World} {K : Nat → Prop} {P : World → Prop} {b lb : Nat} {lg : ByteArray} {mk : Int} {l : List ByteArray} {lv : Value} (h : LW w0 K P b lb lg mk (openG l 0) w) (hr : Reads w lv l) :
    Calls Try.prog 53 #[.pointer (some ⟨lb, 0, none⟩), .agg #[lv, .int .i64 (l.length : Int), .int .i64 0, .int .u64 0], .agg #[.int .i64 0, .int .i64 0, .string ⟨#[]⟩, .int .u64 0, .int .i64 0, .int .u64 0, .int .i64 0, .int .i64 0, .int .i64 0]] w fun e w' => e = .returned (.bool true) ∧ Below w.heap.size w w' := by
  obtain ⟨c, hx⟩ := h
  obtain ⟨G, hg⟩ := hx.wal
  have hs := says_c (lv := lv) hg (show Reads w lv (openG l 0).recs from hr) ⟨0, 0, ⟨#[]⟩, 0, ⟨0, 0, 0, 0, 0⟩⟩ torn_act
  unfold modelV at hs
  rw [openG_marks] at hs
  exact hs
end Go.Proofs.Ytnobiekgifjaeaa
