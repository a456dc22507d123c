/-
  The statements' own model: where records begin.
-/
import Derived.Test.YtnobiekgifjaeaaV2
import Derived.Test.YtnobiekgifjaeaaY2
import Derived.Deep.RegionLaw
import Derived.Deep.AppendLies
namespace Go.Proofs.Ytnobiekgifjaeaa
open Go.RowKit
attribute [local go_sem ↓] Go.wp_at_zero Go.wp_at_succ

theorem infoU64 : (Try.prog.info? 23).map (fun i => (i.zero, i.size, i.bytes)) = some (some (.int .u64 0), 1, 8) := by kernel_rfl

/-- strings that can be read at a slice -/
def Reads (w : World) (v : Value) (l : List ByteArray) : Prop :=
  (v = .slice none 0 0 ∧ l = []) ∨ ∃ b cap, v = .slice (some ⟨b, 0, none⟩) l.length cap ∧ l.length ≤ cap ∧ cap ≤ maxLen ∧ b < w.heap.size ∧ ∀ (i : Nat) (s : ByteArray), l[i]? = some s → w.cell? ⟨b, i, none⟩ = some (.string s)
theorem Reads.below {w w' : World} {v : Value} {l : List ByteArray} (h : Reads w v l) (hb : Below w.heap.size w w') : Reads w' v l := by
  rcases h with h | ⟨b, cap, e, h1, h2, h3, h4⟩
  · exact .inl h
  · exact .inr ⟨b, cap, e, h1, h2, Nat.lt_of_lt_of_le h3 hb.size, fun i s hi => (hb.cell (p := ⟨b, i, none⟩) h3).trans (h4 i s hi)⟩
theorem Reads.form {w : World} {v : Value} {l : List ByteArray} (h : Reads w v l) : ∃ a cap, v = .slice a l.length cap := by
  rcases h with ⟨rfl, rfl⟩ | ⟨b, cap, rfl, _⟩
  · exact ⟨_, _, rfl⟩
  · exact ⟨_, _, rfl⟩
theorem Reads.at_ {w : World} {a : Option Addr} {n cap : Nat} {l : List ByteArray} (h : Reads w (.slice a n cap) l) {i : Nat} {s : ByteArray} (hi : l[i]? = some s) :
    ∃ b, a = some ⟨b, 0, none⟩ ∧ n = l.length ∧ n ≤ cap ∧ cap ≤ maxLen ∧ b < w.heap.size ∧ w.cell? ⟨b, i, none⟩ = some (.string s) := by
  rcases h with ⟨h, rfl⟩ | ⟨b, cap', e, h1, h2, h3, h4⟩
  · simp at hi
  · cases e
    exact ⟨b, rfl, rfl, h1, h2, h3, h4 i s hi⟩

def plv (l : List ByteArray) (j : Nat) : Value := .int .u64 (pl l j : Int)
/-- the places of the first k records, and where the next one is -/
def plRow (l : List ByteArray) (k : Nat) : List Value := (List.range (k + 1)).map (plv l)
theorem plRow_succ (l : List ByteArray) (k : Nat) : plRow l (k + 1) = plRow l k ++ [plv l (k + 1)] := by
  unfold plRow
  rw [List.range_succ, List.map_append]
  rfl
theorem plRow_get (l : List ByteArray) {k j : Nat} (h : j ≤ k) : (plRow l k)[j]? = some (plv l j) := by
  unfold plRow
  rw [List.getElem?_map, List.getElem?_range (by omega)]
  rfl
theorem plRow_length (l : List ByteArray) (k : Nat) : (plRow l k).length = k + 1 := by simp [plRow]

/-- what 'at' gives -/
def AtPost (w : World) (l : List ByteArray) (e : Ending) (w' : World) : Prop := ∃ g cap, e = .returned (.slice (some ⟨g, 0, none⟩) (l.length + 1) cap) ∧ w'.ownsRow w.heap.size 23 1 (.slice (some ⟨g, 0, none⟩) (l.length + 1) cap) (l.length + 1) (plRow l l.length) ∧ Below w.heap.size w w'

structure AtRel (w : World) (lv c1 c2 c3 : Value) (l : List ByteArray) (k g c : Nat) (wr : World) : Prop where
  own : wr.ownsRow w.heap.size 23 1 (.slice (some ⟨g, 0, none⟩) (k + 1) c) (k + 1) (plRow l k)
  blk : Blk wr w.heap.size 89 #[lv, c1, c2, c3]
  base : Below w.heap.size w wr

set_option maxRecDepth 100000 in
set_option maxHeartbeats 4000000 in
theorem mat_c (w : World) (lv : Value) (l : List ByteArray) (c1 c2 c3 : Value) (h : Reads w lv l) (hl : l.length ≤ 400000) (he : endFrom 1 l ≤ 4194305) (hsz : ∀ s ∈ l, s.size ≤ 8192) :
    Calls Try.prog 52 #[.agg #[lv, c1, c2, c3]] w (AtPost w l) := by
  obtain ⟨la, lc, rfl⟩ := h.form
  obtain ⟨iu, hiu, huz0, huz1, huz2⟩ := info_parts infoU64
  have HR := Lib.hid h
  clear h
  go_enter Try.func52, Try.ntmps52
  go_wp2_with (fail)
  have HS : Hid (AtRel w (.slice la l.length lc) c1 c2 c3 l 0 (w.heap.size + 1) 1 ((w.alloc (.cells #[.slice la l.length lc, c1, c2, c3] 89)).alloc (.cells #[.int .u64 1] 23))) := by
    have h1 := World.ownsRow_lit (base := w.heap.size) (e := 23) (size := 1) (w.alloc (.cells #[.slice la l.length lc, c1, c2, c3] 89)) #[.int .u64 1] 1 (by simp) (by simp only [maxLen]; omega) rfl
    have e : (w.alloc (.cells #[.slice la l.length lc, c1, c2, c3] 89)).heap.size = w.heap.size + 1 := by simp
    rw [e] at h1
    exact ⟨h1, (Blk.new w 89 #[.slice la l.length lc, c1, c2, c3]).alloc _, ((Below.refl _ _).alloc (Nat.le_refl _) _).alloc (by simp) _⟩
  go_loopw [3, 4] (fun s3 s4 wr => ∃ k g c : Nat, k ≤ l.length ∧ s3 = .slice (some ⟨g, 0, none⟩) (k + 1) c ∧ s4 = .int .i64 k ∧ Hid (AtRel w (.slice la l.length lc) c1 c2 c3 l k g c wr)) (fun _ i _ => l.length - (intOf i).toNat)
  case atStart => exact ⟨0, _, _, Nat.zero_le _, rfl, rfl, HS.out⟩
  case round =>
    obtain ⟨k, g, c, hk, rfl, rfl, hR⟩ := hrel
    have cm : wr.cell? ⟨w.heap.size, 0, none⟩ = some (.slice la l.length lc) := hR.out.blk.cell 0
    by_cases hlt : k < l.length
    · obtain ⟨s, hs⟩ : ∃ s, l[k]? = some s := ⟨_, List.getElem?_eq_getElem hlt⟩
      have hss := hsz s (List.mem_of_getElem? hs)
      obtain ⟨b, rfl, -, hb1, hb2, hb3, cs⟩ := (HR.out.below hR.out.base).at_ hs
      have co : wr.cell? ⟨g, k, none⟩ = some (.int .u64 (pl l k : Int)) := by
        rw [hR.out.own.cellAt k (by omega), plRow_get l (Nat.le_refl _)]
        rfl
      have hcc : k + 1 ≤ c ∧ c ≤ maxLen := by
        rcases hR.out.own.2 with ⟨e, _⟩ | ⟨g', c', cur, e, _, _, h1, h2, _⟩
        · cases e
        · cases e
          exact ⟨h1, h2⟩
      obtain ⟨hc1, hc2⟩ := hcc
      have hpn := pl_next hs
      have hple : pl l (k + 1) ≤ 4194305 := by
        have : pl l (k + 1) ≤ endFrom 1 l := endFrom_take_le l (k + 1) 1
        omega
      have hp1 : pl l k + s.size + 12 ≤ 4194305 := by omega
      have HPN := Lib.hid hpn
      have HOW := Lib.hid hR.out.own
      have HRR := Lib.hid hR.out
      have N1 : Hid (k + 1 + 1 ≤ maxLen) := by show _ ≤ maxLen; simp only [maxLen]; omega
      have N3 : Hid ((k + 1 + 1) * 8 ≤ 140737488355328) := by show _ ≤ 140737488355328; omega
      have O2 : Hid (∀ u ∈ [Value.int .u64 ((pl l k : Int) + (s.size : Int) + 12)], u.oneCell' = true) := fun u hu => by simp at hu; subst hu; rfl
      have hkk : (k : Int) < (k : Int) + 1 := by omega
      clear hs hpn hple hR hsz
      generalize pl l k = pk at *
      have hw1 : IntKind.u64.wrap (s.size : Int) = (s.size : Int) := by rw [IntKind.wrap_u64]; omega
      have hw2 : IntKind.u64.wrap ((pk : Int) + (s.size : Int)) = (pk : Int) + (s.size : Int) := by rw [IntKind.wrap_u64]; omega
      have hw3 : IntKind.u64.wrap ((pk : Int) + (s.size : Int) + 12) = (pk : Int) + (s.size : Int) + 12 := by rw [IntKind.wrap_u64]; omega
      go_wp2_with (fail)
      refine wp_region_late (S := fun W => OneC ⟨w.heap.size, 0, none⟩ (.slice (some ⟨b, 0, none⟩) l.length lc) W ∧ OneC ⟨b, k, none⟩ (.string s) W ∧ OneC ⟨g, k, none⟩ (.int .u64 (pk : Int)) W) (late := [15]) (by kernel_rfl) ⟨cm, cs, co⟩ (fun hHeld => ?_)
      refine wpAnyL_move (i := 0) (v := ?_) (by rfl) (by kernel_rfl) (by kernel_rfl) (by kernel_rfl) (by rfl) (by exact fun _ _ _ h => h) (Or.inl ⟨by rfl, ?_⟩) (by assumption) ?_; rotate_left; · (intro w0; go_simp; try with_reducible rfl)
      try simp only [Act.put, List.setIfInBounds_toArray, List.set_cons_zero, List.set_cons_succ]
      refine wpAnyL_move (i := 1) (v := ?_) (by rfl) (by kernel_rfl) (by kernel_rfl) (by kernel_rfl) (by rfl) (by exact fun _ _ _ h => h) (Or.inl ⟨by rfl, ?_⟩) (by assumption) ?_; rotate_left; · (intro w0; go_simp; try with_reducible rfl)
      try simp only [Act.put, List.setIfInBounds_toArray, List.set_cons_zero, List.set_cons_succ]
      refine wpAnyL_move (i := 2) (v := ?_) (by rfl) (by kernel_rfl) (by kernel_rfl) (by kernel_rfl) (by rfl) (by exact fun _ _ _ h => h) (Or.inl ⟨by rfl, ?_⟩) (by assumption) ?_; rotate_left; · (intro w0; go_simp; try with_reducible rfl)
      try simp only [Act.put, List.setIfInBounds_toArray, List.set_cons_zero, List.set_cons_succ]
      refine wpAnyL_move (i := 3) (v := ?_) (by rfl) (by kernel_rfl) (by kernel_rfl) (by kernel_rfl) (by rfl) (by exact fun _ _ _ h => h) (Or.inl ⟨by rfl, ?_⟩) (by assumption) ?_; rotate_left; · (intro w0; go_simp; try with_reducible rfl)
      try simp only [Act.put, List.setIfInBounds_toArray, List.set_cons_zero, List.set_cons_succ]
      refine wpAnyL_loadT 14 (i := 4) (v := ?_) (by rfl) (by kernel_rfl) (by kernel_rfl) (by kernel_rfl) (by rfl) (by kernel_rfl) (by kernel_rfl) (by exact fun _ _ _ h => h) (Or.inl ⟨by rfl, ?_⟩) (by assumption) ?_; rotate_left; · (intro w0 hS0; obtain ⟨hS1, hS2, hS3⟩ := hS0; unfold OneC at hS1 hS2 hS3; go_simp; try with_reducible rfl)
      try simp only [Act.put, List.setIfInBounds_toArray, List.set_cons_zero, List.set_cons_succ]
      refine wpAnyL_move (i := 5) (v := ?_) (by rfl) (by kernel_rfl) (by kernel_rfl) (by kernel_rfl) (by rfl) (by exact fun _ _ _ h => h) (Or.inl ⟨by rfl, ?_⟩) (by assumption) ?_; rotate_left; · (intro w0; go_simp; try with_reducible rfl)
      try simp only [Act.put, List.setIfInBounds_toArray, List.set_cons_zero, List.set_cons_succ]
      refine wpAnyL_loadT 14 (i := 6) (v := ?_) (by rfl) (by kernel_rfl) (by kernel_rfl) (by kernel_rfl) (by rfl) (by kernel_rfl) (by kernel_rfl) (by exact fun _ _ _ h => h) (Or.inl ⟨by rfl, ?_⟩) (by assumption) ?_; rotate_left; · (intro w0 hS0; obtain ⟨hS1, hS2, hS3⟩ := hS0; unfold OneC at hS1 hS2 hS3; go_simp; try with_reducible rfl)
      try simp only [Act.put, List.setIfInBounds_toArray, List.set_cons_zero, List.set_cons_succ]
      refine wpAnyL_move (i := 7) (v := ?_) (by rfl) (by kernel_rfl) (by kernel_rfl) (by kernel_rfl) (by rfl) (by exact fun _ _ _ h => h) (Or.inl ⟨by rfl, ?_⟩) (by assumption) ?_; rotate_left; · (intro w0; go_simp; try with_reducible rfl)
      try simp only [Act.put, List.setIfInBounds_toArray, List.set_cons_zero, List.set_cons_succ]
      refine wpAnyL_move (i := 8) (v := ?_) (by rfl) (by kernel_rfl) (by kernel_rfl) (by kernel_rfl) (by rfl) (by exact fun _ _ _ h => h) (Or.inl ⟨by rfl, ?_⟩) (by assumption) ?_; rotate_left; · (intro w0; go_simp; try with_reducible rfl)
      try simp only [Act.put, List.setIfInBounds_toArray, List.set_cons_zero, List.set_cons_succ]
      refine wpAnyL_loadT 14 (i := 9) (v := ?_) (by rfl) (by kernel_rfl) (by kernel_rfl) (by kernel_rfl) (by rfl) (by kernel_rfl) (by kernel_rfl) (by exact fun _ _ _ h => h) (Or.inl ⟨by rfl, ?_⟩) (by assumption) ?_; rotate_left; · (intro w0 hS0; obtain ⟨hS1, hS2, hS3⟩ := hS0; unfold OneC at hS1 hS2 hS3; go_simp; try with_reducible rfl)
      try simp only [Act.put, List.setIfInBounds_toArray, List.set_cons_zero, List.set_cons_succ]
      refine wpAnyL_move (i := 10) (v := ?_) (by rfl) (by kernel_rfl) (by kernel_rfl) (by kernel_rfl) (by rfl) (by exact fun _ _ _ h => h) (Or.inl ⟨by rfl, ?_⟩) (by assumption) ?_; rotate_left; · (intro w0; go_simp; try with_reducible rfl)
      try simp only [Act.put, List.setIfInBounds_toArray, List.set_cons_zero, List.set_cons_succ]
      refine wpAnyL_move (i := 11) (v := ?_) (by rfl) (by kernel_rfl) (by kernel_rfl) (by kernel_rfl) (by rfl) (by exact fun _ _ _ h => h) (Or.inl ⟨by rfl, ?_⟩) (by assumption) ?_; rotate_left; · (intro w0; go_simp; try with_reducible rfl)
      try simp only [Act.put, List.setIfInBounds_toArray, List.set_cons_zero, List.set_cons_succ]
      refine wpAnyL_move (i := 12) (v := ?_) (by rfl) (by kernel_rfl) (by kernel_rfl) (by kernel_rfl) (by rfl) (by exact fun _ _ _ h => h) (Or.inl ⟨by rfl, ?_⟩) (by assumption) ?_; rotate_left; · (intro w0; go_simp; try with_reducible rfl)
      try simp only [Act.put, List.setIfInBounds_toArray, List.set_cons_zero, List.set_cons_succ]
      refine wpAnyL_move (i := 13) (v := ?_) (by rfl) (by kernel_rfl) (by kernel_rfl) (by kernel_rfl) (by rfl) (by exact fun _ _ _ h => h) (Or.inl ⟨by rfl, ?_⟩) (by assumption) ?_; rotate_left; · (intro w0; go_simp; try with_reducible rfl)
      try simp only [Act.put, List.setIfInBounds_toArray, List.set_cons_zero, List.set_cons_succ]
      refine wpAnyL_each (rs := [14]) (by kernel_rfl) (by simp) ?_
      refine EachL.cons (by rfl) (by rfl) (fun K hK => ?_) ?_
      · go_simp
        refine hK.out _ _ ⟨hHeld.1.alloc _, hHeld.2.1.alloc _, hHeld.2.2.alloc _⟩ (fun hHeld => ?_)
        clear hK K
        try simp only [Act.put, List.setIfInBounds_toArray, List.set_cons_zero, List.set_cons_succ]
        refine wpAnyL_late (i := 15) (by kernel_rfl) (by rfl) (by rfl) (fun K hK => ?_)
        refine step_append_lies _ (by rfl) _ _ _ (by rfl) w.heap.size 23 iu _ 1 8 Try.underlying93 hiu huz0 huz1 huz2 rfl (by omega) (.slice (some ⟨g, 0, none⟩) (k + 1) c) (k + 1) (plRow l k) (by rfl) (own_far (X := none) HOW.out ((Far.refl _ _).drew.alloc _) (fun _ _ => by simp)) _ 1 1 [Value.int .u64 ((pk : Int) + (s.size : Int) + 12)] (by rfl) (by rfl) (World.news_of_block (cs := #[Value.int .u64 ((pk : Int) + (s.size : Int) + 12)]) (t := 23) (fr := (0, 0)) (show Got _ _ _ from (Got.new _ _ (by simp)))) O2.out (by omega) N1.out N3.out (by have := HRR.out.base.size; simp; omega) _ rfl ?_; intro pxg pxc pxw px_own px_grow px_at px_lt
        refine hK.out _ _ ?_
        clear hK K
        try simp only [Act.put, List.setIfInBounds_toArray, List.set_cons_zero, List.set_cons_succ]
        refine wpAny_move (i := 16) (v := ?_) (by rfl) (by kernel_rfl) (by kernel_rfl) (by kernel_rfl) (by exact fun _ _ _ h => h) (Or.inl ⟨by rfl, ?_⟩) ?_; rotate_left; · (intro w0; go_simp; try with_reducible rfl)
        try simp only [Act.put, List.setIfInBounds_toArray, List.set_cons_zero, List.set_cons_succ]
        refine wpAny_done (by kernel_rfl) ?_ _
        have R1 : Hid (AtRel w (.slice (some ⟨b, 0, none⟩) l.length lc) c1 c2 c3 l (k + 1) pxg pxc pxw) := by
          have hne : (Value.slice (some ⟨g, 0, none⟩) (k + 1) c).ownBlock ≠ some w.heap.size := own_blk_ne HOW.out HRR.out.blk (by decide)
          have hbs := HRR.out.blk.lt
          refine ⟨?_, HRR.out.blk.same ((px_grow.block _ (by simp; omega) (fun e => hne e.symm)).trans (Below.heap_alloc _ _ _ hbs)), ?_⟩
          · rw [plRow_succ]
            have e : plv l (k + 1) = .int .u64 ((pk : Int) + (s.size : Int) + 12) := by unfold plv; rw [HPN.out]; congr 1
            rw [e]
            exact px_own
          · have hgb := HOW.out.lt g rfl
            exact (((HRR.out.base.trans (below_drewN _ 1 |>.mono HRR.out.base.size)).alloc (by have := HRR.out.base.size; simp; omega) _).grown px_grow (by have := HRR.out.base.size; simp; omega) (fun k hk => by simp [Value.ownBlock] at hk; omega))
        clear px_own px_grow px_at px_lt
        go_wp2
        go_roundw
        case rel => exact ⟨k + 1, _, _, by omega, rfl, by go_num, R1.out⟩
        case measure => simp [intOf]; omega
      exact EachL.nil
    · obtain rfl : k = l.length := by omega
      have HRR := Lib.hid hR.out
      clear hR
      go_wp2
      go_ret
      exact ⟨g, c, rfl, HRR.out.own, HRR.out.base⟩
end Go.Proofs.Ytnobiekgifjaeaa
