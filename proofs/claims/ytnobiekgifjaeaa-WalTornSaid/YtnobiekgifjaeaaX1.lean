/-
  The walks of 'Back', 'Last', 'Keep', 'Give', 'add', 'Append', 'Spend'.
-/
import Derived.Test.YtnobiekgifjaeaaX0
import Derived.BigRegion
namespace Go.Proofs.Ytnobiekgifjaeaa
open Go.RowKit
attribute [local go_sem ↓] Go.wp_at_zero Go.wp_at_succ

section
variable {w : World} {G : Nat → Prop} {lb db : Nat} {g : Lg}

theorem lback_hit (h : WalAt w G lb db g) {x i p : Nat} (hx : x ≤ 4194305) (hi : g.idx x = i + 1) (hh : g.has x = true ∨ x = g.end_) (hp : (places 1 g.recs)[i]? = some p) :
    Calls Try.prog 41 #[.pointer (some ⟨lb, 0, none⟩), .int .u64 (x : Int)] w fun e w' => e = .returned (.tuple #[.int .u64 (p : Int), .bool true]) ∧ ∃ q, w' = w.drewN q := by
  have hl := h.ok.length
  have HF := Lib.hid (lfind_c h x)
  obtain ⟨lv, av, h⟩ := h
  have c2 := h.cells.2.2.1
  have c3 := h.cells.2.2.2.1
  obtain ⟨b, cap, rfl, q1, q2, q3, q4⟩ := h.atCell hp
  rw [hi] at HF
  generalize g.recs.length = n at *
  have e1 : ((i + 1 : Nat) : Int) = (i : Int) + 1 := by omega
  rw [e1] at HF
  have e2 : ¬ ((i : Int) + 1 = 0) := by omega
  have e3 : (i : Int) + 1 - 1 = i := by omega
  clear h hi hp e1
  cases hb : g.has x
  · rw [hb] at HF hh
    obtain rfl : x = g.end_ := by simpa using hh
    clear hh hb
    go_enter Try.func41, Try.ntmps41
    go_wp2_with (fail)
    refine HF.out.mono ?_
    rintro e w' ⟨rfl, q, rfl⟩
    go_wp2
    go_ret2
    exact ⟨rfl, _, rfl⟩
  · rw [hb] at HF
    clear hh hb
    go_enter Try.func41, Try.ntmps41
    go_wp2_with (fail)
    refine HF.out.mono ?_
    rintro e w' ⟨rfl, q, rfl⟩
    go_wp2
    go_ret2
    exact ⟨rfl, _, rfl⟩
theorem lback_miss (h : WalAt w G lb db g) {x : Int} (hi : g.idx x = 0) :
    Calls Try.prog 41 #[.pointer (some ⟨lb, 0, none⟩), .int .u64 x] w fun e w' => e = .returned (.tuple #[.int .u64 0, .bool false]) ∧ ∃ q, w' = w.drewN q := by
  have HF := Lib.hid (lfind_c h x)
  rw [hi] at HF
  clear h hi
  go_enter Try.func41, Try.ntmps41
  go_wp2_with (fail)
  refine HF.out.mono ?_
  rintro e w' ⟨rfl, q, rfl⟩
  go_wp2
  go_ret2
  exact ⟨rfl, _, rfl⟩
theorem lback_nil (w : World) (x : Int) : Calls Try.prog 41 #[.pointer none, .int .u64 x] w fun e w' => e = .returned (.tuple #[.int .u64 0, .bool false]) ∧ ∃ q, w' = w.drewN q := by
  have HF := Lib.hid (lfind_nil w x)
  go_enter Try.func41, Try.ntmps41
  go_wp2_with (fail)
  refine HF.out.mono ?_
  rintro e w' ⟨rfl, rfl⟩
  go_wp2
  go_ret2
  exact ⟨rfl, 0, rfl⟩

theorem llast_of {v : Value} (h : WalAt w G lb db g) (hb : Calls Try.prog 41 #[.pointer (some ⟨lb, 0, none⟩), .int .u64 (g.end_ : Int)] w fun e w' => e = .returned v ∧ ∃ q, w' = w.drewN q) {a b : Value} (hv : v = .tuple #[a, b]) :
    Calls Try.prog 54 #[.pointer (some ⟨lb, 0, none⟩)] w fun e w' => e = .returned v ∧ ∃ q, w' = w.drewN q := by
  subst hv
  have HE := Lib.hid (lend_c h)
  have HB := Lib.hid hb
  clear h hb
  go_enter Try.func54, Try.ntmps54
  go_wp2_with (fail)
  refine HE.out.mono ?_
  rintro e w' ⟨rfl, rfl⟩
  go_wp2_with (fail)
  refine HB.out.mono ?_
  rintro e w' ⟨rfl, q, rfl⟩
  go_wp2
  go_ret2
  exact ⟨rfl, _, rfl⟩
theorem llast_nil (w : World) : Calls Try.prog 54 #[.pointer none] w fun e w' => e = .returned (.tuple #[.int .u64 0, .bool false]) ∧ ∃ q, w' = w.drewN q := by
  have HE := Lib.hid (lend_nil w)
  have HB := Lib.hid (lback_nil w 0)
  go_enter Try.func54, Try.ntmps54
  go_wp2_with (fail)
  refine HE.out.mono ?_
  rintro e w' ⟨rfl, rfl⟩
  go_wp2_with (fail)
  refine HB.out.mono ?_
  rintro e w' ⟨rfl, q, rfl⟩
  go_wp2
  go_ret2
  exact ⟨rfl, _, rfl⟩

def keepCode (g : Lg) (n : Int) : Int := if n < 0 then 1 else if 4194305 - (g.end_ : Int) - g.kept < n then 50 else 0
def Lg.keep (g : Lg) (n : Int) : Lg := if n < 0 then g else if 4194305 - (g.end_ : Int) - g.kept < n then g else { g with kept := g.kept + n }

theorem WalIn.setKept {lv av : Value} (h : WalIn w G lb db lv av g) (q : Nat) (k : Int) (h0 : 0 ≤ k) (h1 : k ≤ 4194304) : WPost w G lb db { g with kept := k } ((w.drewN q).setCell ⟨lb, 5, none⟩ (.int .i64 k)) := by
  have h' : WalIn (w.drewN q) G lb db lv av g := h.keep (fun _ _ => rfl) (Nat.le_refl _)
  refine WPost.mk' (lv := lv) (av := av) (h'.set 5 (.int .i64 k) { g with kept := k } rfl rfl ?_) (((Step.refl G w).drewN q).setCell (.inl h.gb) _)
  have ok := h.ok
  exact ⟨ok.end_le, ok.recs, ok.sure, h0, h1, ok.tail, ok.marks⟩
theorem WPost.drewN {w0 : World} {q : Nat} (h : WalAt w0 G lb db g) : WPost w0 G lb db g (w0.drewN q) := by
  obtain ⟨lv, av, h⟩ := h
  exact WPost.mk' (h.keep (fun _ _ => rfl) (Nat.le_refl _)) ((Step.refl G w0).drewN q)

theorem lkeep_c (h : WalAt w G lb db g) (n : Int) (hn : -9223372036854775808 ≤ n ∧ n ≤ 9223372036854775807) :
    Calls Try.prog 43 #[.pointer (some ⟨lb, 0, none⟩), .int .i64 n] w fun e w' => e = .returned (.int .i64 (keepCode g n)) ∧ WPost w G lb db (g.keep n) w' := by
  have H0 := Lib.hid h
  have HR : ∀ q, Hid (Calls Try.prog 44 #[.pointer (some ⟨lb, 0, none⟩)] (w.drewN q) fun e w' => e = .returned (.int .i64 (4194305 - (g.end_ : Int))) ∧ w' = w.drewN q) := fun q => lroom_c (h.keep (fun _ _ => rfl) (Nat.le_refl _))
  have he := h.ok.end_le
  have hp := g.end_pos
  have hk1 := h.ok.kept1
  have hk2 := h.ok.kept2
  obtain ⟨lv, av, h⟩ := h
  have c5 := h.cells.2.2.2.2.2.1
  have f5 := h.cells.2.2.2.2.2.2.2.2 5
  have H := Lib.hid h
  clear h
  unfold keepCode Lg.keep
  by_cases h1 : n < 0
  · rw [if_pos h1, if_pos h1]
    go_enter Try.func43, Try.ntmps43
    go_wp2
    go_ret
    exact ⟨rfl, WPost.drewN (q := 0) H0.out⟩
  · rw [if_neg h1, if_neg h1]
    by_cases h2 : 4194305 - (g.end_ : Int) - g.kept < n
    · rw [if_pos h2, if_pos h2]
      go_enter Try.func43, Try.ntmps43
      go_wp2
      go_quiet (exact Calls.quiet_of_same (HR _).out)
      go_wp2
      go_ret
      exact ⟨rfl, WPost.drewN H0.out⟩
    · rw [if_neg h2, if_neg h2]
      go_enter Try.func43, Try.ntmps43
      go_wp2
      go_quiet (exact Calls.quiet_of_same (HR _).out)
      go_wp2
      go_ret
      exact ⟨rfl, H.out.setKept _ (g.kept + n) (by omega) (by omega)⟩
theorem lkeep_nil (w : World) (n : Int) : Calls Try.prog 43 #[.pointer none, .int .i64 n] w fun e w' => e = .returned (.int .i64 1) ∧ w' = w := by
  go_enter Try.func43, Try.ntmps43
  go_wp2
  go_ret
  exact ⟨rfl, rfl⟩

def lessOf (k n : Int) : Int := k - min (max n 0) k
theorem lessOf_bounds {k n : Int} (h : 0 ≤ k) : 0 ≤ lessOf k n ∧ lessOf k n ≤ k := by unfold lessOf; omega
theorem lgive_c (h : WalAt w G lb db g) (n : Int) (hn : -9223372036854775808 ≤ n ∧ n ≤ 9223372036854775807) :
    Calls Try.prog 55 #[.pointer (some ⟨lb, 0, none⟩), .int .i64 n] w fun e w' => e = .returned (.int .i64 (lessOf g.kept n)) ∧ WPost w G lb db { g with kept := lessOf g.kept n } w' := by
  have hk1 := h.ok.kept1
  have hk2 := h.ok.kept2
  obtain ⟨lv, av, h⟩ := h
  have c5 := h.cells.2.2.2.2.2.1
  have f5 := h.cells.2.2.2.2.2.2.2.2 5
  have H := Lib.hid h
  clear h
  go_enter Try.func55, Try.ntmps55
  go_wp2
  go_region
  go_wp2
  go_ret
  refine ⟨rfl, ?_⟩
  exact H.out.setKept 1 _ (lessOf_bounds hk1).1 (Int.le_trans (lessOf_bounds hk1).2 hk2)
theorem lgive_nil (w : World) (n : Int) : Calls Try.prog 55 #[.pointer none, .int .i64 n] w fun e w' => e = .returned (.int .i64 0) ∧ w' = w := by
  go_enter Try.func55, Try.ntmps55
  go_wp2
  go_ret
  exact ⟨rfl, rfl⟩

theorem WPost.after {w2 w' : World} (hs : Step G w w2) (h : WPost w2 G lb db g w') : WPost w G lb db g w' := by
  obtain ⟨G', h1, h2, h3⟩ := h
  exact ⟨G', h1, hs.trans (More.refl G w) h2, (More.refl G w).trans hs.size h3⟩

def Lg.add (g : Lg) (s : ByteArray) : Lg := { g.put s with tail := g.tail ++ frameB g.end_ s }
def badRec (s : ByteArray) : Prop := s.size < 1 ∨ 8192 < s.size
def addFull (g : Lg) (s : ByteArray) (kept : Int) : Prop := 4194305 - (g.end_ : Int) < (s.size : Int) + 12 + kept
instance (s : ByteArray) : Decidable (badRec s) := by unfold badRec; exact inferInstance
instance (g : Lg) (s : ByteArray) (kept : Int) : Decidable (addFull g s kept) := by unfold addFull; exact inferInstance
def addV (g : Lg) (s : ByteArray) (kept : Int) : Value := if badRec s then .tuple #[.int .u64 0, .int .i64 51] else if addFull g s kept then .tuple #[.int .u64 0, .int .i64 50] else .tuple #[.int .u64 (g.end_ : Int), .int .i64 0]
def Lg.tryAdd (g : Lg) (s : ByteArray) (kept : Int) : Lg := if badRec s then g else if addFull g s kept then g else g.add s
def Lg.tight (g : Lg) : Prop := g.tail.size + 1 ≤ g.end_
theorem Lg.put_end (g : Lg) (s : ByteArray) : (g.put s).end_ = g.end_ + (s.size + 12) := by
  show endFrom 1 (g.recs ++ [s]) = endFrom 1 g.recs + (s.size + 12)
  rw [endFrom_snoc, Nat.add_assoc]
theorem Lg.add_end (g : Lg) (s : ByteArray) : (g.add s).end_ = g.end_ + (s.size + 12) := g.put_end s
theorem Lg.tight_add {g : Lg} (h : g.tight) (s : ByteArray) : (g.add s).tight := by
  unfold Lg.tight
  rw [g.add_end]
  show (g.tail ++ frameB g.end_ s).size + 1 ≤ _
  rw [ByteArray.size_append, frameB_size]
  unfold Lg.tight at h
  omega
theorem Lg.tight_tryAdd {g : Lg} (h : g.tight) (s : ByteArray) (k : Int) : (g.tryAdd s k).tight := by
  unfold Lg.tryAdd
  split
  · exact h
  · split
    · exact h
    · exact Lg.tight_add h s

set_option maxRecDepth 100000 in
set_option maxHeartbeats 1000000 in
theorem ladd_c (h : WalAt w G lb db g) (ht : g.tight) (s : ByteArray) (hs : s.size ≤ 1000000000000) (kept : Int) (hk : 0 ≤ kept ∧ kept ≤ 4194304) :
    Calls Try.prog 74 #[.pointer (some ⟨lb, 0, none⟩), .string s, .int .i64 kept] w fun e w' => e = .returned (addV g s kept) ∧ WPost w G lb db (g.tryAdd s kept) w' := by
  have H0 := Lib.hid h
  have he := h.ok.end_le
  have hp := g.end_pos
  have HF : Hid (Calls Try.prog 35 #[.int .u64 (g.end_ : Int), .string s] w fun e w' => e = .returned (frameE g.end_ s) ∧ Below w.heap.size w w') := frame_c g.end_ s (by omega) (by omega) w
  have HR : ∀ W, Below w.heap.size w W → Hid (Calls Try.prog 44 #[.pointer (some ⟨lb, 0, none⟩)] W fun e w' => e = .returned (.int .i64 (4194305 - (g.end_ : Int))) ∧ w' = W) := fun W hW => lroom_c (h.below hW)
  obtain ⟨lv, av, h⟩ := h
  have c3 := h.cells.2.2.2.1
  have H := Lib.hid h
  have HT := Lib.hid ht
  clear h ht
  unfold addV Lg.tryAdd
  unfold frameE at HF
  have ne : ¬ g.end_ = 0 := by omega
  by_cases hb : badRec s
  · have hb' : s.size < 1 ∨ 8192 < s.size := hb
    rw [if_pos hb, if_pos hb]
    rw [if_pos hb'] at HF
    clear hb hb'
    go_enter Try.func74, Try.ntmps74
    go_wp2_with (fail)
    refine HF.out.mono ?_
    rintro e w' ⟨rfl, hl⟩
    go_wp2
    go_ret2
    exact ⟨rfl, WPost.mk' (H.out.below hl) (Step.below hl)⟩
  · have hb' : ¬ (s.size < 1 ∨ 8192 < s.size) := hb
    rw [if_neg hb, if_neg hb]
    rw [if_neg hb', if_neg ne] at HF
    have hfs := frameB_size g.end_ s
    have e1 : ((s.size + 12 : Nat) : Int) = (s.size : Int) + 12 := by omega
    by_cases hf : addFull g s kept
    · have hf' : 4194305 - (g.end_ : Int) < (s.size : Int) + 12 + kept := hf
      rw [if_pos hf, if_pos hf]
      generalize frameB g.end_ s = f at *
      have hfi : (f.size : Int) = (s.size : Int) + 12 := by omega
      clear hb hf e1 hfs
      go_enter Try.func74, Try.ntmps74
      go_wp2_with (fail)
      refine HF.out.mono ?_
      rintro e w' ⟨rfl, hl⟩
      go_wp2_with (fail)
      refine (HR _ hl).out.mono ?_
      rintro e w2 ⟨rfl, rfl⟩
      go_wp2
      go_ret2
      exact ⟨rfl, WPost.mk' (H.out.below hl) (Step.below hl)⟩
    · have hf' : ¬ 4194305 - (g.end_ : Int) < (s.size : Int) + 12 + kept := hf
      rw [if_neg hf, if_neg hf]
      have HE : Hid (g.add s = ({ g with tail := g.tail ++ frameB g.end_ s } : Lg).put s) := rfl
      have hts : g.tail.size + 1 ≤ g.end_ := HT.out
      generalize frameB g.end_ s = f at *
      have E1 := sizes_add g.tail f (by omega)
      have hfi : (f.size : Int) = (s.size : Int) + 12 := by omega
      have hsz : 1 ≤ s.size ∧ s.size ≤ 8192 := by omega
      have HP : ∀ W, Below w.heap.size w W → Hid (W.cell? ⟨lb, 6, none⟩ = some (.string g.tail) ∧ W.frozen? ⟨lb, 6, none⟩ = false ∧ Calls Try.prog 72 #[.pointer (some ⟨lb, 0, none⟩), .string s] (W.setCell ⟨lb, 6, none⟩ (.string (g.tail ++ f))) fun e w' => e = .returned (.int .u64 (g.end_ : Int)) ∧ WPost w G lb db (g.add s) w') := fun W hW => by
        have h1 := H.out.below hW
        refine ⟨h1.cells.2.2.2.2.2.2.1, h1.cells.2.2.2.2.2.2.2.2 6, ?_⟩
        have h2 : WalIn (W.setCell ⟨lb, 6, none⟩ (.string (g.tail ++ f))) G lb db lv av { g with tail := g.tail ++ f } := h1.set 6 _ _ rfl rfl (by
          have ok := H.out.ok
          exact ⟨ok.end_le, ok.recs, ok.sure, ok.kept1, ok.kept2, by show (g.tail ++ f).size ≤ 5000000; rw [ByteArray.size_append]; omega, ok.marks⟩)
        refine (lput_c ⟨lv, av, h2⟩ s hsz (by show g.end_ + s.size + 12 ≤ 4194305; omega)).mono ?_
        rintro e w' ⟨rfl, hp⟩
        refine ⟨rfl, ?_⟩
        rw [HE.out]
        exact WPost.after ((Step.below hW).setCell (.inl h1.gb) _) hp
      clear hb hf e1 hfs hb'
      go_enter Try.func74, Try.ntmps74
      go_wp2_with (fail)
      refine HF.out.mono ?_
      rintro e w' ⟨rfl, hl⟩
      obtain ⟨d1, d2, d3⟩ := (HP w' hl).out
      have HD := Lib.hid d3
      clear d3 HP
      go_wp2_with (fail)
      refine (HR _ hl).out.mono ?_
      rintro e w2 ⟨rfl, rfl⟩
      go_wp2_with (fail)
      refine HD.out.mono ?_
      rintro e w2 ⟨rfl, hq⟩
      go_wp2
      go_ret2
      exact ⟨rfl, hq⟩
theorem ladd_nil (w : World) (s : ByteArray) (kept : Int) : Calls Try.prog 74 #[.pointer none, .string s, .int .i64 kept] w fun e w' => e = .returned (.tuple #[.int .u64 0, .int .i64 1]) ∧ w' = w := by
  go_enter Try.func74, Try.ntmps74
  go_wp2
  go_ret2
  exact ⟨rfl, rfl⟩
end
end Go.Proofs.Ytnobiekgifjaeaa
