/-
  KX: X0 X1 X2 X3 X4 X5 X6 X7 X8.
-/
import Derived.Test.YtpnndlahfllbhaaGreatUKD
import Derived.Test.YtpnndlahfllbhaaGreatUKW
import Derived.BigRegion
import Derived.Deep.LoopGhost
import Derived.OwnWalk
/-! The walks of the log's small functions. -/
namespace Go.Proofs.YtpnndlahfllbhaaGreat
open Go.RowKit
attribute [local go_sem ↓] Go.wp_at_zero Go.wp_at_succ

theorem drewN_two (w : World) (a b : Nat) : (w.drewN a).drewN b = w.drewN (a + b) := by simp [World.drewN, Nat.add_assoc]

section
variable {w : World} {G : Nat → Prop} {lb db : Nat} {g : Lg}

theorem lend_c (h : WalAt w G lb db g) : Calls Tryz.prog 20 #[.pointer (some ⟨lb, 0, none⟩)] w fun e w' => e = .returned (.int .u64 (g.end_ : Int)) ∧ w' = w := by
  obtain ⟨lv, av, h⟩ := h
  have c3 := h.cells.2.2.2.1
  clear h
  go_enter Tryz.func20, Tryz.ntmps20
  go_wp2
  go_ret
  exact ⟨rfl, rfl⟩
theorem lkept_c (h : WalAt w G lb db g) : Calls Tryz.prog 53 #[.pointer (some ⟨lb, 0, none⟩)] w fun e w' => e = .returned (.int .i64 g.kept) ∧ w' = w := by
  obtain ⟨lv, av, h⟩ := h
  have c5 := h.cells.2.2.2.2.2.1
  clear h
  go_enter Tryz.func53, Tryz.ntmps53
  go_wp2
  go_ret
  exact ⟨rfl, rfl⟩
theorem lmaster_c (h : WalAt w G lb db g) : Calls Tryz.prog 77 #[.pointer (some ⟨lb, 0, none⟩)] w fun e w' => e = .returned (.int .u64 (g.marks : Int)) ∧ w' = w := by
  obtain ⟨lv, av, h⟩ := h
  have c7 := h.cells.2.2.2.2.2.2.2.1
  clear h
  go_enter Tryz.func77, Tryz.ntmps77
  go_wp2
  go_ret
  exact ⟨rfl, rfl⟩
theorem lroom_c (h : WalAt w G lb db g) : Calls Tryz.prog 52 #[.pointer (some ⟨lb, 0, none⟩)] w fun e w' => e = .returned (.int .i64 (4194305 - (g.end_ : Int))) ∧ w' = w := by
  have he := h.ok.end_le
  have hp := g.end_pos
  obtain ⟨lv, av, h⟩ := h
  have c3 := h.cells.2.2.2.1
  clear h
  go_enter Tryz.func52, Tryz.ntmps52
  go_wp2
  go_ret
  refine ⟨?_, rfl⟩
  rw [show (4194305 : Int) - (g.end_ : Int) = 4194304 - ((g.end_ : Int) - 1) by omega]
  rfl
/-- the first record that is not flushed -/
def Lg.flushed (g : Lg) : Nat := (places 1 g.recs)[g.sure]?.getD g.end_

theorem lflushed_c (h : WalAt w G lb db g) : Calls Tryz.prog 97 #[.pointer (some ⟨lb, 0, none⟩)] w fun e w' => e = .returned (.int .u64 (g.flushed : Int)) ∧ ∃ q, w' = w.drewN q := by
  have hl := h.ok.length
  obtain ⟨lv, av, h⟩ := h
  have c2 := h.cells.2.2.1
  have c3 := h.cells.2.2.2.1
  have c4 := h.cells.2.2.2.2.1
  unfold Lg.flushed
  rcases Nat.lt_or_ge g.sure g.recs.length with hs | hs
  · have hp : (places 1 g.recs)[g.sure]? = some ((places 1 g.recs)[g.sure]'(by rw [places_length]; exact hs)) := List.getElem?_eq_getElem _
    generalize (places 1 g.recs)[g.sure]'(by rw [places_length]; exact hs) = p at hp
    obtain ⟨b, cap, rfl, q1, q2, q3, q4⟩ := h.atCell hp
    rw [hp]
    clear h hp
    go_enter Tryz.func97, Tryz.ntmps97
    go_wp2
    go_quiet (fail)
    go_wp2
    go_quiet (fail)
    go_wp2
    go_ret
    exact ⟨rfl, _, drewN_two _ _ _⟩
  · rw [List.getElem?_eq_none (by rw [places_length]; exact hs)]
    obtain ⟨a, c, rfl⟩ := own_form h.ats
    clear h
    go_enter Tryz.func97, Tryz.ntmps97
    go_wp2
    go_quiet (fail)
    go_wp2
    go_ret
    exact ⟨rfl, _, rfl⟩
theorem lget_hit (h : WalAt w G lb db g) {x : Nat} {s : ByteArray} (hh : g.has x = true) (hi : g.recs[g.idx x]? = some s) (hx : x ≤ 4194305) :
    Calls Tryz.prog 68 #[.pointer (some ⟨lb, 0, none⟩), .int .u64 (x : Int)] w fun e w' => e = .returned (.tuple #[.string s, .int .u64 (((x + s.size + 12 : Nat)) : Int), .bool true]) ∧ ∃ q, w' = w.drewN q := by
  have hl := h.ok.length
  have hss := h.ok.recs s (List.mem_of_getElem? hi)
  have HF := Lib.hid (lfind_c h x)
  obtain ⟨lv, av, h⟩ := h
  have c1 := h.cells.2.1
  obtain ⟨b, cap, rfl, q1, q2, q3, q4⟩ := h.recCell hi
  rw [hh] at HF
  generalize g.idx x = i at *
  generalize g.recs.length = n at *
  clear h hi hh
  go_enter Tryz.func68, Tryz.ntmps68
  go_wp2_with (fail)
  refine HF.out.mono ?_
  rintro e w' ⟨rfl, q, rfl⟩
  go_wp2
  go_quiet (fail)
  go_wp2
  go_ret3
  exact ⟨by rw [show ((x + s.size + 12 : Nat) : Int) = (x : Int) + ((s.size : Int) + 12) by omega]; rfl, _, drewN_two _ _ _⟩
end
end Go.Proofs.YtpnndlahfllbhaaGreat

/-! The walks of 'Back', 'Last', 'Keep', 'Give', 'add', 'Append', 'Spend'. -/
namespace Go.Proofs.YtpnndlahfllbhaaGreat
open Go.RowKit
attribute [local go_sem ↓] Go.wp_at_zero Go.wp_at_succ

section
variable {w : World} {G : Nat → Prop} {lb db : Nat} {g : Lg}

def Lg.keep (g : Lg) (n : Int) : Lg := if n < 0 then g else if 4194305 - (g.end_ : Int) - g.kept < n then g else { g with kept := g.kept + n }

theorem WPost.drewN {w0 : World} {q : Nat} (h : WalAt w0 G lb db g) : WPost w0 G lb db g (w0.drewN q) := by
  obtain ⟨lv, av, h⟩ := h
  exact WPost.mk' (h.keep (fun _ _ => rfl) (Nat.le_refl _)) ((Step.refl G w0).drewN q)

theorem WPost.after {w2 w' : World} (hs : Step G w w2) (h : WPost w2 G lb db g w') : WPost w G lb db g w' := by
  obtain ⟨G', h1, h2, h3⟩ := h
  exact ⟨G', h1, hs.trans (More.refl G w) h2, (More.refl G w).trans hs.size h3⟩

def Lg.add (g : Lg) (s : ByteArray) : Lg := { g.put s with tail := g.tail ++ frameB g.end_ s }
def badRec (s : ByteArray) : Prop := s.size < 1 ∨ 8192 < s.size
def addFull (g : Lg) (s : ByteArray) (kept : Int) : Prop := 4194305 - (g.end_ : Int) < (s.size : Int) + 12 + kept
instance (s : ByteArray) : Decidable (badRec s) := by unfold badRec; exact inferInstance
instance (g : Lg) (s : ByteArray) (kept : Int) : Decidable (addFull g s kept) := by unfold addFull; exact inferInstance
def addV (g : Lg) (s : ByteArray) (kept : Int) : Value := if badRec s then .tuple #[.int .u64 0, .int .i64 51] else if addFull g s kept then .tuple #[.int .u64 0, .int .i64 50] else .tuple #[.int .u64 (g.end_ : Int), .int .i64 0]
def Lg.tryAdd (g : Lg) (s : ByteArray) (kept : Int) : Lg := if badRec s then g else if addFull g s kept then g else g.add s
def Lg.tight (g : Lg) : Prop := g.tail.size + 1 ≤ g.end_
theorem Lg.put_end (g : Lg) (s : ByteArray) : (g.put s).end_ = g.end_ + (s.size + 12) := by
  show endFrom 1 (g.recs ++ [s]) = endFrom 1 g.recs + (s.size + 12)
  rw [endFrom_snoc, Nat.add_assoc]
theorem Lg.add_end (g : Lg) (s : ByteArray) : (g.add s).end_ = g.end_ + (s.size + 12) := g.put_end s
theorem Lg.tight_add {g : Lg} (h : g.tight) (s : ByteArray) : (g.add s).tight := by
  unfold Lg.tight
  rw [g.add_end]
  show (g.tail ++ frameB g.end_ s).size + 1 ≤ _
  rw [ByteArray.size_append, frameB_size]
  unfold Lg.tight at h
  omega
set_option maxRecDepth 100000 in
set_option maxHeartbeats 1000000 in
theorem ladd_c (h : WalAt w G lb db g) (ht : g.tight) (s : ByteArray) (hs : s.size ≤ 9223372036854775807) (kept : Int) (hk : 0 ≤ kept ∧ kept ≤ 4194304) :
    Calls Tryz.prog 85 #[.pointer (some ⟨lb, 0, none⟩), .string s, .int .i64 kept] w fun e w' => e = .returned (addV g s kept) ∧ WPost w G lb db (g.tryAdd s kept) w' := by
  have H0 := Lib.hid h
  have he := h.ok.end_le
  have hp := g.end_pos
  have HF : Hid (Calls Tryz.prog 168 #[.int .u64 (g.end_ : Int), .string s] w fun e w' => e = .returned (frameE g.end_ s) ∧ Below w.heap.size w w') := frame_c g.end_ s (by omega) (by omega) w
  have HR : ∀ W, Below w.heap.size w W → Hid (Calls Tryz.prog 52 #[.pointer (some ⟨lb, 0, none⟩)] W fun e w' => e = .returned (.int .i64 (4194305 - (g.end_ : Int))) ∧ w' = W) := fun W hW => lroom_c (h.below hW)
  obtain ⟨lv, av, h⟩ := h
  have c3 := h.cells.2.2.2.1
  have H := Lib.hid h
  have HT := Lib.hid ht
  clear h ht
  unfold addV Lg.tryAdd
  unfold frameE at HF
  have ne : ¬ g.end_ = 0 := by omega
  by_cases hb : badRec s
  · have hb' : s.size < 1 ∨ 8192 < s.size := hb
    rw [if_pos hb, if_pos hb]
    rw [if_pos hb'] at HF
    clear hb hb'
    go_enter Tryz.func85, Tryz.ntmps85
    go_wp2_with (fail)
    refine HF.out.mono ?_
    rintro e w' ⟨rfl, hl⟩
    go_wp2
    go_ret2
    exact ⟨rfl, WPost.mk' (H.out.below hl) (Step.below hl)⟩
  · have hb' : ¬ (s.size < 1 ∨ 8192 < s.size) := hb
    rw [if_neg hb, if_neg hb]
    rw [if_neg hb', if_neg ne] at HF
    have hfs := frameB_size g.end_ s
    have e1 : ((s.size + 12 : Nat) : Int) = (s.size : Int) + 12 := by omega
    by_cases hf : addFull g s kept
    · have hf' : 4194305 - (g.end_ : Int) < (s.size : Int) + 12 + kept := hf
      rw [if_pos hf, if_pos hf]
      generalize frameB g.end_ s = f at *
      have hfi : (f.size : Int) = (s.size : Int) + 12 := by omega
      clear hb hf e1 hfs
      go_enter Tryz.func85, Tryz.ntmps85
      go_wp2_with (fail)
      refine HF.out.mono ?_
      rintro e w' ⟨rfl, hl⟩
      go_wp2_with (fail)
      refine (HR _ hl).out.mono ?_
      rintro e w2 ⟨rfl, rfl⟩
      go_wp2
      go_ret2
      exact ⟨rfl, WPost.mk' (H.out.below hl) (Step.below hl)⟩
    · have hf' : ¬ 4194305 - (g.end_ : Int) < (s.size : Int) + 12 + kept := hf
      rw [if_neg hf, if_neg hf]
      have HE : Hid (g.add s = ({ g with tail := g.tail ++ frameB g.end_ s } : Lg).put s) := rfl
      have hts : g.tail.size + 1 ≤ g.end_ := HT.out
      generalize frameB g.end_ s = f at *
      have E1 := sizes_add g.tail f (by omega)
      have hfi : (f.size : Int) = (s.size : Int) + 12 := by omega
      have hsz : 1 ≤ s.size ∧ s.size ≤ 8192 := by omega
      have HP : ∀ W, Below w.heap.size w W → Hid (W.cell? ⟨lb, 6, none⟩ = some (.string g.tail) ∧ W.frozen? ⟨lb, 6, none⟩ = false ∧ Calls Tryz.prog 155 #[.pointer (some ⟨lb, 0, none⟩), .string s] (W.setCell ⟨lb, 6, none⟩ (.string (g.tail ++ f))) fun e w' => e = .returned (.int .u64 (g.end_ : Int)) ∧ WPost w G lb db (g.add s) w') := fun W hW => by
        have h1 := H.out.below hW
        refine ⟨h1.cells.2.2.2.2.2.2.1, h1.cells.2.2.2.2.2.2.2.2 6, ?_⟩
        have h2 : WalIn (W.setCell ⟨lb, 6, none⟩ (.string (g.tail ++ f))) G lb db lv av { g with tail := g.tail ++ f } := h1.set 6 _ _ rfl rfl (by
          have ok := H.out.ok
          exact ⟨ok.end_le, ok.recs, ok.sure, ok.kept1, ok.kept2, by show (g.tail ++ f).size ≤ 5000000; rw [ByteArray.size_append]; omega, ok.marks⟩)
        refine (lput_c ⟨lv, av, h2⟩ s hsz (by show g.end_ + s.size + 12 ≤ 4194305; omega)).mono ?_
        rintro e w' ⟨rfl, hp⟩
        refine ⟨rfl, ?_⟩
        rw [HE.out]
        exact WPost.after ((Step.below hW).setCell (.inl h1.gb) _) hp
      clear hb hf e1 hfs hb'
      go_enter Tryz.func85, Tryz.ntmps85
      go_wp2_with (fail)
      refine HF.out.mono ?_
      rintro e w' ⟨rfl, hl⟩
      obtain ⟨d1, d2, d3⟩ := (HP w' hl).out
      have HD := Lib.hid d3
      clear d3 HP
      go_wp2_with (fail)
      refine (HR _ hl).out.mono ?_
      rintro e w2 ⟨rfl, rfl⟩
      go_wp2_with (fail)
      refine HD.out.mono ?_
      rintro e w2 ⟨rfl, hq⟩
      go_wp2
      go_ret2
      exact ⟨rfl, hq⟩
end
end Go.Proofs.YtpnndlahfllbhaaGreat

/-! The walks of 'Append', 'Spend'. -/
namespace Go.Proofs.YtpnndlahfllbhaaGreat
open Go.RowKit
attribute [local go_sem ↓] Go.wp_at_zero Go.wp_at_succ

section
variable {w : World} {G : Nat → Prop} {lb db : Nat} {g : Lg}

theorem WPost.trans {g' : Lg} {w1 w2 : World} {G1 : Nat → Prop} (hs : Step G w w1) (hm : More G G1 w) (h : WPost w1 G1 lb db g' w2) : WPost w G lb db g' w2 := by
  obtain ⟨G', h1, h2, h3⟩ := h
  exact ⟨G', h1, hs.trans hm h2, hm.trans hs.size h3⟩

theorem lappend_c (h : WalAt w G lb db g) (ht : g.tight) (s : ByteArray) (hs : s.size ≤ 9223372036854775807) :
    Calls Tryz.prog 21 #[.pointer (some ⟨lb, 0, none⟩), .string s] w fun e w' => e = .returned (addV g s g.kept) ∧ WPost w G lb db (g.tryAdd s g.kept) w' := by
  have HK := Lib.hid (lkept_c h)
  have HA := Lib.hid (ladd_c h ht s hs g.kept ⟨h.ok.kept1, h.ok.kept2⟩)
  clear h
  have hv : ∃ a b, addV g s g.kept = .tuple #[a, b] := by
    unfold addV
    split
    · exact ⟨_, _, rfl⟩
    · split
      · exact ⟨_, _, rfl⟩
      · exact ⟨_, _, rfl⟩
  obtain ⟨a, b, hv⟩ := hv
  rw [hv] at HA ⊢
  clear hv
  generalize g.tryAdd s g.kept = g' at *
  go_enter Tryz.func21, Tryz.ntmps21
  go_wp2_with (fail)
  refine HK.out.mono ?_
  rintro e w' ⟨rfl, rfl⟩
  go_wp2_with (fail)
  refine HA.out.mono ?_
  rintro e w' ⟨rfl, hq⟩
  go_wp2
  go_ret2
  exact ⟨rfl, hq⟩
end
end Go.Proofs.YtpnndlahfllbhaaGreat

/-! The log and its disk; the walk of 'Flush'. -/
namespace Go.Proofs.YtpnndlahfllbhaaGreat
open Go.RowKit
attribute [local go_sem ↓] Go.wp_at_zero Go.wp_at_succ

/-- the disk m at b and its log g at lb, in blocks of F and of G -/
structure BothIn (w : World) (F G : Nat → Prop) (b lb : Nat) (m : Dk) (g : Lg) : Prop where
  dsk : DiskAt w F b m
  wal : WalAt w G lb b g
  dis : ∀ r, F r → ¬ G r
def BPost (w : World) (F G : Nat → Prop) (b lb : Nat) (m : Dk) (g : Lg) (w' : World) : Prop := ∃ F' G', BothIn w' F' G' b lb m g ∧ Step (fun r => F r ∨ G r) w w' ∧ (More F F' w ∧ More G G' w)

section
variable {w w' : World} {F G : Nat → Prop} {b lb : Nat} {m m' : Dk} {g g' : Lg}
theorem below_drewN (w : World) (q : Nat) : Below w.heap.size w (w.drewN q) := ⟨rfl, rfl, rfl, Nat.le_refl _, fun _ _ => rfl⟩
theorem Step.wider {H K : Nat → Prop} (h : Step H w w') (hk : ∀ r, H r → K r) : Step K w w' := ⟨h.os, h.tape, h.output, h.size, fun r hr hn => h.block r hr (fun hh => hn (hk r hh))⟩
theorem BothIn.keep (h : BothIn w F G b lb m g) (hk : ∀ r, F r ∨ G r → w'.heap[r]? = w.heap[r]?) (hs : w.heap.size ≤ w'.heap.size) : BothIn w' F G b lb m g :=
  ⟨h.dsk.keep (fun r hr => hk r (.inl hr)) hs, h.wal.keep (fun r hr => hk r (.inr hr)) hs, h.dis⟩
theorem BothIn.below (h : BothIn w F G b lb m g) (hb : Below w.heap.size w w') : BothIn w' F G b lb m g :=
  h.keep (fun r hr => hb.block r (by rcases hr with hr | hr; exact h.dsk.lt r hr; exact h.wal.lt r hr)) hb.size
theorem BPost.mk' (h : BothIn w' F G b lb m g) (hs : Step (fun r => F r ∨ G r) w w') : BPost w F G b lb m g w' := ⟨F, G, h, hs, More.refl _ w, More.refl _ w⟩
theorem BPost.refl (h : BothIn w F G b lb m g) : BPost w F G b lb m g w := BPost.mk' h (Step.refl _ w)
theorem BPost.below (h : BothIn w F G b lb m g) (hb : Below w.heap.size w w') : BPost w F G b lb m g w' := BPost.mk' (h.below hb) (Step.below hb)
theorem BothIn.disk (h : BothIn w F G b lb m g) (hp : DPost w F b m' w') : BPost w F G b lb m' g w' := by
  obtain ⟨F', h1, h2, h3⟩ := hp
  refine ⟨F', G, ⟨h1, h.wal.keep (fun r hr => h2.block r (h.wal.lt r hr) (fun hf => h.dis r hf hr)) h2.size, fun r hf hg => ?_⟩, h2.wider (fun r hr => .inl hr), h3, More.refl _ _⟩
  rcases h3 r hf with h4 | h4
  · exact h.dis r h4 hg
  · have := h.wal.lt r hg
    omega
theorem BothIn.log (h : BothIn w F G b lb m g) (hp : WPost w G lb b g' w') : BPost w F G b lb m g' w' := by
  obtain ⟨G', h1, h2, h3⟩ := hp
  refine ⟨F, G', ⟨h.dsk.keep (fun r hr => h2.block r (h.dsk.lt r hr) (h.dis r hr)) h2.size, h1, fun r hf hg => ?_⟩, h2.wider (fun r hr => .inr hr), More.refl _ _, h3⟩
  rcases h3 r hg with h4 | h4
  · exact h.dis r hf h4
  · have := h.dsk.lt r hf
    omega
theorem BPost.trans {w1 : World} {F1 G1 : Nat → Prop} {_m1 : Dk} {_g1 : Lg} (hs : Step (fun r => F r ∨ G r) w w1) (hm : (More F F1 w ∧ More G G1 w)) (h : BPost w1 F1 G1 b lb m' g' w') : BPost w F G b lb m' g' w' := by
  obtain ⟨F', G', h1, h2, h3⟩ := h
  exact ⟨F', G', h1, hs.trans (fun r hr => by
    rcases hr with hr | hr
    · rcases hm.1 r hr with h4 | h4
      · exact .inl (.inl h4)
      · exact .inr h4
    · rcases hm.2 r hr with h4 | h4
      · exact .inl (.inr h4)
      · exact .inr h4) h2, hm.1.trans hs.size h3.1, hm.2.trans hs.size h3.2⟩
theorem BPost.then {w1 : World} {m1 : Dk} {g1 : Lg} (h : BPost w F G b lb m1 g1 w1) (k : ∀ F1 G1, BothIn w1 F1 G1 b lb m1 g1 → BPost w1 F1 G1 b lb m' g' w') : BPost w F G b lb m' g' w' := by
  obtain ⟨F1, G1, h1, h2, h3⟩ := h
  exact BPost.trans (_m1 := m1) (_g1 := g1) h2 h3 (k F1 G1 h1)

def flushD (m : Dk) (g : Lg) : Int × Dk × Lg :=
  if (m.appendLog g.tail).1 ≠ 0 then ((m.appendLog g.tail).1, (m.appendLog g.tail).2, g) else
  if (m.appendLog g.tail).2.syncLog.1 ≠ 0 then ((m.appendLog g.tail).2.syncLog.1, (m.appendLog g.tail).2.syncLog.2, { g with tail := ⟨#[]⟩ }) else
  (0, (m.appendLog g.tail).2.syncLog.2, { g with tail := ⟨#[]⟩, sure := g.recs.length })
def flushE (m : Dk) (g : Lg) (upto : Int) : Int × Dk × Lg := if m.dead then (7, m, g) else if g.tail = ⟨#[]⟩ ∨ upto < (g.flushed : Int) then (0, m, g) else flushD m g

theorem WalIn.setTail {lv av : Value} {db : Nat} (h : WalIn w G lb db lv av g) : WPost w G lb db { g with tail := ⟨#[]⟩ } (w.setCell ⟨lb, 6, none⟩ (.string ⟨#[]⟩)) := by
  refine WPost.mk' (lv := lv) (av := av) (h.set 6 (.string ⟨#[]⟩) { g with tail := ⟨#[]⟩ } rfl rfl ?_) ((Step.refl G w).setCell (.inl h.gb) _)
  have ok := h.ok
  exact ⟨ok.end_le, ok.recs, ok.sure, ok.kept1, ok.kept2, by show (ByteArray.size ⟨#[]⟩) ≤ 5000000; decide, ok.marks⟩
theorem WalIn.setSure {lv av : Value} {db : Nat} (h : WalIn w G lb db lv av g) (q : Nat) : WPost w G lb db { g with sure := g.recs.length } ((w.drewN q).setCell ⟨lb, 4, none⟩ (.int .i64 (g.recs.length : Int))) := by
  have h' : WalIn (w.drewN q) G lb db lv av g := h.keep (fun _ _ => rfl) (Nat.le_refl _)
  refine WPost.mk' (lv := lv) (av := av) (h'.set 4 (.int .i64 (g.recs.length : Int)) { g with sure := g.recs.length } rfl rfl ?_) (((Step.refl G w).drewN q).setCell (.inl h.gb) _)
  have ok := h.ok
  exact ⟨ok.end_le, ok.recs, Nat.le_refl _, ok.kept1, ok.kept2, ok.tail, ok.marks⟩

set_option maxRecDepth 100000 in
set_option maxHeartbeats 1000000 in
theorem lflush_c (h : BothIn w F G b lb m g) (hst1 : StrikesOk b m) (hst2 : StrikesOk b (m.appendLog g.tail).2) (upto : Int) :
    Calls Tryz.prog 24 #[.pointer (some ⟨lb, 0, none⟩), .int .u64 upto] w fun e w' => e = .returned (.int .i64 (flushE m g upto).1) ∧ BPost w F G b lb (flushE m g upto).2.1 (flushE m g upto).2.2 w' := by
  have H := Lib.hid h
  have HD := Lib.hid (dead_c h.dsk)
  have HFl := Lib.hid (lflushed_c h.wal)
  have hts := h.wal.ok.tail
  have c0 : w.cell? ⟨lb, 0, none⟩ = some (.pointer (some ⟨b, 0, none⟩)) := by obtain ⟨_, _, hh⟩ := h.wal; exact hh.cells.1
  have c6 : w.cell? ⟨lb, 6, none⟩ = some (.string g.tail) := by obtain ⟨_, _, hh⟩ := h.wal; exact hh.cells.2.2.2.2.2.2.1
  clear h
  unfold flushE
  by_cases hd : m.dead = true
  · rw [if_pos hd]
    rw [hd] at HD
    clear hd
    go_enter Tryz.func24, Tryz.ntmps24
    go_wp2_with (fail)
    refine HD.out.mono ?_
    rintro e w' ⟨rfl, rfl⟩
    go_wp2
    go_ret
    exact ⟨rfl, BPost.refl H.out⟩
  · rw [if_neg hd]
    rw [Bool.not_eq_true] at hd
    rw [hd] at HD
    clear hd
    by_cases ht : g.tail = ⟨#[]⟩
    · rw [if_pos (Or.inl ht)]
      rw [ht] at c6
      clear ht hts
      go_enter Tryz.func24, Tryz.ntmps24
      go_wp2_with (fail)
      refine HD.out.mono ?_
      rintro e w' ⟨rfl, rfl⟩
      go_wp2
      go_ret
      exact ⟨rfl, BPost.refl H.out⟩
    · obtain ⟨tx, tl, hL⟩ : ∃ x l, g.tail.toList = x :: l := by
        cases hl : g.tail.toList with
        | nil =>
          refine absurd ?_ ht
          rw [ByteArray.toList_eq] at hl
          apply ByteArray.ext
          exact Array.toList_inj.1 hl
        | cons x l => exact ⟨x, l, rfl⟩
      by_cases hto : upto < (g.flushed : Int)
      · rw [if_pos (Or.inr hto)]
        go_enter Tryz.func24, Tryz.ntmps24
        go_wp2_with (fail)
        refine HD.out.mono ?_
        rintro e w' ⟨rfl, rfl⟩
        go_wp2_with (fail)
        refine HFl.out.mono ?_
        rintro e w' ⟨rfl, q, rfl⟩
        go_wp2
        go_ret
        exact ⟨rfl, BPost.below H.out (below_drewN _ _)⟩
      · rw [if_neg (by rintro (h | h); exact ht h; exact hto h)]
        have HA : ∀ W, Below w.heap.size w W → Hid (Calls Tryz.prog 98 #[.pointer (some ⟨b, 0, none⟩), .string g.tail] W fun e w' => e = .returned (.int .i64 (m.appendLog g.tail).1) ∧ BPost w F G b lb (m.appendLog g.tail).2 g w') := fun W hW => by
          have h1 := H.out.below hW
          refine (appendLog_c h1.dsk hst1 g.tail (by omega)).mono ?_
          rintro e w' ⟨rfl, hp⟩
          exact ⟨rfl, BPost.trans (_m1 := m) (_g1 := g) (Step.below hW) ⟨More.refl _ _, More.refl _ _⟩ (h1.disk hp)⟩
        unfold flushD
        generalize m.appendLog g.tail = r1 at *
        obtain ⟨e1, m1⟩ := r1
        simp only at HA hst2 ⊢
        have HS : ∀ W F1 G1 g1, BothIn W F1 G1 b lb m1 g1 → Hid (Calls Tryz.prog 99 #[.pointer (some ⟨b, 0, none⟩)] W fun e w' => e = .returned (.int .i64 m1.syncLog.1) ∧ BPost W F1 G1 b lb m1.syncLog.2 g1 w') := fun W F1 G1 g1 h1 => by
          refine (syncLog_c h1.dsk hst2).mono ?_
          rintro e w' ⟨rfl, hp⟩
          exact ⟨rfl, h1.disk hp⟩
        generalize m1.syncLog = r2 at *
        obtain ⟨e2, m2⟩ := r2
        simp only at HS ⊢
        clear hst1 hst2
        by_cases he1 : e1 = 0
        · subst he1
          simp only [ne_eq, not_true_eq_false, if_false]
          by_cases he2 : e2 = 0
          · subst he2
            simp only [not_true_eq_false, if_false]
            go_enter Tryz.func24, Tryz.ntmps24
            go_wp2_with (fail)
            refine HD.out.mono ?_
            rintro e w' ⟨rfl, rfl⟩
            go_wp2_with (fail)
            refine HFl.out.mono ?_
            rintro e w' ⟨rfl, q, rfl⟩
            go_wp2
            go_region_with (go_at_call 98; refine (HA _ (below_drewN w _)).out.mono ?_; rintro e w2 ⟨rfl, hq⟩)
            all_goals
              obtain ⟨F1, G1, h1, h2, h3⟩ := hq
              have HQ1 : Hid (Step (fun r => F r ∨ G r) w w2 ∧ (More F F1 w ∧ More G G1 w)) := ⟨h2, h3⟩
              obtain ⟨lv, av, hw⟩ := id h1.wal
              have d0 := hw.cells.1
              have d6 := hw.cells.2.2.2.2.2.2.1
              have f6 := hw.cells.2.2.2.2.2.2.2.2 6
              obtain ⟨F2, G2, h4, h5, h6⟩ := h1.log hw.setTail
              have HQ2 : Hid (Step (fun r => F1 r ∨ G1 r) w2 _ ∧ (More F1 F2 w2 ∧ More G1 G2 w2)) := ⟨h5, h6⟩
              have HS2 := HS _ F2 G2 _ h4
              clear h1 h2 h3 hw h4 h5 h6
              go_wp2_with (fail)
              refine HS2.out.mono ?_
              rintro e w3 ⟨rfl, hq3⟩
              obtain ⟨F3, G3, h1, h2, h3⟩ := hq3
              have HQ3 : Hid (Step (fun r => F2 r ∨ G2 r) _ w3 ∧ (More F2 F3 _ ∧ More G2 G3 _)) := ⟨h2, h3⟩
              obtain ⟨lv, av, hw⟩ := id h1.wal
              obtain ⟨la, lc, rfl⟩ := own_form hw.recs
              have d1 := hw.cells.2.1
              have d4 := hw.cells.2.2.2.2.1
              have f4 := hw.cells.2.2.2.2.2.2.2.2 4
              have H5 : ∀ q, Hid (BPost w3 F3 G3 b lb m2 _ _) := fun q => h1.log (hw.setSure q)
              clear h1 h2 h3 hw d0 d6 f6
              go_wp2
              go_ret
              exact ⟨rfl, BPost.trans (_m1 := m1) (_g1 := g) HQ1.out.1 HQ1.out.2 (BPost.trans (_m1 := m1) (_g1 := g) HQ2.out.1 HQ2.out.2 (BPost.trans (_m1 := m2) (_g1 := g) HQ3.out.1 HQ3.out.2 (H5 0).out))⟩
          · simp only [he2, not_false_eq_true, if_true]
            go_enter Tryz.func24, Tryz.ntmps24
            go_wp2_with (fail)
            refine HD.out.mono ?_
            rintro e w' ⟨rfl, rfl⟩
            go_wp2_with (fail)
            refine HFl.out.mono ?_
            rintro e w' ⟨rfl, q, rfl⟩
            go_wp2
            go_region_with (go_at_call 98; refine (HA _ (below_drewN w _)).out.mono ?_; rintro e w2 ⟨rfl, hq⟩)
            all_goals
              obtain ⟨F1, G1, h1, h2, h3⟩ := hq
              have HQ1 : Hid (Step (fun r => F r ∨ G r) w w2 ∧ (More F F1 w ∧ More G G1 w)) := ⟨h2, h3⟩
              obtain ⟨lv, av, hw⟩ := id h1.wal
              have d0 := hw.cells.1
              have d6 := hw.cells.2.2.2.2.2.2.1
              have f6 := hw.cells.2.2.2.2.2.2.2.2 6
              obtain ⟨F2, G2, h4, h5, h6⟩ := h1.log hw.setTail
              have HQ2 : Hid (Step (fun r => F1 r ∨ G1 r) w2 _ ∧ (More F1 F2 w2 ∧ More G1 G2 w2)) := ⟨h5, h6⟩
              have HS2 := HS _ F2 G2 _ h4
              clear h1 h2 h3 hw h4 h5 h6
              go_wp2_with (fail)
              refine HS2.out.mono ?_
              rintro e w3 ⟨rfl, hq3⟩
              go_wp2
              go_ret
              exact ⟨rfl, BPost.trans (_m1 := m1) (_g1 := g) HQ1.out.1 HQ1.out.2 (BPost.trans (_m1 := m1) (_g1 := g) HQ2.out.1 HQ2.out.2 hq3)⟩
        · simp only [ne_eq, he1, not_false_eq_true, if_true]
          go_enter Tryz.func24, Tryz.ntmps24
          go_wp2_with (fail)
          refine HD.out.mono ?_
          rintro e w' ⟨rfl, rfl⟩
          go_wp2_with (fail)
          refine HFl.out.mono ?_
          rintro e w' ⟨rfl, q, rfl⟩
          go_wp2
          go_region_with (go_at_call 98; refine (HA _ (below_drewN w _)).out.mono ?_; rintro e w2 ⟨rfl, hq⟩)
          all_goals
            go_wp2
            go_ret
            exact ⟨rfl, hq⟩
end
end Go.Proofs.YtpnndlahfllbhaaGreat

/-! The walk of the disk's 'Mark'; 'SetMaster'. -/
namespace Go.Proofs.YtpnndlahfllbhaaGreat
open Go.RowKit
attribute [local go_sem ↓] Go.wp_at_zero Go.wp_at_succ

section
variable {w : World} {F : Nat → Prop} {b : Nat} {m : Dk}
set_option maxRecDepth 100000 in
set_option maxHeartbeats 1000000 in
theorem mark_c (h : DiskAt w F b m) (hd : m.dead = false) (hl : m.loose.length ≤ 1000000000) : Calls Tryz.prog 157 #[.pointer (some ⟨b, 0, none⟩)] w
    fun e w' => e = .returned (.tuple #[.int .u64 m.markNow, .int .i64 0]) ∧ Below w.heap.size w w' := by
  have hD := dead_c h
  rw [hd] at hD
  have HD := Lib.hid hD
  obtain ⟨mb, lv, pv, h⟩ := h
  obtain ⟨la, lc, rfl⟩ := own_form h.loose
  have d3 : w.cell? ⟨b, 3, none⟩ = some (.slice la m.loose.length lc) := h.cells.2.2.2.1
  have d2 : w.cell? ⟨b, 2, none⟩ = some (.int .u64 m.mark) := h.cells.2.2.1
  have H := Lib.hid h
  clear hD h hd
  go_enter Tryz.func157, Tryz.ntmps157
  go_wp2_with (first | (go_at_call 96; refine HD.out.mono ?_; rintro e w' ⟨rfl, rfl⟩))
  go_loop [4] (fun i => ∃ k : Nat, k ≤ m.loose.length ∧ i = .int .i64 ((k : Int) - 1) ∧ Hid (∀ (j : Nat) (y : Wr), k ≤ j → m.loose[j]? = some y → y.page ≠ 0)) (fun i => (intOf i + 1).toNat)
  case atStart => exact ⟨m.loose.length, Nat.le_refl _, rfl, fun j y hj hy => by have := (List.getElem?_eq_some_iff.1 hy).1; omega⟩
  case round =>
    obtain ⟨k, hk, rfl, hA⟩ := hrel
    cases k with
    | zero =>
      have HE : Hid (m.markNow = m.mark) := by show m.markNow = m.mark; unfold Dk.markNow; rw [lastOf_none (fun j y hy => hA.out j y (by omega) hy)]
      go_wp2_with (fail)
      go_ret2
      exact ⟨by rw [HE.out]; rfl, Below.refl _ _⟩
    | succ k =>
      obtain ⟨x, hx⟩ : ∃ x, m.loose[k]? = some x := ⟨_, List.getElem?_eq_getElem (by omega)⟩
      obtain ⟨g, cap, e, hFg, hcap, hmx, x0, x1, x2⟩ := H.out.loose_at hx
      simp only [Value.slice.injEq] at e
      obtain ⟨rfl, -, rfl⟩ := e
      have HX := Lib.hid hx
      have hkk : (((k + 1 : Nat) : Int) - 1) = (k : Int) := by omega
      rw [hkk]
      clear hkk
      by_cases hq : x.page = 0
      · have hq' : (x.page == 0) = true := by simpa using hq
        have HE : Hid (m.markNow = x.mark) := by show m.markNow = x.mark; unfold Dk.markNow; rw [lastOf_some HX.out hq (fun j y hj hy => hA.out j y (by omega) hy)]
        clear hx hq hcap hmx hA
        go_wp2_with (fail)
        go_ret2
        exact ⟨by rw [HE.out]; rfl, Below.refl _ _⟩
      · have hq' : (x.page == 0) = false := by simpa using hq
        have HA : Hid (∀ (j : Nat) (y : Wr), k ≤ j → m.loose[j]? = some y → y.page ≠ 0) := fun j y hj hy => by
          by_cases e : j = k
          · subst e; rw [HX.out] at hy; cases hy; exact hq
          · exact hA.out j y (by omega) hy
        clear hx hq hcap hmx hA
        go_wp2_with (fail)
        go_round
        case rel => exact ⟨k, by omega, by go_num, HA⟩
        case measure => simp [intOf]
end

section
variable {w : World} {F G : Nat → Prop} {b lb : Nat} {m : Dk} {g : Lg}
theorem WalIn.setMarks {lv av : Value} {db : Nat} (h : WalIn w G lb db lv av g) (x : Nat) (hx : x < 18446744073709551616) : WPost w G lb db { g with marks := x } (w.setCell ⟨lb, 7, none⟩ (.int .u64 (x : Int))) := by
  refine WPost.mk' (lv := lv) (av := av) (h.set 7 (.int .u64 (x : Int)) { g with marks := x } rfl rfl ?_) ((Step.refl G w).setCell (.inl h.gb) _)
  have ok := h.ok
  exact ⟨ok.end_le, ok.recs, ok.sure, ok.kept1, ok.kept2, ok.tail, hx⟩

set_option maxRecDepth 100000 in
set_option maxHeartbeats 1000000 in
theorem lsetMaster_hit (h : BothIn w F G b lb m g) (x : Nat) (hx : x < 18446744073709551616) (hh : g.has x = true) (hf : ¬ g.flushed ≤ x)
    (hst1 : StrikesOk b m) (hl1 : m.loose.length ≤ 1000000000) (hc1 : (m.setMark x).1 = 0) (hst2 : StrikesOk b (m.setMark x).2) (hl2 : (m.setMark x).2.loose.length ≤ 1000000000) (hc2 : (m.setMark x).2.sync.1 = 0) :
    Calls Tryz.prog 25 #[.pointer (some ⟨lb, 0, none⟩), .int .u64 (x : Int)] w fun e w' => e = .returned (.int .i64 0) ∧ BPost w F G b lb (m.setMark x).2.sync.2 { g with marks := x } w' := by
  have H := Lib.hid h
  have HF := Lib.hid (lfind_c h.wal x)
  rw [hh] at HF
  have HFl : ∀ q, Hid (Calls Tryz.prog 97 #[.pointer (some ⟨lb, 0, none⟩)] (w.drewN q) fun e w' => e = .returned (.int .u64 (g.flushed : Int)) ∧ ∃ q', w' = (w.drewN q).drewN q') := fun q => lflushed_c (h.wal.below (below_drewN _ _))
  have HA : ∀ W, Below w.heap.size w W → Hid (Calls Tryz.prog 101 #[.pointer (some ⟨b, 0, none⟩), .int .u64 (x : Int)] W fun e w' => e = .returned (.int .i64 0) ∧ BPost w F G b lb (m.setMark x).2 g w') := fun W hW => by
    have h1 := H.out.below hW
    refine (setMark_c h1.dsk hst1 x hl1).mono ?_
    rintro e w' ⟨rfl, hp⟩
    rw [hc1]
    exact ⟨rfl, BPost.trans (_m1 := m) (_g1 := g) (Step.below hW) ⟨More.refl _ _, More.refl _ _⟩ (h1.disk hp)⟩
  have c0 : w.cell? ⟨lb, 0, none⟩ = some (.pointer (some ⟨b, 0, none⟩)) := by obtain ⟨_, _, hh⟩ := h.wal; exact hh.cells.1
  generalize (m.setMark x).2 = m1 at *
  have HS : ∀ W F1 G1 g1, BothIn W F1 G1 b lb m1 g1 → Hid (Calls Tryz.prog 102 #[.pointer (some ⟨b, 0, none⟩)] W fun e w' => e = .returned (.int .i64 0) ∧ BPost W F1 G1 b lb m1.sync.2 g1 w') := fun W F1 G1 g1 h1 => by
    refine (sync_c h1.dsk hst2 hl2).mono ?_
    rintro e w' ⟨rfl, hp⟩
    rw [hc2]
    exact ⟨rfl, h1.disk hp⟩
  generalize m1.sync = r2 at *
  obtain ⟨e2, m2⟩ := r2
  simp only at HS ⊢
  have hf' : ¬ ((g.flushed : Int) ≤ (x : Int)) := by omega
  clear h hst1 hst2 hl1 hl2 hc1 hc2 hh hf
  go_enter Tryz.func25, Tryz.ntmps25
  go_wp2_with (fail)
  refine HF.out.mono ?_
  rintro e w' ⟨rfl, q, rfl⟩
  go_wp2_with (fail)
  refine (HFl _).out.mono ?_
  rintro e w' ⟨rfl, q2, rfl⟩
  rw [drewN_two]
  go_wp2_with (fail)
  refine (HA _ (below_drewN w _)).out.mono ?_
  rintro e w2 ⟨rfl, hq⟩
  obtain ⟨F1, G1, h1, h2, h3⟩ := hq
  have HQ1 : Hid (Step (fun r => F r ∨ G r) w w2 ∧ (More F F1 w ∧ More G G1 w)) := ⟨h2, h3⟩
  have d0 : w2.cell? ⟨lb, 0, none⟩ = some (.pointer (some ⟨b, 0, none⟩)) := by obtain ⟨_, _, hh⟩ := h1.wal; exact hh.cells.1
  have HS1 := HS _ _ _ _ h1
  clear h1 h2 h3 c0
  go_wp2_with (fail)
  refine HS1.out.mono ?_
  rintro e w3 ⟨rfl, hq⟩
  obtain ⟨F2, G2, h1, h2, h3⟩ := hq
  have HQ2 : Hid (Step (fun r => F1 r ∨ G1 r) w2 w3 ∧ (More F1 F2 w2 ∧ More G1 G2 w2)) := ⟨h2, h3⟩
  obtain ⟨lv, av, hw⟩ := id h1.wal
  have d7 := hw.cells.2.2.2.2.2.2.2.1
  have f7 := hw.cells.2.2.2.2.2.2.2.2 7
  have H5 := Lib.hid (h1.log (hw.setMarks x hx))
  clear h1 h2 h3 hw d0
  go_wp2
  go_ret
  exact ⟨rfl, BPost.trans (_m1 := m1) (_g1 := g) HQ1.out.1 HQ1.out.2 (BPost.trans (_m1 := m2) (_g1 := g) HQ2.out.1 HQ2.out.2 H5.out)⟩
end
end Go.Proofs.YtpnndlahfllbhaaGreat

/-! The plain law of frames: what is read back. -/
namespace Go.Proofs.YtpnndlahfllbhaaGreat
open Go.RowKit

theorem ext_left {a b : ByteArray} {n : Nat} (h : a.size = n) : (a ++ b).extract 0 n = a := ByteArray.extract_append_eq_left h.symm
theorem ext_right {a b : ByteArray} {n k : Nat} (h : a.size = n) : (a ++ b).extract n (n + k) = b.extract 0 k := by
  apply ByteArray.ext
  simp only [ByteArray.data_extract, ByteArray.data_append]
  rw [Array.extract_append]
  have : a.data.size = n := h
  rw [this]
  simp only [Nat.sub_self, Nat.add_sub_cancel_left]
  rw [show a.data.extract n (n + k) = #[] from by apply Array.extract_empty_of_size_le_start; omega]
  simp
theorem ext_skip {a b : ByteArray} {n m : Nat} (h : a.size = n) (hm : (a ++ b).size = m) : (a ++ b).extract n m = b := ByteArray.extract_append_eq_right h.symm (by rw [← hm, ByteArray.size_append])
theorem numAt_front {a b : ByteArray} {k : Nat} (h : k ≤ a.size) : numAt (a ++ b) 0 k = numOf (a.data.toList.take k) := by
  unfold numAt
  rw [List.drop_zero, ByteArray.data_append, Array.toList_append, List.take_append_of_le_length]
  simpa using h

theorem frame_num (p : Nat) {x : ByteArray} (hx : x.size ≤ 8192) (t : ByteArray) : numAt (frameB p x ++ t) 0 4 = x.size := by
  unfold frameB
  rw [ByteArray.append_assoc, ByteArray.append_assoc, ByteArray.append_assoc, numAt_front (by rw [leB_size]; exact Nat.le_refl _)]
  rw [List.take_of_length_le (by show (leList x.size 4).toArray.toList.length ≤ 4; rw [List.toList_toArray, leList_length]; exact Nat.le_refl _)]
  show numOf (leList x.size 4).toArray.toList = _
  rw [List.toList_toArray]
  exact numOf_le 4 x.size (by omega)
theorem frame_fits (p : Nat) {x : ByteArray} (h1 : 1 ≤ x.size) (hx : x.size ≤ 8192) (t : ByteArray) : fits (frameB p x ++ t) := by
  have := frame_num p hx t
  unfold fits
  rw [this, ByteArray.size_append, frameB_size]
  omega
theorem frame_body (p : Nat) {x : ByteArray} (h1 : 1 ≤ x.size) (hx : x.size ≤ 8192) (t : ByteArray) : takenBody (frameB p x ++ t) = x := by
  unfold takenBody
  rw [if_pos (frame_fits p h1 hx t), frame_num p hx t]
  unfold frameB
  rw [ByteArray.append_assoc, ByteArray.append_assoc]
  rw [ext_right (by rw [ByteArray.size_append, leB_size, leB_size])]
  exact ext_left rfl
theorem frame_ok (p : Nat) {x : ByteArray} (h1 : 1 ≤ x.size) (hx : x.size ≤ 8192) (t : ByteArray) : takenOk (frameB p x ++ t) p = true := by
  unfold takenOk
  rw [decide_eq_true (frame_fits p h1 hx t), Bool.true_and, frame_num p hx t, frame_body p h1 hx t, ext_left (frameB_size p x), decide_eq_true rfl]

theorem frames_append : ∀ (a b : List ByteArray) (p : Nat), frames p (a ++ b) = frames p a ++ frames (endFrom p a) b
  | [], b, p => by
    apply ByteArray.ext
    simp [frames, endFrom, ByteArray.data_append]
  | x :: a, b, p => by
    simp only [List.cons_append, frames, endFrom]
    rw [frames_append a b, ByteArray.append_assoc]
theorem endFrom_append : ∀ (a b : List ByteArray) (p : Nat), endFrom p (a ++ b) = endFrom (endFrom p a) b
  | [], _, _ => rfl
  | x :: a, b, p => by simp only [List.cons_append, endFrom]; exact endFrom_append a b _
theorem endFrom_take (l : List ByteArray) {k : Nat} {x : ByteArray} (h : l[k]? = some x) (p : Nat) : endFrom p (l.take (k + 1)) = endFrom p (l.take k) + x.size + 12 := by
  rw [List.take_add_one, h]
  exact endFrom_snoc x _ p
theorem endFrom_take_le (l : List ByteArray) (k p : Nat) : endFrom p (l.take k) ≤ endFrom p l := by
  conv => rhs; rw [← List.take_append_drop k l, endFrom_append]
  exact endFrom_le _ _

/-- what is behind the first k records -/
theorem frames_at (l : List ByteArray) (rest : ByteArray) (k : Nat) :
    (frames 1 l ++ rest).extract (endFrom 1 (l.take k) - 1) (frames 1 l ++ rest).size = frames (endFrom 1 (l.take k)) (l.drop k) ++ rest := by
  have e : frames 1 l = frames 1 (l.take k) ++ frames (endFrom 1 (l.take k)) (l.drop k) := by rw [← frames_append, List.take_append_drop]
  rw [e, ByteArray.append_assoc]
  have := frames_size (l.take k) 1
  exact ext_skip (by omega) rfl
theorem frames_next (l : List ByteArray) (rest : ByteArray) {k : Nat} {x : ByteArray} (h : l[k]? = some x) (p : Nat) :
    frames p (l.drop k) ++ rest = frameB p x ++ (frames (p + x.size + 12) (l.drop (k + 1)) ++ rest) := by
  obtain ⟨hk, e⟩ := List.getElem?_eq_some_iff.1 h
  rw [List.drop_eq_getElem_cons hk, e, frames, ByteArray.append_assoc]
end Go.Proofs.YtpnndlahfllbhaaGreat

/-! The walk of 'Open'. -/
namespace Go.Proofs.YtpnndlahfllbhaaGreat
open Go.RowKit
attribute [local go_sem ↓] Go.wp_at_zero Go.wp_at_succ

/-- a log opened anew on the disk -/
def OPost (w : World) (F : Nat → Prop) (b lb : Nat) (m : Dk) (g : Lg) (w' : World) : Prop := ∃ F' G', BothIn w' F' G' b lb m g ∧ Step F w w' ∧ More F F' w ∧ (∀ r, G' r → w.heap.size ≤ r)

section
variable {w w1 w' : World} {F : Nat → Prop} {b lb : Nat} {m m' : Dk} {g g' : Lg}
theorem OPost.bpost {F1 G1 : Nat → Prop} {w1 : World} (h : BothIn w1 F1 G1 b lb m g ∧ Step F w w1 ∧ More F F1 w ∧ (∀ r, G1 r → w.heap.size ≤ r)) (k : BPost w1 F1 G1 b lb m' g' w') : OPost w F b lb m' g' w' := by
  obtain ⟨h1, h2, h3, h4⟩ := h
  obtain ⟨F2, G2, k1, k2, k3, k4⟩ := k
  refine ⟨F2, G2, k1, ⟨k2.os.trans h2.os, k2.tape.trans h2.tape, k2.output.trans h2.output, Nat.le_trans h2.size k2.size, fun r hr hn => ?_⟩, h3.trans h2.size k3, fun r hr => ?_⟩
  · refine (k2.block r (Nat.lt_of_lt_of_le hr h2.size) ?_).trans (h2.block r hr hn)
    rintro (hf | hg)
    · rcases h3 r hf with h5 | h5
      · exact hn h5
      · omega
    · have := h4 r hg
      omega
  · rcases k4 r hr with h5 | h5
    · exact h4 r h5
    · exact Nat.le_trans h2.size h5
theorem OPost.then (h : OPost w F b lb m g w1) (k : ∀ F1 G1, BothIn w1 F1 G1 b lb m g → BPost w1 F1 G1 b lb m' g' w') : OPost w F b lb m' g' w' := by
  obtain ⟨F1, G1, h1, h2, h3, h4⟩ := h
  exact OPost.bpost ⟨h1, h2, h3, h4⟩ (k F1 G1 h1)
theorem OPost.below (h : OPost w F b lb m g w1) (hb : Below w1.heap.size w1 w') : OPost w F b lb m g w' := h.then fun _F1 _G1 h1 => BPost.below h1 hb
theorem OPost.both (h : OPost w F b lb m g w1) : ∃ F1 G1, BothIn w1 F1 G1 b lb m g := by
  obtain ⟨F1, G1, h1, _⟩ := h
  exact ⟨F1, G1, h1⟩
theorem OPost.cells (h : OPost w F b lb m g w1) : ∃ lv av, w1.cell? ⟨lb, 0, none⟩ = some (.pointer (some ⟨b, 0, none⟩)) ∧ w1.cell? ⟨lb, 1, none⟩ = some lv ∧ w1.cell? ⟨lb, 2, none⟩ = some av ∧ w1.cell? ⟨lb, 3, none⟩ = some (.int .u64 (g.end_ : Int)) ∧
    w1.cell? ⟨lb, 4, none⟩ = some (.int .i64 (g.sure : Int)) ∧ w1.cell? ⟨lb, 7, none⟩ = some (.int .u64 (g.marks : Int)) ∧ (∀ i, w1.frozen? ⟨lb, i, none⟩ = false) ∧ ∃ la lc, lv = .slice la g.recs.length lc := by
  obtain ⟨F1, G1, h1⟩ := h.both
  obtain ⟨lv, av, hw⟩ := h1.wal
  have c := hw.cells
  exact ⟨lv, av, c.1, c.2.1, c.2.2.1, c.2.2.2.1, c.2.2.2.2.1, c.2.2.2.2.2.2.2.1, c.2.2.2.2.2.2.2.2, own_form hw.recs⟩

def cutD (m : Dk) (n : Int) : Dk := (m.cutLog n).2.syncLog.2
def openK (l : List ByteArray) : Lg := { recs := l, sure := 0, kept := 0, tail := ⟨#[]⟩, marks := 0 }
/-- a new log -/
theorem OPost.new (h : DiskAt w F b m) (hb : Below w.heap.size w w1) : OPost w F b w1.heap.size m (openK []) (w1.alloc (.cells #[.pointer (some ⟨b, 0, none⟩), .slice none 0 0, .slice none 0 0, .int .u64 1, .int .i64 0, .int .i64 0, .string ⟨#[]⟩, .int .u64 0] 186)) := by
  have hb1 : Below w.heap.size w (w1.alloc (.cells #[.pointer (some ⟨b, 0, none⟩), .slice none 0 0, .slice none 0 0, .int .u64 1, .int .i64 0, .int .i64 0, .string ⟨#[]⟩, .int .u64 0] 186)) := hb.alloc hb.size _
  refine ⟨F, fun r => r = w1.heap.size, ⟨h.below hb1, ⟨.slice none 0 0, .slice none 0 0, ?_⟩, fun r hf hg => ?_⟩, Step.below hb1, More.refl _ _, fun r hr => ?_⟩
  · refine ⟨Blk.new _ _ _, World.ownsRow_nil _ _ _ _, World.ownsRow_nil _ _ _ _, rfl, by simp [Value.ownBlock], by simp [Value.ownBlock], ?_, fun r hr => by simp; omega⟩
    exact ⟨by decide, by simp [openK], Nat.le_refl _, by decide, by decide, by decide, by decide⟩
  · have := h.lt r hf
    have := hb.size
    omega
  · have := hb.size
    omega

def openG (l : List ByteArray) (mk : Int) : Lg := { recs := l, sure := l.length, kept := 0, tail := ⟨#[]⟩, marks := if ((openK l).has mk) then mk.toNat else 0 }

theorem strikes_plan {b : Nat} {m : Dk} (h : m.plan = []) : StrikesOk b m := strikes_no b m (by rw [h]; rfl) (by rw [h]; simp)
theorem Dk.strikes_plan {m : Dk} (h : m.plan = []) : m.strikes = (false, { m with calls := wrapI (m.calls + 1) }) := by
  unfold Dk.strikes
  rw [h]
  rfl
theorem bytes_nil (a : ByteArray) : a ++ (⟨#[]⟩ : ByteArray) = a := by
  apply ByteArray.ext
  simp [ByteArray.data_append]
theorem Dk.cutLog_plan {m : Dk} (hd : m.dead = false) (h : m.plan = []) {n : Int} (h0 : 0 ≤ n) (h1 : n ≤ (m.log.size : Int) + m.tail.size) : m.cutLog n = (0, { m with calls := wrapI (m.calls + 1), log := (m.log ++ m.tail).extract 0 n.toNat, tail := ⟨#[]⟩ }) := by
  unfold Dk.cutLog
  rw [hd, Dk.strikes_plan h, if_neg Bool.false_ne_true, if_neg (by omega), if_neg Bool.false_ne_true]
  rw [← hd]
theorem Dk.syncLog_plan {m : Dk} (hd : m.dead = false) (h : m.plan = []) : m.syncLog = (0, { m with calls := wrapI (m.calls + 1), log := m.log ++ m.tail, tail := ⟨#[]⟩ }) := by
  unfold Dk.syncLog
  rw [hd, Dk.strikes_plan h, if_neg Bool.false_ne_true, if_neg Bool.false_ne_true]
  rw [← hd]
theorem cutD_plan {m : Dk} (hd : m.dead = false) (h : m.plan = []) {n : Int} (h0 : 0 ≤ n) (h1 : n ≤ (m.log.size : Int) + m.tail.size) :
    cutD m n = { m with calls := wrapI (wrapI (m.calls + 1) + 1), log := (m.log ++ m.tail).extract 0 n.toNat, tail := ⟨#[]⟩ } := by
  unfold cutD
  rw [Dk.cutLog_plan hd h h0 h1]
  dsimp only
  rw [Dk.syncLog_plan (by exact hd) (by exact h)]
  simp only [bytes_nil]
theorem OPost.put {W : World} {l : List ByteArray} {k : Nat} {x : ByteArray} (h : OPost w F b lb m (openK (l.take k)) W) (hx : l[k]? = some x) (h1 : 1 ≤ x.size ∧ x.size ≤ 8192) (h2 : endFrom 1 (l.take k) + x.size + 12 ≤ 4194305) :
    Calls Tryz.prog 155 #[.pointer (some ⟨lb, 0, none⟩), .string x] W fun e w' => e = .returned (.int .u64 (endFrom 1 (l.take k) : Int)) ∧ OPost w F b lb m (openK (l.take (k + 1))) w' := by
  obtain ⟨F1, G1, hb⟩ := h.both
  have e : (openK (l.take k)).put x = openK (l.take (k + 1)) := by
    unfold openK Lg.put
    rw [List.take_add_one, hx]
    rfl
  obtain ⟨F1, G1, hb, s1, s2, s3⟩ := id h
  refine (lput_c hb.wal x h1 h2).mono ?_
  rintro e' w' ⟨rfl, hp⟩
  refine ⟨rfl, ?_⟩
  rw [e] at hp
  exact OPost.bpost ⟨hb, s1, s2, s3⟩ (hb.log hp)

theorem wrap_u64_of {x : Int} (h0 : 0 ≤ x) (h1 : x < 18446744073709551616) : IntKind.u64.wrap x = x := by rw [IntKind.wrap_u64]; omega
theorem OPost.mark {W : World} (h : OPost w F b lb m g W) (hd : m.dead = false) (hl : m.loose.length ≤ 1000000000) : Calls Tryz.prog 157 #[.pointer (some ⟨b, 0, none⟩)] W fun e w' => e = .returned (.tuple #[.int .u64 m.markNow, .int .i64 0]) ∧ OPost w F b lb m g w' := by
  obtain ⟨F1, G1, hb⟩ := h.both
  refine (mark_c hb.dsk hd hl).mono ?_
  rintro e w' ⟨rfl, hq⟩
  exact ⟨rfl, h.below hq⟩
theorem OPost.find {W : World} (h : OPost w F b lb m g W) (x : Int) : Calls Tryz.prog 100 #[.pointer (some ⟨lb, 0, none⟩), .int .u64 x] W fun e w' => e = .returned (.tuple #[.int .i64 (g.idx x : Int), .bool (g.has x)]) ∧ OPost w F b lb m g w' := by
  obtain ⟨F1, G1, hb⟩ := h.both
  refine (lfind_c hb.wal x).mono ?_
  rintro e w' ⟨rfl, q, rfl⟩
  exact ⟨rfl, h.below (below_drewN _ _)⟩
theorem OPost.cut {W : World} (h : OPost w F b lb m g W) (hd : m.dead = false) (hp : m.plan = []) {n : Int} (h0 : 0 ≤ n) (h1 : n ≤ (m.log.size : Int) + m.tail.size) :
    Calls Tryz.prog 156 #[.pointer (some ⟨b, 0, none⟩), .int .i64 n] W fun e w' => e = .returned (.int .i64 0) ∧ OPost w F b lb (m.cutLog n).2 g w' := by
  obtain ⟨F1, G1, hb⟩ := h.both
  have hlog := hb.dsk.ok.logs
  have e := Dk.cutLog_plan hd hp h0 h1
  have HC := cutLog_c hb.dsk (strikes_plan hp) n (by omega) (by omega)
  obtain ⟨F1, G1, hb, s1, s2, s3⟩ := id h
  refine (cutLog_c hb.dsk (strikes_plan hp) n (by omega) (by omega)).mono ?_
  rintro e' w' ⟨rfl, hq⟩
  refine ⟨by rw [e], ?_⟩
  exact OPost.bpost ⟨hb, s1, s2, s3⟩ (hb.disk hq)
theorem OPost.sync {W : World} (h : OPost w F b lb m g W) (hd : m.dead = false) (hp : m.plan = []) :
    Calls Tryz.prog 99 #[.pointer (some ⟨b, 0, none⟩)] W fun e w' => e = .returned (.int .i64 0) ∧ OPost w F b lb m.syncLog.2 g w' := by
  have e := Dk.syncLog_plan hd hp
  obtain ⟨F1, G1, hb, s1, s2, s3⟩ := id h
  refine (syncLog_c hb.dsk (strikes_plan hp)).mono ?_
  rintro e' w' ⟨rfl, hq⟩
  refine ⟨by rw [e], ?_⟩
  exact OPost.bpost ⟨hb, s1, s2, s3⟩ (hb.disk hq)

set_option maxRecDepth 100000 in
set_option maxHeartbeats 1000000 in
theorem open_c (h : DiskAt w F b m) (hd : m.dead = false) (hplan : m.plan = []) (hloose : m.loose.length ≤ 1000000000) (hmk : 0 ≤ m.markNow ∧ m.markNow < 18446744073709551616)
    (l : List ByteArray) (rest : ByteArray) (hs : m.log ++ m.tail = frames 1 l ++ rest) (hl : ∀ x ∈ l, 1 ≤ x.size ∧ x.size ≤ 8192) (hr : takenOk rest (endFrom 1 l) = false) :
    Calls Tryz.prog 76 #[.pointer (some ⟨b, 0, none⟩)] w fun e w' => ∃ lb, e = .returned (.tuple #[.pointer (some ⟨lb, 0, none⟩), .int .i64 (rest.size : Int), .int .i64 0]) ∧ OPost w F b lb (if rest.size = 0 then m else cutD m ((endFrom 1 l : Int) - 1)) (openG l m.markNow) w' := by
  have H := Lib.hid h
  have hsz : (frames 1 l ++ rest).size ≤ 4194304 := by
    rw [← hs, ByteArray.size_append]
    exact h.ok.logs
  have HR := Lib.hid (readLog_c h hd)
  rw [hs] at HR
  have hfs := frames_size l 1
  have hfz : (frames 1 l ++ rest).size = (frames 1 l).size + rest.size := ByteArray.size_append
  have hpe := endFrom_le l 1
  have FA : Hid (∀ k, (frames 1 l ++ rest).extract (endFrom 1 (l.take k) - 1) (frames 1 l ++ rest).size = frames (endFrom 1 (l.take k)) (l.drop k) ++ rest) := frames_at l rest
  have HL := Lib.hid hl
  have HRE := Lib.hid hr
  have HSE := Lib.hid hs
  generalize hS : frames 1 l ++ rest = S at *
  have HSS := Lib.hid hS
  have hs1a : S.size ≤ endFrom 1 l - 1 + rest.size := by omega
  have hs1b : endFrom 1 l - 1 + rest.size ≤ S.size := by omega
  generalize hmf : (if rest.size = 0 then m else cutD m ((endFrom 1 l : Int) - 1)) = mf
  have HMF := Lib.hid hmf
  generalize hgf : openG l m.markNow = gf
  have HGF := Lib.hid hgf
  generalize hmm : m.markNow = mk at *
  have HMM := Lib.hid hmm
  have HD := Lib.hid hd
  have HPL := Lib.hid hplan
  have HLO := Lib.hid hloose
  obtain ⟨hmk1, hmk2⟩ := hmk
  have hw := wrap_u64_of hmk1 hmk2
  clear h hs hl hr hS hfs hfz hmf hgf hmm hd hplan hloose
  go_enter Tryz.func76, Tryz.ntmps76
  go_wp2_with (fail)
  refine HR.out.mono ?_
  rintro e w1 ⟨rfl, hb⟩
  have HN := Lib.hid (OPost.new H.out hb)
  generalize hlb : w1.heap.size = lb at *
  go_wp2_with (fail)
  go_loopg [8] l.length (fun gh s8 wr => ∃ k : Nat, k ≤ l.length ∧ l.length - k ≤ gh ∧ OPost w F b lb m (openK (l.take k)) wr)
  case atStart => exact ⟨0, Nat.zero_le _, by omega, HN.out⟩
  case round =>
    obtain ⟨k, hk, hg, hR⟩ := hrel
    obtain ⟨lv, av, c0, c1, c2, c3, c4, c7, fz, la, lc, rfl⟩ := hR.cells
    have c3' : wr.cell? ⟨lb, 3, none⟩ = some (.int .u64 (endFrom 1 (l.take k) : Int)) := c3
    have htk := endFrom_take_le l k 1
    have hp1 := endFrom_le (l.take k) 1
    have HT := taken_c S (endFrom 1 (l.take k)) hp1 (by omega) (by omega) (by omega)
    rw [FA.out k] at HT
    have HRR := Lib.hid hR
    by_cases hlt : k < l.length
    · obtain ⟨x, hx⟩ : ∃ x, l[k]? = some x := ⟨_, List.getElem?_eq_getElem hlt⟩
      have hxs := HL.out x (List.mem_of_getElem? hx)
      rw [frames_next l rest hx, frame_body _ hxs.1 hxs.2, frame_ok _ hxs.1 hxs.2] at HT
      have hend := endFrom_take l hx 1
      have htk1 := endFrom_take_le l (k + 1) 1
      have HP : ∀ W, Below wr.heap.size wr W → Hid (Calls Tryz.prog 155 #[.pointer (some ⟨lb, 0, none⟩), .string x] W fun e w' => e = .returned (.int .u64 (endFrom 1 (l.take k) : Int)) ∧ OPost w F b lb m (openK (l.take (k + 1))) w') := fun W hW => (HRR.out.below hW).put hx hxs (by omega)
      have HTT := fun W => Lib.hid (HT W)
      clear HT hR c0 c1 c2 c3 c4 c7 fz hx
      go_wp2_with (fail)
      refine (HTT _).out.mono ?_
      rintro e w2 ⟨rfl, hl2⟩
      go_wp2_with (fail)
      refine (HP _ hl2).out.mono ?_
      rintro e w3 ⟨rfl, hq⟩
      have HQ := Lib.hid hq
      clear hq
      go_wp2
      go_roundg (l.length - (k + 1))
      case measure => omega
      case rel => exact ⟨k + 1, by omega, Nat.le_refl _, HQ.out⟩
    · obtain rfl : k = l.length := by omega
      rw [List.drop_length, List.take_length] at HT
      have e0 : frames (endFrom 1 l) [] ++ rest = rest := by
        apply ByteArray.ext
        simp [frames, ByteArray.data_append]
      rw [e0, HRE.out] at HT
      have HTT := fun W => Lib.hid (HT W)
      rw [List.take_length] at HRR c3'
      generalize takenBody rest = tb at *
      clear HT hR c0 c1 c2 c3 c4 c7 fz e0
      go_wp2_with (fail)
      refine (HTT _).out.mono ?_
      rintro e w2 ⟨rfl, hl2⟩
      have h2 := HRR.out.below hl2
      obtain ⟨lv, av, c0, c1, c2, c3, c4, c7, fz, la, lc, rfl⟩ := h2.cells
      replace c1 : w2.cell? ⟨lb, 1, none⟩ = some (.slice la l.length lc) := c1
      replace c3 : w2.cell? ⟨lb, 3, none⟩ = some (.int .u64 (endFrom 1 l : Int)) := c3
      have f4 := fz 4
      have ht : (S.size : Int) - ((endFrom 1 l : Int) - 1) = (rest.size : Int) := by omega
      have H3 : OPost w F b lb m { openK l with sure := l.length } (w2.setCell ⟨lb, 4, none⟩ (.int .i64 (l.length : Int))) := h2.then fun F1 G1 hb1 => by
        obtain ⟨lv, av, hw⟩ := id hb1.wal
        exact hb1.log (hw.setSure 0)
      have H3' := Lib.hid H3
      clear h2 c2 fz c0 c7 H3 HRR hl2 HN hb HR
      by_cases hz : rest.size = 0
      · have HX : Hid (mf = m) := by show mf = m; rw [← HMF.out, if_pos hz]
        have hz' : ¬ (0 < (rest.size : Int)) := by omega
        have HM := Lib.hid (H3'.out.mark HD.out HLO.out)
        rw [HMM.out] at HM
        go_wp2_with (fail)
        refine HM.out.mono ?_
        rintro e w3 ⟨rfl, hq⟩
        have HF : Hid (Calls Tryz.prog 100 #[.pointer (some ⟨lb, 0, none⟩), .int .u64 mk] w3 fun e w' => e = .returned (.tuple #[.int .i64 ((openK l).idx mk : Int), .bool ((openK l).has mk)]) ∧ OPost w F b lb mf { openK l with sure := l.length } w') := by rw [HX.out]; exact hq.find mk
        clear hq
        cases hh : (openK l).has mk
        · rw [hh] at HF
          have HE : Hid (gf = { openK l with sure := l.length }) := by
            show gf = _
            rw [← HGF.out]
            unfold openG
            rw [hh]
            rfl
          clear hh
          go_wp2_with (fail)
          refine HF.out.mono ?_
          rintro e w4 ⟨rfl, hq⟩
          have HQ := Lib.hid hq
          clear hq
          go_wp2
          go_ret3
          refine ⟨lb, by first | rfl | (rw [hz]; rfl), ?_⟩
          rw [HE.out]
          exact HQ.out
        · rw [hh] at HF
          have HE : Hid (gf = { openK l with sure := l.length, marks := mk.toNat }) := by
            show gf = _
            rw [← HGF.out]
            unfold openG
            rw [hh]
            rfl
          clear hh
          go_wp2_with (fail)
          refine HF.out.mono ?_
          rintro e w4 ⟨rfl, hq⟩
          obtain ⟨lv, av, d0, d1, d2, d3, d4, d7, dz, la', lc', rfl⟩ := hq.cells
          have f7 := dz 7
          have HQ : Hid (OPost w F b lb mf { openK l with sure := l.length, marks := mk.toNat } (w4.setCell ⟨lb, 7, none⟩ (.int .u64 mk))) := hq.then fun F1 G1 hb1 => by
            obtain ⟨lv, av, hw⟩ := id hb1.wal
            have := hb1.log (hw.setMarks mk.toNat (by omega))
            rw [Int.toNat_of_nonneg hmk1] at this
            exact this
          clear hq d0 d1 d2 d3 d4 dz
          go_wp2
          go_ret3
          refine ⟨lb, by first | rfl | (rw [hz]; rfl), ?_⟩
          rw [HE.out]
          exact HQ.out
      · have HX : Hid (mf = cutD m ((endFrom 1 l : Int) - 1)) := by show mf = _; rw [← HMF.out, if_neg hz]
        have hz' : 0 < (rest.size : Int) := by omega
        have hlt : (endFrom 1 l : Int) - 1 ≤ (m.log.size : Int) + m.tail.size := by
          have e : (m.log ++ m.tail).size = S.size := by rw [HSE.out]
          rw [ByteArray.size_append] at e
          omega
        have ek := Dk.cutLog_plan HD.out HPL.out (n := (endFrom 1 l : Int) - 1) (by omega) hlt
        have HC := Lib.hid (H3'.out.cut HD.out HPL.out (n := (endFrom 1 l : Int) - 1) (by omega) hlt)
        have hcd : cutD m ((endFrom 1 l : Int) - 1) = (m.cutLog ((endFrom 1 l : Int) - 1)).2.syncLog.2 := rfl
        have hcm := cutD_plan HD.out HPL.out (n := (endFrom 1 l : Int) - 1) (by omega) hlt
        have HCM : Hid ((cutD m ((endFrom 1 l : Int) - 1)).markNow = mk ∧ (cutD m ((endFrom 1 l : Int) - 1)).dead = false ∧ (cutD m ((endFrom 1 l : Int) - 1)).loose.length ≤ 1000000000) := by
          rw [hcm]
          exact ⟨HMM.out, HD.out, HLO.out⟩
        have HK : Hid ((m.cutLog ((endFrom 1 l : Int) - 1)).2.dead = false ∧ (m.cutLog ((endFrom 1 l : Int) - 1)).2.plan = []) := by
          rw [ek]
          exact ⟨HD.out, HPL.out⟩
        rw [hcd] at HX HCM
        generalize (m.cutLog ((endFrom 1 l : Int) - 1)).2 = m1 at *
        have HS1 : ∀ W, OPost w F b lb m1 { openK l with sure := l.length } W → Hid (Calls Tryz.prog 99 #[.pointer (some ⟨b, 0, none⟩)] W fun e w' => e = .returned (.int .i64 0) ∧ OPost w F b lb m1.syncLog.2 { openK l with sure := l.length } w') := fun W hW => hW.sync HK.out.1 HK.out.2
        generalize m1.syncLog.2 = m2 at *
        have hnn : (S.size : Int) - (rest.size : Int) = (endFrom 1 l : Int) - 1 := by omega
        clear ek hcd hcm hlt
        go_wp2_with (fail)
        refine HC.out.mono ?_
        rintro e w3 ⟨rfl, hq⟩
        have HS2 := HS1 _ hq
        clear hq HS1
        go_wp2_with (fail)
        refine HS2.out.mono ?_
        rintro e w3 ⟨rfl, hq⟩
        have HM := Lib.hid (hq.mark HCM.out.2.1 HCM.out.2.2)
        clear hq
        rw [HCM.out.1] at HM
        go_wp2_with (fail)
        refine HM.out.mono ?_
        rintro e w3 ⟨rfl, hq⟩
        have HF : Hid (Calls Tryz.prog 100 #[.pointer (some ⟨lb, 0, none⟩), .int .u64 mk] w3 fun e w' => e = .returned (.tuple #[.int .i64 ((openK l).idx mk : Int), .bool ((openK l).has mk)]) ∧ OPost w F b lb mf { openK l with sure := l.length } w') := by rw [HX.out]; exact hq.find mk
        clear hq
        cases hh : (openK l).has mk
        · rw [hh] at HF
          have HE : Hid (gf = { openK l with sure := l.length }) := by
            show gf = _
            rw [← HGF.out]
            unfold openG
            rw [hh]
            rfl
          clear hh
          go_wp2_with (fail)
          refine HF.out.mono ?_
          rintro e w4 ⟨rfl, hq⟩
          have HQ := Lib.hid hq
          clear hq
          go_wp2
          go_ret3
          refine ⟨lb, by first | rfl | (rw [hz]; rfl), ?_⟩
          rw [HE.out]
          exact HQ.out
        · rw [hh] at HF
          have HE : Hid (gf = { openK l with sure := l.length, marks := mk.toNat }) := by
            show gf = _
            rw [← HGF.out]
            unfold openG
            rw [hh]
            rfl
          clear hh
          go_wp2_with (fail)
          refine HF.out.mono ?_
          rintro e w4 ⟨rfl, hq⟩
          obtain ⟨lv, av, d0, d1, d2, d3, d4, d7, dz, la', lc', rfl⟩ := hq.cells
          have f7 := dz 7
          have HQ : Hid (OPost w F b lb mf { openK l with sure := l.length, marks := mk.toNat } (w4.setCell ⟨lb, 7, none⟩ (.int .u64 mk))) := hq.then fun F1 G1 hb1 => by
            obtain ⟨lv, av, hw⟩ := id hb1.wal
            have := hb1.log (hw.setMarks mk.toNat (by omega))
            rw [Int.toNat_of_nonneg hmk1] at this
            exact this
          clear hq d0 d1 d2 d3 d4 dz
          go_wp2
          go_ret3
          refine ⟨lb, by first | rfl | (rw [hz]; rfl), ?_⟩
          rw [HE.out]
          exact HQ.out
end
end Go.Proofs.YtpnndlahfllbhaaGreat

/-! The log and its disk in a law's body: no power fails by itself. -/
namespace Go.Proofs.YtpnndlahfllbhaaGreat
open Go.RowKit
attribute [local go_sem ↓] Go.wp_at_zero Go.wp_at_succ

/-- what the law itself has in memory: the blocks K, of which P tells -/
def Stable (K : Nat → Prop) (P : World → Prop) : Prop := ∀ w w' : World, P w → (∀ r, K r → w'.heap[r]? = w.heap[r]?) → P w'
def DX (w0 : World) (K : Nat → Prop) (P : World → Prop) (b : Nat) (m : Dk) (w : World) : Prop := ∃ F, DiskAt w F b m ∧ (∀ r, F r → w0.heap.size ≤ r ∧ ¬ K r) ∧ (∀ r, K r → w0.heap.size ≤ r ∧ r < w.heap.size) ∧ P w ∧ Below w0.heap.size w0 w
def LX (w0 : World) (K : Nat → Prop) (P : World → Prop) (b lb : Nat) (m : Dk) (g : Lg) (w : World) : Prop :=
  ∃ F G, BothIn w F G b lb m g ∧ (∀ r, F r ∨ G r → w0.heap.size ≤ r ∧ ¬ K r) ∧ (∀ r, K r → w0.heap.size ≤ r ∧ r < w.heap.size) ∧ P w ∧ Below w0.heap.size w0 w

section
variable {w0 w w' : World} {K : Nat → Prop} {P : World → Prop} {b lb : Nat} {m m' : Dk} {g g' : Lg}
theorem LX.disk (h : LX w0 K P b lb m g w) : DX w0 K P b m w := by
  obtain ⟨F, G, h1, h2, h3, h4, h5⟩ := h
  exact ⟨F, h1.dsk, fun r hr => h2 r (.inl hr), h3, h4, h5⟩
theorem LX.base (h : LX w0 K P b lb m g w) : Below w0.heap.size w0 w := by obtain ⟨F, G, _, _, _, _, h⟩ := h; exact h
theorem DX.base (h : DX w0 K P b m w) : Below w0.heap.size w0 w := by obtain ⟨F, _, _, _, _, h⟩ := h; exact h
theorem LX.own (h : LX w0 K P b lb m g w) : P w := by obtain ⟨F, G, _, _, _, h, _⟩ := h; exact h
theorem DX.own (h : DX w0 K P b m w) : P w := by obtain ⟨F, _, _, _, h, _⟩ := h; exact h
theorem LX.wal (h : LX w0 K P b lb m g w) : ∃ G, WalAt w G lb b g := by obtain ⟨F, G, h1, _⟩ := h; exact ⟨G, h1.wal⟩
theorem LX.ok (h : LX w0 K P b lb m g w) : g.ok := by obtain ⟨G, h⟩ := h.wal; exact h.ok
theorem LX.post (hst : Stable K P) {F G : Nat → Prop} (_h : BothIn w F G b lb m g) (h2 : ∀ r, F r ∨ G r → w0.heap.size ≤ r ∧ ¬ K r) (h3 : ∀ r, K r → w0.heap.size ≤ r ∧ r < w.heap.size) (h4 : P w) (h5 : Below w0.heap.size w0 w)
    (hp : BPost w F G b lb m' g' w') : LX w0 K P b lb m' g' w' := by
  obtain ⟨F', G', k1, k2, k3, k4⟩ := hp
  refine ⟨F', G', k1, fun r hr => ?_, fun r hr => ⟨(h3 r hr).1, Nat.lt_of_lt_of_le (h3 r hr).2 k2.size⟩, hst w w' h4 fun r hr => k2.block r (h3 r hr).2 (fun hf => (h2 r hf).2 hr), ?_⟩
  · have hs := h5.size
    have : (F r ∨ G r) ∨ w.heap.size ≤ r := by
      rcases hr with hr | hr
      · rcases k3 r hr with h | h
        · exact .inl (.inl h)
        · exact .inr h
      · rcases k4 r hr with h | h
        · exact .inl (.inr h)
        · exact .inr h
    rcases this with h | h
    · exact h2 r h
    · exact ⟨Nat.le_trans hs h, fun hk => by have := (h3 r hk).2; omega⟩
  · exact h5.trans (k2.belowB (fun r hr => (h2 r hr).1) h5.size)
theorem DX.post (hst : Stable K P) {F : Nat → Prop} (_h : DiskAt w F b m) (h2 : ∀ r, F r → w0.heap.size ≤ r ∧ ¬ K r) (h3 : ∀ r, K r → w0.heap.size ≤ r ∧ r < w.heap.size) (h4 : P w) (h5 : Below w0.heap.size w0 w)
    (hp : DPost w F b m' w') : DX w0 K P b m' w' := by
  obtain ⟨F', k1, k2, k3⟩ := hp
  refine ⟨F', k1, fun r hr => ?_, fun r hr => ⟨(h3 r hr).1, Nat.lt_of_lt_of_le (h3 r hr).2 k2.size⟩, hst w w' h4 fun r hr => k2.block r (h3 r hr).2 (fun hf => (h2 r hf).2 hr), ?_⟩
  · have hs := h5.size
    rcases k3 r hr with h | h
    · exact h2 r h
    · exact ⟨Nat.le_trans hs h, fun hk => by have := (h3 r hk).2; omega⟩
  · exact h5.trans (k2.belowB (fun r hr => (h2 r hr).1) h5.size)
theorem DX.opened (hst : Stable K P) {F : Nat → Prop} (h2 : ∀ r, F r → w0.heap.size ≤ r ∧ ¬ K r) (h3 : ∀ r, K r → w0.heap.size ≤ r ∧ r < w.heap.size) (h4 : P w) (h5 : Below w0.heap.size w0 w)
    (hp : OPost w F b lb m' g' w') : LX w0 K P b lb m' g' w' := by
  obtain ⟨F', G', k1, k2, k3, k4⟩ := hp
  refine ⟨F', G', k1, fun r hr => ?_, fun r hr => ⟨(h3 r hr).1, Nat.lt_of_lt_of_le (h3 r hr).2 k2.size⟩, hst w w' h4 fun r hr => k2.block r (h3 r hr).2 (fun hf => (h2 r hf).2 hr), ?_⟩
  · have hs := h5.size
    have : F r ∨ w.heap.size ≤ r := by
      rcases hr with hr | hr
      · exact k3 r hr
      · exact .inr (k4 r hr)
    rcases this with h | h
    · exact h2 r h
    · exact ⟨Nat.le_trans hs h, fun hk => by have := (h3 r hk).2; omega⟩
  · exact h5.trans (k2.belowB (fun r hr => (h2 r hr).1) h5.size)
theorem LX.calls (hst : Stable K P) (h : LX w0 K P b lb m g w) {f : FuncId} {args : Array Value} {v : Ending} (hc : ∀ F G, BothIn w F G b lb m g → Calls Tryz.prog f args w fun e w' => e = v ∧ BPost w F G b lb m' g' w') :
    Calls Tryz.prog f args w fun e w' => e = v ∧ LX w0 K P b lb m' g' w' := by
  obtain ⟨F, G, h1, h2, h3, h4, h5⟩ := h
  exact (hc F G h1).mono fun e w' ⟨he, hp⟩ => ⟨he, LX.post hst h1 h2 h3 h4 h5 hp⟩
theorem DX.calls (hst : Stable K P) (h : DX w0 K P b m w) {f : FuncId} {args : Array Value} {v : Ending} (hc : ∀ F, DiskAt w F b m → Calls Tryz.prog f args w fun e w' => e = v ∧ DPost w F b m' w') :
    Calls Tryz.prog f args w fun e w' => e = v ∧ DX w0 K P b m' w' := by
  obtain ⟨F, h1, h2, h3, h4, h5⟩ := h
  exact (hc F h1).mono fun e w' ⟨he, hp⟩ => ⟨he, DX.post hst h1 h2 h3 h4 h5 hp⟩
theorem LX.below (hst : Stable K P) (h : LX w0 K P b lb m g w) (hb : Below w.heap.size w w') : LX w0 K P b lb m g w' := by
  obtain ⟨F, G, h1, h2, h3, h4, h5⟩ := h
  exact LX.post hst h1 h2 h3 h4 h5 (BPost.below h1 hb)
theorem DX.below (hst : Stable K P) (h : DX w0 K P b m w) (hb : Below w.heap.size w w') : DX w0 K P b m w' := by
  obtain ⟨F, h1, h2, h3, h4, h5⟩ := h
  exact DX.post hst h1 h2 h3 h4 h5 ⟨F, h1.below hb, Step.below hb, More.refl _ _⟩
theorem LX.gets0 (_hst : Stable K P) (h : LX w0 K P b lb m g w) {f : FuncId} {args : Array Value} {v : Ending} (hc : ∀ G, WalAt w G lb b g → Calls Tryz.prog f args w fun e w' => e = v ∧ w' = w) :
    Calls Tryz.prog f args w fun e w' => e = v ∧ LX w0 K P b lb m g w' := by
  obtain ⟨G, h1⟩ := h.wal
  exact (hc G h1).mono fun e w' ⟨he, hp⟩ => ⟨he, by rw [hp]; exact h⟩
theorem LX.logs (hst : Stable K P) (h : LX w0 K P b lb m g w) {f : FuncId} {args : Array Value} {v : Ending} (hc : ∀ G, WalAt w G lb b g → Calls Tryz.prog f args w fun e w' => e = v ∧ WPost w G lb b g' w') :
    Calls Tryz.prog f args w fun e w' => e = v ∧ LX w0 K P b lb m g' w' :=
  h.calls hst fun _F G h1 => (hc G h1.wal).mono fun _e _w' ⟨he, hp⟩ => ⟨he, h1.log hp⟩
end

/-! the disk between the calls of a law in which no power fails by itself -/
def dk (c : Int) (lg : ByteArray) (mk : Int) : Dk := { room := 8, pages := fun _ => none, mark := mk, loose := [], log := lg, tail := ⟨#[]⟩, calls := c, plan := [], dead := false }
def LW (w0 : World) (K : Nat → Prop) (P : World → Prop) (b lb : Nat) (lg : ByteArray) (mk : Int) (g : Lg) (w : World) : Prop := ∃ c, LX w0 K P b lb (dk c lg mk) g w
def DW (w0 : World) (K : Nat → Prop) (P : World → Prop) (b : Nat) (lg : ByteArray) (mk : Int) (w : World) : Prop := ∃ c, DX w0 K P b (dk c lg mk) w

section
variable {w0 w w' : World} {K : Nat → Prop} {P : World → Prop} {b lb : Nat} {lg : ByteArray} {mk : Int} {g : Lg}
theorem LW.disk (h : LW w0 K P b lb lg mk g w) : DW w0 K P b lg mk w := by obtain ⟨c, h⟩ := h; exact ⟨c, h.disk⟩
theorem LW.base (h : LW w0 K P b lb lg mk g w) : Below w0.heap.size w0 w := by obtain ⟨c, h⟩ := h; exact h.base
theorem DW.base (h : DW w0 K P b lg mk w) : Below w0.heap.size w0 w := by obtain ⟨c, h⟩ := h; exact h.base
theorem LW.own (h : LW w0 K P b lb lg mk g w) : P w := by obtain ⟨c, h⟩ := h; exact h.own
theorem LW.ok (h : LW w0 K P b lb lg mk g w) : g.ok := by obtain ⟨c, h⟩ := h; exact h.ok
theorem LW.below (hst : Stable K P) (h : LW w0 K P b lb lg mk g w) (hb : Below w.heap.size w w') : LW w0 K P b lb lg mk g w' := by obtain ⟨c, h⟩ := h; exact ⟨c, h.below hst hb⟩
theorem DW.below (hst : Stable K P) (h : DW w0 K P b lg mk w) (hb : Below w.heap.size w w') : DW w0 K P b lg mk w' := by obtain ⟨c, h⟩ := h; exact ⟨c, h.below hst hb⟩
theorem LW.gets0 (hst : Stable K P) (h : LW w0 K P b lb lg mk g w) {f : FuncId} {args : Array Value} {v : Ending} (hc : ∀ G, WalAt w G lb b g → Calls Tryz.prog f args w fun e w' => e = v ∧ w' = w) :
    Calls Tryz.prog f args w fun e w' => e = v ∧ LW w0 K P b lb lg mk g w' := by
  obtain ⟨c, h⟩ := h
  exact (h.gets0 hst hc).mono fun e w' ⟨he, hp⟩ => ⟨he, c, hp⟩
theorem LW.logs (hst : Stable K P) (h : LW w0 K P b lb lg mk g w) {g' : Lg} {f : FuncId} {args : Array Value} {v : Ending} (hc : ∀ G, WalAt w G lb b g → Calls Tryz.prog f args w fun e w' => e = v ∧ WPost w G lb b g' w') :
    Calls Tryz.prog f args w fun e w' => e = v ∧ LW w0 K P b lb lg mk g' w' := by
  obtain ⟨c, h⟩ := h
  exact (h.logs hst hc).mono fun e w' ⟨he, hp⟩ => ⟨he, c, hp⟩

theorem appendLog_plan {m : Dk} (hd : m.dead = false) (h : m.plan = []) {s : ByteArray} (h1 : m.log.size + m.tail.size + s.size ≤ 4194304) : m.appendLog s = (0, { m with calls := wrapI (m.calls + 1), tail := m.tail ++ s }) := by
  unfold Dk.appendLog
  rw [hd, Dk.strikes_plan h, if_neg Bool.false_ne_true, if_neg (by omega), if_neg Bool.false_ne_true]
  rw [← hd]
theorem bytes_nil' (a : ByteArray) : (⟨#[]⟩ : ByteArray) ++ a = a := by
  apply ByteArray.ext
  simp [ByteArray.data_append]

def Lg.flush (g : Lg) (upto : Int) : Lg := if g.tail = ⟨#[]⟩ ∨ upto < (g.flushed : Int) then g else { g with tail := ⟨#[]⟩, sure := g.recs.length }
def Lg.flushLog (g : Lg) (lg : ByteArray) (upto : Int) : ByteArray := if g.tail = ⟨#[]⟩ ∨ upto < (g.flushed : Int) then lg else lg ++ g.tail

theorem LW.flush (hst : Stable K P) (h : LW w0 K P b lb lg mk g w) (upto : Int) (hsz : lg.size + g.tail.size ≤ 4194304) :
    Calls Tryz.prog 24 #[.pointer (some ⟨lb, 0, none⟩), .int .u64 upto] w fun e w' => e = .returned (.int .i64 0) ∧ LW w0 K P b lb (g.flushLog lg upto) mk (g.flush upto) w' := by
  obtain ⟨c, h⟩ := h
  have e1 := appendLog_plan (m := dk c lg mk) rfl rfl (s := g.tail) (by show lg.size + 0 + _ ≤ _; omega)
  have e2 := Dk.syncLog_plan (m := { dk c lg mk with calls := wrapI (c + 1), tail := (⟨#[]⟩ : ByteArray) ++ g.tail }) rfl rfl
  have hE : ∃ c', flushE (dk c lg mk) g upto = (0, dk c' (g.flushLog lg upto) mk, g.flush upto) := by
    unfold flushE Lg.flushLog Lg.flush
    rw [if_neg (show ¬ (dk c lg mk).dead = true from Bool.false_ne_true)]
    by_cases hc : g.tail = ⟨#[]⟩ ∨ upto < (g.flushed : Int)
    · simp only [if_pos hc]
      exact ⟨c, rfl⟩
    · simp only [if_neg hc]
      unfold flushD
      rw [e1]
      refine ⟨wrapI (wrapI (c + 1) + 1), ?_⟩
      have e2' : Dk.syncLog { dk c lg mk with calls := wrapI ((dk c lg mk).calls + 1), tail := (dk c lg mk).tail ++ g.tail } = _ := e2
      dsimp only
      rw [if_neg (fun h => h rfl), e2', if_neg (fun h => h rfl)]
      rw [bytes_nil']
      rfl
  obtain ⟨c', hE⟩ := hE
  refine (h.calls (m' := dk c' (g.flushLog lg upto) mk) (g' := g.flush upto) (v := .returned (.int .i64 0)) hst fun F G h1 => ?_).mono fun e w' ⟨he, hp⟩ => ⟨he, c', hp⟩
  refine (lflush_c h1 (strikes_plan rfl) (by rw [e1]; exact strikes_plan rfl) upto).mono fun e w' ⟨he, hp⟩ => ?_
  rw [hE] at he hp
  exact ⟨he, hp⟩

theorem takenOk_short {t : ByteArray} (h : t.size < 13) (p : Nat) : takenOk t p = false := by
  unfold takenOk
  have : ¬ fits t := by unfold fits; omega
  rw [decide_eq_false this]
  rfl

theorem DW.open_ (hst : Stable K P) (h : DW w0 K P b lg mk w) (hmk : 0 ≤ mk ∧ mk < 18446744073709551616) (l : List ByteArray) (rest : ByteArray) (hs : lg = frames 1 l ++ rest) (hl : ∀ x ∈ l, 1 ≤ x.size ∧ x.size ≤ 8192) (hr : takenOk rest (endFrom 1 l) = false) :
    Calls Tryz.prog 76 #[.pointer (some ⟨b, 0, none⟩)] w fun e w' => ∃ lb, e = .returned (.tuple #[.pointer (some ⟨lb, 0, none⟩), .int .i64 (rest.size : Int), .int .i64 0]) ∧ LW w0 K P b lb (frames 1 l) mk (openG l mk) w' := by
  obtain ⟨c, F, h1, h2, h3, h4, h5⟩ := h
  have hok := h1.ok.logs
  have hz : (dk c lg mk).log.size + (dk c lg mk).tail.size = lg.size := rfl
  rw [hz] at hok
  have hfs := frames_size l 1
  have hls : lg.size = (frames 1 l).size + rest.size := by rw [hs, ByteArray.size_append]
  have hD : ∃ c', (if rest.size = 0 then dk c lg mk else cutD (dk c lg mk) ((endFrom 1 l : Int) - 1)) = dk c' (frames 1 l) mk := by
    by_cases hz : rest.size = 0
    · rw [if_pos hz]
      refine ⟨c, ?_⟩
      have : rest = ⟨#[]⟩ := by
        apply ByteArray.ext
        exact Array.eq_empty_of_size_eq_zero hz
      rw [hs, this, bytes_nil]
    · rw [if_neg hz, cutD_plan rfl rfl (by omega) (by show _ ≤ (lg.size : Int) + (0 : Nat); omega)]
      refine ⟨wrapI (wrapI (c + 1) + 1), ?_⟩
      have : ((dk c lg mk).log ++ (dk c lg mk).tail).extract 0 ((endFrom 1 l : Int) - 1).toNat = frames 1 l := by
        show (lg ++ (⟨#[]⟩ : ByteArray)).extract 0 _ = _
        rw [bytes_nil, hs]
        exact ext_left (by omega)
      rw [this]
      rfl
  obtain ⟨c', hD⟩ := hD
  have hO := open_c h1 rfl rfl (Nat.zero_le _) hmk l rest (by show lg ++ (⟨#[]⟩ : ByteArray) = _; rw [bytes_nil, hs]) hl hr
  rw [hD] at hO
  refine hO.mono ?_
  rintro e w' ⟨lb, he, hp⟩
  exact ⟨lb, he, c', DX.opened hst h2 h3 h4 h5 hp⟩
theorem DW.crash (hst : Stable K P) (h : DW w0 K P b lg mk w) (f : Fl) (hf : f.ok) :
    Calls Tryz.prog 120 #[.pointer (some ⟨b, 0, none⟩), .agg #[.int .i64 f.at_, .int .u64 f.keep, .int .i64 f.torn, .int .i64 f.bytes, .int .i64 f.log]] w fun e w' => e = .returned (.tuple #[]) ∧ ∃ c, DX w0 K P b { dk c lg mk with dead := true } w' := by
  obtain ⟨c, h⟩ := h
  have hE : (dk c lg mk).crash f = { dk c lg mk with dead := true } := by
    unfold Dk.crash
    rw [if_neg (show ¬ (dk c lg mk).dead = true from Bool.false_ne_true)]
    show Dk.fell (dk c lg mk) f = _
    unfold Dk.fell
    have : (dk c lg mk).log ++ (dk c lg mk).tail.extract 0 (cutN 0 (dk c lg mk).tail.size f.log).toNat = lg := by
      have e : (dk c lg mk).tail.extract 0 (cutN 0 (dk c lg mk).tail.size f.log).toNat = ⟨#[]⟩ := by
        show ByteArray.extract ⟨#[]⟩ 0 _ = _
        apply ByteArray.ext
        simp
      rw [e]
      exact bytes_nil lg
    rw [this]
    rfl
  refine (h.calls hst fun F h1 => crash_c h1 f hf (Nat.zero_le _)).mono ?_
  rintro e w' ⟨he, hp⟩
  rw [hE] at hp
  exact ⟨he, c, hp⟩
theorem DW.of_live (h : Live w0 b (Dk.fresh 8) w) : DW w0 (fun _ => False) (fun _ => True) b ⟨#[]⟩ 0 w := by
  obtain ⟨F, h1, h2, h3⟩ := h
  exact ⟨0, F, h1, fun r hr => ⟨h2 r hr, fun h => h⟩, fun r hr => hr.elim, trivial, h3⟩
theorem stable_none : Stable (fun _ => False) (fun _ => True) := fun _ _ _ _ => trivial
end
end Go.Proofs.YtpnndlahfllbhaaGreat

/-! The walk of girderlaw05's awake. -/
namespace Go.Proofs.YtpnndlahfllbhaaGreat
open Go.RowKit
attribute [local go_sem ↓] Go.wp_at_zero Go.wp_at_succ

end Go.Proofs.YtpnndlahfllbhaaGreat
