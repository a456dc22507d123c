/-
  The walk of a pool's fetched.
-/
import Derived.Test.YtnghgkaoopcglaaGreatPW
import Derived.Test.YtnghgkaoopcglaaGreatQ3
namespace Go.Proofs.YtnghgkaoopcglaaGreat
open Go.RowKit
attribute [local go_sem ↓] Go.wp_at_zero Go.wp_at_succ

def FetPost (w : World) (r : Sh × Int) (e : Ending) (w' : World) : Prop := ∃ sv, e = .returned (.tuple #[ShV r.1 sv, .int .i64 r.2]) ∧ Reads w' sv r.1.slots ∧ (∀ k, sv.ownBlock = some k → w.heap.size ≤ k) ∧ Below w.heap.size w w'
theorem fet_none {w w' : World} {r : Sh × Int} {c : Int} {e : Ending} (h : r = (Sh.none, c)) (he : e = .returned (.tuple #[.agg #[.int .u32 0, .int .u64 0, .int .i64 0, .string ⟨#[]⟩, .slice none 0 0], .int .i64 c])) (hb : Below w.heap.size w w') : FetPost w r e w' := by
  refine ⟨.slice none 0 0, ?_, ?_, fun k hk => by simp [Value.ownBlock] at hk, hb⟩
  · rw [he, h]; rfl
  · rw [h]; exact .inl ⟨rfl, rfl⟩
theorem fet_reads {w7 : World} {R A : Nat} {v : Value} {l : List ByteArray} {lo hi : Nat} (h : Reads w7 v l) (ho : ∀ k, v.ownBlock = some k → lo < k ∧ k < hi) (hk : ∀ k, lo < k ∧ k < hi → k ≠ A ∧ k ≠ R) {u v0 v1 v2 v3 v4 : Value} :
    Reads ((((((w7.setCell ⟨A, 0, none⟩ u).setCell ⟨R, 0, none⟩ v0).setCell ⟨R, 1, none⟩ v1).setCell ⟨R, 2, none⟩ v2).setCell ⟨R, 3, none⟩ v3).setCell ⟨R, 4, none⟩ v4) v l :=
  h.same fun k hk2 => by
    obtain ⟨h1, h2⟩ := hk k (ho k hk2)
    rw [Below.heap_setCell _ _ _ _ h2, Below.heap_setCell _ _ _ _ h2, Below.heap_setCell _ _ _ _ h2, Below.heap_setCell _ _ _ _ h2, Below.heap_setCell _ _ _ _ h2, Below.heap_setCell _ _ _ _ h1]
theorem fet_below {w w7 : World} {A : Nat} (h : Below w.heap.size w w7) (hA : w.heap.size ≤ A) {u v0 v1 v2 v3 v4 : Value} :
    Below w.heap.size w ((((((w7.setCell ⟨A, 0, none⟩ u).setCell ⟨w.heap.size, 0, none⟩ v0).setCell ⟨w.heap.size, 1, none⟩ v1).setCell ⟨w.heap.size, 2, none⟩ v2).setCell ⟨w.heap.size, 3, none⟩ v3).setCell ⟨w.heap.size, 4, none⟩ v4) :=
  (((((h.setCell hA _).setCell (Nat.le_refl _) _).setCell (Nat.le_refl _) _).setCell (Nat.le_refl _) _).setCell (Nat.le_refl _) _).setCell (Nat.le_refl _) _
theorem lastOf_mem {p : Int} : ∀ {l : List Wr} {x : Wr}, lastOf p l = some x → x ∈ l ∧ x.page = p
  | [], _, h => by cases h
  | y :: l, x, h => by
    unfold lastOf at h
    cases hl : lastOf p l with
    | some z =>
      rw [hl] at h
      cases h
      have := lastOf_mem hl
      exact ⟨List.mem_cons_of_mem _ this.1, this.2⟩
    | none =>
      rw [hl, Option.none_or] at h
      split at h
      · cases h; exact ⟨List.mem_cons_self .., by assumption⟩
      · cases h
theorem Dk.read_size {m : Dk} (h : m.ok) {p : Int} (hp : p ≠ 0) : (m.read p).size = 512 := by
  unfold Dk.read
  cases hl : lastOf p m.loose with
  | some x =>
    obtain ⟨h1, h2⟩ := lastOf_mem hl
    exact (h.loose x h1).2.2 (by rw [h2]; exact hp)
  | none => exact m.sure_size h.pages p
theorem Dk.readE_size {m : Dk} (h : m.ok) {p : Int} (hp : p ≠ 0) : (m.readE p).1.size ≤ 512 := by
  unfold Dk.readE
  split
  · exact Nat.zero_le _
  · split
    · exact Nat.zero_le _
    · exact Nat.le_of_eq (Dk.read_size h hp)
section
variable {w : World} {U : Nat → Prop} {b lb pb : Nat} {m : Dk} {g : Lg} {q : Po}
set_option maxRecDepth 100000 in
set_option maxHeartbeats 40000000 in
theorem pfetched_c (h : PX w U b lb pb m g q) (hl : m.loose.length ≤ 1000000) (n : Nat) (hn1 : 1 ≤ n) (hn : n ≤ 2048) :
    Calls Tryz.prog 73 #[.pointer (some ⟨pb, 0, none⟩), .int .u32 (n : Int)] w (FetPost w (fetchE m n)) := by
  obtain ⟨F, G, H, mb, pk, vs, h1, h2, h3, h4⟩ := h
  obtain ⟨r, hr⟩ : ∃ r, fetchE m n = r := ⟨_, rfl⟩
  rw [hr]
  unfold fetchE at hr
  have hrd : ∀ (p : Nat), p ≤ 4294967295 → ∀ W, Below w.heap.size w W → Hid (Calls Tryz.prog 25 #[.pointer (some ⟨b, 0, none⟩), .int .u32 (p : Int)] W fun e w' => e = .returned (.tuple #[.string (m.readE p).1, .int .i64 (m.readE p).2]) ∧ Below W.heap.size W w') :=
    fun p hp W hW => read_c (h1.dsk.below hW) (p : Int) (by omega) (by omega) (by omega)
  have HC0 : ∀ W, Below w.heap.size w W → Hid (W.cell? ⟨pb, 0, none⟩ = some (.pointer (some ⟨b, 0, none⟩))) := fun W hW => (h2.below hW).cells.1
  have hsz1 : (m.readE n).1.size ≤ 1000000000000 := by have := Dk.readE_size h1.dsk.ok (p := (n : Int)) (by omega); omega
  have hsz2 : (m.readE (n + 2048 : Nat)).1.size ≤ 1000000000000 := by have := Dk.readE_size h1.dsk.ok (p := ((n + 2048 : Nat) : Int)) (by omega); omega
  have HR1 := fun W hW => hrd n (by omega) W hW
  have HR2 := fun W hW => hrd (n + 2048) (by omega) W hW
  obtain ⟨s, se, hs⟩ : ∃ s se, m.readE n = (s, se) := ⟨_, _, rfl⟩
  obtain ⟨t, te, ht⟩ : ∃ t te, m.readE (n + 2048 : Nat) = (t, te) := ⟨_, _, rfl⟩
  rw [hs] at HR1 hr hsz1
  rw [ht] at HR2 hr hsz2
  have e48 : ((n + 2048 : Nat) : Int) = (n : Int) + 2048 := by omega
  rw [e48] at HR2
  have u48 : IntKind.u32.wrap ((n : Int) + 2048) = (n : Int) + 2048 := by rw [IntKind.wrap_u32]; omega
  have hbw : Below w.heap.size w (w.alloc (.cells #[.int .u32 0, .int .u64 0, .int .i64 0, .string ⟨#[]⟩, .slice none 0 0] 84)) := (Below.refl _ _).alloc (Nat.le_refl _) _
  have hB0 := Blk.new w 84 #[.int .u32 0, .int .u64 0, .int .i64 0, .string ⟨#[]⟩, .slice none 0 0]
  have cp := (HC0 _ hbw).out
  have HRa := HR1 _ hbw
  have HBW := Lib.hid hbw
  have HB0 := Lib.hid hB0
  obtain ⟨⟨an, al, ak, ah, asl⟩, ac, hda⟩ : ∃ a ac, decE s = (a, ac) := ⟨_, _, rfl⟩
  obtain ⟨⟨bn, bl, bk, bh, bsl⟩, bc, hdb⟩ : ∃ a ac, decE t = (a, ac) := ⟨_, _, rfl⟩
  have HDS := fun W => Lib.hid (pdecode_c W s hsz1)
  have HDT := fun W => Lib.hid (pdecode_c W t hsz2)
  unfold DecPost at HDS HDT
  rw [hda] at HDS hr
  rw [hdb] at HDT hr
  unfold ShV at HDS HDT
  simp only at HDS HDT
  clear hda hdb
  clear hrd h1 h2 h3 h4 hs ht hbw hB0 HR1 e48 hl hsz1 hsz2
  by_cases k1 : se = 0
  · subst k1
    simp only [ne_eq, not_true_eq_false, if_false] at hr
    have HR := Lib.hid hr
    clear hr
    go_enter Tryz.func73, Tryz.ntmps73
    go_wp2_with (fail)
    refine HRa.out.mono ?_
    rintro e w2 ⟨rfl, hb2⟩
    have hbw2 : Below w.heap.size w w2 := HBW.out.trans (hb2.mono (by simp))
    have HB2 := Lib.hid (HB0.out.same (hb2.block _ HB0.out.lt))
    have HBW2 := Lib.hid hbw2
    have HRb := HR2 _ hbw2
    clear HRa hb2 hbw2 cp HR2 HBW HB0
    have cp := (HC0 _ HBW2.out).out
    go_wp2_with (fail)
    refine HRb.out.mono ?_
    rintro e w3 ⟨rfl, hb3⟩
    have HB3 := Lib.hid (HB2.out.same (hb3.block _ HB2.out.lt))
    have HBW3 : Hid (Below w.heap.size w w3) := HBW2.out.trans (hb3.mono HBW2.out.size)
    clear HRb hb3 cp HBW2 HB2 HC0 u48
    by_cases k2 : te = 0
    · subst k2
      have hr := HR.out
      simp only [not_true_eq_false, if_false] at hr
      clear HR
      have HR := Lib.hid hr
      clear hr
      go_wp2_with (fail)
      refine (HDS _).out.mono ?_
      rintro e w4 ⟨av, rfl, har, hao, hb4⟩
      obtain ⟨aa, acp, rfl⟩ := har.form
      have HB4 := Lib.hid (HB3.out.same (hb4.block _ HB3.out.lt))
      have HBW4 : Hid (Below w.heap.size w w4) := HBW3.out.trans (hb4.mono HBW3.out.size)
      have HAR := Lib.hid har
      have HAO : Hid (∀ k, (Value.slice aa asl.length acp).ownBlock = some k → w.heap.size < k ∧ k < w4.heap.size) := fun k hk => ⟨Nat.lt_of_lt_of_le HB3.out.lt (hao k hk), har.lt k hk⟩
      clear HDS har hao hb4 HB3 HBW3
      have hA5 := Blk.new w4 84 #[.int .u32 (an : Int), .int .u64 (al : Int), .int .i64 ak, .string ah, .slice aa asl.length acp]
      have hbl5 : Below w4.heap.size w4 (w4.alloc (.cells #[.int .u32 (an : Int), .int .u64 (al : Int), .int .i64 ak, .string ah, .slice aa asl.length acp] 84)) := (Below.refl _ _).alloc (Nat.le_refl _) _
      have HB5 := Lib.hid (HB4.out.same (hbl5.block _ HB4.out.lt))
      have HBW5 : Hid (Below w.heap.size w (w4.alloc (.cells #[.int .u32 (an : Int), .int .u64 (al : Int), .int .i64 ak, .string ah, .slice aa asl.length acp] 84))) := HBW4.out.trans (hbl5.mono HBW4.out.size)
      have HAR5 := Lib.hid (HAR.out.below hbl5)
      have HA5 := Lib.hid hA5
      clear hA5 hbl5
      go_wp2_with (fail)
      refine (HDT _).out.mono ?_
      rintro e w6 ⟨bv, rfl, hbr, hbo, hb6⟩
      obtain ⟨ba, bcp, rfl⟩ := hbr.form
      have HB6 := Lib.hid (HB5.out.same (hb6.block _ HB5.out.lt))
      have HBW6 : Hid (Below w.heap.size w w6) := HBW5.out.trans (hb6.mono HBW5.out.size)
      have HA6 := Lib.hid (HA5.out.same (hb6.block _ HA5.out.lt))
      have HAR6 := Lib.hid (HAR5.out.below hb6)
      have HBR6 := Lib.hid hbr
      have HSZ : Hid (w.heap.size < w4.heap.size ∧ w4.heap.size < w6.heap.size) := ⟨HB4.out.lt, HA6.out.lt⟩
      have HBO : Hid (∀ k, (Value.slice ba bsl.length bcp).ownBlock = some k → w4.heap.size < k ∧ k < w6.heap.size) := fun k hk => ⟨Nat.lt_of_lt_of_le HA5.out.lt (hbo k hk), hbr.lt k hk⟩
      clear HDT hbr hbo hb6 HB5 HBW5 HA5 HAR5 HAR HB4 HBW4
      generalize w4.heap.size = pa at *
      have hB7 := Blk.new w6 84 #[.int .u32 (bn : Int), .int .u64 (bl : Int), .int .i64 bk, .string bh, .slice ba bsl.length bcp]
      have hbl7 : Below w6.heap.size w6 (w6.alloc (.cells #[.int .u32 (bn : Int), .int .u64 (bl : Int), .int .i64 bk, .string bh, .slice ba bsl.length bcp] 84)) := (Below.refl _ _).alloc (Nat.le_refl _) _
      obtain ⟨w7, hw7⟩ : ∃ w7, w6.alloc (.cells #[.int .u32 (bn : Int), .int .u64 (bl : Int), .int .i64 bk, .string bh, .slice ba bsl.length bcp] 84) = w7 := ⟨_, rfl⟩
      have HB8 := Lib.hid (HB6.out.same ((hw7 ▸ hbl7).block _ HB6.out.lt))
      have HA8 := Lib.hid (HA6.out.same ((hw7 ▸ hbl7).block _ HA6.out.lt))
      have HBB8 : Hid (Blk w7 w6.heap.size 84 #[.int .u32 (bn : Int), .int .u64 (bl : Int), .int .i64 bk, .string bh, .slice ba bsl.length bcp]) := hw7 ▸ hB7
      have HBW8 : Hid (Below w.heap.size w w7) := HBW6.out.trans ((hw7 ▸ hbl7).mono HBW6.out.size)
      have HAR8 := Lib.hid (HAR6.out.below (hw7 ▸ hbl7))
      have HBR8 := Lib.hid (HBR6.out.below (hw7 ▸ hbl7))
      clear hB7 hbl7 HB6 HA6 HBW6 HAR6 HBR6
      have c0 : w7.cell? ⟨w.heap.size, 0, none⟩ = some (.int .u32 0) := HB8.out.cell 0
      have c1 : w7.cell? ⟨w.heap.size, 1, none⟩ = some (.int .u64 0) := HB8.out.cell 1
      have c2 : w7.cell? ⟨w.heap.size, 2, none⟩ = some (.int .i64 0) := HB8.out.cell 2
      have c3 : w7.cell? ⟨w.heap.size, 3, none⟩ = some (.string ⟨#[]⟩) := HB8.out.cell 3
      have c4 : w7.cell? ⟨w.heap.size, 4, none⟩ = some (.slice none 0 0) := HB8.out.cell 4
      have c5 : w7.frozen? ⟨w.heap.size, 0, none⟩ = false := HB8.out.frozen 0
      have z0 : w7.frozen? ⟨w.heap.size, 0, none⟩ = false := HB8.out.frozen 0
      have z1 : w7.frozen? ⟨w.heap.size, 1, none⟩ = false := HB8.out.frozen 1
      have z2 : w7.frozen? ⟨w.heap.size, 2, none⟩ = false := HB8.out.frozen 2
      have z3 : w7.frozen? ⟨w.heap.size, 3, none⟩ = false := HB8.out.frozen 3
      have z4 : w7.frozen? ⟨w.heap.size, 4, none⟩ = false := HB8.out.frozen 4
      have a0 : w7.cell? ⟨pa, 0, none⟩ = some (.int .u32 (an : Int)) := HA8.out.cell 0
      have a1 : w7.cell? ⟨pa, 1, none⟩ = some (.int .u64 (al : Int)) := HA8.out.cell 1
      have a2 : w7.cell? ⟨pa, 2, none⟩ = some (.int .i64 ak) := HA8.out.cell 2
      have a3 : w7.cell? ⟨pa, 3, none⟩ = some (.string ah) := HA8.out.cell 3
      have a4 : w7.cell? ⟨pa, 4, none⟩ = some (.slice aa asl.length acp) := HA8.out.cell 4
      have a5 : w7.frozen? ⟨pa, 0, none⟩ = false := HA8.out.frozen 0
      have b0 : w7.cell? ⟨w6.heap.size, 0, none⟩ = some (.int .u32 (bn : Int)) := HBB8.out.cell 0
      have b1 : w7.cell? ⟨w6.heap.size, 1, none⟩ = some (.int .u64 (bl : Int)) := HBB8.out.cell 1
      have b2 : w7.cell? ⟨w6.heap.size, 2, none⟩ = some (.int .i64 bk) := HBB8.out.cell 2
      have b3 : w7.cell? ⟨w6.heap.size, 3, none⟩ = some (.string bh) := HBB8.out.cell 3
      have b4 : w7.cell? ⟨w6.heap.size, 4, none⟩ = some (.slice ba bsl.length bcp) := HBB8.out.cell 4
      have b5 : w7.frozen? ⟨w6.heap.size, 0, none⟩ = false := HBB8.out.frozen 0
      have hn0 : ¬ (n = 0) := by omega
      have hz := HSZ.out
      have n1 : ¬ (pa = w.heap.size) := by omega
      have n2 : ¬ (w.heap.size = pa) := by omega
      have n3 : ¬ (w6.heap.size = w.heap.size) := by omega
      have n4 : ¬ (w.heap.size = w6.heap.size) := by omega
      have n5 : ¬ (pa = w6.heap.size) := by omega
      have n6 : ¬ (w6.heap.size = pa) := by omega
      clear hz
      by_cases A1 : ac = 0
      · subst A1
        by_cases A2 : n = an
        · subst A2
          by_cases B1 : bc = 0
          · subst B1
            by_cases B2 : n = bn
            · subst B2
              by_cases K : bl ≤ al
              · have K' : (bl : Int) ≤ (al : Int) := by omega
                have HD : Hid (r = (⟨n, al, ak, ah, asl⟩, 0)) := by show _ = _; rw [← HR.out]; unfold betterE; rw [if_pos (by dsimp only; omega)]; rfl
                go_wp2_with (fail)
                (try simp only [Exit.inBlock, Exit.then])
                have B9' := ((HB8.out).far (p := ⟨pa, 0, none⟩) (fun e => n2 e) (.int .u32 (n : Int))).set5 (v0 := .int .u32 (n : Int)) (v1 := .int .u64 (al : Int)) (v2 := .int .i64 ak) (v3 := .string ah) (v4 := .slice aa asl.length acp)
                have q0 := B9'.cell 0
                have q1 := B9'.cell 1
                have q2 := B9'.cell 2
                have q3 := B9'.cell 3
                have q4 := B9'.cell 4
                simp at q0 q1 q2 q3 q4
                refine bodyPost_ret (v := .tuple #[.agg #[.int .u32 (n : Int), .int .u64 (al : Int), .int .i64 ak, .string ah, .slice aa asl.length acp], .int .i64 0]) (by simp [results, Tryz.results73, go_sem, q0, q1, q2, q3, q4]) rfl ?_
                exact ⟨.slice aa asl.length acp, by rw [HD.out]; rfl, by rw [HD.out]; exact fet_reads HAR8.out HAO.out (fun k h => by have := HSZ.out; omega), fun k hk => Nat.le_of_lt (HAO.out k hk).1, fet_below HBW8.out (Nat.le_of_lt HSZ.out.1)⟩
              · have K' : ¬ (bl : Int) ≤ (al : Int) := by omega
                have HD : Hid (r = (⟨n, bl, bk, bh, bsl⟩, 0)) := by show _ = _; rw [← HR.out]; unfold betterE; rw [if_neg (by dsimp only; omega), if_pos (by dsimp only; omega)]; rfl
                go_wp2_with (fail)
                (try simp only [Exit.inBlock, Exit.then])
                have B9' := ((HB8.out).far (p := ⟨w6.heap.size, 0, none⟩) (fun e => n4 e) (.int .u32 (n : Int))).set5 (v0 := .int .u32 (n : Int)) (v1 := .int .u64 (bl : Int)) (v2 := .int .i64 bk) (v3 := .string bh) (v4 := .slice ba bsl.length bcp)
                have q0 := B9'.cell 0
                have q1 := B9'.cell 1
                have q2 := B9'.cell 2
                have q3 := B9'.cell 3
                have q4 := B9'.cell 4
                simp at q0 q1 q2 q3 q4
                refine bodyPost_ret (v := .tuple #[.agg #[.int .u32 (n : Int), .int .u64 (bl : Int), .int .i64 bk, .string bh, .slice ba bsl.length bcp], .int .i64 0]) (by simp [results, Tryz.results73, go_sem, q0, q1, q2, q3, q4]) rfl ?_
                exact ⟨.slice ba bsl.length bcp, by rw [HD.out]; rfl, by rw [HD.out]; exact fet_reads HBR8.out HBO.out (fun k h => by have := HSZ.out; omega), fun k hk => by have := HBO.out k hk; have := HSZ.out; omega, fet_below HBW8.out (by have := HSZ.out; omega)⟩
            · have B2' : ¬ (bn = n) := fun e => B2 e.symm
              by_cases B3 : bn = 0
              · subst B3
                have e0 : ((0 : Nat) : Int) = 0 := rfl
                rw [e0] at b0 hw7
                clear e0
                have B2b : ((0 : Int) == (n : Int)) = false := by simp; omega
                by_cases K : bl ≤ al
                · have K' : (bl : Int) ≤ (al : Int) := by omega
                  have HD : Hid (r = (⟨n, al, ak, ah, asl⟩, 0)) := by show _ = _; rw [← HR.out]; unfold betterE; rw [if_pos (by dsimp only; omega)]; rfl
                  go_wp2_with (fail)
                  (try simp only [Exit.inBlock, Exit.then])
                  have B9' := ((HB8.out).far (p := ⟨pa, 0, none⟩) (fun e => n2 e) (.int .u32 (n : Int))).set5 (v0 := .int .u32 (n : Int)) (v1 := .int .u64 (al : Int)) (v2 := .int .i64 ak) (v3 := .string ah) (v4 := .slice aa asl.length acp)
                  have q0 := B9'.cell 0
                  have q1 := B9'.cell 1
                  have q2 := B9'.cell 2
                  have q3 := B9'.cell 3
                  have q4 := B9'.cell 4
                  simp at q0 q1 q2 q3 q4
                  refine bodyPost_ret (v := .tuple #[.agg #[.int .u32 (n : Int), .int .u64 (al : Int), .int .i64 ak, .string ah, .slice aa asl.length acp], .int .i64 0]) (by simp [results, Tryz.results73, go_sem, q0, q1, q2, q3, q4]) rfl ?_
                  exact ⟨.slice aa asl.length acp, by rw [HD.out]; rfl, by rw [HD.out]; exact fet_reads HAR8.out HAO.out (fun k h => by have := HSZ.out; omega), fun k hk => Nat.le_of_lt (HAO.out k hk).1, fet_below HBW8.out (Nat.le_of_lt HSZ.out.1)⟩
                · have K' : ¬ (bl : Int) ≤ (al : Int) := by omega
                  have HD : Hid (r = (⟨n, al, ak, ah, asl⟩, 0)) := by show _ = _; rw [← HR.out]; unfold betterE; rw [if_pos (by dsimp only; omega)]; rfl
                  go_wp2_with (fail)
                  (try simp only [Exit.inBlock, Exit.then])
                  have B9' := ((HB8.out).far (p := ⟨pa, 0, none⟩) (fun e => n2 e) (.int .u32 (n : Int))).set5 (v0 := .int .u32 (n : Int)) (v1 := .int .u64 (al : Int)) (v2 := .int .i64 ak) (v3 := .string ah) (v4 := .slice aa asl.length acp)
                  have q0 := B9'.cell 0
                  have q1 := B9'.cell 1
                  have q2 := B9'.cell 2
                  have q3 := B9'.cell 3
                  have q4 := B9'.cell 4
                  simp at q0 q1 q2 q3 q4
                  refine bodyPost_ret (v := .tuple #[.agg #[.int .u32 (n : Int), .int .u64 (al : Int), .int .i64 ak, .string ah, .slice aa asl.length acp], .int .i64 0]) (by simp [results, Tryz.results73, go_sem, q0, q1, q2, q3, q4]) rfl ?_
                  exact ⟨.slice aa asl.length acp, by rw [HD.out]; rfl, by rw [HD.out]; exact fet_reads HAR8.out HAO.out (fun k h => by have := HSZ.out; omega), fun k hk => Nat.le_of_lt (HAO.out k hk).1, fet_below HBW8.out (Nat.le_of_lt HSZ.out.1)⟩
              · skip
                have B2b : ((bn : Int) == (n : Int)) = false := by simp; omega
                have B3b : ((bn : Int) == 0) = false := by simp; omega
                have HD : Hid (r = (⟨n, al, ak, ah, asl⟩, 0)) := by show _ = _; rw [← HR.out]; unfold betterE; rw [if_pos (by dsimp only; omega)]; rfl
                go_wp2_with (fail)
                (try simp only [Exit.inBlock, Exit.then])
                have B9' := ((HB8.out).far (p := ⟨pa, 0, none⟩) (fun e => n2 e) (.int .u32 (n : Int))).set5 (v0 := .int .u32 (n : Int)) (v1 := .int .u64 (al : Int)) (v2 := .int .i64 ak) (v3 := .string ah) (v4 := .slice aa asl.length acp)
                have q0 := B9'.cell 0
                have q1 := B9'.cell 1
                have q2 := B9'.cell 2
                have q3 := B9'.cell 3
                have q4 := B9'.cell 4
                simp at q0 q1 q2 q3 q4
                refine bodyPost_ret (v := .tuple #[.agg #[.int .u32 (n : Int), .int .u64 (al : Int), .int .i64 ak, .string ah, .slice aa asl.length acp], .int .i64 0]) (by simp [results, Tryz.results73, go_sem, q0, q1, q2, q3, q4]) rfl ?_
                exact ⟨.slice aa asl.length acp, by rw [HD.out]; rfl, by rw [HD.out]; exact fet_reads HAR8.out HAO.out (fun k h => by have := HSZ.out; omega), fun k hk => Nat.le_of_lt (HAO.out k hk).1, fet_below HBW8.out (Nat.le_of_lt HSZ.out.1)⟩
          · skip
            have HD : Hid (r = (⟨n, al, ak, ah, asl⟩, 0)) := by show _ = _; rw [← HR.out]; unfold betterE; rw [if_pos (by dsimp only; omega)]; rfl
            go_wp2_with (fail)
            (try simp only [Exit.inBlock, Exit.then])
            have B9' := ((HB8.out).far (p := ⟨pa, 0, none⟩) (fun e => n2 e) (.int .u32 (n : Int))).set5 (v0 := .int .u32 (n : Int)) (v1 := .int .u64 (al : Int)) (v2 := .int .i64 ak) (v3 := .string ah) (v4 := .slice aa asl.length acp)
            have q0 := B9'.cell 0
            have q1 := B9'.cell 1
            have q2 := B9'.cell 2
            have q3 := B9'.cell 3
            have q4 := B9'.cell 4
            simp at q0 q1 q2 q3 q4
            refine bodyPost_ret (v := .tuple #[.agg #[.int .u32 (n : Int), .int .u64 (al : Int), .int .i64 ak, .string ah, .slice aa asl.length acp], .int .i64 0]) (by simp [results, Tryz.results73, go_sem, q0, q1, q2, q3, q4]) rfl ?_
            exact ⟨.slice aa asl.length acp, by rw [HD.out]; rfl, by rw [HD.out]; exact fet_reads HAR8.out HAO.out (fun k h => by have := HSZ.out; omega), fun k hk => Nat.le_of_lt (HAO.out k hk).1, fet_below HBW8.out (Nat.le_of_lt HSZ.out.1)⟩
        · have A2' : ¬ (an = n) := fun e => A2 e.symm
          by_cases A3 : an = 0
          · subst A3
            have e0 : ((0 : Nat) : Int) = 0 := rfl
            rw [e0] at a0
            clear e0
            have A2b : ((0 : Int) == (n : Int)) = false := by simp; omega
            by_cases B1 : bc = 0
            · subst B1
              by_cases B2 : n = bn
              · subst B2
                by_cases K : bl ≤ al
                · have K' : (bl : Int) ≤ (al : Int) := by omega
                  have HD : Hid (r = (⟨n, bl, bk, bh, bsl⟩, 0)) := by show _ = _; rw [← HR.out]; unfold betterE; rw [if_neg (by dsimp only; omega), if_pos (by dsimp only; omega)]; rfl
                  go_wp2_with (fail)
                  (try simp only [Exit.inBlock, Exit.then])
                  have B9' := ((HB8.out).far (p := ⟨w6.heap.size, 0, none⟩) (fun e => n4 e) (.int .u32 (n : Int))).set5 (v0 := .int .u32 (n : Int)) (v1 := .int .u64 (bl : Int)) (v2 := .int .i64 bk) (v3 := .string bh) (v4 := .slice ba bsl.length bcp)
                  have q0 := B9'.cell 0
                  have q1 := B9'.cell 1
                  have q2 := B9'.cell 2
                  have q3 := B9'.cell 3
                  have q4 := B9'.cell 4
                  simp at q0 q1 q2 q3 q4
                  refine bodyPost_ret (v := .tuple #[.agg #[.int .u32 (n : Int), .int .u64 (bl : Int), .int .i64 bk, .string bh, .slice ba bsl.length bcp], .int .i64 0]) (by simp [results, Tryz.results73, go_sem, q0, q1, q2, q3, q4]) rfl ?_
                  exact ⟨.slice ba bsl.length bcp, by rw [HD.out]; rfl, by rw [HD.out]; exact fet_reads HBR8.out HBO.out (fun k h => by have := HSZ.out; omega), fun k hk => by have := HBO.out k hk; have := HSZ.out; omega, fet_below HBW8.out (by have := HSZ.out; omega)⟩
                · have K' : ¬ (bl : Int) ≤ (al : Int) := by omega
                  have HD : Hid (r = (⟨n, bl, bk, bh, bsl⟩, 0)) := by show _ = _; rw [← HR.out]; unfold betterE; rw [if_neg (by dsimp only; omega), if_pos (by dsimp only; omega)]; rfl
                  go_wp2_with (fail)
                  (try simp only [Exit.inBlock, Exit.then])
                  have B9' := ((HB8.out).far (p := ⟨w6.heap.size, 0, none⟩) (fun e => n4 e) (.int .u32 (n : Int))).set5 (v0 := .int .u32 (n : Int)) (v1 := .int .u64 (bl : Int)) (v2 := .int .i64 bk) (v3 := .string bh) (v4 := .slice ba bsl.length bcp)
                  have q0 := B9'.cell 0
                  have q1 := B9'.cell 1
                  have q2 := B9'.cell 2
                  have q3 := B9'.cell 3
                  have q4 := B9'.cell 4
                  simp at q0 q1 q2 q3 q4
                  refine bodyPost_ret (v := .tuple #[.agg #[.int .u32 (n : Int), .int .u64 (bl : Int), .int .i64 bk, .string bh, .slice ba bsl.length bcp], .int .i64 0]) (by simp [results, Tryz.results73, go_sem, q0, q1, q2, q3, q4]) rfl ?_
                  exact ⟨.slice ba bsl.length bcp, by rw [HD.out]; rfl, by rw [HD.out]; exact fet_reads HBR8.out HBO.out (fun k h => by have := HSZ.out; omega), fun k hk => by have := HBO.out k hk; have := HSZ.out; omega, fet_below HBW8.out (by have := HSZ.out; omega)⟩
              · have B2' : ¬ (bn = n) := fun e => B2 e.symm
                by_cases B3 : bn = 0
                · subst B3
                  have e0 : ((0 : Nat) : Int) = 0 := rfl
                  rw [e0] at b0 hw7
                  clear e0
                  have B2b : ((0 : Int) == (n : Int)) = false := by simp; omega
                  by_cases K : bl ≤ al
                  · have K' : (bl : Int) ≤ (al : Int) := by omega
                    have HD : Hid (r = (⟨n, al, ak, ah, asl⟩, 0)) := by show _ = _; rw [← HR.out]; unfold betterE; rw [if_pos (by dsimp only; omega)]; rfl
                    go_wp2_with (fail)
                    (try simp only [Exit.inBlock, Exit.then])
                    have B9' := ((HB8.out).far (p := ⟨pa, 0, none⟩) (fun e => n2 e) (.int .u32 (n : Int))).set5 (v0 := .int .u32 (n : Int)) (v1 := .int .u64 (al : Int)) (v2 := .int .i64 ak) (v3 := .string ah) (v4 := .slice aa asl.length acp)
                    have q0 := B9'.cell 0
                    have q1 := B9'.cell 1
                    have q2 := B9'.cell 2
                    have q3 := B9'.cell 3
                    have q4 := B9'.cell 4
                    simp at q0 q1 q2 q3 q4
                    refine bodyPost_ret (v := .tuple #[.agg #[.int .u32 (n : Int), .int .u64 (al : Int), .int .i64 ak, .string ah, .slice aa asl.length acp], .int .i64 0]) (by simp [results, Tryz.results73, go_sem, q0, q1, q2, q3, q4]) rfl ?_
                    exact ⟨.slice aa asl.length acp, by rw [HD.out]; rfl, by rw [HD.out]; exact fet_reads HAR8.out HAO.out (fun k h => by have := HSZ.out; omega), fun k hk => Nat.le_of_lt (HAO.out k hk).1, fet_below HBW8.out (Nat.le_of_lt HSZ.out.1)⟩
                  · have K' : ¬ (bl : Int) ≤ (al : Int) := by omega
                    have HD : Hid (r = (⟨n, al, ak, ah, asl⟩, 0)) := by show _ = _; rw [← HR.out]; unfold betterE; rw [if_pos (by dsimp only; omega)]; rfl
                    go_wp2_with (fail)
                    (try simp only [Exit.inBlock, Exit.then])
                    have B9' := ((HB8.out).far (p := ⟨pa, 0, none⟩) (fun e => n2 e) (.int .u32 (n : Int))).set5 (v0 := .int .u32 (n : Int)) (v1 := .int .u64 (al : Int)) (v2 := .int .i64 ak) (v3 := .string ah) (v4 := .slice aa asl.length acp)
                    have q0 := B9'.cell 0
                    have q1 := B9'.cell 1
                    have q2 := B9'.cell 2
                    have q3 := B9'.cell 3
                    have q4 := B9'.cell 4
                    simp at q0 q1 q2 q3 q4
                    refine bodyPost_ret (v := .tuple #[.agg #[.int .u32 (n : Int), .int .u64 (al : Int), .int .i64 ak, .string ah, .slice aa asl.length acp], .int .i64 0]) (by simp [results, Tryz.results73, go_sem, q0, q1, q2, q3, q4]) rfl ?_
                    exact ⟨.slice aa asl.length acp, by rw [HD.out]; rfl, by rw [HD.out]; exact fet_reads HAR8.out HAO.out (fun k h => by have := HSZ.out; omega), fun k hk => Nat.le_of_lt (HAO.out k hk).1, fet_below HBW8.out (Nat.le_of_lt HSZ.out.1)⟩
                · skip
                  have B2b : ((bn : Int) == (n : Int)) = false := by simp; omega
                  have B3b : ((bn : Int) == 0) = false := by simp; omega
                  have HD : Hid (r = (⟨n, al, ak, ah, asl⟩, 0)) := by show _ = _; rw [← HR.out]; unfold betterE; rw [if_pos (by dsimp only; omega)]; rfl
                  go_wp2_with (fail)
                  (try simp only [Exit.inBlock, Exit.then])
                  have B9' := ((HB8.out).far (p := ⟨pa, 0, none⟩) (fun e => n2 e) (.int .u32 (n : Int))).set5 (v0 := .int .u32 (n : Int)) (v1 := .int .u64 (al : Int)) (v2 := .int .i64 ak) (v3 := .string ah) (v4 := .slice aa asl.length acp)
                  have q0 := B9'.cell 0
                  have q1 := B9'.cell 1
                  have q2 := B9'.cell 2
                  have q3 := B9'.cell 3
                  have q4 := B9'.cell 4
                  simp at q0 q1 q2 q3 q4
                  refine bodyPost_ret (v := .tuple #[.agg #[.int .u32 (n : Int), .int .u64 (al : Int), .int .i64 ak, .string ah, .slice aa asl.length acp], .int .i64 0]) (by simp [results, Tryz.results73, go_sem, q0, q1, q2, q3, q4]) rfl ?_
                  exact ⟨.slice aa asl.length acp, by rw [HD.out]; rfl, by rw [HD.out]; exact fet_reads HAR8.out HAO.out (fun k h => by have := HSZ.out; omega), fun k hk => Nat.le_of_lt (HAO.out k hk).1, fet_below HBW8.out (Nat.le_of_lt HSZ.out.1)⟩
            · skip
              have HD : Hid (r = (⟨n, al, ak, ah, asl⟩, 0)) := by show _ = _; rw [← HR.out]; unfold betterE; rw [if_pos (by dsimp only; omega)]; rfl
              go_wp2_with (fail)
              (try simp only [Exit.inBlock, Exit.then])
              have B9' := ((HB8.out).far (p := ⟨pa, 0, none⟩) (fun e => n2 e) (.int .u32 (n : Int))).set5 (v0 := .int .u32 (n : Int)) (v1 := .int .u64 (al : Int)) (v2 := .int .i64 ak) (v3 := .string ah) (v4 := .slice aa asl.length acp)
              have q0 := B9'.cell 0
              have q1 := B9'.cell 1
              have q2 := B9'.cell 2
              have q3 := B9'.cell 3
              have q4 := B9'.cell 4
              simp at q0 q1 q2 q3 q4
              refine bodyPost_ret (v := .tuple #[.agg #[.int .u32 (n : Int), .int .u64 (al : Int), .int .i64 ak, .string ah, .slice aa asl.length acp], .int .i64 0]) (by simp [results, Tryz.results73, go_sem, q0, q1, q2, q3, q4]) rfl ?_
              exact ⟨.slice aa asl.length acp, by rw [HD.out]; rfl, by rw [HD.out]; exact fet_reads HAR8.out HAO.out (fun k h => by have := HSZ.out; omega), fun k hk => Nat.le_of_lt (HAO.out k hk).1, fet_below HBW8.out (Nat.le_of_lt HSZ.out.1)⟩
          · skip
            have A2b : ((an : Int) == (n : Int)) = false := by simp; omega
            have A3b : ((an : Int) == 0) = false := by simp; omega
            by_cases B1 : bc = 0
            · subst B1
              by_cases B2 : n = bn
              · subst B2
                have HD : Hid (r = (⟨n, bl, bk, bh, bsl⟩, 0)) := by show _ = _; rw [← HR.out]; unfold betterE; rw [if_neg (by dsimp only; omega), if_pos (by dsimp only; omega)]; rfl
                go_wp2_with (fail)
                (try simp only [Exit.inBlock, Exit.then])
                have B9' := ((HB8.out).far (p := ⟨w6.heap.size, 0, none⟩) (fun e => n4 e) (.int .u32 (n : Int))).set5 (v0 := .int .u32 (n : Int)) (v1 := .int .u64 (bl : Int)) (v2 := .int .i64 bk) (v3 := .string bh) (v4 := .slice ba bsl.length bcp)
                have q0 := B9'.cell 0
                have q1 := B9'.cell 1
                have q2 := B9'.cell 2
                have q3 := B9'.cell 3
                have q4 := B9'.cell 4
                simp at q0 q1 q2 q3 q4
                refine bodyPost_ret (v := .tuple #[.agg #[.int .u32 (n : Int), .int .u64 (bl : Int), .int .i64 bk, .string bh, .slice ba bsl.length bcp], .int .i64 0]) (by simp [results, Tryz.results73, go_sem, q0, q1, q2, q3, q4]) rfl ?_
                exact ⟨.slice ba bsl.length bcp, by rw [HD.out]; rfl, by rw [HD.out]; exact fet_reads HBR8.out HBO.out (fun k h => by have := HSZ.out; omega), fun k hk => by have := HBO.out k hk; have := HSZ.out; omega, fet_below HBW8.out (by have := HSZ.out; omega)⟩
              · have B2' : ¬ (bn = n) := fun e => B2 e.symm
                by_cases B3 : bn = 0
                · subst B3
                  have e0 : ((0 : Nat) : Int) = 0 := rfl
                  rw [e0] at b0 hw7
                  clear e0
                  have B2b : ((0 : Int) == (n : Int)) = false := by simp; omega
                  have HD : Hid (r = (⟨n, bl, bk, bh, bsl⟩, 0)) := by show _ = _; rw [← HR.out]; unfold betterE; rw [if_neg (by dsimp only; omega), if_pos (by dsimp only; omega)]; rfl
                  go_wp2_with (fail)
                  (try simp only [Exit.inBlock, Exit.then])
                  have B9' := ((HB8.out).far (p := ⟨w6.heap.size, 0, none⟩) (fun e => n4 e) (.int .u32 (n : Int))).set5 (v0 := .int .u32 (n : Int)) (v1 := .int .u64 (bl : Int)) (v2 := .int .i64 bk) (v3 := .string bh) (v4 := .slice ba bsl.length bcp)
                  have q0 := B9'.cell 0
                  have q1 := B9'.cell 1
                  have q2 := B9'.cell 2
                  have q3 := B9'.cell 3
                  have q4 := B9'.cell 4
                  simp at q0 q1 q2 q3 q4
                  refine bodyPost_ret (v := .tuple #[.agg #[.int .u32 (n : Int), .int .u64 (bl : Int), .int .i64 bk, .string bh, .slice ba bsl.length bcp], .int .i64 0]) (by simp [results, Tryz.results73, go_sem, q0, q1, q2, q3, q4]) rfl ?_
                  exact ⟨.slice ba bsl.length bcp, by rw [HD.out]; rfl, by rw [HD.out]; exact fet_reads HBR8.out HBO.out (fun k h => by have := HSZ.out; omega), fun k hk => by have := HBO.out k hk; have := HSZ.out; omega, fet_below HBW8.out (by have := HSZ.out; omega)⟩
                · skip
                  have B2b : ((bn : Int) == (n : Int)) = false := by simp; omega
                  have B3b : ((bn : Int) == 0) = false := by simp; omega
                  have HD : Hid (r = (Sh.none, 60)) := by show _ = _; rw [← HR.out]; unfold betterE; rw [if_neg (by dsimp only; omega), if_neg (by dsimp only; omega)]
                  go_wp2_with (fail)
                  (try simp only [Exit.inBlock, Exit.then])
                  have B9' := (HB8.out).set5 (v0 := .int .u32 0) (v1 := .int .u64 0) (v2 := .int .i64 0) (v3 := .string ⟨#[]⟩) (v4 := .slice none 0 0)
                  have r0 := B9'.cell 0
                  have r1 := B9'.cell 1
                  have r2 := B9'.cell 2
                  have r3 := B9'.cell 3
                  have r4 := B9'.cell 4
                  simp at r0 r1 r2 r3 r4
                  refine bodyPost_ret (v := .tuple #[.agg #[.int .u32 0, .int .u64 0, .int .i64 0, .string ⟨#[]⟩, .slice none 0 0], .int .i64 60]) (by simp [results, Tryz.results73, go_sem, r0, r1, r2, r3, r4]) rfl ?_
                  exact fet_none HD.out rfl (((((HBW8.out.setCell (Nat.le_refl _) _).setCell (Nat.le_refl _) _).setCell (Nat.le_refl _) _).setCell (Nat.le_refl _) _).setCell (Nat.le_refl _) _)
            · skip
              have HD : Hid (r = (Sh.none, 60)) := by show _ = _; rw [← HR.out]; unfold betterE; rw [if_neg (by dsimp only; omega), if_neg (by dsimp only; omega)]
              go_wp2_with (fail)
              (try simp only [Exit.inBlock, Exit.then])
              have B9' := (HB8.out).set5 (v0 := .int .u32 0) (v1 := .int .u64 0) (v2 := .int .i64 0) (v3 := .string ⟨#[]⟩) (v4 := .slice none 0 0)
              have r0 := B9'.cell 0
              have r1 := B9'.cell 1
              have r2 := B9'.cell 2
              have r3 := B9'.cell 3
              have r4 := B9'.cell 4
              simp at r0 r1 r2 r3 r4
              refine bodyPost_ret (v := .tuple #[.agg #[.int .u32 0, .int .u64 0, .int .i64 0, .string ⟨#[]⟩, .slice none 0 0], .int .i64 60]) (by simp [results, Tryz.results73, go_sem, r0, r1, r2, r3, r4]) rfl ?_
              exact fet_none HD.out rfl (((((HBW8.out.setCell (Nat.le_refl _) _).setCell (Nat.le_refl _) _).setCell (Nat.le_refl _) _).setCell (Nat.le_refl _) _).setCell (Nat.le_refl _) _)
      · skip
        by_cases B1 : bc = 0
        · subst B1
          by_cases B2 : n = bn
          · subst B2
            have HD : Hid (r = (⟨n, bl, bk, bh, bsl⟩, 0)) := by show _ = _; rw [← HR.out]; unfold betterE; rw [if_neg (by dsimp only; omega), if_pos (by dsimp only; omega)]; rfl
            go_wp2_with (fail)
            (try simp only [Exit.inBlock, Exit.then])
            have B9' := ((HB8.out).far (p := ⟨w6.heap.size, 0, none⟩) (fun e => n4 e) (.int .u32 (n : Int))).set5 (v0 := .int .u32 (n : Int)) (v1 := .int .u64 (bl : Int)) (v2 := .int .i64 bk) (v3 := .string bh) (v4 := .slice ba bsl.length bcp)
            have q0 := B9'.cell 0
            have q1 := B9'.cell 1
            have q2 := B9'.cell 2
            have q3 := B9'.cell 3
            have q4 := B9'.cell 4
            simp at q0 q1 q2 q3 q4
            refine bodyPost_ret (v := .tuple #[.agg #[.int .u32 (n : Int), .int .u64 (bl : Int), .int .i64 bk, .string bh, .slice ba bsl.length bcp], .int .i64 0]) (by simp [results, Tryz.results73, go_sem, q0, q1, q2, q3, q4]) rfl ?_
            exact ⟨.slice ba bsl.length bcp, by rw [HD.out]; rfl, by rw [HD.out]; exact fet_reads HBR8.out HBO.out (fun k h => by have := HSZ.out; omega), fun k hk => by have := HBO.out k hk; have := HSZ.out; omega, fet_below HBW8.out (by have := HSZ.out; omega)⟩
          · have B2' : ¬ (bn = n) := fun e => B2 e.symm
            by_cases B3 : bn = 0
            · subst B3
              have e0 : ((0 : Nat) : Int) = 0 := rfl
              rw [e0] at b0 hw7
              clear e0
              have B2b : ((0 : Int) == (n : Int)) = false := by simp; omega
              have HD : Hid (r = (⟨n, bl, bk, bh, bsl⟩, 0)) := by show _ = _; rw [← HR.out]; unfold betterE; rw [if_neg (by dsimp only; omega), if_pos (by dsimp only; omega)]; rfl
              go_wp2_with (fail)
              (try simp only [Exit.inBlock, Exit.then])
              have B9' := ((HB8.out).far (p := ⟨w6.heap.size, 0, none⟩) (fun e => n4 e) (.int .u32 (n : Int))).set5 (v0 := .int .u32 (n : Int)) (v1 := .int .u64 (bl : Int)) (v2 := .int .i64 bk) (v3 := .string bh) (v4 := .slice ba bsl.length bcp)
              have q0 := B9'.cell 0
              have q1 := B9'.cell 1
              have q2 := B9'.cell 2
              have q3 := B9'.cell 3
              have q4 := B9'.cell 4
              simp at q0 q1 q2 q3 q4
              refine bodyPost_ret (v := .tuple #[.agg #[.int .u32 (n : Int), .int .u64 (bl : Int), .int .i64 bk, .string bh, .slice ba bsl.length bcp], .int .i64 0]) (by simp [results, Tryz.results73, go_sem, q0, q1, q2, q3, q4]) rfl ?_
              exact ⟨.slice ba bsl.length bcp, by rw [HD.out]; rfl, by rw [HD.out]; exact fet_reads HBR8.out HBO.out (fun k h => by have := HSZ.out; omega), fun k hk => by have := HBO.out k hk; have := HSZ.out; omega, fet_below HBW8.out (by have := HSZ.out; omega)⟩
            · skip
              have B2b : ((bn : Int) == (n : Int)) = false := by simp; omega
              have B3b : ((bn : Int) == 0) = false := by simp; omega
              have HD : Hid (r = (Sh.none, 60)) := by show _ = _; rw [← HR.out]; unfold betterE; rw [if_neg (by dsimp only; omega), if_neg (by dsimp only; omega)]
              go_wp2_with (fail)
              (try simp only [Exit.inBlock, Exit.then])
              have B9' := (HB8.out).set5 (v0 := .int .u32 0) (v1 := .int .u64 0) (v2 := .int .i64 0) (v3 := .string ⟨#[]⟩) (v4 := .slice none 0 0)
              have r0 := B9'.cell 0
              have r1 := B9'.cell 1
              have r2 := B9'.cell 2
              have r3 := B9'.cell 3
              have r4 := B9'.cell 4
              simp at r0 r1 r2 r3 r4
              refine bodyPost_ret (v := .tuple #[.agg #[.int .u32 0, .int .u64 0, .int .i64 0, .string ⟨#[]⟩, .slice none 0 0], .int .i64 60]) (by simp [results, Tryz.results73, go_sem, r0, r1, r2, r3, r4]) rfl ?_
              exact fet_none HD.out rfl (((((HBW8.out.setCell (Nat.le_refl _) _).setCell (Nat.le_refl _) _).setCell (Nat.le_refl _) _).setCell (Nat.le_refl _) _).setCell (Nat.le_refl _) _)
        · skip
          have HD : Hid (r = (Sh.none, 60)) := by show _ = _; rw [← HR.out]; unfold betterE; rw [if_neg (by dsimp only; omega), if_neg (by dsimp only; omega)]
          go_wp2_with (fail)
          (try simp only [Exit.inBlock, Exit.then])
          have B9' := (HB8.out).set5 (v0 := .int .u32 0) (v1 := .int .u64 0) (v2 := .int .i64 0) (v3 := .string ⟨#[]⟩) (v4 := .slice none 0 0)
          have r0 := B9'.cell 0
          have r1 := B9'.cell 1
          have r2 := B9'.cell 2
          have r3 := B9'.cell 3
          have r4 := B9'.cell 4
          simp at r0 r1 r2 r3 r4
          refine bodyPost_ret (v := .tuple #[.agg #[.int .u32 0, .int .u64 0, .int .i64 0, .string ⟨#[]⟩, .slice none 0 0], .int .i64 60]) (by simp [results, Tryz.results73, go_sem, r0, r1, r2, r3, r4]) rfl ?_
          exact fet_none HD.out rfl (((((HBW8.out.setCell (Nat.le_refl _) _).setCell (Nat.le_refl _) _).setCell (Nat.le_refl _) _).setCell (Nat.le_refl _) _).setCell (Nat.le_refl _) _)
    · have hr := HR.out
      rw [if_pos k2] at hr
      have HD := Lib.hid hr.symm
      clear HR hr
      have c0 : w3.cell? ⟨w.heap.size, 0, none⟩ = some (.int .u32 0) := HB3.out.cell 0
      have c1 : w3.cell? ⟨w.heap.size, 1, none⟩ = some (.int .u64 0) := HB3.out.cell 1
      have c2 : w3.cell? ⟨w.heap.size, 2, none⟩ = some (.int .i64 0) := HB3.out.cell 2
      have c3 : w3.cell? ⟨w.heap.size, 3, none⟩ = some (.string ⟨#[]⟩) := HB3.out.cell 3
      have c4 : w3.cell? ⟨w.heap.size, 4, none⟩ = some (.slice none 0 0) := HB3.out.cell 4
      have c5 : w3.frozen? ⟨w.heap.size, 0, none⟩ = false := HB3.out.frozen 0
      have z0 : w3.frozen? ⟨w.heap.size, 0, none⟩ = false := HB3.out.frozen 0
      have z1 : w3.frozen? ⟨w.heap.size, 1, none⟩ = false := HB3.out.frozen 1
      have z2 : w3.frozen? ⟨w.heap.size, 2, none⟩ = false := HB3.out.frozen 2
      have z3 : w3.frozen? ⟨w.heap.size, 3, none⟩ = false := HB3.out.frozen 3
      have z4 : w3.frozen? ⟨w.heap.size, 4, none⟩ = false := HB3.out.frozen 4
      go_wp2_with (fail)
      (try simp only [Exit.inBlock, Exit.then])
      have B9' := (HB3.out).set5 (v0 := .int .u32 0) (v1 := .int .u64 0) (v2 := .int .i64 0) (v3 := .string ⟨#[]⟩) (v4 := .slice none 0 0)
      have r0 := B9'.cell 0
      have r1 := B9'.cell 1
      have r2 := B9'.cell 2
      have r3 := B9'.cell 3
      have r4 := B9'.cell 4
      simp at r0 r1 r2 r3 r4
      refine bodyPost_ret (v := .tuple #[.agg #[.int .u32 0, .int .u64 0, .int .i64 0, .string ⟨#[]⟩, .slice none 0 0], .int .i64 te]) (by simp [results, Tryz.results73, go_sem, r0, r1, r2, r3, r4]) rfl ?_
      exact fet_none HD.out rfl (((((HBW3.out.setCell (Nat.le_refl _) _).setCell (Nat.le_refl _) _).setCell (Nat.le_refl _) _).setCell (Nat.le_refl _) _).setCell (Nat.le_refl _) _)
  · rw [if_pos k1] at hr
    have HD := Lib.hid hr.symm
    clear hr
    go_enter Tryz.func73, Tryz.ntmps73
    go_wp2_with (fail)
    refine HRa.out.mono ?_
    rintro e w2 ⟨rfl, hb2⟩
    have HB2 := Lib.hid (HB0.out.same (hb2.block _ HB0.out.lt))
    have HBW2 : Hid (Below w.heap.size w w2) := HBW.out.trans (hb2.mono (by simp))
    clear HRa hb2 cp HBW HB0
    have c0 : w2.cell? ⟨w.heap.size, 0, none⟩ = some (.int .u32 0) := HB2.out.cell 0
    have c1 : w2.cell? ⟨w.heap.size, 1, none⟩ = some (.int .u64 0) := HB2.out.cell 1
    have c2 : w2.cell? ⟨w.heap.size, 2, none⟩ = some (.int .i64 0) := HB2.out.cell 2
    have c3 : w2.cell? ⟨w.heap.size, 3, none⟩ = some (.string ⟨#[]⟩) := HB2.out.cell 3
    have c4 : w2.cell? ⟨w.heap.size, 4, none⟩ = some (.slice none 0 0) := HB2.out.cell 4
    have c5 : w2.frozen? ⟨w.heap.size, 0, none⟩ = false := HB2.out.frozen 0
    have z0 : w2.frozen? ⟨w.heap.size, 0, none⟩ = false := HB2.out.frozen 0
    have z1 : w2.frozen? ⟨w.heap.size, 1, none⟩ = false := HB2.out.frozen 1
    have z2 : w2.frozen? ⟨w.heap.size, 2, none⟩ = false := HB2.out.frozen 2
    have z3 : w2.frozen? ⟨w.heap.size, 3, none⟩ = false := HB2.out.frozen 3
    have z4 : w2.frozen? ⟨w.heap.size, 4, none⟩ = false := HB2.out.frozen 4
    go_wp2_with (fail)
    (try simp only [Exit.inBlock, Exit.then])
    have B9' := (HB2.out).set5 (v0 := .int .u32 0) (v1 := .int .u64 0) (v2 := .int .i64 0) (v3 := .string ⟨#[]⟩) (v4 := .slice none 0 0)
    have r0 := B9'.cell 0
    have r1 := B9'.cell 1
    have r2 := B9'.cell 2
    have r3 := B9'.cell 3
    have r4 := B9'.cell 4
    simp at r0 r1 r2 r3 r4
    refine bodyPost_ret (v := .tuple #[.agg #[.int .u32 0, .int .u64 0, .int .i64 0, .string ⟨#[]⟩, .slice none 0 0], .int .i64 se]) (by simp [results, Tryz.results73, go_sem, r0, r1, r2, r3, r4]) rfl ?_
    exact fet_none HD.out rfl (((((HBW2.out.setCell (Nat.le_refl _) _).setCell (Nat.le_refl _) _).setCell (Nat.le_refl _) _).setCell (Nat.le_refl _) _).setCell (Nat.le_refl _) _)
end
end Go.Proofs.YtnghgkaoopcglaaGreat
