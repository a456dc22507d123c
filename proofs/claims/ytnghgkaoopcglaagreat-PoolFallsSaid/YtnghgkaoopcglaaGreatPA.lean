/-
  The walks of pool.New and of copied.
-/
import Derived.Test.YtnghgkaoopcglaaGreatKP
import Derived.Test.YtnghgkaoopcglaaGreatKS
import Derived.Test.YtnghgkaoopcglaaGreatQ3a
import Derived.Test.YtnghgkaoopcglaaGreatV2
import Derived.Handy
namespace Go.Proofs.YtnghgkaoopcglaaGreat
open Go.RowKit
attribute [local go_sem ↓] Go.wp_at_zero Go.wp_at_succ

theorem cloneStr_c {w : World} {sv : Value} {l : List ByteArray} (h : Reads w sv l) (hl : l.length ≤ 1000000) : Calls Tryz.prog 128 #[sv] w fun e w' => ∃ sv', e = .returned sv' ∧ Reads w' sv' l ∧ (∀ k, sv'.ownBlock = some k → w.heap.size ≤ k) ∧ Below w.heap.size w w' := by
  rcases h with ⟨rfl, rfl⟩ | ⟨b, cap, rfl, h1, h2, h3, h4⟩
  · exact (Tryz.slices_Clone_string_nil 0 0 w).mono fun e w' ⟨he, hw⟩ => ⟨_, he, .inl ⟨rfl, rfl⟩, fun k hk => by simp [Value.ownBlock] at hk, by rw [hw]; exact Below.refl _ _⟩
  · have := Tryz.slices_Clone_string b 0 l.length cap l w (Nat.le_refl _) (by omega) (fun j hj => by
      rw [Nat.zero_add]
      exact h4 j _ (by rw [List.getD_eq_getElem?_getD, List.getElem?_eq_getElem hj]; rfl))
    refine this.mono fun e w' ⟨v', he, ho, _, hb⟩ => ⟨v', he, ?_, fun k hk => (ho.lt k hk).1, hb⟩
    rw [List.take_length] at ho
    exact Reads.of_own ho
set_option maxRecDepth 100000 in
set_option maxHeartbeats 2000000 in
theorem copied_c {w : World} {sv : Value} {x : Sh} (h : Reads w sv x.slots) (hl : x.slots.length ≤ 1000000) : Calls Tryz.prog 71 #[ShV x sv] w fun e w' => ∃ sv', e = .returned (ShV x sv') ∧ Reads w' sv' x.slots ∧ (∀ k, sv'.ownBlock = some k → w.heap.size ≤ k) ∧ Below w.heap.size w w' := by
  obtain ⟨num, lsn, kind, head, slots⟩ := x
  simp only at *
  obtain ⟨sa, sc, rfl⟩ := h.form
  unfold ShV
  simp only
  have HR := Lib.hid h
  have HL := Lib.hid hl
  clear h hl
  obtain ⟨w1, hw1⟩ : ∃ w1, (w.alloc (.cells #[.int .u32 (num : Int), .int .u64 (lsn : Int), .int .i64 kind, .string head, .slice sa slots.length sc] 84)).alloc (.cells #[.int .u32 0, .int .u64 0, .int .i64 0, .string ⟨#[]⟩, .slice none 0 0] 84) = w1 := ⟨_, rfl⟩
  have hA := Blk.new w 84 #[.int .u32 (num : Int), .int .u64 (lsn : Int), .int .i64 kind, .string head, .slice sa slots.length sc]
  have hB := Blk.new (w.alloc (.cells #[.int .u32 (num : Int), .int .u64 (lsn : Int), .int .i64 kind, .string head, .slice sa slots.length sc] 84)) 84 #[.int .u32 0, .int .u64 0, .int .i64 0, .string ⟨#[]⟩, .slice none 0 0]
  have hA' := hA.alloc (.cells #[.int .u32 0, .int .u64 0, .int .i64 0, .string ⟨#[]⟩, .slice none 0 0] 84)
  rw [hw1] at hB hA'
  have hsz : (w.alloc (.cells #[.int .u32 (num : Int), .int .u64 (lsn : Int), .int .i64 kind, .string head, .slice sa slots.length sc] 84)).heap.size = w.heap.size + 1 := by simp
  rw [hsz] at hB
  have hbw : Below w.heap.size w w1 := by rw [← hw1]; exact ((Below.refl _ _).alloc (Nat.le_refl _) _).alloc (by simp) _
  have HW := Lib.hid hw1
  have HA := Lib.hid hA'
  have HB := Lib.hid hB
  have HBW := Lib.hid hbw
  have HC := Lib.hid (cloneStr_c (HR.out.below hbw) HL.out)
  clear hw1 hA hB hA' hsz hbw
  have c4 : w1.cell? ⟨w.heap.size, 4, none⟩ = some (.slice sa slots.length sc) := HA.out.cell 4
  go_enter Tryz.func71, Tryz.ntmps71
  go_wp2_with (fail)
  rw [HW.out]
  refine HC.out.mono ?_
  rintro e w2 ⟨sv', rfl, hr2, ho2, hb2⟩
  obtain ⟨sa2, sc2, rfl⟩ := hr2.form
  have hA2 := HA.out.same (hb2.block _ HA.out.lt)
  have hB2 := HB.out.same (hb2.block _ HB.out.lt)
  have hne : w.heap.size + 1 ≠ w.heap.size := by omega
  have a0 : w2.cell? ⟨w.heap.size, 0, none⟩ = some (.int .u32 (num : Int)) := hA2.cell 0
  have a1 : w2.cell? ⟨w.heap.size, 1, none⟩ = some (.int .u64 (lsn : Int)) := hA2.cell 1
  have a2 : w2.cell? ⟨w.heap.size, 2, none⟩ = some (.int .i64 kind) := hA2.cell 2
  have a3 : w2.cell? ⟨w.heap.size, 3, none⟩ = some (.string head) := hA2.cell 3
  have a4 : w2.cell? ⟨w.heap.size, 4, none⟩ = some (.slice sa slots.length sc) := hA2.cell 4
  have z4 : w2.frozen? ⟨w.heap.size, 4, none⟩ = false := hA2.frozen 4
  have b0 : w2.cell? ⟨w.heap.size + 1, 0, none⟩ = some (.int .u32 0) := hB2.cell 0
  have b1 : w2.cell? ⟨w.heap.size + 1, 1, none⟩ = some (.int .u64 0) := hB2.cell 1
  have b2 : w2.cell? ⟨w.heap.size + 1, 2, none⟩ = some (.int .i64 0) := hB2.cell 2
  have b3 : w2.cell? ⟨w.heap.size + 1, 3, none⟩ = some (.string ⟨#[]⟩) := hB2.cell 3
  have b4 : w2.cell? ⟨w.heap.size + 1, 4, none⟩ = some (.slice none 0 0) := hB2.cell 4
  have y0 : w2.frozen? ⟨w.heap.size + 1, 0, none⟩ = false := hB2.frozen 0
  have y1 : w2.frozen? ⟨w.heap.size + 1, 1, none⟩ = false := hB2.frozen 1
  have y2 : w2.frozen? ⟨w.heap.size + 1, 2, none⟩ = false := hB2.frozen 2
  have y3 : w2.frozen? ⟨w.heap.size + 1, 3, none⟩ = false := hB2.frozen 3
  have y4 : w2.frozen? ⟨w.heap.size + 1, 4, none⟩ = false := hB2.frozen 4
  have HB2 := Lib.hid hB2
  have HR2 := Lib.hid hr2
  have HO2 := Lib.hid ho2
  have HBL2 : Hid (Below w.heap.size w w2) := HBW.out.trans (hb2.mono HBW.out.size)
  have HS1 : Hid (w.heap.size + 2 ≤ w1.heap.size) := by show _ ≤ _; have := HB.out.lt; omega
  clear hA2 hB2 hr2 ho2 hb2 c4 HA HB HC HR HL HW
  go_wp2_with (fail)
  (try simp only [Exit.inBlock, Exit.then])
  have hB3 : Blk (w2.setCell ⟨w.heap.size, 4, none⟩ (.slice sa2 slots.length sc2)) (w.heap.size + 1) 84 #[.int .u32 0, .int .u64 0, .int .i64 0, .string ⟨#[]⟩, .slice none 0 0] := HB2.out.far (by simp only; omega) _
  have B9' := hB3.set5 (v0 := .int .u32 (num : Int)) (v1 := .int .u64 (lsn : Int)) (v2 := .int .i64 kind) (v3 := .string head) (v4 := .slice sa2 slots.length sc2)
  have q0 := B9'.cell 0
  have q1 := B9'.cell 1
  have q2 := B9'.cell 2
  have q3 := B9'.cell 3
  have q4 := B9'.cell 4
  simp at q0 q1 q2 q3 q4
  refine bodyPost_ret (v := .agg #[.int .u32 (num : Int), .int .u64 (lsn : Int), .int .i64 kind, .string head, .slice sa2 slots.length sc2]) (by simp [results, Tryz.results71, go_sem, q0, q1, q2, q3, q4]) rfl ?_
  refine ⟨_, rfl, HR2.out.same fun k hk => ?_, fun k hk => Nat.le_trans HBW.out.size (HO2.out k hk), (((((HBL2.out.setCell (Nat.le_refl _) _).setCell (by simp only; omega) _).setCell (by simp only; omega) _).setCell (by simp only; omega) _).setCell (by simp only; omega) _).setCell (by simp only; omega) _⟩
  have h5 := HO2.out k hk
  have h6 := HS1.out
  rw [Below.heap_setCell _ _ _ _ (by simp only; omega), Below.heap_setCell _ _ _ _ (by simp only; omega), Below.heap_setCell _ _ _ _ (by simp only; omega), Below.heap_setCell _ _ _ _ (by simp only; omega), Below.heap_setCell _ _ _ _ (by simp only; omega), Below.heap_setCell _ _ _ _ (by simp only; omega)]

/-- a new pool -/
theorem PoolIn.new {w w1 : World} (b lb most : Nat) (h1 : 1 ≤ most) (h2 : most ≤ 65536) (hw : (w.alloc (.map #[] 0)).alloc (.cells (poCells b lb w.heap.size (.slice none 0 0) (Po.new most)) 160) = w1) : PoolIn w1 (fun r => r = w.heap.size ∨ r = w.heap.size + 1) (w.heap.size + 1) b lb w.heap.size (.slice none 0 0) [] (Po.new most) := by
  have hsz : w1.heap.size = w.heap.size + 2 := by rw [← hw]; simp
  refine ⟨?_, ?_, .nil, .inr rfl, .inl rfl, fun r hr => by omega, .inl ⟨rfl, rfl⟩, Nat.zero_le _, h1, h2, fun p hp => by simp [Po.new] at hp⟩
  · have := Blk.new (w.alloc (.map #[] 0)) 160 (poCells b lb w.heap.size (.slice none 0 0) (Po.new most))
    rw [hw] at this
    have e : (w.alloc (.map #[] 0)).heap.size = w.heap.size + 1 := by simp
    rwa [e] at this
  · have h3 : MapL (w.alloc (.map #[] 0)) w.heap.size [] := MapL.made w
    rw [← hw]
    exact h3.same (Below.heap_alloc _ _ _ (by simp))
set_option maxRecDepth 100000 in
set_option maxHeartbeats 1000000 in
theorem poolNew_c {w : World} {F G : Nat → Prop} {b lb : Nat} {m : Dk} {g : Lg} (h : BothIn w F G b lb m g) (most : Nat) (h1 : 4 ≤ most) (h2 : most ≤ 256) :
    Calls Tryz.prog 33 #[.pointer (some ⟨b, 0, none⟩), .pointer (some ⟨lb, 0, none⟩), .int .i64 (most : Int)] w fun e w' => e = .returned (.tuple #[.pointer (some ⟨w.heap.size + 1, 0, none⟩), .int .i64 0]) ∧
      PX w' (fun r => (F r ∨ G r) ∨ r = w.heap.size ∨ r = w.heap.size + 1) b lb (w.heap.size + 1) m g (Po.new most) ∧ Below w.heap.size w w' := by
  have hmm := @run_makeMap Tryz.prog
  obtain ⟨w1, hw1⟩ : ∃ w1, (w.alloc (.map #[] 0)).alloc (.cells (poCells b lb w.heap.size (.slice none 0 0) (Po.new most)) 160) = w1 := ⟨_, rfl⟩
  have hP := PoolIn.new b lb most (by omega) (by omega) hw1
  have hB : Below w.heap.size w w1 := by rw [← hw1]; exact ((Below.refl _ _).alloc (Nat.le_refl _) _).alloc (by simp) _
  have HX : Hid (PX w1 (fun r => (F r ∨ G r) ∨ r = w.heap.size ∨ r = w.heap.size + 1) b lb (w.heap.size + 1) m g (Po.new most)) := by
    refine ⟨F, G, _, _, _, _, h.below hB, hP, fun r hr hf => ?_, fun r hr => hr⟩
    have : r < w.heap.size := by
      rcases hf with hf | hf
      · exact h.dsk.lt r hf
      · exact h.wal.lt r hf
    omega
  have HB := Lib.hid hB
  have HW := Lib.hid hw1
  clear hP hB hw1 h
  go_enter Tryz.func33, Tryz.ntmps33
  go_wp2
  go_ret2
  refine ⟨rfl, ?_⟩
  have := HW.out
  unfold poCells Po.new at this
  simp only at this
  rw [this]
  exact ⟨HX.out, HB.out⟩
end Go.Proofs.YtnghgkaoopcglaaGreat
