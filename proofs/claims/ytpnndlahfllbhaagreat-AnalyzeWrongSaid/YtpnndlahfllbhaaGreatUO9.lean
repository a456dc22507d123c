/-
  The walk of analyze.Run.
-/
import Derived.Test.YtpnndlahfllbhaaGreatUO8
import Derived.Test.YtpnndlahfllbhaaGreatUO5
import Derived.Test.YtpnndlahfllbhaaGreatUN8
import Derived.Test.YtpnndlahfllbhaaGreatUY2
import Derived.Test.YtpnndlahfllbhaaGreatUJ3
namespace Go.Proofs.YtpnndlahfllbhaaGreat
open Go Go.RowKit
attribute [local go_sem ↓] Go.wp_at_zero Go.wp_at_succ

/-! plain -/
noncomputable def runA (p : Nat) : List ByteArray → An → Option An
  | [], a => some a
  | s :: l, a => if (recE s).2 = 0 then runA (p + s.size + 12) l ((a.step p (recE s).1).next) else none
/-- while the log is gone through -/
structure RunSt (w : World) (a : An) (W : World) : Prop where
  an : AnIn W (w.heap.size + 3) (w.heap.size + 1) (w.heap.size + 2) a
  base : Below w.heap.size w W
  rbx : Blk W w.heap.size 33 #[.slice none 0 0, .slice none 0 0, .int .u64 0, .int .i64 0, .int .i64 0]
structure RunBd (a : An) (i : Nat) : Prop where
  ok : a.ok
  l1 : a.txs.length ≤ 65 * i
  l2 : a.dirty.length ≤ 257 * i
  l3 : a.recs ≤ i
theorem RunBd.zero (i : Nat) : RunBd An.zero i := ⟨An.ok.zero, Nat.zero_le _, Nat.zero_le _, Nat.zero_le _⟩
theorem RunBd.next {a : An} {i : Nat} (h : RunBd a i) {r : Rc} (hr : r.ok) (hm : r.mild) {n : Nat} (hn : n < 18446744073709551616) : RunBd (a.step n r).next (i + 1) := by
  obtain ⟨h1, h2, h3⟩ := step_len hr a n
  have b1 := h.l1
  have b2 := h.l2
  have b3 := h.l3
  refine ⟨(h.ok.step hr hm hn).next, ?_, ?_, ?_⟩
  · show (a.step n r).txs.length ≤ _; omega
  · show (a.step n r).dirty.length ≤ _; omega
  · show (a.step n r).recs + 1 ≤ _; omega
def RunPost (w : World) (R : Option An) (en : Nat) (e : Ending) (W : World) : Prop :=
  match R with
  | some a => ∃ tv dv, e = .returned (.tuple #[FoundV a.most a.recs (redoOf en a.dirty) tv dv, .int .i64 0]) ∧ Told w a en tv dv W
  | none => e = .returned (.tuple #[FoundV 0 0 0 (.slice none 0 0) (.slice none 0 0), .int .i64 40]) ∧ Below w.heap.size w W
section
variable {w W W' : World} {a : An}
theorem RunSt.below (h : RunSt w a W) (hb : Below W.heap.size W W') : RunSt w a W' := ⟨h.an.below hb, h.base.trans (hb.mono h.base.size), h.rbx.same (hb.block _ h.rbx.lt)⟩
theorem RunSt.step (h : RunSt w a W) {a' : An} (ha : AnIn W' (w.heap.size + 3) (w.heap.size + 1) (w.heap.size + 2) a') (hs : Step (GA (w.heap.size + 3) (w.heap.size + 1) (w.heap.size + 2)) W W') : RunSt w a' W' :=
  ⟨ha, h.base.trans (hs.belowB (fun r hr => by rcases hr with rfl | rfl | rfl <;> omega) h.base.size), h.rbx.same (hs.block _ h.rbx.lt (by rintro (e | e | e) <;> omega))⟩
theorem RunSt.setRecs (h : RunSt w a W) : RunSt w a.next (W.setCell ⟨w.heap.size + 3, 6, none⟩ (.int .i64 ((a.recs : Int) + 1))) :=
  ⟨h.an.setRecs, h.base.setCell (by simp) _, h.rbx.same (Below.heap_setCell _ _ _ _ (by simp))⟩
theorem RunSt.made (w : World) : RunSt w An.zero ((((w.alloc (.cells #[.slice none 0 0, .slice none 0 0, .int .u64 0, .int .i64 0, .int .i64 0] 33)).alloc (.map #[] 0)).alloc (.map #[] 0)).alloc (.cells #[.map (some (w.heap.size + 1)), .map (some (w.heap.size + 2)), .slice none 0 0, .slice none 0 0, .int .u64 0, .int .i64 0, .int .i64 0] 178)) := by
  generalize h1 : w.alloc (.cells #[.slice none 0 0, .slice none 0 0, .int .u64 0, .int .i64 0, .int .i64 0] 33) = w1
  have z1 : w1.heap.size = w.heap.size + 1 := by rw [← h1]; simp
  have b1 : Blk w1 w.heap.size 33 #[.slice none 0 0, .slice none 0 0, .int .u64 0, .int .i64 0, .int .i64 0] := by rw [← h1]; exact Blk.new w _ _
  have c1 : Below w.heap.size w w1 := by rw [← h1]; exact (Below.refl _ _).alloc (Nat.le_refl _) _
  have m1 := MapT.made w1
  rw [z1] at m1
  generalize h2 : w1.alloc (.map #[] 0) = w2 at *
  have z2 : w2.heap.size = w.heap.size + 2 := by rw [← h2]; simp [z1]
  have c2 : Below w1.heap.size w1 w2 := by rw [← h2]; exact (Below.refl _ _).alloc (Nat.le_refl _) _
  have m2 := MapL.made w2
  rw [z2] at m2
  generalize h3 : w2.alloc (.map #[] 0) = w3 at *
  have z3 : w3.heap.size = w.heap.size + 3 := by rw [← h3]; simp [z2]
  have c3 : Below w2.heap.size w2 w3 := by rw [← h3]; exact (Below.refl _ _).alloc (Nat.le_refl _) _
  have b4 := Blk.new w3 178 #[.map (some (w.heap.size + 1)), .map (some (w.heap.size + 2)), .slice none 0 0, .slice none 0 0, .int .u64 0, .int .i64 0, .int .i64 0]
  rw [z3] at b4
  have c4 : Below w3.heap.size w3 (w3.alloc (.cells #[.map (some (w.heap.size + 1)), .map (some (w.heap.size + 2)), .slice none 0 0, .slice none 0 0, .int .u64 0, .int .i64 0, .int .i64 0] 178)) := (Below.refl _ _).alloc (Nat.le_refl _) _
  refine ⟨⟨b4, ?_, ?_, by omega, by omega, by omega⟩, ?_, ?_⟩
  · exact (m1.same (c3.block _ (by omega))).same (c4.block _ (by omega))
  · exact m2.same (c4.block _ (by omega))
  · exact ((c1.trans (c2.mono (by omega))).trans (c3.mono (by omega))).trans (c4.mono (by omega))
  · exact ((b1.same (c2.block _ (by omega))).same (c3.block _ (by omega))).same (c4.block _ (by omega))
end
section
variable {w : World} {G : Nat → Prop} {lb db : Nat} {g : Lg}
set_option maxRecDepth 100000 in
set_option maxHeartbeats 8000000 in
theorem anRun_c (h : WalAt w G lb db g) (i0 : Nat) (hi0 : i0 ≤ g.recs.length) (hmk : max g.marks 1 = pl g.recs i0) :
    Calls Tryz.prog 18 #[.pointer (some ⟨lb, 0, none⟩)] w (RunPost w (runA (pl g.recs i0) (g.recs.drop i0) An.zero) g.end_) := by
  have HW := Lib.hid h
  have HG := Lib.hid h.ok
  obtain ⟨R, hR⟩ : ∃ R, R = runA (pl g.recs i0) (g.recs.drop i0) An.zero := ⟨_, rfl⟩
  rw [← hR]
  have HR0 := Lib.hid hR
  have HI0 := Lib.hid hi0
  have HS0 := Lib.hid (RunSt.made w)
  have hmk2 : max (g.marks : Int) 1 = ((pl g.recs i0 : Nat) : Int) := by rw [← hmk]; omega
  have HM := fun W (hb : Below w.heap.size w W) => Lib.hid (lmaster_c (h.below hb))
  have HE := fun W (hb : Below w.heap.size w W) => Lib.hid (lend_c (h.below hb))
  clear h hi0 hR hmk
  generalize hpost : RunPost w R g.end_ = Post
  have HPOST := Lib.hid hpost
  clear hpost
  have hmm := @run_makeMap Tryz.prog
  go_enter Tryz.func18, Tryz.ntmps18
  go_wp2_with (fail)
  obtain ⟨W0, hW0⟩ : ∃ W0, ((((w.alloc (.cells #[.slice none 0 0, .slice none 0 0, .int .u64 0, .int .i64 0, .int .i64 0] 33)).alloc (.map #[] 0)).alloc (.map #[] 0)).alloc (.cells #[.map (some (w.heap.size + 1)), .map (some (w.heap.size + 1 + 1)), .slice none 0 0, .slice none 0 0, .int .u64 0, .int .i64 0, .int .i64 0] 178)) = W0 := ⟨_, rfl⟩
  have HS1 : Hid (RunSt w An.zero W0) := by rw [← hW0]; exact HS0.out
  rw [hW0]
  clear HS0 hW0 hmm
  refine (HM W0 HS1.out.base).out.mono ?_
  rintro e w1 ⟨rfl, rfl⟩
  clear HM
  go_wp2_with (fail)
  have HB0 := Lib.hid (RunBd.zero i0)
  go_loopw [5] (fun v wr => ∃ (i : Nat) (a : An), v = .int .u64 (pl g.recs i : Int) ∧ i ≤ g.recs.length ∧ Hid (RunSt w a wr) ∧ Hid (RunBd a i) ∧ Hid (R = runA (pl g.recs i) (g.recs.drop i) a)) (fun v _ => g.end_ - (intOf v).toNat)
  case atStart => exact ⟨i0, _, rfl, HI0.out, HS1, HB0, HR0⟩
  case round =>
    obtain ⟨i, a, rfl, hi, HS, HB, HR⟩ := hrel
    have HEW := HE wr HS.out.base
    by_cases hil : i < g.recs.length
    · obtain ⟨s, hs⟩ : ∃ s, g.recs[i]? = some s := ⟨_, List.getElem?_eq_getElem hil⟩
      have hlt : (pl g.recs i : Int) < (g.end_ : Int) := by
        have := pl_lt hil (Nat.le_refl _)
        rw [pl_end] at this
        omega
      have HGT := Lib.hid (get_at (HW.out.below HS.out.base) hs)
      go_wp2_with (fail)
      refine HEW.out.mono ?_
      rintro e w1 ⟨rfl, rfl⟩
      go_wp2_with (fail)
      refine HGT.out.mono ?_
      rintro e w2 ⟨rfl, q, rfl⟩
      have HS2 := Lib.hid (HS.out.below (below_drewN w1 q))
      have hss := HG.out.recs s (List.mem_of_getElem? hs)
      obtain ⟨⟨x, c⟩, hx⟩ : ∃ q, q = recE s := ⟨_, rfl⟩
      have HD : Hid (Calls Tryz.prog 22 #[.string s] (w1.drewN q) (RecPost (w1.drewN q) s)) := recDecode_c (by omega)
      unfold RecPost at HD
      rw [← hx] at HD
      simp only at HD
      have HX := Lib.hid hx
      have HSI := Lib.hid hs
      clear hx hs hss HGT HEW hlt HS
      go_upto_region 7 with (fail)
      refine wp_region_lit ?_
      refine wpList_plain (by rfl) fun K hK => ?_
      go_simp
      refine hK _ _ ?_
      clear hK K
      refine wpList_plain (by rfl) fun K hK => ?_
      go_simp
      refine HD.out.mono ?_
      rintro e w3 ⟨tv, dv, rfl, hra, hb3, htn, hdn⟩
      refine hK _ _ ?_
      clear hK K HD
      have HS3 := Lib.hid (HS2.out.below hb3)
      obtain ⟨ta, tc, rfl⟩ := hra.txs.form
      obtain ⟨da, dc, rfl⟩ := hra.dirty.form
      have HRA := Lib.hid hra
      have HFR : Hid ((∀ k, (Value.slice ta x.txs.length tc).ownBlock = some k → k ≠ w.heap.size + 3 ∧ k ≠ w.heap.size + 1 ∧ k ≠ w.heap.size + 2) ∧ ∀ k, (Value.slice da x.dirty.length dc).ownBlock = some k → k ≠ w.heap.size + 3 ∧ k ≠ w.heap.size + 1 ∧ k ≠ w.heap.size + 2) := by
        have h3 := HS2.out.an.lt
        exact ⟨fun k hk => by have := htn k hk; omega, fun k hk => by have := hdn k hk; omega⟩
      clear hra hb3 htn hdn HS2
      refine wpList_plain (by rfl) fun K hK => ?_
      go_simp
      refine hK _ _ ?_
      clear hK K
      refine wpList_plain (by rfl) fun K hK => ?_
      go_simp
      refine hK _ _ ?_
      clear hK K
      refine wpList_plain (by rfl) fun K hK => ?_
      go_simp
      refine hK _ _ ?_
      clear hK K
      refine wpList_plain (by rfl) fun K hK => ?_
      go_simp
      refine hK _ _ ?_
      clear hK K
      have hga := heap_alloc_new w3 (.cells #[.int .i64 0, .int .i64 0, .int .u64 0, .int .u64 0, .int .u32 0, .int .i64 0, .int .i64 0, .string ⟨#[]⟩, .string ⟨#[]⟩, .int .i64 0, .int .i64 0, .string ⟨#[]⟩, .int .u32 0, .int .i64 0, .bool false, .slice none 0 0, .slice none 0 0] 63)
      refine wpList_store_row (by rfl) _ _ _ (by rfl) w3.heap.size 63 (recC x (.slice ta x.txs.length tc) (.slice da x.dirty.length dc)).toArray #[.int .i64 0, .int .i64 0, .int .u64 0, .int .u64 0, .int .u32 0, .int .i64 0, .int .i64 0, .string ⟨#[]⟩, .string ⟨#[]⟩, .int .i64 0, .int .i64 0, .string ⟨#[]⟩, .int .u32 0, .int .i64 0, .bool false, .slice none 0 0, .slice none 0 0] (by rfl) (by rfl) hga (by kernel_rfl) (by rfl) (by simp [recC, Value.oneCell']) ?_
      have HB4 := Lib.hid (belowRow (cs := (recC x (.slice ta x.txs.length tc) (.slice da x.dirty.length dc)).toArray) ((Below.refl _ w3).alloc (Nat.le_refl _) (.cells #[.int .i64 0, .int .i64 0, .int .u64 0, .int .u64 0, .int .u32 0, .int .i64 0, .int .i64 0, .string ⟨#[]⟩, .string ⟨#[]⟩, .int .i64 0, .int .i64 0, .string ⟨#[]⟩, .int .u32 0, .int .i64 0, .bool false, .slice none 0 0, .slice none 0 0] 63)) hga)
      have HK4 : Hid (Blk ((w3.alloc (.cells #[.int .i64 0, .int .i64 0, .int .u64 0, .int .u64 0, .int .u32 0, .int .i64 0, .int .i64 0, .string ⟨#[]⟩, .string ⟨#[]⟩, .int .i64 0, .int .i64 0, .string ⟨#[]⟩, .int .u32 0, .int .i64 0, .bool false, .slice none 0 0, .slice none 0 0] 63)).setRow w3.heap.size (recC x (.slice ta x.txs.length tc) (.slice da x.dirty.length dc)).toArray) w3.heap.size 63 (recC x (.slice ta x.txs.length tc) (.slice da x.dirty.length dc)).toArray) := setRow_heap (w3.alloc (.cells #[.int .i64 0, .int .i64 0, .int .u64 0, .int .u64 0, .int .u32 0, .int .i64 0, .int .i64 0, .string ⟨#[]⟩, .string ⟨#[]⟩, .int .i64 0, .int .i64 0, .string ⟨#[]⟩, .int .u32 0, .int .i64 0, .bool false, .slice none 0 0, .slice none 0 0] 63)) w3.heap.size _ _ _ _ hga
      clear hga
      generalize (w3.alloc (.cells #[.int .i64 0, .int .i64 0, .int .u64 0, .int .u64 0, .int .u32 0, .int .i64 0, .int .i64 0, .string ⟨#[]⟩, .string ⟨#[]⟩, .int .i64 0, .int .i64 0, .string ⟨#[]⟩, .int .u32 0, .int .i64 0, .bool false, .slice none 0 0, .slice none 0 0] 63)).setRow w3.heap.size (recC x (.slice ta x.txs.length tc) (.slice da x.dirty.length dc)).toArray = w4 at *
      refine wpList_plain (by rfl) fun K hK => ?_
      go_simp
      refine hK _ _ ?_
      clear hK K
      have HS4 := Lib.hid (HS3.out.below HB4.out)
      rcases recE_ok HX.out.symm with ⟨rfl, hok⟩ | ⟨rfl, rfl⟩
      · have HRN : Hid (R = runA (pl g.recs (i + 1)) (g.recs.drop (i + 1)) (a.step (pl g.recs i) x).next) := by
          show _ = _
          obtain ⟨hl, he⟩ := List.getElem?_eq_some_iff.1 HSI.out
          rw [HR.out, List.drop_eq_getElem_cons hl, he, runA, ← HX.out, if_pos rfl, pl_next HSI.out]
        have HAB : Hid (pl g.recs i < g.end_ ∧ pl g.recs i < pl g.recs (i + 1)) := by
          have h1 := pl_lt hil (Nat.le_refl _)
          rw [pl_end] at h1
          have h2 := pl_next HSI.out
          exact ⟨by omega, by omega⟩
        have HBN := Lib.hid (HB.out.next hok HRA.out.mild (n := pl g.recs i) (by have := HAB.out; have := HG.out.end_le; omega))
        have HBL : Hid (a.txs.length ≤ 900000000 ∧ a.dirty.length ≤ 900000000) := by
          have h1 := HB.out.l1
          have h2 := HB.out.l2
          have h3 := HG.out.length
          exact ⟨by omega, by omega⟩
        have HREC := Lib.hid (anRecord_w HS4.out.an hok HRA.out.mild (pl g.recs i) (HRA.out.txs.below HB4.out) (HRA.out.dirty.below HB4.out) HFR.out.1 HFR.out.2 HBL.out)
        have HIL := Lib.hid hil
        clear hok HBL HB HR HX hil hi HRA HFR
        go_upto_region 10 with (fail)
        refine wp_region_lit ?_
        refine wpList_plain (by rfl) fun K hK => ?_
        go_simp
        refine hK _ _ ?_
        clear hK K
        refine wpList_plain (by rfl) fun K hK => ?_
        go_simp
        refine hK _ _ ?_
        clear hK K
        refine wpList_load_row (by first | rfl | (simp [Region.wanted, yielded])) _ _ (by rfl) w3.heap.size 63 (recC x (.slice ta x.txs.length tc) (.slice da x.dirty.length dc)).toArray _ (by rfl) HK4.out Tryz.underlying63 (by rfl) (by kernel_rfl) ?_
        go_wp2_with (fail)
        refine HREC.out.mono ?_
        rintro e w5 ⟨rfl, ha, hst⟩
        have HS5 := Lib.hid (HS4.out.step ha hst)
        clear ha hst HREC HS4 HS3 HK4 HB4
        generalize a.step (pl g.recs i) x = a2 at *
        have c6 : w5.cell? ⟨w.heap.size + 1 + 1 + 1, 6, none⟩ = some (.int .i64 (a2.recs : Int)) := HS5.out.an.wk.cell 6
        have f6 : w5.frozen? ⟨w.heap.size + 1 + 1 + 1, 6, none⟩ = false := HS5.out.an.wk.frozen 6
        have hrc : a2.recs + 1 ≤ 400000 := by
          have h1 : a2.recs + 1 ≤ i + 1 := HBN.out.l3
          have h3 := HG.out.length
          have h4 := HIL.out
          omega
        have ew : IntKind.i64.wrap ((a2.recs : Int) + 1) = (a2.recs : Int) + 1 := IntWalk.i64_in _ (by omega)
        have HS6 : Hid (RunSt w a2.next (w5.setCell ⟨w.heap.size + 1 + 1 + 1, 6, none⟩ (.int .i64 ((a2.recs : Int) + 1)))) := HS5.out.setRecs
        have HRC := Lib.hid hrc
        clear hrc HS5
        go_wp2_with (fail)
        go_roundw
        case rel => exact ⟨i + 1, a2.next, rfl, HIL.out, HS6, HBN, HRN⟩
        case measure => have := HAB.out; simp [intOf]; omega
      · have HRN : Hid (R = none) := by
          show _ = _
          obtain ⟨hl, he⟩ := List.getElem?_eq_some_iff.1 HSI.out
          rw [HR.out, List.drop_eq_getElem_cons hl, he, runA, ← HX.out, if_neg (by decide)]
        have HZR : Hid (w4.heap[w.heap.size]? = some (.cells #[.slice none 0 0, .slice none 0 0, .int .u64 0, .int .i64 0, .int .i64 0] 33 (0, 0))) := HS4.out.rbx
        clear HX HR HSI HFR HRA HK4 HB4 HS3
        go_upto_region 9 with (fail)
        refine wp_region_lit ?_
        refine wpList_plain (by rfl) fun K hK => ?_
        go_simp
        refine hK _ _ ?_
        clear hK K
        refine wpList_store_row (by rfl) _ _ _ (by rfl) w.heap.size 33 #[.slice none 0 0, .slice none 0 0, .int .u64 0, .int .i64 0, .int .i64 0] #[.slice none 0 0, .slice none 0 0, .int .u64 0, .int .i64 0, .int .i64 0] (by rfl) (by rfl) HZR.out (by kernel_rfl) (by rfl) (by simp [Value.oneCell']) ?_
        go_wp2_with (fail)
        (try simp only [Exit.inBlock, Exit.then])
        have B9' : Blk (w4.setRow w.heap.size #[.slice none 0 0, .slice none 0 0, .int .u64 0, .int .i64 0, .int .i64 0]) w.heap.size 33 #[.slice none 0 0, .slice none 0 0, .int .u64 0, .int .i64 0, .int .i64 0] := setRow_heap w4 w.heap.size _ _ _ _ HZR.out
        have HBB : Hid (Below w.heap.size w (w4.setRow w.heap.size #[.slice none 0 0, .slice none 0 0, .int .u64 0, .int .i64 0, .int .i64 0])) := belowRow HS4.out.base HZR.out
        generalize w4.setRow w.heap.size #[.slice none 0 0, .slice none 0 0, .int .u64 0, .int .i64 0, .int .i64 0] = wz at *
        have r0 := B9'.cell 0
        have r1 := B9'.cell 1
        have r2 := B9'.cell 2
        have r3 := B9'.cell 3
        have r4 := B9'.cell 4
        simp at r0 r1 r2 r3 r4
        refine bodyPost_ret (v := .tuple #[.agg #[.slice none 0 0, .slice none 0 0, .int .u64 0, .int .i64 0, .int .i64 0], .int .i64 40]) (by simp [results, Tryz.results18, go_sem, r0, r1, r2, r3, r4]) rfl ?_
        rw [← HPOST.out, HRN.out]
        exact ⟨rfl, HBB.out⟩
    · obtain rfl : i = g.recs.length := by omega
      have HPE : Hid (pl g.recs g.recs.length = g.end_) := pl_end g
      have hpe := HPE.out
      have HRN : Hid (R = some a) := by
        show _ = _
        rw [HR.out, List.drop_length, runA]
      have HBL : Hid (a.txs.length ≤ 1000000000 ∧ a.dirty.length ≤ 1000000000) := by
        have h1 := HB.out.l1
        have h2 := HB.out.l2
        have h3 := HG.out.length
        exact ⟨by omega, by omega⟩
      have HT := Lib.hid (anTold_w HS.out.an HB.out.ok HBL.out.1 HBL.out.2 (.pointer (some ⟨lb, 0, none⟩)) g.end_ (fun W hb => (HE W (HS.out.base.trans (hb.mono HS.out.base.size))).out))
      clear HBL HR HB
      go_wp2_with (fail)
      refine HEW.out.mono ?_
      rintro e w1 ⟨rfl, rfl⟩
      go_upto_region 13 with (fail)
      refine wp_region_lit ?_
      refine wpList_plain (by rfl) fun K hK => ?_
      go_simp
      refine hK _ _ ?_
      clear hK K
      refine wpList_plain (by rfl) fun K hK => ?_
      go_simp
      refine hK _ _ ?_
      clear hK K
      refine wpList_plain (by rfl) fun K hK => ?_
      go_simp
      refine HT.out.mono ?_
      rintro e w2 ⟨tv, dv, rfl, ht⟩
      refine hK _ _ ?_
      clear hK K HT
      obtain ⟨ta, tc, rfl⟩ := ht.txs.form
      obtain ⟨da, dc, rfl⟩ := ht.dirty.form
      have HT2 := Lib.hid ht
      have HS2 : Hid (Below w.heap.size w w2) := HS.out.base.trans (ht.base.mono HS.out.base.size)
      have HZR : Hid (w2.heap[w.heap.size]? = some (.cells #[.slice none 0 0, .slice none 0 0, .int .u64 0, .int .i64 0, .int .i64 0] 33 (0, 0))) := (ht.base.block _ HS.out.rbx.lt).trans HS.out.rbx
      have HLT : Hid (w.heap.size < w1.heap.size) := HS.out.rbx.lt
      clear ht HS HE HEW
      unfold FoundV
      refine wpList_store_row (by rfl) _ _ _ (by rfl) w.heap.size 33 #[.slice ta (sndL a.txs).length tc, .slice da a.dirty.length dc, .int .u64 (redoOf g.end_ a.dirty : Int), .int .i64 (a.most : Int), .int .i64 (a.recs : Int)] #[.slice none 0 0, .slice none 0 0, .int .u64 0, .int .i64 0, .int .i64 0] (by rfl) (by rfl) HZR.out (by kernel_rfl) (by rfl) (by simp [Value.oneCell']) ?_
      go_wp2_with (fail)
      (try simp only [Exit.inBlock, Exit.then])
      have B9' : Blk (w2.setRow w.heap.size #[.slice ta (sndL a.txs).length tc, .slice da a.dirty.length dc, .int .u64 (redoOf g.end_ a.dirty : Int), .int .i64 (a.most : Int), .int .i64 (a.recs : Int)]) w.heap.size 33 #[.slice ta (sndL a.txs).length tc, .slice da a.dirty.length dc, .int .u64 (redoOf g.end_ a.dirty : Int), .int .i64 (a.most : Int), .int .i64 (a.recs : Int)] := setRow_heap w2 w.heap.size _ _ _ _ HZR.out
      have HSO : Hid (∀ q, q ≠ w.heap.size → (w2.setRow w.heap.size #[.slice ta (sndL a.txs).length tc, .slice da a.dirty.length dc, .int .u64 (redoOf g.end_ a.dirty : Int), .int .i64 (a.most : Int), .int .i64 (a.recs : Int)]).heap[q]? = w2.heap[q]?) := fun q hq => setRow_other _ _ _ _ hq
      have HBB : Hid (Below w.heap.size w (w2.setRow w.heap.size #[.slice ta (sndL a.txs).length tc, .slice da a.dirty.length dc, .int .u64 (redoOf g.end_ a.dirty : Int), .int .i64 (a.most : Int), .int .i64 (a.recs : Int)])) := belowRow HS2.out HZR.out
      generalize w2.setRow w.heap.size #[.slice ta (sndL a.txs).length tc, .slice da a.dirty.length dc, .int .u64 (redoOf g.end_ a.dirty : Int), .int .i64 (a.most : Int), .int .i64 (a.recs : Int)] = wz at *
      have r0 := B9'.cell 0
      have r1 := B9'.cell 1
      have r2 := B9'.cell 2
      have r3 := B9'.cell 3
      have r4 := B9'.cell 4
      simp at r0 r1 r2 r3 r4
      refine bodyPost_ret (v := .tuple #[.agg #[.slice ta (sndL a.txs).length tc, .slice da a.dirty.length dc, .int .u64 (redoOf g.end_ a.dirty : Int), .int .i64 (a.most : Int), .int .i64 (a.recs : Int)], .int .i64 0]) (by simp [results, Tryz.results18, go_sem, r0, r1, r2, r3, r4]) rfl ?_
      rw [← HPOST.out, HRN.out]
      exact ⟨_, _, rfl, HBB.out, HT2.out.txs.same (fun q hq => HSO.out _ (by have := HT2.out.tne q hq; have := HLT.out; omega)), HT2.out.dirty.same (fun q hq => HSO.out _ (by have := HT2.out.dne q hq; have := HLT.out; omega)), fun q hq => by have := HT2.out.tne q hq; have := HLT.out; omega, fun q hq => by have := HT2.out.dne q hq; have := HLT.out; omega⟩
end
end Go.Proofs.YtpnndlahfllbhaaGreat
