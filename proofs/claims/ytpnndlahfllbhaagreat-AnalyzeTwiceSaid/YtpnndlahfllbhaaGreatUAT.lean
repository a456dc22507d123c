/-
  The walk of girderlaw19.AnalyzeTwice.
-/
import Derived.Test.YtpnndlahfllbhaaGreatUAF
import Derived.Laws.StructEq
namespace Go.Proofs.YtpnndlahfllbhaaGreat
open Go Go.RowKit
attribute [local go_sem ↓] Go.wp_at_zero Go.wp_at_succ

/-- both answers of the program, while they are compared -/
structure FT (w0 : World) (fb gb : Nat) (ts : List Ts) (ds : List (Nat × Nat)) (most r1 e1 e2 : Nat) (tv dv ut ud : Value) (W : World) : Prop where
  base : Below w0.heap.size w0 W
  fbx : Blk W fb 33 #[tv, dv, .int .u64 (e1 : Int), .int .i64 (most : Int), .int .i64 (r1 : Int)]
  gbx : Blk W gb 33 #[ut, ud, .int .u64 (e2 : Int), .int .i64 (most : Int), .int .i64 ((2 : Nat) : Int)]
  tx : RdC 4 tsC W tv ts
  dx : RdC 2 dpC W dv ds
  ux : RdC 4 tsC W ut ts
  vx : RdC 2 dpC W ud ds
section
variable {w0 W W' : World} {fb gb : Nat} {ts : List Ts} {ds : List (Nat × Nat)} {most r1 e1 e2 : Nat} {tv dv ut ud : Value}
theorem FT.below (h : FT w0 fb gb ts ds most r1 e1 e2 tv dv ut ud W) (hb : Below W.heap.size W W') : FT w0 fb gb ts ds most r1 e1 e2 tv dv ut ud W' :=
  ⟨h.base.trans (hb.mono h.base.size), h.fbx.same (hb.block _ h.fbx.lt), h.gbx.same (hb.block _ h.gbx.lt), h.tx.below hb, h.dx.below hb, h.ux.below hb, h.vx.below hb⟩
theorem neqTs (t : Ts) (w : World) : (binOp .neq 44 (.agg #[.int .i64 t.tx, .int .i64 t.state, .int .u64 (t.last : Int), .int .u64 (t.next : Int)]) (.agg #[.int .i64 t.tx, .int .i64 t.state, .int .u64 (t.last : Int), .int .u64 (t.next : Int)])).run Tryz.prog w = .ok (.bool false) w := by
  have u3 := Tryz.underlying3
  have a3 := Tryz.isAgg3
  have z3 := Tryz.sizeOf3
  have u4 := Tryz.underlying31
  have a4 := Tryz.isAgg31
  have z4 := Tryz.sizeOf31
  have hS : Tryz.prog.underlying 44 = some (.struct (Tryz.prog.fieldsOf 44)) := by kernel_rfl
  have hp : Tryz.prog.stoodInHeld 44 = false := by kernel_rfl
  rw [run_neq_struct, show (10000 : Nat) = 9999 + 1 from rfl, run_equalIn_agg w 9999 44 _ _ hS hp]
  simp only [Program.fieldsOf, Tryz.underlying44]
  go_simp
theorem neqDp (t1 t2 : Nat) (w : World) : (binOp .neq 50 (.agg #[.int .u32 (t1 : Int), .int .u64 (t2 : Int)]) (.agg #[.int .u32 (t1 : Int), .int .u64 (t2 : Int)])).run Tryz.prog w = .ok (.bool false) w := by
  have u3 := Tryz.underlying48
  have a3 := Tryz.isAgg48
  have z3 := Tryz.sizeOf48
  have u4 := Tryz.underlying31
  have a4 := Tryz.isAgg31
  have z4 := Tryz.sizeOf31
  have hS : Tryz.prog.underlying 50 = some (.struct (Tryz.prog.fieldsOf 50)) := by kernel_rfl
  have hp : Tryz.prog.stoodInHeld 50 = false := by kernel_rfl
  rw [run_neq_struct, show (10000 : Nat) = 9999 + 1 from rfl, run_equalIn_agg w 9999 50 _ _ hS hp]
  simp only [Program.fieldsOf, Tryz.underlying50]
  go_simp
end
/-- the first answer, kept while the log goes on -/
def FTK (fb : Nat) (ts : List Ts) (ds : List (Nat × Nat)) (tv dv : Value) (r : Nat) : Prop := r = fb ∨ (ts ≠ [] ∧ tv.ownBlock = some r) ∨ (ds ≠ [] ∧ dv.ownBlock = some r)
structure FTP (fb : Nat) (ts : List Ts) (ds : List (Nat × Nat)) (most r1 e1 : Nat) (tv dv : Value) (W : World) : Prop where
  fbx : Blk W fb 33 #[tv, dv, .int .u64 (e1 : Int), .int .i64 (most : Int), .int .i64 (r1 : Int)]
  tx : RdC 4 tsC W tv ts
  dx : RdC 2 dpC W dv ds
theorem RdC.keepN {α : Type} {size : Nat} {f : α → List Value} {w w' : World} {v : Value} {l : List α} (h : RdC size f w v l) (hk : l ≠ [] → ∀ k, v.ownBlock = some k → w'.heap[k]? = w.heap[k]?) : RdC size f w' v l := by
  by_cases e : l = []
  · subst e
    obtain ⟨a, c, rfl⟩ := h.form
    exact RdC.nil _ _
  · exact h.same (hk e)
theorem stable_ft (fb : Nat) (ts : List Ts) (ds : List (Nat × Nat)) (most r1 e1 : Nat) (tv dv : Value) : Stable (FTK fb ts ds tv dv) (FTP fb ts ds most r1 e1 tv dv) := fun _ _ h hk =>
  ⟨h.fbx.same (hk _ (.inl rfl)), h.tx.keepN (fun hne k e => hk k (.inr (.inl ⟨hne, e⟩))), h.dx.keepN (fun hne k e => hk k (.inr (.inr ⟨hne, e⟩)))⟩
theorem gF_tight2 (l : List ByteArray) (mk : Nat) : (gF l mk).tight := by
  have := endFrom_length l 1
  show 0 + 1 ≤ endFrom 1 l
  omega
theorem try_any {g : Lg} {s : ByteArray} (hk : g.kept = 0) (h1 : 1 ≤ s.size) (h2 : s.size ≤ 8192) (h3 : g.end_ ≤ 4000000) : g.tryAdd s g.kept = g.add s ∧ addV g s g.kept = .tuple #[.int .u64 (g.end_ : Int), .int .i64 0] := by
  have e1 : ¬ badRec s := by unfold badRec; omega
  have e2 : ¬ addFull g s g.kept := by unfold addFull; omega
  unfold Lg.tryAdd addV
  rw [if_neg e1, if_neg e2, if_neg e1, if_neg e2]
  exact ⟨rfl, rfl⟩
theorem flushed_le (g : Lg) : g.flushed ≤ g.end_ := by
  unfold Lg.flushed
  by_cases h : g.sure < g.recs.length
  · rw [pl_get h]
    exact pl_le_end g (Nat.le_of_lt h)
  · rw [List.getElem?_eq_none (by rw [places_length]; omega)]
    exact Nat.le_refl _
/-- two records more, flushed -/
theorem two_flush (l : List ByteArray) (s t : ByteArray) : (((gF l 0).add s).add t).flush ((((gF l 0).add s).add t).end_ : Int) = gF (l ++ [s, t]) 0 := by
  unfold Lg.flush
  have h1 : ¬ ((((gF l 0).add s).add t).tail = ⟨#[]⟩ ∨ ((((gF l 0).add s).add t).end_ : Int) < ((((gF l 0).add s).add t).flushed : Int)) := by
    rintro (h | h)
    · have h2 : ((((gF l 0).add s).add t).tail).size = 0 := by rw [h]; rfl
      have h3 : (((gF l 0).add s).add t).tail = (⟨#[]⟩ ++ frameB (gF l 0).end_ s) ++ frameB ((gF l 0).add s).end_ t := rfl
      rw [h3, ByteArray.size_append, frameB_size] at h2
      omega
    · have h2 : (((gF l 0).add s).add t).flushed ≤ (((gF l 0).add s).add t).end_ := flushed_le _
      omega
  rw [if_neg h1]
  have e : (((gF l 0).add s).add t).recs = l ++ [s, t] := by
    show (l ++ [s]) ++ [t] = _
    simp
  show (⟨(((gF l 0).add s).add t).recs, (((gF l 0).add s).add t).recs.length, 0, ⟨#[]⟩, 0⟩ : Lg) = gF (l ++ [s, t]) 0
  rw [e]
  rfl
section
variable {w : World} {v : Value} {ls : List (Rc × Value × Value)}
set_option maxRecDepth 100000 in
set_option maxHeartbeats 8000000 in
theorem analyzeTwice_w (h : IsRecs w v ls) :
    Calls Tryz.prog 5 #[v] w fun e w' => e = .returned (.bool true) ∧ Below w.heap.size w w' := by
  obtain ⟨la, lc, rfl⟩ := h.1.form
  have HL := Lib.hid (laid19_c h (-1) (by omega))
  generalize ls.map (·.1) = rs at HL
  clear h
  have HA := fun W => Lib.hid (awake19_c W)
  go_enter Tryz.func5, Tryz.ntmps5
  go_wp2_with (fail)
  refine HL.out.mono ?_
  rintro e w1 ⟨b, lb, ov, qs, mk, i0, rfl, hLW, hR, hQ, hS, hi0, hmk, hneg⟩
  obtain ⟨rfl, rfl⟩ := hneg (by omega)
  obtain ⟨ks, hks⟩ : ∃ ks, keepR (rs.take 60) = ks := ⟨_, rfl⟩
  rw [hks] at hLW hS hi0
  have hkl : ks.length ≤ 60 := by
    have h1 := keepR_len (rs.take 60)
    have h2 := List.length_take_le 60 rs
    rw [hks] at h1
    omega
  have HKO : Hid (∀ r ∈ ks, r.ok) := fun r hr => by rw [← hks] at hr; exact (keepR_ok hr).2
  have HKL := Lib.hid hkl
  have HRUN := Lib.hid (laid_run hS hQ)
  have HAOK : Hid ((runAn qs).ok ∧ (runAn qs).st) := ⟨runAn_ok qs hQ, runAn_st qs (fun q hq => (hQ q hq).ok)⟩
  obtain ⟨a, ha⟩ : ∃ a, runAn qs = a := ⟨_, rfl⟩
  rw [ha] at HRUN HAOK
  obtain ⟨oa, oc, rfl⟩ := hR.form
  have HLW := Lib.hid hLW
  clear hLW hR hQ hS hi0 hmk hneg HL hks hkl ha
  go_wp2_with (fail)
  refine (HA _).out.mono ?_
  rintro e w2 ⟨rfl, hb2⟩
  have HLW2 := Lib.hid (HLW.out.below stable_none hb2)
  clear hb2 HLW HA
  obtain ⟨G, hG⟩ := HLW2.out.wal
  have hru := anRun_c hG 0 (Nat.zero_le _) rfl
  rw [show (gF (encs ks) 0).recs = encs ks from rfl, HRUN.out] at hru
  have HRU := Lib.hid hru
  clear hru hG HRUN
  obtain ⟨ts, hts⟩ : ∃ ts, sndL a.txs = ts := ⟨_, rfl⟩
  obtain ⟨ds, hds⟩ : ∃ ds, a.dirty = ds := ⟨_, rfl⟩
  obtain ⟨en, hen⟩ : ∃ en, redoOf (gF (encs ks) 0).end_ ds = en := ⟨_, rfl⟩
  have HTS := Lib.hid hts
  have HDS := Lib.hid hds
  have HEN := Lib.hid hen
  clear hts hds hen
  go_upto_region 4 with (fail)
  refine wp_region_lit ?_
  refine wpList_plain (by rfl) fun K hK => ?_
  go_simp
  refine hK _ _ ?_
  clear hK K
  refine wpList_plain (by rfl) fun K hK => ?_
  go_simp
  refine HRU.out.mono ?_
  rintro e w3 ⟨tv, dv, rfl, ht⟩
  refine hK _ _ ?_
  clear hK K HRU
  have hT := ht.txs
  have hD := ht.dirty
  have hb3 := ht.base
  have htn := ht.tne
  have hdn := ht.dne
  rw [HTS.out] at hT
  rw [HDS.out, HEN.out]
  rw [HDS.out] at hD
  obtain ⟨ta, tc, rfl⟩ := hT.form
  obtain ⟨da, dc, rfl⟩ := hD.form
  clear ht
  unfold FoundV
  refine wpList_plain (by rfl) fun K hK => ?_
  go_simp
  refine hK _ _ ?_
  clear hK K
  refine wpList_plain (by rfl) fun K hK => ?_
  go_simp
  refine hK _ _ ?_
  clear hK K
  refine wpList_plain (by rfl) fun K hK => ?_
  go_simp
  refine hK _ _ ?_
  clear hK K
  refine wpList_plain (by rfl) fun K hK => ?_
  go_simp
  refine hK _ _ ?_
  clear hK K
  have HX := Lib.hid (foundBox w3 33 #[.slice none 0 0, .slice none 0 0, .int .u64 0, .int .i64 0, .int .i64 0] #[.slice ta ts.length tc, .slice da ds.length dc, .int .u64 (en : Int), .int .i64 (a.most : Int), .int .i64 (a.recs : Int)])
  refine wpList_store_row (by rfl) _ _ _ (by rfl) w3.heap.size 33 #[.slice ta ts.length tc, .slice da ds.length dc, .int .u64 (en : Int), .int .i64 (a.most : Int), .int .i64 (a.recs : Int)] #[.slice none 0 0, .slice none 0 0, .int .u64 0, .int .i64 0, .int .i64 0] (by rfl) (by rfl) (heap_alloc_new w3 _) (by kernel_rfl) (by rfl) (by simp [Value.oneCell']) ?_
  generalize ((w3.alloc (.cells #[.slice none 0 0, .slice none 0 0, .int .u64 0, .int .i64 0, .int .i64 0] 33)).setRow w3.heap.size #[.slice ta ts.length tc, .slice da ds.length dc, .int .u64 (en : Int), .int .i64 (a.most : Int), .int .i64 (a.recs : Int)]) = w4 at *
  have hb4 : Below w2.heap.size w2 w4 := hb3.trans (HX.out.1.mono hb3.size)
  have HLW4 := Lib.hid (HLW2.out.below stable_none hb4)
  have HNE : Hid ((∀ k, (Value.slice ta ts.length tc).ownBlock = some k → w2.heap.size ≤ k) ∧ (∀ k, (Value.slice da ds.length dc).ownBlock = some k → w2.heap.size ≤ k) ∧ w2.heap.size ≤ w3.heap.size) := ⟨htn, hdn, hb3.size⟩
  have HB24 := Lib.hid hb4
  have HT4 := Lib.hid (hT.below HX.out.1)
  have HD4 := Lib.hid (hD.below HX.out.1)
  have HF4 := Lib.hid HX.out.2
  have c0 : w4.cell? ⟨w3.heap.size, 0, none⟩ = some (.slice ta ts.length tc) := HF4.out.cell 0
  have c1 : w4.cell? ⟨w3.heap.size, 1, none⟩ = some (.slice da ds.length dc) := HF4.out.cell 1
  have c3 : w4.cell? ⟨w3.heap.size, 3, none⟩ = some (.int .i64 (a.most : Int)) := HF4.out.cell 3
  have hfl : w3.heap.size < w4.heap.size := HF4.out.lt
  clear HX hT hD hb3 hb4 htn hdn
  generalize w3.heap.size = fb at *
  refine wpList_plain (by rfl) fun K hK => ?_
  go_simp
  refine hK _ _ ?_
  clear hK K
  by_cases hc1 : 64 < ts.length
  · have hc1' : (64 : Int) < (ts.length : Int) := by omega
    have HB := Lib.hid HLW4.out.base
    clear HT4 HD4 HF4 HLW4
    go_wp2_with (fail)
    go_ret
    exact ⟨rfl, HB.out⟩
  by_cases hc2 : 256 < ds.length
  · have hc1' : ¬ (64 : Int) < (ts.length : Int) := by omega
    have hc2' : (256 : Int) < (ds.length : Int) := by omega
    have HB := Lib.hid HLW4.out.base
    clear HT4 HD4 HF4 HLW4
    go_wp2_with (fail)
    go_ret
    exact ⟨rfl, HB.out⟩
  have hc1' : ¬ (64 : Int) < (ts.length : Int) := by omega
  have hc2' : ¬ (256 : Int) < (ds.length : Int) := by omega
  have HEB : Hid (Calls Tryz.prog 23 #[RecV rcB (.slice none 0 0) (.slice none 0 0)] w4 fun e w' => e = .returned (.tuple #[.string rcB.enc, .int .i64 0]) ∧ Below w4.heap.size w4 w') := by
    have := recEncode_c (w := w4) (r := rcB) (tv := .slice none 0 0) (dv := .slice none 0 0) ⟨RdC.nil _ _, RdC.nil _ _, rcB_mild⟩
    have e : rcB.encE = (rcB.enc, 0) := by unfold Rc.encE; rw [if_pos rcB_ok]
    rw [e] at this
    exact this
  have HEK : ∀ W, Below w4.heap.size w4 W → Hid (Calls Tryz.prog 23 #[RecV (rcK a) (.slice ta ts.length tc) (.slice da ds.length dc)] W fun e w' => e = .returned (.tuple #[.string (rcK a).encE.1, .int .i64 (rcK a).encE.2]) ∧ Below W.heap.size W w') := fun W hW => by
    refine recEncode_c ⟨?_, ?_, ?_⟩
    · show RdC 4 tsC W _ (sndL a.txs)
      rw [HTS.out]
      exact HT4.out.below hW
    · show RdC 2 dpC W _ a.dirty
      rw [HDS.out]
      exact HD4.out.below hW
    · refine rcK_mild HAOK.out.1 HAOK.out.2 ?_ ?_
      · have := congrArg List.length HTS.out
        unfold sndL at this
        rw [List.length_map] at this
        omega
      · rw [HDS.out]; omega
  go_wp2_with (fail)
  refine HEB.out.mono ?_
  rintro e w5 ⟨rfl, hb5⟩
  have d0 : w5.cell? ⟨fb, 0, none⟩ = some (.slice ta ts.length tc) := (hb5.cell (p := ⟨fb, 0, none⟩) hfl).trans c0
  have d1 : w5.cell? ⟨fb, 1, none⟩ = some (.slice da ds.length dc) := (hb5.cell (p := ⟨fb, 1, none⟩) hfl).trans c1
  have d3 : w5.cell? ⟨fb, 3, none⟩ = some (.int .i64 (a.most : Int)) := (hb5.cell (p := ⟨fb, 3, none⟩) hfl).trans c3
  have hfl5 : fb < w5.heap.size := Nat.lt_of_lt_of_le hfl hb5.size
  have hb6 : Below w4.heap.size w4 (w5.alloc (.cells #[.int .i64 8, .int .i64 (a.most : Int), .int .u64 0, .int .u64 0, .int .u32 0, .int .i64 0, .int .i64 0, .string ⟨#[]⟩, .string ⟨#[]⟩, .int .i64 0, .int .i64 0, .string ⟨#[]⟩, .int .u32 0, .int .i64 0, .bool false, .slice ta ts.length tc, .slice da ds.length dc] 63)) := hb5.alloc hb5.size _
  have HEK6 := HEK _ hb6
  have HB6 := Lib.hid hb6
  clear hb5 hb6 c0 c1 c3 hfl HEK HEB
  go_wp2_with (fail)
  refine HEK6.out.mono ?_
  rintro e w7 ⟨rfl, hb7⟩
  have HB7 : Hid (Below w4.heap.size w4 w7) := HB6.out.trans (hb7.mono HB6.out.size)
  clear hb7 HEK6 HB6 d0 d1 d3 hfl5
  have HLW7 := Lib.hid (HLW4.out.below stable_none HB7.out)
  have HT7 := Lib.hid (HT4.out.below HB7.out)
  have HD7 := Lib.hid (HD4.out.below HB7.out)
  have HF7 := Lib.hid (HF4.out.same (HB7.out.block _ HF4.out.lt))
  have HBW7 := Lib.hid HLW7.out.base
  obtain ⟨K0, hK0⟩ : ∃ K0, FTK fb ts ds (.slice ta ts.length tc) (.slice da ds.length dc) = K0 := ⟨_, rfl⟩
  obtain ⟨P0, hP0⟩ : ∃ P0, FTP fb ts ds a.most a.recs en (.slice ta ts.length tc) (.slice da ds.length dc) = P0 := ⟨_, rfl⟩
  have HSTB : Hid (Stable K0 P0) := by rw [← hK0, ← hP0]; exact stable_ft _ _ _ _ _ _ _ _
  have HLK : Hid (LW w K0 P0 b lb (frames 1 (encs ks)) 0 (gF (encs ks) 0) w7) := by
    rw [← hK0, ← hP0]
    refine HLW2.out.turn (Step.below (HB24.out.trans (HB7.out.mono HB24.out.size))) (fun r hr => ?_) ⟨HF7.out, HT7.out, HD7.out⟩
    rcases hr with rfl | ⟨hne, e⟩ | ⟨hne, e⟩
    · exact ⟨.inr HNE.out.2.2, HF7.out.lt⟩
    · exact ⟨.inr (HNE.out.1 r e), HT7.out.lt hne r e⟩
    · exact ⟨.inr (HNE.out.2.1 r e), HD7.out.lt hne r e⟩
  have HP0 := Lib.hid hP0
  clear HLW2 HNE HB24 HLW4 HT4 HD4 HF4 HB7 hK0 hP0 HLW7 HT7 HD7 HF7
  by_cases hk : (rcK a).ok
  · have e1 : (rcK a).encE = ((rcK a).enc, 0) := by unfold Rc.encE; rw [if_pos hk]
    rw [e1]
    simp only
    have hm : (rcK a).mild := by
      refine rcK_mild HAOK.out.1 HAOK.out.2 ?_ ?_
      · have := congrArg List.length HTS.out
        unfold sndL at this
        rw [List.length_map] at this
        omega
      · rw [HDS.out]; omega
    have HRN := Lib.hid (run_again HAOK.out.1 (endFrom 1 (encs ks)) hk hm)
    have hz1 := rcB_ok.size
    have hz2 := hk.size
    have hend := encs_end ks 1 HKO.out
    have hkl := HKL.out
    obtain ⟨s1, hs1⟩ : ∃ s1, rcB.enc = s1 := ⟨_, rfl⟩
    obtain ⟨s2, hs2⟩ : ∃ s2, (rcK a).enc = s2 := ⟨_, rfl⟩
    rw [hs1] at hz1 HRN ⊢
    rw [hs2] at hz2 HRN ⊢
    obtain ⟨l, hl⟩ : ∃ l, encs ks = l := ⟨_, rfl⟩
    rw [hl] at hend HRN HLK
    have hfz := frames_size l 1
    obtain ⟨t1, t2⟩ := try_any (g := gF l 0) (s := s1) rfl (by omega) (by omega) (by show endFrom 1 l ≤ _; omega)
    have hen2 : ((gF l 0).add s1).end_ = endFrom 1 l + s1.size + 12 := by
      show endFrom 1 (l ++ [s1]) = _
      rw [endFrom_snoc]
    obtain ⟨t3, t4⟩ := try_any (g := (gF l 0).add s1) (s := s2) rfl (by omega) (by omega) (by omega)
    have hen3 : (((gF l 0).add s1).add s2).end_ = endFrom 1 l + s1.size + 12 + s2.size + 12 := by
      show endFrom 1 ((l ++ [s1]) ++ [s2]) = _
      rw [endFrom_snoc, endFrom_snoc]
    have htl : (((gF l 0).add s1).add s2).tail.size = s1.size + 12 + (s2.size + 12) := by
      have h3 : (((gF l 0).add s1).add s2).tail = (⟨#[]⟩ ++ frameB (gF l 0).end_ s1) ++ frameB ((gF l 0).add s1).end_ s2 := rfl
      rw [h3, ByteArray.size_append, ByteArray.size_append, frameB_size, frameB_size]
      show 0 + _ + _ = _
      omega
    have HA1 : Hid (Calls Tryz.prog 21 #[.pointer (some ⟨lb, 0, none⟩), .string s1] w7 fun e w' => e = .returned (.tuple #[.int .u64 (endFrom 1 l : Int), .int .i64 0]) ∧ LW w K0 P0 b lb (frames 1 l) 0 ((gF l 0).add s1) w') := by
      have := HLK.out.logs HSTB.out (fun G h1 => lappend_c h1 (gF_tight2 _ _) s1 (by omega))
      rw [t1, t2] at this
      exact this
    have HA2 : ∀ W, LW w K0 P0 b lb (frames 1 l) 0 ((gF l 0).add s1) W → Hid (Calls Tryz.prog 21 #[.pointer (some ⟨lb, 0, none⟩), .string s2] W fun e w' => e = .returned (.tuple #[.int .u64 (((gF l 0).add s1).end_ : Int), .int .i64 0]) ∧ LW w K0 P0 b lb (frames 1 l) 0 (((gF l 0).add s1).add s2) w') := fun W hW => by
      have := hW.logs HSTB.out (fun G h1 => lappend_c h1 (Lg.tight_add (gF_tight2 _ _) _) s2 (by omega))
      rw [t3, t4] at this
      exact this
    have HEN3 : ∀ W, LW w K0 P0 b lb (frames 1 l) 0 (((gF l 0).add s1).add s2) W → Hid (Calls Tryz.prog 20 #[.pointer (some ⟨lb, 0, none⟩)] W fun e w' => e = .returned (.int .u64 ((((gF l 0).add s1).add s2).end_ : Int)) ∧ LW w K0 P0 b lb (frames 1 l) 0 (((gF l 0).add s1).add s2) w') := fun W hW => hW.gets0 HSTB.out (fun G h1 => lend_c h1)
    have HFL : ∀ W, LW w K0 P0 b lb (frames 1 l) 0 (((gF l 0).add s1).add s2) W → Hid (Calls Tryz.prog 24 #[.pointer (some ⟨lb, 0, none⟩), .int .u64 ((((gF l 0).add s1).add s2).end_ : Int)] W fun e w' => e = .returned (.int .i64 0) ∧ ∃ lg, LW w K0 P0 b lb lg 0 (gF (l ++ [s1, s2]) 0) w') := fun W hW => by
      have := hW.flush HSTB.out ((((gF l 0).add s1).add s2).end_ : Int) (by rw [htl]; omega)
      rw [two_flush] at this
      exact this.mono fun e w' ⟨h1, h2⟩ => ⟨h1, _, h2⟩
    have hpl : pl (l ++ [s1, s2]) l.length = endFrom 1 l := by unfold pl; rw [List.take_left]
    have hll : l.length < (l ++ [s1, s2]).length := by simp
    have hpe : endFrom 1 l < endFrom 1 (l ++ [s1, s2]) := by
      have h1 := pl_lt hll (Nat.le_refl _)
      rw [hpl] at h1
      have h2 : pl (l ++ [s1, s2]) (l ++ [s1, s2]).length = endFrom 1 (l ++ [s1, s2]) := by unfold pl; rw [List.take_length]
      omega
    have hone : 1 ≤ endFrom 1 l := by have := endFrom_length l 1; omega
    have HSM : ∀ W lg, LW w K0 P0 b lb lg 0 (gF (l ++ [s1, s2]) 0) W → Hid (Calls Tryz.prog 25 #[.pointer (some ⟨lb, 0, none⟩), .int .u64 (endFrom 1 l : Int)] W fun e w' => e = .returned (.int .i64 0) ∧ LW w K0 P0 b lb lg (endFrom 1 l : Int) (gF (l ++ [s1, s2]) (endFrom 1 l)) w') := fun W lg hW => by
      refine hW.master19 HSTB.out (endFrom 1 l) (by omega) ?_ (by rw [gF_flushed]; omega)
      have := gF_has (l := l ++ [s1, s2]) hll
      rw [hpl] at this
      exact this
    have HRU2 : ∀ W lg, LW w K0 P0 b lb lg (endFrom 1 l : Int) (gF (l ++ [s1, s2]) (endFrom 1 l)) W → Hid (Calls Tryz.prog 18 #[.pointer (some ⟨lb, 0, none⟩)] W (RunPost W (some ⟨a.txs, a.dirty, a.most, 2⟩) (gF (l ++ [s1, s2]) (endFrom 1 l)).end_)) := fun W lg hW => by
      obtain ⟨G, hG⟩ := hW.wal
      have := anRun_c hG l.length (Nat.le_of_lt hll) (by show max (endFrom 1 l) 1 = pl (l ++ [s1, s2]) l.length; rw [hpl]; omega)
      rw [show (gF (l ++ [s1, s2]) (endFrom 1 l)).recs = l ++ [s1, s2] from rfl, hpl, List.drop_left, HRN.out] at this
      exact this
    have HRD : Hid (∀ n, ds ≠ [] → redoOf n ds = en) := fun n hn => by rw [← HEN.out]; exact redo_same _ _ hn
    clear hz1 hz2 hend hkl hs1 hs2 hl hfz t1 t2 hen2 t3 t4 hen3 htl hpl hll hpe hone HLK HRN hk hm e1 HEN HAOK HKO HKL
    go_wp2_with (fail)
    refine HA1.out.mono ?_
    rintro e w8 ⟨rfl, h8⟩
    have HA2' := HA2 _ h8
    clear h8 HA1 HA2
    go_wp2_with (fail)
    refine HA2'.out.mono ?_
    rintro e w9 ⟨rfl, h9⟩
    have HE3 := HEN3 _ h9
    clear h9 HA2' HEN3
    go_wp2_with (fail)
    refine HE3.out.mono ?_
    rintro e w10 ⟨rfl, h10⟩
    have HF3 := HFL _ h10
    clear h10 HE3 HFL
    go_wp2_with (fail)
    refine HF3.out.mono ?_
    rintro e w11 ⟨rfl, lg, h11⟩
    have HS3 := HSM _ _ h11
    clear h11 HF3 HSM
    go_wp2_with (fail)
    refine HS3.out.mono ?_
    rintro e w12 ⟨rfl, h12⟩
    have HR3 := HRU2 _ _ h12
    have hP12 := h12.own
    rw [← HP0.out] at hP12
    have HP12 := Lib.hid hP12
    have HB12 := Lib.hid h12.base
    clear HS3 HRU2 h12 hP12 HP0 HSTB
    obtain ⟨e2, he2⟩ : ∃ e2, redoOf (gF (l ++ [s1, s2]) (endFrom 1 l)).end_ ds = e2 := ⟨_, rfl⟩
    have HE2 : Hid (ds ≠ [] → e2 = en) := fun hn => by rw [← he2]; exact HRD.out _ hn
    have HE2' := Lib.hid he2
    clear he2 HRD
    go_upto_region 16 with (fail)
    refine wp_region_lit ?_
    refine wpList_plain (by rfl) fun K hK => ?_
    go_simp
    refine hK _ _ ?_
    clear hK K
    refine wpList_plain (by rfl) fun K hK => ?_
    go_simp
    refine HR3.out.mono ?_
    rintro e w13 ⟨uv, vv, rfl, ht⟩
    refine hK _ _ ?_
    clear hK K HR3
    have hT := ht.txs
    have hD := ht.dirty
    have hb13 := ht.base
    simp only at hT hD
    rw [HTS.out] at hT
    simp only
    rw [HDS.out, HE2'.out]
    rw [HDS.out] at hD
    obtain ⟨ua, uc, rfl⟩ := hT.form
    obtain ⟨va, vc, rfl⟩ := hD.form
    clear ht
    unfold FoundV
    refine wpList_plain (by rfl) fun K hK => ?_
    go_simp
    refine hK _ _ ?_
    clear hK K
    refine wpList_plain (by rfl) fun K hK => ?_
    go_simp
    refine hK _ _ ?_
    clear hK K
    refine wpList_plain (by rfl) fun K hK => ?_
    go_simp
    refine hK _ _ ?_
    clear hK K
    refine wpList_plain (by rfl) fun K hK => ?_
    go_simp
    refine hK _ _ ?_
    clear hK K
    have HX := Lib.hid (foundBox w13 33 #[.slice none 0 0, .slice none 0 0, .int .u64 0, .int .i64 0, .int .i64 0] #[.slice ua ts.length uc, .slice va ds.length vc, .int .u64 (e2 : Int), .int .i64 (a.most : Int), .int .i64 ((2 : Nat) : Int)])
    refine wpList_store_row (by rfl) _ _ _ (by rfl) w13.heap.size 33 #[.slice ua ts.length uc, .slice va ds.length vc, .int .u64 (e2 : Int), .int .i64 (a.most : Int), .int .i64 ((2 : Nat) : Int)] #[.slice none 0 0, .slice none 0 0, .int .u64 0, .int .i64 0, .int .i64 0] (by rfl) (by rfl) (heap_alloc_new w13 _) (by kernel_rfl) (by rfl) (by simp [Value.oneCell']) ?_
    generalize ((w13.alloc (.cells #[.slice none 0 0, .slice none 0 0, .int .u64 0, .int .i64 0, .int .i64 0] 33)).setRow w13.heap.size #[.slice ua ts.length uc, .slice va ds.length vc, .int .u64 (e2 : Int), .int .i64 (a.most : Int), .int .i64 ((2 : Nat) : Int)]) = w14 at *
    have HT : Hid (FT w fb w13.heap.size ts ds a.most a.recs en e2 (.slice ta ts.length tc) (.slice da ds.length dc) (.slice ua ts.length uc) (.slice va ds.length vc) w14) := by
      have hb14 : Below w12.heap.size w12 w14 := hb13.trans (HX.out.1.mono hb13.size)
      have hf := HP12.out.fbx.same (hb14.block _ HP12.out.fbx.lt)
      exact ⟨HB12.out.trans (hb14.mono HB12.out.size), hf, HX.out.2, HP12.out.tx.below hb14, HP12.out.dx.below hb14, hT.below HX.out.1, hD.below HX.out.1⟩
    clear HX hT hD hb13 HP12 HB12 HTS HDS HE2'
    generalize w13.heap.size = gb at *
    have c0 : w14.cell? ⟨fb, 0, none⟩ = some (.slice ta ts.length tc) := HT.out.fbx.cell 0
    have c1 : w14.cell? ⟨fb, 1, none⟩ = some (.slice da ds.length dc) := HT.out.fbx.cell 1
    have c3 : w14.cell? ⟨fb, 3, none⟩ = some (.int .i64 (a.most : Int)) := HT.out.fbx.cell 3
    have d0 : w14.cell? ⟨gb, 0, none⟩ = some (.slice ua ts.length uc) := HT.out.gbx.cell 0
    have d1 : w14.cell? ⟨gb, 1, none⟩ = some (.slice va ds.length vc) := HT.out.gbx.cell 1
    have d3 : w14.cell? ⟨gb, 3, none⟩ = some (.int .i64 (a.most : Int)) := HT.out.gbx.cell 3
    have d4 : w14.cell? ⟨gb, 4, none⟩ = some (.int .i64 2) := HT.out.gbx.cell 4
    refine wpList_plain (by rfl) fun K hK => ?_
    go_simp
    refine hK _ _ ?_
    clear hK K
    go_wp2_with (fail)
    clear c0 c1 c3 d0 d1 d3 d4
    go_loopw [19] (fun iv wr => ∃ k : Nat, iv = .int .i64 (k : Int) ∧ k ≤ ts.length ∧ Hid (FT w fb gb ts ds a.most a.recs en e2 (.slice ta ts.length tc) (.slice da ds.length dc) (.slice ua ts.length uc) (.slice va ds.length vc) wr)) (fun iv _ => ts.length - (intOf iv).toNat)
    case atStart => exact ⟨0, rfl, Nat.zero_le _, HT⟩
    case round =>
      clear HT
      obtain ⟨k, rfl, hk, HG⟩ := hrel
      have c0 : wr.cell? ⟨fb, 0, none⟩ = some (.slice ta ts.length tc) := HG.out.fbx.cell 0
      have d0 : wr.cell? ⟨gb, 0, none⟩ = some (.slice ua ts.length uc) := HG.out.gbx.cell 0
      by_cases hkl : k < ts.length
      · obtain ⟨t, hkt⟩ : ∃ t, ts[k]? = some t := ⟨_, List.getElem?_eq_getElem hkl⟩
        obtain ⟨tb, toff, rfl, _, g1, g2, htl, hc⟩ := HG.out.tx.at_ hkt
        obtain ⟨ub, uoff, rfl, _, g3, g4, hul, hd⟩ := HG.out.ux.at_ hkt
        have hml : ts.length ≤ 9223372036854775807 := by unfold maxLen at g2; omega
        have e0 : wr.cell? ⟨tb, toff + k * 4, none⟩ = some (.int .i64 t.tx) := hc 0 _ rfl
        have e1 : wr.cell? ⟨tb, toff + k * 4 + 1, none⟩ = some (.int .i64 t.state) := hc 1 _ rfl
        have e2 : wr.cell? ⟨tb, toff + k * 4 + 2, none⟩ = some (.int .u64 (t.last : Int)) := hc 2 _ rfl
        have e3 : wr.cell? ⟨tb, toff + k * 4 + 3, none⟩ = some (.int .u64 (t.next : Int)) := hc 3 _ rfl
        have i0 : wr.cell? ⟨ub, uoff + k * 4, none⟩ = some (.int .i64 t.tx) := hd 0 _ rfl
        have i1 : wr.cell? ⟨ub, uoff + k * 4 + 1, none⟩ = some (.int .i64 t.state) := hd 1 _ rfl
        have i2 : wr.cell? ⟨ub, uoff + k * 4 + 2, none⟩ = some (.int .u64 (t.last : Int)) := hd 2 _ rfl
        have i3 : wr.cell? ⟨ub, uoff + k * 4 + 3, none⟩ = some (.int .u64 (t.next : Int)) := hd 3 _ rfl
        have hne := neqTs t
        have HKL := Lib.hid hkl
        clear hc hd hkt g1 g2 g3 g4
        go_wp2_with (fail)
        go_quiet (fail)
        have HRES := Lib.hid (HG.out.below (below_drewN wr nq))
        clear HG e0 e1 e2 e3 i0 i1 i2 i3 c0 d0 hne
        go_wp2_with (fail)
        go_roundw
        case rel => exact ⟨k + 1, by go_num, HKL.out, HRES⟩
        case measure => have := HKL.out; simp [intOf]; omega
      · obtain rfl : k = ts.length := by omega
        have HG0 := Lib.hid HG.out
        clear HG
        go_wp2_with (fail)
        clear c0 d0 hk hkl
        go_loopw [20] (fun iv wr => ∃ k : Nat, iv = .int .i64 (k : Int) ∧ k ≤ ds.length ∧ Hid (FT w fb gb ts ds a.most a.recs en e2 (.slice ta ts.length tc) (.slice da ds.length dc) (.slice ua ts.length uc) (.slice va ds.length vc) wr)) (fun iv _ => ds.length - (intOf iv).toNat)
        case atStart => exact ⟨0, rfl, Nat.zero_le _, HG0⟩
        case round =>
          clear HG0
          obtain ⟨k, rfl, hk, HG⟩ := hrel
          have c1 : wr.cell? ⟨fb, 1, none⟩ = some (.slice da ds.length dc) := HG.out.fbx.cell 1
          have d1 : wr.cell? ⟨gb, 1, none⟩ = some (.slice va ds.length vc) := HG.out.gbx.cell 1
          by_cases hkl : k < ds.length
          · obtain ⟨⟨t1, t2⟩, hkt⟩ : ∃ t, ds[k]? = some t := ⟨_, List.getElem?_eq_getElem hkl⟩
            obtain ⟨tb, toff, rfl, _, g1, g2, htl, hc⟩ := HG.out.dx.at_ hkt
            obtain ⟨ub, uoff, rfl, _, g3, g4, hul, hd⟩ := HG.out.vx.at_ hkt
            have hml : ds.length ≤ 9223372036854775807 := by unfold maxLen at g2; omega
            have e0 : wr.cell? ⟨tb, toff + k * 2, none⟩ = some (.int .u32 (t1 : Int)) := hc 0 _ rfl
            have e1 : wr.cell? ⟨tb, toff + k * 2 + 1, none⟩ = some (.int .u64 (t2 : Int)) := hc 1 _ rfl
            have i0 : wr.cell? ⟨ub, uoff + k * 2, none⟩ = some (.int .u32 (t1 : Int)) := hd 0 _ rfl
            have i1 : wr.cell? ⟨ub, uoff + k * 2 + 1, none⟩ = some (.int .u64 (t2 : Int)) := hd 1 _ rfl
            have hne := neqDp t1 t2
            have HKL := Lib.hid hkl
            clear hc hd hkt g1 g2 g3 g4
            go_wp2_with (fail)
            go_quiet (fail)
            have HRES := Lib.hid (HG.out.below (below_drewN wr nq))
            clear HG e0 e1 i0 i1 c1 d1 hne
            go_wp2_with (fail)
            go_roundw
            case rel => exact ⟨k + 1, by go_num, HKL.out, HRES⟩
            case measure => have := HKL.out; simp [intOf]; omega
          · obtain rfl : k = ds.length := by omega
            have HB := Lib.hid HG.out.base
            have c2 : wr.cell? ⟨fb, 2, none⟩ = some (.int .u64 (en : Int)) := HG.out.fbx.cell 2
            have d2 : wr.cell? ⟨gb, 2, none⟩ = some (.int .u64 (e2 : Int)) := HG.out.gbx.cell 2
            by_cases hds : ds = []
            · have hdl : ds.length = 0 := by rw [hds]; rfl
              rw [hdl] at c1 d1 ⊢
              clear HG hds hkl hk hdl
              go_wp2_with (fail)
              go_ret
              exact ⟨rfl, HB.out⟩
            · have he := HE2.out hds
              rw [he] at d2
              have hdl : ((ds.length : Int) == 0) = false := by
                rw [beq_eq_false_iff_ne]
                intro h
                exact hds (List.length_eq_zero_iff.1 (by omega))
              have hdn : ¬ ds.length = 0 := fun h => hds (List.length_eq_zero_iff.1 h)
              clear HG hds hkl hk he
              go_wp2_with (fail)
              go_ret
              exact ⟨rfl, HB.out⟩
  · have e1 : (rcK a).encE = (⟨#[]⟩, 40) := by unfold Rc.encE; rw [if_neg hk]
    rw [e1]
    simp only
    clear hk e1 HLK
    go_wp2_with (fail)
    go_ret
    exact ⟨rfl, HBW7.out⟩
end
end Go.Proofs.YtpnndlahfllbhaaGreat
