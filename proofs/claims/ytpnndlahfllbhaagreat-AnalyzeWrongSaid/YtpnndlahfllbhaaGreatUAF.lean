/-
  The walks of girderlaw19.awake and AnalyzeFinds.
-/
import Derived.Test.YtpnndlahfllbhaaGreatUAN
namespace Go.Proofs.YtpnndlahfllbhaaGreat
open Go Go.RowKit
attribute [local go_sem ↓] Go.wp_at_zero Go.wp_at_succ

/-- both answers, while they are compared -/
structure FG (w0 : World) (fb gb : Nat) (ts : List Ts) (ds : List (Nat × Nat)) (most recs en : Nat) (tv dv ut ud : Value) (W : World) : Prop where
  base : Below w0.heap.size w0 W
  fbx : Blk W fb 33 #[tv, dv, .int .u64 (en : Int), .int .i64 (most : Int), .int .i64 (recs : Int)]
  gbx : Blk W gb 40 #[ut, ud, .int .u64 (en : Int), .int .i64 (most : Int), .int .i64 (recs : Int)]
  tx : RdC 4 tsC W tv ts
  dx : RdC 2 dpC W dv ds
  ux : RdC 4 tsC W ut ts
  vx : RdC 2 dpC W ud ds
section
variable {w0 W W' : World} {fb gb : Nat} {ts : List Ts} {ds : List (Nat × Nat)} {most recs en : Nat} {tv dv ut ud : Value}
theorem FG.below (h : FG w0 fb gb ts ds most recs en tv dv ut ud W) (hb : Below W.heap.size W W') : FG w0 fb gb ts ds most recs en tv dv ut ud W' :=
  ⟨h.base.trans (hb.mono h.base.size), h.fbx.same (hb.block _ h.fbx.lt), h.gbx.same (hb.block _ h.gbx.lt), h.tx.below hb, h.dx.below hb, h.ux.below hb, h.vx.below hb⟩
end
section
variable {w : World}
theorem foundBox (w : World) (t : TypeId) (z cs : Array Value) : Below w.heap.size w ((w.alloc (.cells z t)).setRow w.heap.size cs) ∧ Blk ((w.alloc (.cells z t)).setRow w.heap.size cs) w.heap.size t cs := by
  have hga := heap_alloc_new w (.cells z t)
  exact ⟨belowRow ((Below.refl _ w).alloc (Nat.le_refl _) (.cells z t)) hga, setRow_heap (w.alloc (.cells z t)) w.heap.size _ _ _ _ hga⟩
theorem isRecs_awake (w : World) : IsRecs (w.alloc (.cells (recC rcA (.slice none 0 0) (.slice none 0 0)).toArray 63)) (.slice (some ⟨w.heap.size, 0, none⟩) 1 1) [(rcA, .slice none 0 0, .slice none 0 0)] := by
  refine ⟨.inr ⟨w.heap.size, 0, 1, rfl, Nat.le_refl _, by unfold maxLen; decide, by simp, fun i x hi k u hu => ?_⟩, by unfold maxLen; decide, fun q hq => ?_⟩
  · cases i with
    | zero =>
      simp at hi
      subst hi
      rw [show (0 : Nat) + 0 * 17 + k = k by omega, (Blk.new w 63 _).cell k]
      rw [List.getElem?_toArray]
      exact hu
    | succ i => simp at hi
  · simp at hq
    subst hq
    exact ⟨RdC.nil _ _, RdC.nil _ _, rcA_mild⟩
theorem runA_one : runA (pl (encs [rcA]) 0) ((encs [rcA]).drop 0) An.zero = some ⟨[(3, ⟨3, 1, 1, 1⟩)], [(5, 1)], 3, 1⟩ := by
  have := runA_placed [rcA] 1 An.zero (fun r hr => by
    rcases List.mem_cons.1 hr with rfl | hr
    · exact ⟨rcA_ok, rcA_mild⟩
    · cases hr)
  exact this.trans (congrArg some runA_awake)
set_option maxRecDepth 100000 in
set_option maxHeartbeats 8000000 in
theorem awake19_c (w : World) : Calls Tryz.prog 17 #[] w fun e w' => e = .returned (.bool true) ∧ Below w.heap.size w w' := by
  obtain ⟨w0, hw0⟩ : ∃ w0, w.alloc (.cells #[.int .i64 1, .int .i64 3, .int .u64 0, .int .u64 0, .int .u32 5, .int .i64 2, .int .i64 0, .string ⟨#[]⟩, .string ⟨#[]⟩, .int .i64 0, .int .i64 0, .string ⟨#[]⟩, .int .u32 0, .int .i64 0, .bool false, .slice none 0 0, .slice none 0 0] 63) = w0 := ⟨_, rfl⟩
  have HL : Hid (Calls Tryz.prog 16 #[.slice (some ⟨w.heap.size, 0, none⟩) 1 1, .int .i64 (-1)] w0 (LaidPost w0 [rcA] (-1))) := by
    rw [← hw0]
    exact laid19_c (isRecs_awake w) (-1) (by omega)
  have HB0 : Hid (Below w.heap.size w w0) := by
    rw [← hw0]
    exact (Below.refl _ w).alloc (Nat.le_refl _) _
  go_enter Tryz.func17, Tryz.ntmps17
  go_wp2_with (fail)
  clear hw0
  refine HL.out.mono ?_
  rintro e w1 ⟨b, lb, ov, qs, mk, i0, rfl, hLW, hR, hQ, hS, hi0, hmk, hneg⟩
  obtain ⟨rfl, rfl⟩ := hneg (by omega)
  rw [keepR_awake] at hLW hS
  obtain ⟨qa, qc, rfl⟩ := hR.form
  obtain ⟨G, hG⟩ := hLW.wal
  have hru := anRun_c hG 0 (Nat.zero_le _) rfl
  rw [show (gF (encs [rcA]) 0).recs = encs [rcA] from rfl, runA_one] at hru
  have HRU := Lib.hid hru
  have HB1 : Hid (Below w.heap.size w w1) := HB0.out.trans (hLW.base.mono HB0.out.size)
  clear hLW hR hQ hS hi0 hmk hneg hG hru HL HB0
  go_upto_region 4 with (fail)
  refine wp_region_lit ?_
  refine wpList_plain (by rfl) fun K hK => ?_
  go_simp
  refine hK _ _ ?_
  clear hK K
  refine wpList_plain (by rfl) fun K hK => ?_
  go_simp
  refine HRU.out.mono ?_
  rintro e w2 ⟨tv, dv, rfl, ht⟩
  refine hK _ _ ?_
  clear hK K HRU
  obtain ⟨tb, toff, tc, rfl, htc⟩ : ∃ tb toff tc, tv = .slice (some ⟨tb, toff, none⟩) 1 tc ∧ w2.cell? ⟨tb, toff, none⟩ = some (.int .i64 3) := by
    obtain ⟨ta, tc, rfl⟩ := ht.txs.form
    obtain ⟨tb, toff, rfl, _, _, _, _, hc⟩ := ht.txs.at_ (i := 0) (x := ⟨3, 1, 1, 1⟩) rfl
    exact ⟨tb, toff, tc, rfl, hc 0 _ rfl⟩
  obtain ⟨da, dc, rfl⟩ := ht.dirty.form
  have HB2 : Hid (Below w.heap.size w w2) := HB1.out.trans (ht.base.mono HB1.out.size)
  clear ht HB1
  unfold FoundV
  refine wpList_plain (by rfl) fun K hK => ?_
  go_simp
  refine hK _ _ ?_
  clear hK K
  refine wpList_plain (by rfl) fun K hK => ?_
  go_simp
  refine hK _ _ ?_
  clear hK K
  refine wpList_plain (by rfl) fun K hK => ?_
  go_simp
  refine hK _ _ ?_
  clear hK K
  refine wpList_plain (by rfl) fun K hK => ?_
  go_simp
  refine hK _ _ ?_
  clear hK K
  have HX := Lib.hid (foundBox w2 33 #[.slice none 0 0, .slice none 0 0, .int .u64 0, .int .i64 0, .int .i64 0] #[.slice (some ⟨tb, toff, none⟩) 1 tc, .slice da [(5, 1)].length dc, .int .u64 (redoOf (gF (encs [rcA]) 0).end_ [(5, 1)] : Int), .int .i64 ((3 : Nat) : Int), .int .i64 ((1 : Nat) : Int)])
  refine wpList_store_row (by rfl) _ _ _ (by rfl) w2.heap.size 33 #[.slice (some ⟨tb, toff, none⟩) 1 tc, .slice da [(5, 1)].length dc, .int .u64 (redoOf (gF (encs [rcA]) 0).end_ [(5, 1)] : Int), .int .i64 ((3 : Nat) : Int), .int .i64 ((1 : Nat) : Int)] #[.slice none 0 0, .slice none 0 0, .int .u64 0, .int .i64 0, .int .i64 0] (by rfl) (by rfl) (heap_alloc_new w2 _) (by kernel_rfl) (by rfl) (by simp [Value.oneCell']) ?_
  have htl : tb < w2.heap.size := World.block_lt_of_cell? w2 ⟨tb, toff, none⟩ htc
  have htc' := (HX.out.1.cell (p := ⟨tb, toff, none⟩) htl).trans htc
  generalize ((w2.alloc (.cells #[.slice none 0 0, .slice none 0 0, .int .u64 0, .int .i64 0, .int .i64 0] 33)).setRow w2.heap.size #[.slice (some ⟨tb, toff, none⟩) 1 tc, .slice da [(5, 1)].length dc, .int .u64 (redoOf (gF (encs [rcA]) 0).end_ [(5, 1)] : Int), .int .i64 ((3 : Nat) : Int), .int .i64 ((1 : Nat) : Int)]) = w3 at *
  have c0 : w3.cell? ⟨w2.heap.size, 0, none⟩ = some (.slice (some ⟨tb, toff, none⟩) 1 tc) := HX.out.2.cell 0
  have c1 : w3.cell? ⟨w2.heap.size, 1, none⟩ = some (.slice da 1 dc) := HX.out.2.cell 1
  have c2 : w3.cell? ⟨w2.heap.size, 2, none⟩ = some (.int .u64 1) := HX.out.2.cell 2
  have c3 : w3.cell? ⟨w2.heap.size, 3, none⟩ = some (.int .i64 3) := HX.out.2.cell 3
  have HB3 : Hid (Below w.heap.size w w3) := HB2.out.trans (HX.out.1.mono HB2.out.size)
  clear HX HB2 htc
  refine wpList_plain (by rfl) fun K hK => ?_
  go_simp
  refine hK _ _ ?_
  clear hK K
  go_wp2_with (fail)
  go_ret
  exact ⟨rfl, HB3.out⟩
end
section
variable {w : World} {v : Value} {ls : List (Rc × Value × Value)}
set_option maxRecDepth 100000 in
set_option maxHeartbeats 8000000 in
theorem analyzeFinds_w (h : IsRecs w v ls) (m : Int) (hm : -9223372036854775808 ≤ m ∧ m ≤ 9223372036854775807) :
    Calls Tryz.prog 3 #[v, .int .i64 m] w fun e w' => e = .returned (.bool true) ∧ Below w.heap.size w w' := by
  obtain ⟨la, lc, rfl⟩ := h.1.form
  have HL := Lib.hid (laid19_c h m hm)
  generalize ls.map (·.1) = rs at HL
  have HA := fun W => Lib.hid (awake19_c W)
  clear h
  go_enter Tryz.func3, Tryz.ntmps3
  go_wp2_with (fail)
  refine HL.out.mono ?_
  rintro e w1 ⟨b, lb, ov, qs, mk, i0, rfl, hLW, hR, hQ, hS, hi0, hmk, _⟩
  obtain ⟨ks, hks⟩ : ∃ ks, keepR (rs.take 60) = ks := ⟨_, rfl⟩
  rw [hks] at hLW hS hi0 hmk
  have hkl : ks.length ≤ 60 := by
    have h1 := keepR_len (rs.take 60)
    have h2 := List.length_take_le 60 rs
    rw [hks] at h1
    omega
  have HRUN := Lib.hid (laid_run hS hQ)
  have HQL : Hid (qs.length ≤ 100000) := by
    have h1 := hS.length
    rw [List.length_drop, placed_length] at h1
    show _ ≤ _
    omega
  have HLW := Lib.hid hLW
  have HR := Lib.hid hR
  have HQ := Lib.hid hQ
  have HI : Hid (i0 ≤ (encs ks).length ∧ max mk 1 = pl (encs ks) i0) := ⟨by unfold encs; rw [List.length_map]; exact hi0, hmk⟩
  clear hLW hR hQ hS hi0 hmk HL hks hkl hm
  go_wp2_with (fail)
  refine (HA _).out.mono ?_
  rintro e w2 ⟨rfl, hb2⟩
  have HLW2 := Lib.hid (HLW.out.below stable_none hb2)
  have HR2 := Lib.hid (HR.out.below hb2)
  have HQ2 : Hid (∀ q ∈ qs, q.ok w2) := fun q hq => ⟨(HQ.out q hq).ok, (HQ.out q hq).mild, (HQ.out q hq).at_, (HQ.out q hq).txs.below hb2, (HQ.out q hq).dirty.below hb2⟩
  clear HLW HR HQ hb2 HA
  obtain ⟨G, hG⟩ := HLW2.out.wal
  have HRU := Lib.hid (anRun_c hG i0 HI.out.1 HI.out.2)
  rw [show (gF (encs ks) mk).recs = encs ks from rfl, HRUN.out] at HRU
  have HG := Lib.hid hG
  have HE : ∀ W, Below w2.heap.size w2 W → Hid (Calls Tryz.prog 20 #[.pointer (some ⟨lb, 0, none⟩)] W fun e w' => e = .returned (.int .u64 ((gF (encs ks) mk).end_ : Int)) ∧ w' = W) := fun W hW => by
    obtain ⟨G', hG'⟩ := (HLW2.out.below stable_none hW).wal
    exact lend_c hG'
  have H19 : ∀ W, Below w2.heap.size w2 W → Hid (Calls Tryz.prog 19 #[ov, .int .u64 ((gF (encs ks) mk).end_ : Int)] W (Run19Post W (gF (encs ks) mk).end_ (runAn qs))) := fun W hW =>
    run19_c (HR2.out.below hW) (fun q hq => ⟨(HQ2.out q hq).ok, (HQ2.out q hq).mild, (HQ2.out q hq).at_, (HQ2.out q hq).txs.below hW, (HQ2.out q hq).dirty.below hW⟩) _ HQL.out
  have HB2 := Lib.hid HLW2.out.base
  obtain ⟨oa, oc, rfl⟩ := HR2.out.form
  clear hG HI HRUN HLW2 HR2 HQ2 HQL
  obtain ⟨a, ha⟩ : ∃ a, runAn qs = a := ⟨_, rfl⟩
  rw [ha] at HRU H19
  clear ha
  generalize (gF (encs ks) mk).end_ = e0 at *
  obtain ⟨ts, hts⟩ : ∃ ts, sndL a.txs = ts := ⟨_, rfl⟩
  obtain ⟨ds, hds⟩ : ∃ ds, a.dirty = ds := ⟨_, rfl⟩
  obtain ⟨en, hen⟩ : ∃ en, redoOf e0 ds = en := ⟨_, rfl⟩
  have HTS := Lib.hid hts
  have HDS := Lib.hid hds
  have HEN := Lib.hid hen
  clear hts hds hen
  go_upto_region 4 with (fail)
  refine wp_region_lit ?_
  refine wpList_plain (by rfl) fun K hK => ?_
  go_simp
  refine hK _ _ ?_
  clear hK K
  refine wpList_plain (by rfl) fun K hK => ?_
  go_simp
  refine HRU.out.mono ?_
  rintro e w3 ⟨tv, dv, rfl, ht⟩
  refine hK _ _ ?_
  clear hK K HRU
  have hT := ht.txs
  have hD := ht.dirty
  have hb3 := ht.base
  rw [HTS.out] at hT
  rw [HDS.out, HEN.out]
  rw [HDS.out] at hD
  obtain ⟨ta, tc, rfl⟩ := hT.form
  obtain ⟨da, dc, rfl⟩ := hD.form
  clear ht
  unfold FoundV
  refine wpList_plain (by rfl) fun K hK => ?_
  go_simp
  refine hK _ _ ?_
  clear hK K
  refine wpList_plain (by rfl) fun K hK => ?_
  go_simp
  refine hK _ _ ?_
  clear hK K
  refine wpList_plain (by rfl) fun K hK => ?_
  go_simp
  refine hK _ _ ?_
  clear hK K
  refine wpList_plain (by rfl) fun K hK => ?_
  go_simp
  refine hK _ _ ?_
  clear hK K
  have HX := Lib.hid (foundBox w3 33 #[.slice none 0 0, .slice none 0 0, .int .u64 0, .int .i64 0, .int .i64 0] #[.slice ta ts.length tc, .slice da ds.length dc, .int .u64 (en : Int), .int .i64 (a.most : Int), .int .i64 (a.recs : Int)])
  refine wpList_store_row (by rfl) _ _ _ (by rfl) w3.heap.size 33 #[.slice ta ts.length tc, .slice da ds.length dc, .int .u64 (en : Int), .int .i64 (a.most : Int), .int .i64 (a.recs : Int)] #[.slice none 0 0, .slice none 0 0, .int .u64 0, .int .i64 0, .int .i64 0] (by rfl) (by rfl) (heap_alloc_new w3 _) (by kernel_rfl) (by rfl) (by simp [Value.oneCell']) ?_
  generalize ((w3.alloc (.cells #[.slice none 0 0, .slice none 0 0, .int .u64 0, .int .i64 0, .int .i64 0] 33)).setRow w3.heap.size #[.slice ta ts.length tc, .slice da ds.length dc, .int .u64 (en : Int), .int .i64 (a.most : Int), .int .i64 (a.recs : Int)]) = w4 at *
  have hb4 : Below w2.heap.size w2 w4 := hb3.trans (HX.out.1.mono hb3.size)
  have HT4 := Lib.hid (hT.below HX.out.1)
  have HD4 := Lib.hid (hD.below HX.out.1)
  have HF4 := Lib.hid HX.out.2
  have HB4 : Hid (Below w.heap.size w w4) := HB2.out.trans (hb4.mono HB2.out.size)
  have HE4 := HE w4 hb4
  have H194 := H19 w4 hb4
  clear HX hT hD hb3 hb4 HE H19 HB2
  refine wpList_plain (by rfl) fun K hK => ?_
  go_simp
  refine hK _ _ ?_
  clear hK K
  go_upto_region 5 with (fail)
  refine wp_region_lit ?_
  refine wpList_plain (by rfl) fun K hK => ?_
  go_simp
  refine hK _ _ ?_
  clear hK K
  refine wpList_plain (by rfl) fun K hK => ?_
  go_simp
  refine hK _ _ ?_
  clear hK K
  refine wpList_plain (by rfl) fun K hK => ?_
  go_simp
  refine HE4.out.mono ?_
  rintro e w4' ⟨rfl, rfl⟩
  refine hK _ _ ?_
  clear hK K HE4
  refine wpList_plain (by rfl) fun K hK => ?_
  go_simp
  refine H194.out.mono ?_
  rintro e w5 ⟨uv, vv, rfl, hU, hV, hb5⟩
  refine hK _ _ ?_
  clear hK K H194
  rw [HTS.out] at hU
  rw [HDS.out, HEN.out]
  rw [HDS.out] at hV
  obtain ⟨ua, uc, rfl⟩ := hU.form
  obtain ⟨va, vc, rfl⟩ := hV.form
  refine wpList_plain (by rfl) fun K hK => ?_
  go_simp
  refine hK _ _ ?_
  clear hK K
  have HX := Lib.hid (foundBox w5 40 #[.slice none 0 0, .slice none 0 0, .int .u64 0, .int .i64 0, .int .i64 0] #[.slice ua ts.length uc, .slice va ds.length vc, .int .u64 (en : Int), .int .i64 (a.most : Int), .int .i64 (a.recs : Int)])
  refine wpList_store_row (by rfl) _ _ _ (by rfl) w5.heap.size 40 #[.slice ua ts.length uc, .slice va ds.length vc, .int .u64 (en : Int), .int .i64 (a.most : Int), .int .i64 (a.recs : Int)] #[.slice none 0 0, .slice none 0 0, .int .u64 0, .int .i64 0, .int .i64 0] (by rfl) (by rfl) (heap_alloc_new w5 _) (by kernel_rfl) (by rfl) (by simp [Value.oneCell']) ?_
  generalize ((w5.alloc (.cells #[.slice none 0 0, .slice none 0 0, .int .u64 0, .int .i64 0, .int .i64 0] 40)).setRow w5.heap.size #[.slice ua ts.length uc, .slice va ds.length vc, .int .u64 (en : Int), .int .i64 (a.most : Int), .int .i64 (a.recs : Int)]) = w6 at *
  have HG6 : Hid (FG w w3.heap.size w5.heap.size ts ds a.most a.recs en (.slice ta ts.length tc) (.slice da ds.length dc) (.slice ua ts.length uc) (.slice va ds.length vc) w6) := by
    have h4 := HF4.out.same (hb5.block _ HF4.out.lt)
    have h46 : Below w4'.heap.size w4' w6 := hb5.trans (HX.out.1.mono hb5.size)
    exact ⟨HB4.out.trans (h46.mono HB4.out.size), h4.same (HX.out.1.block _ h4.lt), HX.out.2, HT4.out.below h46, HD4.out.below h46, hU.below HX.out.1, hV.below HX.out.1⟩
  clear HX hU hV hb5 HT4 HD4 HF4 HB4 HTS HDS HEN
  generalize w3.heap.size = fb at *
  generalize w5.heap.size = gb at *
  have c0 : w6.cell? ⟨fb, 0, none⟩ = some (.slice ta ts.length tc) := HG6.out.fbx.cell 0
  have c1 : w6.cell? ⟨fb, 1, none⟩ = some (.slice da ds.length dc) := HG6.out.fbx.cell 1
  have c2 : w6.cell? ⟨fb, 2, none⟩ = some (.int .u64 (en : Int)) := HG6.out.fbx.cell 2
  have c3 : w6.cell? ⟨fb, 3, none⟩ = some (.int .i64 (a.most : Int)) := HG6.out.fbx.cell 3
  have c4 : w6.cell? ⟨fb, 4, none⟩ = some (.int .i64 (a.recs : Int)) := HG6.out.fbx.cell 4
  have d0 : w6.cell? ⟨gb, 0, none⟩ = some (.slice ua ts.length uc) := HG6.out.gbx.cell 0
  have d1 : w6.cell? ⟨gb, 1, none⟩ = some (.slice va ds.length vc) := HG6.out.gbx.cell 1
  have d2 : w6.cell? ⟨gb, 2, none⟩ = some (.int .u64 (en : Int)) := HG6.out.gbx.cell 2
  have d3 : w6.cell? ⟨gb, 3, none⟩ = some (.int .i64 (a.most : Int)) := HG6.out.gbx.cell 3
  have d4 : w6.cell? ⟨gb, 4, none⟩ = some (.int .i64 (a.recs : Int)) := HG6.out.gbx.cell 4
  go_wp2_with (fail)
  clear c0 c1 c2 c3 c4 d0 d1 d2 d3 d4
  go_loopw [11] (fun iv wr => ∃ k : Nat, iv = .int .i64 (k : Int) ∧ k ≤ ts.length ∧ Hid (FG w fb gb ts ds a.most a.recs en (.slice ta ts.length tc) (.slice da ds.length dc) (.slice ua ts.length uc) (.slice va ds.length vc) wr)) (fun iv _ => ts.length - (intOf iv).toNat)
  case atStart => exact ⟨0, rfl, Nat.zero_le _, HG6⟩
  case round =>
    clear HG6
    obtain ⟨k, rfl, hk, HG⟩ := hrel
    have c0 : wr.cell? ⟨fb, 0, none⟩ = some (.slice ta ts.length tc) := HG.out.fbx.cell 0
    have d0 : wr.cell? ⟨gb, 0, none⟩ = some (.slice ua ts.length uc) := HG.out.gbx.cell 0
    have hfl : fb < wr.heap.size := HG.out.fbx.lt
    have hgl : gb < wr.heap.size := HG.out.gbx.lt
    by_cases hkl : k < ts.length
    · obtain ⟨t, hkt⟩ : ∃ t, ts[k]? = some t := ⟨_, List.getElem?_eq_getElem hkl⟩
      obtain ⟨tb, toff, rfl, _, g1, g2, htl, hc⟩ := HG.out.tx.at_ hkt
      obtain ⟨ub, uoff, rfl, _, g3, g4, hul, hd⟩ := HG.out.ux.at_ hkt
      have hml : ts.length ≤ 9223372036854775807 := by unfold maxLen at g2; omega
      have e0 : wr.cell? ⟨tb, toff + k * 4, none⟩ = some (.int .i64 t.tx) := hc 0 _ rfl
      have e1 : wr.cell? ⟨tb, toff + k * 4 + 1, none⟩ = some (.int .i64 t.state) := hc 1 _ rfl
      have e2 : wr.cell? ⟨tb, toff + k * 4 + 2, none⟩ = some (.int .u64 (t.last : Int)) := hc 2 _ rfl
      have e3 : wr.cell? ⟨tb, toff + k * 4 + 3, none⟩ = some (.int .u64 (t.next : Int)) := hc 3 _ rfl
      have i0 : wr.cell? ⟨ub, uoff + k * 4, none⟩ = some (.int .i64 t.tx) := hd 0 _ rfl
      have i1 : wr.cell? ⟨ub, uoff + k * 4 + 1, none⟩ = some (.int .i64 t.state) := hd 1 _ rfl
      have i2 : wr.cell? ⟨ub, uoff + k * 4 + 2, none⟩ = some (.int .u64 (t.last : Int)) := hd 2 _ rfl
      have i3 : wr.cell? ⟨ub, uoff + k * 4 + 3, none⟩ = some (.int .u64 (t.next : Int)) := hd 3 _ rfl
      have HKL := Lib.hid hkl
      clear hc hd hkt g1 g2 g3 g4
      go_wp2_with (fail)
      go_region
      all_goals
        go_wp2_with (fail)
        go_roundw
        case rel => exact ⟨k + 1, by go_num, HKL.out, Lib.hid (HG.out.below (by first | exact ((Below.refl _ _).alloc (Nat.le_refl _) _).alloc (by simp) _ | exact (((Below.refl _ _).alloc (Nat.le_refl _) _).alloc (by simp) _).drew | exact (((Below.refl _ _).alloc (Nat.le_refl _) _).alloc (by simp) _).trans ((below_drewN _ _).mono (by simp; omega))))⟩
        case measure => have := HKL.out; simp [intOf]; omega
    · obtain rfl : k = ts.length := by omega
      have HG0 := Lib.hid HG.out
      clear HG
      go_wp2_with (fail)
      clear c0 d0 hfl hgl hk hkl
      go_loopw [14] (fun iv wr => ∃ k : Nat, iv = .int .i64 (k : Int) ∧ k ≤ ds.length ∧ Hid (FG w fb gb ts ds a.most a.recs en (.slice ta ts.length tc) (.slice da ds.length dc) (.slice ua ts.length uc) (.slice va ds.length vc) wr)) (fun iv _ => ds.length - (intOf iv).toNat)
      case atStart => exact ⟨0, rfl, Nat.zero_le _, HG0⟩
      case round =>
        clear HG0
        obtain ⟨k, rfl, hk, HG⟩ := hrel
        have c1 : wr.cell? ⟨fb, 1, none⟩ = some (.slice da ds.length dc) := HG.out.fbx.cell 1
        have d1 : wr.cell? ⟨gb, 1, none⟩ = some (.slice va ds.length vc) := HG.out.gbx.cell 1
        by_cases hkl : k < ds.length
        · obtain ⟨⟨t1, t2⟩, hkt⟩ : ∃ t, ds[k]? = some t := ⟨_, List.getElem?_eq_getElem hkl⟩
          obtain ⟨tb, toff, rfl, _, g1, g2, htl, hc⟩ := HG.out.dx.at_ hkt
          obtain ⟨ub, uoff, rfl, _, g3, g4, hul, hd⟩ := HG.out.vx.at_ hkt
          have hml : ds.length ≤ 9223372036854775807 := by unfold maxLen at g2; omega
          have e0 : wr.cell? ⟨tb, toff + k * 2, none⟩ = some (.int .u32 (t1 : Int)) := hc 0 _ rfl
          have e1 : wr.cell? ⟨tb, toff + k * 2 + 1, none⟩ = some (.int .u64 (t2 : Int)) := hc 1 _ rfl
          have i0 : wr.cell? ⟨ub, uoff + k * 2, none⟩ = some (.int .u32 (t1 : Int)) := hd 0 _ rfl
          have i1 : wr.cell? ⟨ub, uoff + k * 2 + 1, none⟩ = some (.int .u64 (t2 : Int)) := hd 1 _ rfl
          have HKL := Lib.hid hkl
          clear hc hd hkt g1 g2 g3 g4
          go_wp2_with (fail)
          go_quiet (fail)
          have HRES := Lib.hid (HG.out.below (below_drewN wr nq))
          clear HG e0 e1 i0 i1 c1 d1
          go_wp2_with (fail)
          go_roundw
          case rel => exact ⟨k + 1, by go_num, HKL.out, HRES⟩
          case measure => have := HKL.out; simp [intOf]; omega
        · obtain rfl : k = ds.length := by omega
          have HB := Lib.hid HG.out.base
          clear HG
          go_wp2_with (fail)
          go_ret
          exact ⟨rfl, HB.out⟩
end
end Go.Proofs.YtpnndlahfllbhaaGreat
