/-
  The walk of girderlaw19.AnalyzeWrong.
-/
import Derived.Test.YtpnndlahfllbhaaGreatUAF
namespace Go.Proofs.YtpnndlahfllbhaaGreat
open Go Go.RowKit
attribute [local go_sem ↓] Go.wp_at_zero Go.wp_at_succ

section
variable {w : World}
set_option maxRecDepth 100000 in
set_option maxHeartbeats 1000000 in
theorem anRun_nil (w : World) : Calls Tryz.prog 18 #[.pointer none] w fun e w' => e = .returned (.tuple #[FoundV 0 0 0 (.slice none 0 0) (.slice none 0 0), .int .i64 1]) ∧ Below w.heap.size w w' := by
  go_enter Tryz.func18, Tryz.ntmps18
  go_wp2_with (fail)
  refine bodyPost_ret (v := .tuple #[.agg #[.slice none 0 0, .slice none 0 0, .int .u64 0, .int .i64 0, .int .i64 0], .int .i64 1]) (by simp [results, Tryz.results18, go_sem]) rfl ⟨rfl, (Below.refl _ _).alloc (Nat.le_refl _) _⟩
theorem gF_tight (l : List ByteArray) (mk : Nat) : (gF l mk).tight := by
  have := endFrom_length l 1
  show 0 + 1 ≤ endFrom 1 l
  omega
theorem gF_try {l : List ByteArray} {mk : Nat} {s : ByteArray} (h1 : 1 ≤ s.size) (h2 : s.size ≤ 8192) (h3 : endFrom 1 l ≤ 4000000) : (gF l mk).tryAdd s (gF l mk).kept = (gF l mk).add s ∧ addV (gF l mk) s (gF l mk).kept = .tuple #[.int .u64 (endFrom 1 l : Int), .int .i64 0] := by
  have e1 : ¬ badRec s := by unfold badRec; omega
  have e2 : ¬ addFull (gF l mk) s (gF l mk).kept := by
    unfold addFull
    show ¬ (4194305 - (endFrom 1 l : Int)) < _ + _ + (0 : Int)
    omega
  unfold Lg.tryAdd addV
  rw [if_neg e1, if_neg e2, if_neg e1, if_neg e2]
  exact ⟨rfl, rfl⟩
end
section
variable {w : World} {v : Value} {ls : List (Rc × Value × Value)}
set_option maxRecDepth 100000 in
set_option maxHeartbeats 8000000 in
theorem analyzeWrong_w (h : IsRecs w v ls) (s : ByteArray) (hs : s.size ≤ maxLen) :
    Calls Tryz.prog 4 #[v, .string s] w fun e w' => e = .returned (.bool true) ∧ Below w.heap.size w w' := by
  obtain ⟨la, lc, rfl⟩ := h.1.form
  have HL := Lib.hid (laid19_c h (-1) (by omega))
  generalize ls.map (·.1) = rs at HL
  clear h
  have HA := fun W => Lib.hid (awake19_c W)
  have HN := fun W => Lib.hid (anRun_nil W)
  have hs' : s.size ≤ 9223372036854775807 := by unfold maxLen at hs; omega
  go_enter Tryz.func4, Tryz.ntmps4
  go_wp2_with (fail)
  refine HL.out.mono ?_
  rintro e w1 ⟨b, lb, ov, qs, mk, i0, rfl, hLW, hR, hQ, hS, hi0, hmk, hneg⟩
  obtain ⟨rfl, rfl⟩ := hneg (by omega)
  obtain ⟨ks, hks⟩ : ∃ ks, keepR (rs.take 60) = ks := ⟨_, rfl⟩
  rw [hks] at hLW hS hi0
  have hkl : ks.length ≤ 60 := by
    have h1 := keepR_len (rs.take 60)
    have h2 := List.length_take_le 60 rs
    rw [hks] at h1
    omega
  have HKO : Hid (∀ r ∈ ks, r.ok) := fun r hr => by rw [← hks] at hr; exact (keepR_ok hr).2
  have HKL := Lib.hid hkl
  have HRUN := Lib.hid (laid_run hS hQ)
  have HAOK : Hid ((runAn qs).ok ∧ (runAn qs).st) := ⟨runAn_ok qs hQ, runAn_st qs (fun q hq => (hQ q hq).ok)⟩
  obtain ⟨a, ha⟩ : ∃ a, runAn qs = a := ⟨_, rfl⟩
  rw [ha] at HRUN HAOK
  obtain ⟨oa, oc, rfl⟩ := hR.form
  have HLW := Lib.hid hLW
  clear hLW hR hQ hS hi0 hmk hneg HL hks hkl ha
  have HN1 := HN w1
  go_upto_region 2 with (fail)
  refine wp_region_lit ?_
  refine wpList_plain (by rfl) fun K hK => ?_
  go_simp
  refine HN1.out.mono ?_
  rintro e w2 ⟨rfl, hb2⟩
  refine hK _ _ ?_
  clear hK K HN1
  unfold FoundV
  refine wpList_plain (by rfl) fun K hK => ?_
  go_simp
  refine hK _ _ ?_
  clear hK K
  refine wpList_plain (by rfl) fun K hK => ?_
  go_simp
  refine hK _ _ ?_
  clear hK K
  refine wpList_plain (by rfl) fun K hK => ?_
  go_simp
  refine hK _ _ ?_
  clear hK K
  refine wpList_plain (by rfl) fun K hK => ?_
  go_simp
  refine hK _ _ ?_
  clear hK K
  have HX := Lib.hid (foundBox w2 33 #[.slice none 0 0, .slice none 0 0, .int .u64 0, .int .i64 0, .int .i64 0] #[.slice none 0 0, .slice none 0 0, .int .u64 ((0 : Nat) : Int), .int .i64 ((0 : Nat) : Int), .int .i64 ((0 : Nat) : Int)])
  refine wpList_store_row (by rfl) _ _ _ (by rfl) w2.heap.size 33 #[.slice none 0 0, .slice none 0 0, .int .u64 ((0 : Nat) : Int), .int .i64 ((0 : Nat) : Int), .int .i64 ((0 : Nat) : Int)] #[.slice none 0 0, .slice none 0 0, .int .u64 0, .int .i64 0, .int .i64 0] (by rfl) (by rfl) (heap_alloc_new w2 _) (by kernel_rfl) (by rfl) (by simp [Value.oneCell']) ?_
  generalize ((w2.alloc (.cells #[.slice none 0 0, .slice none 0 0, .int .u64 0, .int .i64 0, .int .i64 0] 33)).setRow w2.heap.size #[.slice none 0 0, .slice none 0 0, .int .u64 ((0 : Nat) : Int), .int .i64 ((0 : Nat) : Int), .int .i64 ((0 : Nat) : Int)]) = w3 at *
  have HLW3 := Lib.hid ((HLW.out.below stable_none hb2).below stable_none HX.out.1)
  clear HX hb2 HLW HN
  refine wpList_plain (by rfl) fun K hK => ?_
  go_simp
  refine hK _ _ ?_
  clear hK K
  go_wp2_with (fail)
  refine (HA _).out.mono ?_
  rintro e w4 ⟨rfl, hb4⟩
  have HLW4 := Lib.hid (HLW3.out.below stable_none hb4)
  clear hb4 HLW3 HA
  by_cases hs1 : s.size < 1
  · have HB := Lib.hid HLW4.out.base
    have hs1' : (s.size : Int) < 1 := by omega
    clear HLW4
    go_wp2_with (fail)
    go_ret
    exact ⟨rfl, HB.out⟩
  · by_cases hs2 : 1000 < s.size
    · have HB := Lib.hid HLW4.out.base
      have hs1' : ¬ (s.size : Int) < 1 := by omega
      have hs2' : (1000 : Int) < (s.size : Int) := by omega
      clear HLW4
      go_wp2_with (fail)
      go_ret
      exact ⟨rfl, HB.out⟩
    · have hs1' : ¬ (s.size : Int) < 1 := by omega
      have hs2' : ¬ (1000 : Int) < (s.size : Int) := by omega
      have hend := encs_end ks 1 HKO.out
      have hkl := HKL.out
      obtain ⟨t1, t2⟩ := gF_try (l := encs ks) (mk := 0) (s := s) (by omega) (by omega) (by omega)
      have HAP : Hid (Calls Tryz.prog 21 #[.pointer (some ⟨lb, 0, none⟩), .string s] w4 fun e w' => e = .returned (.tuple #[.int .u64 (endFrom 1 (encs ks) : Int), .int .i64 0]) ∧ LW w (fun _ => False) (fun _ => True) b lb (frames 1 (encs ks)) 0 ((gF (encs ks) 0).add s) w') := by
        have := HLW4.out.logs stable_none (fun G h1 => lappend_c h1 (gF_tight _ _) s (by omega))
        rw [t1, t2] at this
        exact this
      clear hend hkl t1 t2 HLW4
      go_wp2_with (fail)
      refine HAP.out.mono ?_
      rintro e w5 ⟨rfl, hL5⟩
      have HB5 := Lib.hid hL5.base
      obtain ⟨G, hG⟩ := hL5.wal
      have hru := anRun_c hG 0 (Nat.zero_le _) rfl
      have hrs := runA_snoc s (encs ks) 1 An.zero a HRUN.out
      rw [show runA (pl ((gF (encs ks) 0).add s).recs 0) (((gF (encs ks) 0).add s).recs.drop 0) An.zero = runA 1 (encs ks ++ [s]) An.zero from rfl, hrs] at hru
      have hs3 : s.size ≤ 1000 := by omega
      have HDC : ∀ W, Hid (Calls Tryz.prog 22 #[.string s] W (RecPost W s)) := fun W => recDecode_c (by omega)
      unfold RecPost at HDC
      obtain ⟨⟨x, c⟩, hx⟩ : ∃ q, recE s = q := ⟨_, rfl⟩
      rw [hx] at hru
      rw [hx] at HDC
      simp only at hru HDC
      have HX0 := Lib.hid hx
      clear hL5 hG hrs HAP HRUN HAOK HKO HKL hx
      rcases recE_ok HX0.out with ⟨rfl, hok⟩ | ⟨rfl, rfl⟩
      · rw [if_pos rfl] at hru
        have HRU := Lib.hid hru
        clear hru hok
        go_upto_region 10 with (fail)
        refine wp_region_lit ?_
        refine wpList_plain (by rfl) fun K hK => ?_
        go_simp
        refine hK _ _ ?_
        clear hK K
        refine wpList_plain (by rfl) fun K hK => ?_
        go_simp
        refine HRU.out.mono ?_
        rintro e w6 ⟨tv, dv, rfl, ht⟩
        refine hK _ _ ?_
        clear hK K HRU
        obtain ⟨ta, tc, rfl⟩ := ht.txs.form
        obtain ⟨da, dc, rfl⟩ := ht.dirty.form
        have HB6 : Hid (Below w.heap.size w w6) := HB5.out.trans (ht.base.mono HB5.out.size)
        clear ht HB5
        unfold FoundV
        generalize a.step (endFrom 1 (encs ks)) x = a2 at *
        generalize redoOf ((gF (encs ks) 0).add s).end_ a2.next.dirty = en at *
        refine wpList_plain (by rfl) fun K hK => ?_
        go_simp
        refine hK _ _ ?_
        clear hK K
        refine wpList_plain (by rfl) fun K hK => ?_
        go_simp
        refine hK _ _ ?_
        clear hK K
        refine wpList_plain (by rfl) fun K hK => ?_
        go_simp
        refine hK _ _ ?_
        clear hK K
        refine wpList_plain (by rfl) fun K hK => ?_
        go_simp
        refine hK _ _ ?_
        clear hK K
        have HX := Lib.hid (foundBox w6 33 #[.slice none 0 0, .slice none 0 0, .int .u64 0, .int .i64 0, .int .i64 0] #[.slice ta (sndL a2.next.txs).length tc, .slice da a2.next.dirty.length dc, .int .u64 (en : Int), .int .i64 (a2.next.most : Int), .int .i64 (a2.next.recs : Int)])
        refine wpList_store_row (by rfl) _ _ _ (by rfl) w6.heap.size 33 #[.slice ta (sndL a2.next.txs).length tc, .slice da a2.next.dirty.length dc, .int .u64 (en : Int), .int .i64 (a2.next.most : Int), .int .i64 (a2.next.recs : Int)] #[.slice none 0 0, .slice none 0 0, .int .u64 0, .int .i64 0, .int .i64 0] (by rfl) (by rfl) (heap_alloc_new w6 _) (by kernel_rfl) (by rfl) (by simp [Value.oneCell']) ?_
        generalize ((w6.alloc (.cells #[.slice none 0 0, .slice none 0 0, .int .u64 0, .int .i64 0, .int .i64 0] 33)).setRow w6.heap.size #[.slice ta (sndL a2.next.txs).length tc, .slice da a2.next.dirty.length dc, .int .u64 (en : Int), .int .i64 (a2.next.most : Int), .int .i64 (a2.next.recs : Int)]) = w7 at *
        have HB7 : Hid (Below w.heap.size w w7) := HB6.out.trans (HX.out.1.mono HB6.out.size)
        clear HX HB6
        refine wpList_plain (by rfl) fun K hK => ?_
        go_simp
        refine hK _ _ ?_
        clear hK K
        go_upto_region 11 with (fail)
        refine wp_region_lit ?_
        refine wpList_plain (by rfl) fun K hK => ?_
        go_simp
        refine hK _ _ ?_
        clear hK K
        have HD7 := HDC w7
        clear HDC
        refine wpList_plain (by rfl) fun K hK => ?_
        go_simp
        refine HD7.out.mono ?_
        rintro e w8 ⟨tv2, dv2, rfl, hra, hb8, _, _⟩
        refine hK _ _ ?_
        clear hK K HD7
        obtain ⟨ta2, tc2, rfl⟩ := hra.txs.form
        obtain ⟨da2, dc2, rfl⟩ := hra.dirty.form
        have HB8 : Hid (Below w.heap.size w w8) := HB7.out.trans (hb8.mono HB7.out.size)
        clear hra hb8 HB7
        refine wpList_plain (by rfl) fun K hK => ?_
        go_simp
        refine hK _ _ ?_
        clear hK K
        refine wpList_plain (by rfl) fun K hK => ?_
        go_simp
        refine hK _ _ ?_
        clear hK K
        refine wpList_plain (by rfl) fun K hK => ?_
        go_simp
        refine hK _ _ ?_
        clear hK K
        refine wpList_plain (by rfl) fun K hK => ?_
        go_simp
        refine hK _ _ ?_
        clear hK K
        have HX := Lib.hid (foundBox w8 63 #[.int .i64 0, .int .i64 0, .int .u64 0, .int .u64 0, .int .u32 0, .int .i64 0, .int .i64 0, .string ⟨#[]⟩, .string ⟨#[]⟩, .int .i64 0, .int .i64 0, .string ⟨#[]⟩, .int .u32 0, .int .i64 0, .bool false, .slice none 0 0, .slice none 0 0] (recC x (.slice ta2 x.txs.length tc2) (.slice da2 x.dirty.length dc2)).toArray)
        refine wpList_store_row (by rfl) _ _ _ (by rfl) w8.heap.size 63 (recC x (.slice ta2 x.txs.length tc2) (.slice da2 x.dirty.length dc2)).toArray #[.int .i64 0, .int .i64 0, .int .u64 0, .int .u64 0, .int .u32 0, .int .i64 0, .int .i64 0, .string ⟨#[]⟩, .string ⟨#[]⟩, .int .i64 0, .int .i64 0, .string ⟨#[]⟩, .int .u32 0, .int .i64 0, .bool false, .slice none 0 0, .slice none 0 0] (by rfl) (by rfl) (heap_alloc_new w8 _) (by kernel_rfl) (by rfl) (by simp [Value.oneCell', recC]) ?_
        generalize ((w8.alloc (.cells #[.int .i64 0, .int .i64 0, .int .u64 0, .int .u64 0, .int .u32 0, .int .i64 0, .int .i64 0, .string ⟨#[]⟩, .string ⟨#[]⟩, .int .i64 0, .int .i64 0, .string ⟨#[]⟩, .int .u32 0, .int .i64 0, .bool false, .slice none 0 0, .slice none 0 0] 63)).setRow w8.heap.size (recC x (.slice ta2 x.txs.length tc2) (.slice da2 x.dirty.length dc2)).toArray) = w9 at *
        have HB9 : Hid (Below w.heap.size w w9) := HB8.out.trans (HX.out.1.mono HB8.out.size)
        clear HX HB8
        refine wpList_plain (by rfl) fun K hK => ?_
        go_simp
        refine hK _ _ ?_
        clear hK K
        go_wp2_with (fail)
        go_ret
        exact ⟨rfl, HB9.out⟩
      · rw [if_neg (by decide)] at hru
        have HRU := Lib.hid hru
        clear hru
        go_upto_region 10 with (fail)
        refine wp_region_lit ?_
        refine wpList_plain (by rfl) fun K hK => ?_
        go_simp
        refine hK _ _ ?_
        clear hK K
        refine wpList_plain (by rfl) fun K hK => ?_
        go_simp
        refine HRU.out.mono ?_
        rintro e w6 ⟨rfl, hb6⟩
        refine hK _ _ ?_
        clear hK K HRU
        have HB6 : Hid (Below w.heap.size w w6) := HB5.out.trans (hb6.mono HB5.out.size)
        clear hb6 HB5
        unfold FoundV
        refine wpList_plain (by rfl) fun K hK => ?_
        go_simp
        refine hK _ _ ?_
        clear hK K
        refine wpList_plain (by rfl) fun K hK => ?_
        go_simp
        refine hK _ _ ?_
        clear hK K
        refine wpList_plain (by rfl) fun K hK => ?_
        go_simp
        refine hK _ _ ?_
        clear hK K
        refine wpList_plain (by rfl) fun K hK => ?_
        go_simp
        refine hK _ _ ?_
        clear hK K
        have HX := Lib.hid (foundBox w6 33 #[.slice none 0 0, .slice none 0 0, .int .u64 0, .int .i64 0, .int .i64 0] #[.slice none 0 0, .slice none 0 0, .int .u64 ((0 : Nat) : Int), .int .i64 ((0 : Nat) : Int), .int .i64 ((0 : Nat) : Int)])
        refine wpList_store_row (by rfl) _ _ _ (by rfl) w6.heap.size 33 #[.slice none 0 0, .slice none 0 0, .int .u64 ((0 : Nat) : Int), .int .i64 ((0 : Nat) : Int), .int .i64 ((0 : Nat) : Int)] #[.slice none 0 0, .slice none 0 0, .int .u64 0, .int .i64 0, .int .i64 0] (by rfl) (by rfl) (heap_alloc_new w6 _) (by kernel_rfl) (by rfl) (by simp [Value.oneCell']) ?_
        generalize ((w6.alloc (.cells #[.slice none 0 0, .slice none 0 0, .int .u64 0, .int .i64 0, .int .i64 0] 33)).setRow w6.heap.size #[.slice none 0 0, .slice none 0 0, .int .u64 ((0 : Nat) : Int), .int .i64 ((0 : Nat) : Int), .int .i64 ((0 : Nat) : Int)]) = w7 at *
        have HB7 : Hid (Below w.heap.size w w7) := HB6.out.trans (HX.out.1.mono HB6.out.size)
        have HF7 := Lib.hid HX.out.2
        clear HX HB6
        refine wpList_plain (by rfl) fun K hK => ?_
        go_simp
        refine hK _ _ ?_
        clear hK K
        go_upto_region 11 with (fail)
        refine wp_region_lit ?_
        refine wpList_plain (by rfl) fun K hK => ?_
        go_simp
        refine hK _ _ ?_
        clear hK K
        have HD7 := HDC w7
        clear HDC
        refine wpList_plain (by rfl) fun K hK => ?_
        go_simp
        refine HD7.out.mono ?_
        rintro e w8 ⟨tv2, dv2, rfl, hra, hb8, _, _⟩
        refine hK _ _ ?_
        clear hK K HD7
        obtain ⟨ta2, tc2, rfl⟩ := hra.txs.form
        obtain ⟨da2, dc2, rfl⟩ := hra.dirty.form
        have HB8 : Hid (Below w.heap.size w w8) := HB7.out.trans (hb8.mono HB7.out.size)
        have HF8 := Lib.hid (HF7.out.same (hb8.block _ HF7.out.lt))
        clear hra hb8 HB7 HF7
        refine wpList_plain (by rfl) fun K hK => ?_
        go_simp
        refine hK _ _ ?_
        clear hK K
        refine wpList_plain (by rfl) fun K hK => ?_
        go_simp
        refine hK _ _ ?_
        clear hK K
        refine wpList_plain (by rfl) fun K hK => ?_
        go_simp
        refine hK _ _ ?_
        clear hK K
        refine wpList_plain (by rfl) fun K hK => ?_
        go_simp
        refine hK _ _ ?_
        clear hK K
        have HX := Lib.hid (foundBox w8 63 #[.int .i64 0, .int .i64 0, .int .u64 0, .int .u64 0, .int .u32 0, .int .i64 0, .int .i64 0, .string ⟨#[]⟩, .string ⟨#[]⟩, .int .i64 0, .int .i64 0, .string ⟨#[]⟩, .int .u32 0, .int .i64 0, .bool false, .slice none 0 0, .slice none 0 0] (recC Rc.none (.slice ta2 Rc.none.txs.length tc2) (.slice da2 Rc.none.dirty.length dc2)).toArray)
        refine wpList_store_row (by rfl) _ _ _ (by rfl) w8.heap.size 63 (recC Rc.none (.slice ta2 Rc.none.txs.length tc2) (.slice da2 Rc.none.dirty.length dc2)).toArray #[.int .i64 0, .int .i64 0, .int .u64 0, .int .u64 0, .int .u32 0, .int .i64 0, .int .i64 0, .string ⟨#[]⟩, .string ⟨#[]⟩, .int .i64 0, .int .i64 0, .string ⟨#[]⟩, .int .u32 0, .int .i64 0, .bool false, .slice none 0 0, .slice none 0 0] (by rfl) (by rfl) (heap_alloc_new w8 _) (by kernel_rfl) (by rfl) (by simp [Value.oneCell', recC]) ?_
        generalize ((w8.alloc (.cells #[.int .i64 0, .int .i64 0, .int .u64 0, .int .u64 0, .int .u32 0, .int .i64 0, .int .i64 0, .string ⟨#[]⟩, .string ⟨#[]⟩, .int .i64 0, .int .i64 0, .string ⟨#[]⟩, .int .u32 0, .int .i64 0, .bool false, .slice none 0 0, .slice none 0 0] 63)).setRow w8.heap.size (recC Rc.none (.slice ta2 Rc.none.txs.length tc2) (.slice da2 Rc.none.dirty.length dc2)).toArray) = w9 at *
        have HB9 : Hid (Below w.heap.size w w9) := HB8.out.trans (HX.out.1.mono HB8.out.size)
        have HF9 := Lib.hid (HF8.out.same (HX.out.1.block _ HF8.out.lt))
        clear HX HB8 HF8
        have c0 : w9.cell? ⟨w6.heap.size, 0, none⟩ = some (.slice none 0 0) := HF9.out.cell 0
        have c4 : w9.cell? ⟨w6.heap.size, 4, none⟩ = some (.int .i64 0) := HF9.out.cell 4
        refine wpList_plain (by rfl) fun K hK => ?_
        go_simp
        refine hK _ _ ?_
        clear hK K
        go_wp2_with (fail)
        go_ret
        exact ⟨rfl, HB9.out⟩
end
end Go.Proofs.YtpnndlahfllbhaaGreat
