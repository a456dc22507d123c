/-
  The walk of page.Decode.
-/
import Derived.Test.YtnghgkaoopcglaaGreatQ3a
import Derived.Test.YtnghgkaoopcglaaGreatV2
namespace Go.Proofs.YtnghgkaoopcglaaGreat
open Go.RowKit
attribute [local go_sem ↓] Go.wp_at_zero Go.wp_at_succ

theorem infoInt3 : (Tryz.prog.info? 3).map (fun i => (i.zero, i.size, i.bytes)) = some (some (.int .i64 0), 1, 8) := by kernel_rfl
theorem infoStr3 : (Tryz.prog.info? 9).map (fun i => (i.zero, i.size, i.bytes)) = some (some (.string ⟨#[]⟩), 1, 16) := by kernel_rfl
theorem count_zero (s : ByteArray) : (Lib.countByte s.data.toList 0 = s.size) ↔ allZero s = true := by
  have hl : s.size = s.data.toList.length := ba_size s
  rw [hl]
  unfold Lib.countByte allZero
  rw [List.count_eq_length, List.all_eq_true]
  exact ⟨fun h x hx => by have := h x hx; simp [← this], fun h x hx => by have := h x hx; simpa using (by simpa using this : x = 0).symm⟩
set_option maxRecDepth 100000 in
set_option maxHeartbeats 4000000 in
theorem pdecode_c (w : World) (s : ByteArray) (hs : s.size ≤ 1000000000000) : Calls Tryz.prog 26 #[.string s] w (DecPost w s) := by
  by_cases h1 : s.size < 512
  · have hd : decE s = (Sh.none, 4) := by unfold decE; rw [if_pos h1]
    have HD := Lib.hid hd
    clear hd
    go_enter Tryz.func26, Tryz.ntmps26
    go_wp2
    (try simp only [Exit.inBlock, Exit.then])
    refine bodyPost_ret (v := .tuple #[.agg #[.int .u32 0, .int .u64 0, .int .i64 0, .string ⟨#[]⟩, .slice none 0 0], .int .i64 4]) (by simp [results, Tryz.results26, go_sem]) rfl ?_
    exact dec_none HD.out rfl ((Below.refl _ _).alloc (Nat.le_refl _) _)
  · by_cases h2 : 512 < s.size
    · have hd : decE s = (Sh.none, 5) := by unfold decE; rw [if_neg h1, if_pos h2]
      have HD := Lib.hid hd
      clear hd
      go_enter Tryz.func26, Tryz.ntmps26
      go_wp2
      (try simp only [Exit.inBlock, Exit.then])
      refine bodyPost_ret (v := .tuple #[.agg #[.int .u32 0, .int .u64 0, .int .i64 0, .string ⟨#[]⟩, .slice none 0 0], .int .i64 5]) (by simp [results, Tryz.results26, go_sem]) rfl ?_
      exact dec_none HD.out rfl ((Below.refl _ _).alloc (Nat.le_refl _) _)
    · have hz5 : s.size = 512 := by omega
      have HCN : ∀ W, Hid (Calls Tryz.prog 76 #[.string s, .string ⟨#[0]⟩] W fun e w' => e = .returned (.int .i64 (Lib.countByte s.data.toList 0 : Int)) ∧ w' = W) := fun W => Tryz.strings_Count_one s 0 W
      by_cases h3 : allZero s = true
      · have hd : decE s = (Sh.none, 0) := by unfold decE; rw [if_neg h1, if_neg h2, if_pos h3]
        have HD := Lib.hid hd
        have hc : Lib.countByte s.data.toList 0 = s.size := (count_zero s).2 h3
        rw [hc] at HCN
        clear hd h3 hc hz5
        go_enter Tryz.func26, Tryz.ntmps26
        go_wp2_with (fail)
        refine (HCN _).out.mono ?_
        rintro e w2 ⟨rfl, rfl⟩
        go_wp2
        (try simp only [Exit.inBlock, Exit.then])
        refine bodyPost_ret (v := .tuple #[.agg #[.int .u32 0, .int .u64 0, .int .i64 0, .string ⟨#[]⟩, .slice none 0 0], .int .i64 0]) (by simp [results, Tryz.results26, go_sem]) rfl ?_
        exact dec_none HD.out rfl ((Below.refl _ _).alloc (Nat.le_refl _) _)
      · have hcz : Lib.countByte s.data.toList 0 ≠ s.size := fun e => h3 ((count_zero s).1 e)
        obtain ⟨cn, hcn⟩ : ∃ cn, cn = Lib.countByte s.data.toList 0 := ⟨_, rfl⟩
        rw [← hcn] at HCN hcz
        have hne : ¬ ((cn : Int) = (s.size : Int)) := by omega
        obtain ⟨f1, hf1⟩ : ∃ f, s.extract 4 12 = f := ⟨_, rfl⟩
        obtain ⟨f2, hf2⟩ : ∃ f, s.extract 504 512 = f := ⟨_, rfl⟩
        have hz1 : (12 : Int) ≤ (s.size : Int) := by omega
        have hz2 : (504 : Int) ≤ (s.size : Int) := by omega
        clear hcn hcz
        by_cases h4 : f1 = f2
        · have HCM : Hid ((!(f1.toList == f2.toList)) = false) := by show _ = false; rw [toList_decide, decide_eq_true h4]; rfl
          obtain ⟨body, hbody⟩ : ∃ f, s.extract 4 512 = f := ⟨_, rfl⟩
          have hbz : body.size ≤ 512 := by rw [← hbody, ByteArray.size_extract]; omega
          have HG := fun W => Lib.hid (rawGet_c s 0 4 (Nat.zero_le _) (by omega) (by omega) W)
          have hge : getE s 0 4 = .tuple #[.int .u64 (numAt s 0 4 : Nat), .int .i64 0] := by unfold getE; rw [if_neg (by omega)]
          have HS := fun W => Lib.hid (rawSum_c body (by omega) W)
          have hn4 : numAt s 0 4 < 4294967296 := numAt_lt s 0 4
          have hcl : crcMore 0 body < 4294967296 := crcMore_lt (by decide) _
          rw [hge] at HG
          clear hge
          by_cases h5 : numAt s 0 4 = crcMore 0 body
          · -- both ends and the sum are right
            have hd : decE s = if (pageOfRd (pageRd s)).2.err = 0 ∧ (pageOfRd (pageRd s)).1.encE = (s, 0) then ((pageOfRd (pageRd s)).1, 0) else (Sh.none, 6) := by
              unfold decE; rw [if_neg h1, if_neg h2, if_neg h3, if_neg (by rw [hf1, hf2, h4]; exact fun h => h rfl), if_neg (by rw [hbody]; exact fun h => h h5)]
            have hpr : pageRd s = ⟨body, 0, 0⟩ := by unfold pageRd; rw [hbody]
            rw [hpr] at hd
            clear hpr
            have h6 : (numAt s 0 4 : Int) = (crcMore 0 body : Int) := by omega
            generalize numAt s 0 4 = na at *
            generalize crcMore 0 body = cr at *
            obtain ⟨n1, r1, e1⟩ : ∃ n r, Rd.number ⟨body, 0, 0⟩ 8 = (n, r) := ⟨_, _, rfl⟩
            obtain ⟨n2, r2, e2⟩ : ∃ n r, Rd.number r1 4 = (n, r) := ⟨_, _, rfl⟩
            obtain ⟨n3, r3, e3⟩ : ∃ n r, Rd.number r2 1 = (n, r) := ⟨_, _, rfl⟩
            obtain ⟨n4, r4, e4⟩ : ∃ n r, Rd.number r3 1 = (n, r) := ⟨_, _, rfl⟩
            obtain ⟨hd5, r5, e5⟩ : ∃ n r, Rd.bytes r4 n4 = (n, r) := ⟨_, _, rfl⟩
            obtain ⟨n6, r6, e6⟩ : ∃ n r, Rd.number r5 1 = (n, r) := ⟨_, _, rfl⟩
            obtain ⟨l7, r7, e7⟩ : ∃ n r, Rd.numbers 2 n6 r6 = (n, r) := ⟨_, _, rfl⟩
            obtain ⟨l8, r8, e8⟩ : ∃ n r, Rd.texts l7 r7 = (n, r) := ⟨_, _, rfl⟩
            have hpg : pageOfRd ⟨body, 0, 0⟩ = (⟨n2, n1, (n3 : Int), hd5, l8⟩, r8) := by
              unfold pageOfRd
              simp only [e1, e2, e3, e4, e5, e6, e7, e8]
            rw [hpg] at hd
            clear hpg
            have b1 : n1 < 18446744073709551616 := by have := Rd.number_lt ⟨body, 0, 0⟩ 8; rw [e1] at this; exact this
            have b2 : n2 < 4294967296 := by have := Rd.number_lt r1 4; rw [e2] at this; exact this
            have b3 : n3 < 256 := by have := Rd.number_lt r2 1; rw [e3] at this; exact this
            have b4 : n4 < 256 := by have := Rd.number_lt r3 1; rw [e4] at this; exact this
            have b5 : hd5.size ≤ n4 := by have := Rd.bytes_le r4 n4; rw [e5] at this; exact this
            have b6 : n6 < 256 := by have := Rd.number_lt r5 1; rw [e6] at this; exact this
            have b7 : l7.length = n6 ∧ ∀ n ∈ l7, n < 65536 := by have := Rd.numbers_len 2 n6 r6; rw [e7] at this; exact this
            have b8 : l8.length = l7.length ∧ slotsLen l8 ≤ 65540 * l7.length := by have := Rd.texts_len l7 r7 b7.2; rw [e8] at this; exact this
            have HD := Lib.hid hd
            have E1 := Lib.hid e1
            have E2 := Lib.hid e2
            have E3 := Lib.hid e3
            have E4 := Lib.hid e4
            have E5 := Lib.hid e5
            have E6 := Lib.hid e6
            have E7 := Lib.hid e7
            have E8 := Lib.hid e8
            have B7 := Lib.hid b7
            have B8 := Lib.hid b8
            clear hd h3 h4 h5 e1 e2 e3 e4 e5 e6 e7 e8 b7 b8
            go_enter Tryz.func26, Tryz.ntmps26
            go_wp2_with (fail)
            refine (HCN _).out.mono ?_
            rintro e w2 ⟨rfl, rfl⟩
            have hB0 := Blk.new w 84 #[.int .u32 0, .int .u64 0, .int .i64 0, .string ⟨#[]⟩, .slice none 0 0]
            have hbw : Below w.heap.size w (w.alloc (.cells #[.int .u32 0, .int .u64 0, .int .i64 0, .string ⟨#[]⟩, .slice none 0 0] 84)) := (Below.refl _ _).alloc (Nat.le_refl _) _
            generalize w.alloc (.cells #[.int .u32 0, .int .u64 0, .int .i64 0, .string ⟨#[]⟩, .slice none 0 0] 84) = w1 at *
            have HB0 := Lib.hid hB0
            have HBW := Lib.hid hbw
            clear hB0 hbw
            go_wp2_with (fail)
            go_quiet (fail)
            have hB2 : Blk (w1.drewN nq) w.heap.size 84 #[.int .u32 0, .int .u64 0, .int .i64 0, .string ⟨#[]⟩, .slice none 0 0] := HB0.out
            have hbw2 : Below w.heap.size w (w1.drewN nq) := HBW.out.trans ((below_drewN w1 nq).mono HBW.out.size)
            generalize w1.drewN nq = w2 at *
            have HB2 := Lib.hid hB2
            have HBW2 := Lib.hid hbw2
            clear hB2 hbw2 HB0 HBW HCN
            have c0 : w2.cell? ⟨w.heap.size, 0, none⟩ = some (.int .u32 0) := HB2.out.cell 0
            have c1 : w2.cell? ⟨w.heap.size, 1, none⟩ = some (.int .u64 0) := HB2.out.cell 1
            have c2 : w2.cell? ⟨w.heap.size, 2, none⟩ = some (.int .i64 0) := HB2.out.cell 2
            have c3 : w2.cell? ⟨w.heap.size, 3, none⟩ = some (.string ⟨#[]⟩) := HB2.out.cell 3
            have c4 : w2.cell? ⟨w.heap.size, 4, none⟩ = some (.slice none 0 0) := HB2.out.cell 4
            have z0 : w2.frozen? ⟨w.heap.size, 0, none⟩ = false := HB2.out.frozen 0
            have z1 : w2.frozen? ⟨w.heap.size, 1, none⟩ = false := HB2.out.frozen 1
            have z2 : w2.frozen? ⟨w.heap.size, 2, none⟩ = false := HB2.out.frozen 2
            have z3 : w2.frozen? ⟨w.heap.size, 3, none⟩ = false := HB2.out.frozen 3
            have z4 : w2.frozen? ⟨w.heap.size, 4, none⟩ = false := HB2.out.frozen 4
            go_wp2_with (fail)
            · rename_i hh
              exact absurd (HCM.out.symm.trans hh) (by decide)
            · refine (HG _).out.mono ?_
              rintro e w3 ⟨rfl, rfl⟩
              go_wp2_with (fail)
              refine (HS _).out.mono ?_
              rintro e w3 ⟨rfl, rfl⟩
              clear HG HS HCM c0 c1 c2 c3 c4 z0 z1 z2 z3 z4
              go_wp2_with (fail)
              refine (newReader_c _ body (by omega)).mono ?_
              rintro e w4 ⟨rb, rfl, hrb, hra, hb4⟩
              have H4 : Hid (DecA w w4 rb ⟨body, 0, 0⟩) := ⟨hra, Nat.lt_of_lt_of_le HB2.out.lt hrb, HB2.out.same (hb4.block _ HB2.out.lt), HBW2.out.trans (hb4.mono HBW2.out.size)⟩
              clear hrb hra hb4 HB2 HBW2
              have HN := Lib.hid (H4.out.number 8 (by omega))
              rw [E1.out] at HN
              go_wp2_with (fail)
              refine HN.out.mono ?_
              rintro e w5 ⟨rfl, hq⟩
              have H5 := Lib.hid hq
              clear hq HN H4
              have HN := Lib.hid (H5.out.number 4 (by omega))
              rw [E2.out] at HN
              go_wp2_with (fail)
              refine HN.out.mono ?_
              rintro e w6 ⟨rfl, hq⟩
              have H6 := Lib.hid hq
              clear hq HN H5
              have u2 : IntKind.u32.wrap (n2 : Int) = (n2 : Int) := by rw [IntKind.wrap_u32]; omega
              have HN := Lib.hid (H6.out.number 1 (by omega))
              rw [E3.out] at HN
              go_wp2_with (fail)
              refine HN.out.mono ?_
              rintro e w7 ⟨rfl, hq⟩
              have H7 := Lib.hid hq
              clear hq HN H6
              have u3 : IntKind.i64.wrap (n3 : Int) = (n3 : Int) := by rw [IntKind.wrap_i64]; omega
              have h8 : DecB w (w7.alloc (.cells #[.int .u32 (n2 : Int), .int .u64 (n1 : Int), .int .i64 (n3 : Int), .string ⟨#[]⟩, .slice none 0 0] 84)) rb r3 w7.heap.size n2 n1 n3 ⟨#[]⟩ (.slice none 0 0) [] (.slice none 0 0) [] :=
                ⟨H7.out.below ((Below.refl _ _).alloc (Nat.le_refl _) _), H7.out.box.lt, Blk.new w7 _ _, ⟨rfl, .inl ⟨rfl, rfl⟩⟩, ⟨rfl, .inl ⟨rfl, rfl⟩⟩⟩
              have H8 := Lib.hid h8
              clear h8 H7
              have HN := Lib.hid (H8.out.number 1 (by omega))
              rw [E4.out] at HN
              go_wp2_with (fail)
              refine HN.out.mono ?_
              rintro e w9 ⟨rfl, hq⟩
              have H9 := Lib.hid hq
              clear hq HN H8
              generalize w7.heap.size = pb at *
              clear u2 u3
              have u4 : IntKind.i64.wrap (n4 : Int) = (n4 : Int) := by rw [IntKind.wrap_i64]; omega
              have HN := Lib.hid (H9.out.bytes n4 (by omega))
              rw [E5.out] at HN
              go_wp2_with (fail)
              refine HN.out.mono ?_
              rintro e w10 ⟨rfl, hq⟩
              have H10 := Lib.hid hq
              clear hq HN H9 u4
              have c3 : w10.cell? ⟨pb, 3, none⟩ = some (.string ⟨#[]⟩) := H10.out.pbx.cell 3
              have z3 : w10.frozen? ⟨pb, 3, none⟩ = false := H10.out.pbx.frozen 3
              have H11 := Lib.hid (H10.out.setHead hd5)
              have HN := Lib.hid (H11.out.number 1 (by omega))
              rw [E6.out] at HN
              go_wp2_with (fail)
              refine HN.out.mono ?_
              rintro e w12 ⟨rfl, hq⟩
              have H12 := Lib.hid hq
              clear hq HN H11 H10 c3 z3
              have u6 : IntKind.i64.wrap (n6 : Int) = (n6 : Int) := by rw [IntKind.wrap_i64]; omega
              go_wp2_with (fail)
              clear u6
              obtain ⟨ii, hii, hiz0, hiz1, hiz2⟩ := info_parts infoInt3
              obtain ⟨is, his, hsz0, hsz1, hsz2⟩ := info_parts infoStr3
              go_loopw [8, 9] (fun lo no wr => ∃ (j : Nat) (z : Int) (ls : List Nat) (rd : Rd) (lv : Value), lv = lo ∧ no = .int .i64 z ∧ z = (j : Int) ∧ ls.length + j = n6 ∧ (∀ x ∈ ls, x < 65536) ∧ Hid (DecB w wr rb rd pb n2 n1 n3 hd5 lv ls (.slice none 0 0) []) ∧ Hid (Rd.numbers 2 n6 r6 = (ls ++ (Rd.numbers 2 j rd).1, (Rd.numbers 2 j rd).2))) (fun _ no _ => (intOf no).toNat)
              case atStart => exact ⟨n6, _, [], r6, _, rfl, rfl, rfl, by simp, by simp, H12.out, by show _ = _; simp⟩
              case round =>
                obtain ⟨j, z, ls, rd, lv, rfl, rfl, hz, hlj, hls, hq, hE⟩ := hrel
                cases j with
                | succ j =>
                  subst hz
                  obtain ⟨x, rd', ex⟩ : ∃ x rd', rd.number 2 = (x, rd') := ⟨_, _, rfl⟩
                  have bx : x < 65536 := by have := Rd.number_lt rd 2; rw [ex] at this; exact this
                  have HN := Lib.hid (hq.out.number 2 (by omega))
                  rw [ex] at HN
                  have hE2 : Hid (Rd.numbers 2 n6 r6 = (ls ++ [x] ++ (Rd.numbers 2 j rd').1, (Rd.numbers 2 j rd').2)) := by
                    show _ = _
                    rw [hE.out, Rd.numbers_step ex]
                    simp
                  have ux : IntKind.i64.wrap (x : Int) = (x : Int) := by rw [IntKind.wrap_i64]; omega
                  clear ex hE hq
                  go_wp2_with (fail)
                  refine HN.out.mono ?_
                  rintro e w13 ⟨rfl, hq⟩
                  have HB := Lib.hid hq
                  clear hq HN
                  have hBa : DecB w (w13.alloc (.cells #[.int .i64 (x : Int)] 3)) rb rd' pb n2 n1 n3 hd5 lv ls (.slice none 0 0) [] := HB.out.below ((Below.refl _ _).alloc (Nat.le_refl _) _)
                  have HBa := Lib.hid hBa
                  have HL : Hid ((w13.alloc (.cells #[.int .i64 (x : Int)] 3)).ownsRow w.heap.size 3 1 lv ls.length (ls.map fun n : Nat => Value.int .i64 (n : Int))) := hBa.longs
                  have N1 : Hid (ls.length + 1 ≤ maxLen) := by show _ ≤ maxLen; simp only [maxLen]; omega
                  have N2 : Hid ((ls.length + 1) * 8 ≤ 140737488355328) := by show _ ≤ 140737488355328; omega
                  have N3 : Hid (w.heap.size ≤ (w13.alloc (.cells #[.int .i64 (x : Int)] 3)).heap.size) := hBa.a.base.size
                  have O1 : Hid (∀ u ∈ [Value.int .i64 (x : Int)], u.oneCell' = true) := fun u hu => by simp at hu; subst hu; rfl
                  clear hBa HB
                  go_wp2_with (at_builtin; refine wpList_append_lies _ (by rfl) _ _ 76 (by rfl) w.heap.size 3 ii _ 1 8 Tryz.underlying76 hii hiz0 hiz1 hiz2 rfl (by omega) lv ls.length (ls.map fun n : Nat => Value.int .i64 (n : Int)) (by rfl) HL.out ⟨w13.heap.size, 0, none⟩ 1 1 [.int .i64 (x : Int)] (by rfl) (by rfl) (World.news_of_block (cs := #[.int .i64 (x : Int)]) (t := 3) (fr := (0, 0)) (heap_alloc_new w13 _)) O1.out (by omega) N1.out N2.out N3.out _ rfl ?_; intro g14 c14 w14 ho hg hat hlt; have HO := Lib.hid ho; have HG := Lib.hid hg; clear ho hg hat hlt)
                  go_roundw
                  case rel => exact ⟨j, _, ls ++ [x], rd', _, rfl, by go_num, rfl, by simp; omega, fun y hy => by (rcases List.mem_append.1 hy with hy | hy; exact hls y hy; simp at hy; omega), HBa.out.pushLong HO.out HG.out, hE2.out⟩
                  case measure => simp [intOf]
                | zero =>
                  obtain rfl : z = 0 := by simpa using hz
                  clear hz
                  have hE0 : l7 = ls ∧ r7 = rd := by
                    have := hE.out.symm.trans E7.out
                    simp only [Rd.numbers, List.append_nil, Prod.mk.injEq] at this
                    exact ⟨this.1.symm, this.2.symm⟩
                  have HE8 : Hid (Rd.texts ls rd = (l8, r8)) := by show _ = _; rw [← hE0.1, ← hE0.2]; exact E8.out
                  have hll : l7 = ls := hE0.1
                  have b71 : n6 = ls.length := by rw [← hll]; exact B7.out.1.symm
                  have b81 : l8.length = ls.length ∧ slotsLen l8 ≤ 65540 * ls.length := by rw [← hll]; exact B8.out
                  subst b71
                  have HB81 := Lib.hid b81
                  clear b81
                  have HB := hq
                  clear hE hE0 hq hlj
                  obtain ⟨la, lc, rfl⟩ : ∃ la lc, lv = .slice la ls.length lc := by
                    rcases HB.out.longs.2 with ⟨e, h0⟩ | ⟨g, cap, cur, e, _⟩
                    · exact ⟨none, 0, by rw [e, h0]⟩
                    · exact ⟨some ⟨g, 0, none⟩, cap, e⟩
                  clear hll B7 E7 E8
                  rename World => w13
                  go_wp2_with (fail)
                  go_loopw [82] (fun ko wr => ∃ (ss : List ByteArray) (rd' : Rd) (sv : Value), ko = .int .i64 (ss.length : Int) ∧ ss.length ≤ ls.length ∧ Hid (DecB w wr rb rd' pb n2 n1 n3 hd5 (.slice la ls.length lc) ls sv ss) ∧ Hid ((l8, r8) = (ss ++ (Rd.texts (ls.drop ss.length) rd').1, (Rd.texts (ls.drop ss.length) rd').2))) (fun ko _ => ls.length - (intOf ko).toNat)
                  case atStart => exact ⟨[], rd, _, rfl, Nat.zero_le _, HB.out, by show _ = _; rw [← HE8.out]; simp⟩
                  case round =>
                    obtain ⟨ss, rd', sv, rfl, hk, hq, hE⟩ := hrel
                    by_cases hlt : ss.length < ls.length
                    · obtain ⟨x, hx⟩ : ∃ x, ls[ss.length]? = some x := ⟨_, List.getElem?_eq_getElem hlt⟩
                      obtain ⟨g, rfl, _, _, _, hc⟩ := hq.out.longAt hx
                      have hx5 : x < 65536 := hls x (List.mem_of_getElem? hx)
                      obtain ⟨t, rd2, et⟩ : ∃ t rd2, rd'.bytes x = (t, rd2) := ⟨_, _, rfl⟩
                      have hE2 : Hid ((l8, r8) = (ss ++ [t] ++ (Rd.texts (ls.drop (ss.length + 1)) rd2).1, (Rd.texts (ls.drop (ss.length + 1)) rd2).2)) := by
                        show _ = _
                        have hd1 : ls.drop ss.length = x :: ls.drop (ss.length + 1) := by
                          rw [List.drop_eq_getElem_cons hlt]
                          congr 1
                          rw [List.getElem?_eq_getElem hlt] at hx
                          exact Option.some.inj hx
                        rw [hE.out, hd1, Rd.texts_step et]
                        simp
                      have HCL := Lib.hid ((hq.out.below (below_drewN wr 1)).bytes x (by omega))
                      rw [et] at HCL
                      have HS4 : Hid (OneC ⟨pb, 4, none⟩ sv wr) := hq.out.pbx.cell 4
                      have M1 : Hid (ss.length + 1 ≤ maxLen) := by show _ ≤ maxLen; simp only [maxLen]; omega
                      have M2 : Hid ((ss.length + 1) * 16 ≤ 140737488355328) := by show _ ≤ 140737488355328; omega
                      have M3 : Hid (∀ u ∈ [Value.string t], u.oneCell' = true) := fun u hu => by simp at hu; subst hu; rfl
                      clear et hE hq hx
                      go_wp2_with (fail)
                      clear hc
                      refine wp_region_late (S := OneC ⟨pb, 4, none⟩ sv) (late := [8]) (by kernel_rfl) HS4.out.drew (fun hHeld => ?_)
                      refine wpAnyL_move (i := 0) (v := ?_) (by rfl) (by kernel_rfl) (by kernel_rfl) (by kernel_rfl) (by rfl) (by exact fun _ _ _ h => h) (Or.inl ⟨by rfl, ?_⟩) (by assumption) ?_; rotate_left; · (intro w0; go_simp; try with_reducible rfl)
                      try simp only [Act.put, List.setIfInBounds_toArray, List.set_cons_zero, List.set_cons_succ]
                      refine wpAnyL_loadT 9 (i := 1) (v := ?_) (by rfl) (by kernel_rfl) (by kernel_rfl) (by kernel_rfl) (by rfl) (by kernel_rfl) (by kernel_rfl) (by exact fun _ _ _ h => h) (Or.inl ⟨by rfl, ?_⟩) (by assumption) ?_; rotate_left; · (intro w0 hS0; have hS1 : w0.cell? ⟨pb, 4, none⟩ = some sv := hS0; go_simp; try with_reducible rfl)
                      try simp only [Act.put, List.setIfInBounds_toArray, List.set_cons_zero, List.set_cons_succ]
                      refine wpAnyL_move (i := 2) (v := ?_) (by rfl) (by kernel_rfl) (by kernel_rfl) (by kernel_rfl) (by rfl) (by exact fun _ _ _ h => h) (Or.inl ⟨by rfl, ?_⟩) (by assumption) ?_; rotate_left; · (intro w0; go_simp; try with_reducible rfl)
                      try simp only [Act.put, List.setIfInBounds_toArray, List.set_cons_zero, List.set_cons_succ]
                      refine wpAnyL_move (i := 3) (v := ?_) (by rfl) (by kernel_rfl) (by kernel_rfl) (by kernel_rfl) (by rfl) (by exact fun _ _ _ h => h) (Or.inl ⟨by rfl, ?_⟩) (by assumption) ?_; rotate_left; · (intro w0; go_simp; try with_reducible rfl)
                      try simp only [Act.put, List.setIfInBounds_toArray, List.set_cons_zero, List.set_cons_succ]
                      refine wpAnyL_each (rs := [4]) (by kernel_rfl) (by simp) ?_
                      refine EachL.cons (by rfl) (by rfl) (fun K hK => ?_) ?_
                      · go_simp
                        refine HCL.out.mono ?_
                        rintro e w5 ⟨rfl, hq5⟩
                        dsimp only
                        refine hK.out _ _ (hq5.pbx.cell 4) (fun hHeld => ?_)
                        clear hK K
                        try simp only [Act.put, List.setIfInBounds_toArray, List.set_cons_zero, List.set_cons_succ]
                        refine wpAnyL_each (rs := [5]) (by kernel_rfl) (by simp) ?_
                        refine EachL.cons (by rfl) (by rfl) (fun K hK => ?_) ?_
                        · go_simp
                          refine hK.out _ _ (hHeld.alloc _) (fun hHeld => ?_)
                          clear hK K
                          try simp only [Act.put, List.setIfInBounds_toArray, List.set_cons_zero, List.set_cons_succ]
                          refine wpAnyL_each (rs := [6]) (by kernel_rfl) (by simp) ?_
                          refine EachL.cons (by rfl) (by rfl) (fun K hK => ?_) ?_
                          · refine step_append_lies _ (by rfl) _ _ 82 (by rfl) w.heap.size 9 is _ 1 16 Tryz.underlying82 his hsz0 hsz1 hsz2 rfl (by omega) sv ss.length (ss.map Value.string) (by rfl) (hq5.below ((Below.refl _ _).alloc (Nat.le_refl _) _)).slots ⟨w5.heap.size, 0, none⟩ 1 1 [Value.string t] (by rfl) (by rfl) (World.news_of_block (cs := #[Value.string t]) (t := 9) (fr := (0, 0)) (heap_alloc_new w5 _)) M3.out (by omega) M1.out M2.out (hq5.below ((Below.refl _ _).alloc (Nat.le_refl _) _)).a.base.size _ rfl ?_; intro sg sc w6 so sgr sat slt
                            refine hK.out _ _ (((hq5.below ((Below.refl _ _).alloc (Nat.le_refl _) _)).pbxGrown sgr).cell 4) (fun hHeld => ?_)
                            clear hK K
                            try simp only [Act.put, List.setIfInBounds_toArray, List.set_cons_zero, List.set_cons_succ]
                            refine wpAnyL_move (i := 7) (v := ?_) (by rfl) (by kernel_rfl) (by kernel_rfl) (by kernel_rfl) (by rfl) (by exact fun _ _ _ h => h) (Or.inl ⟨by rfl, ?_⟩) (by assumption) ?_; rotate_left; · (intro w0; go_simp; try with_reducible rfl)
                            try simp only [Act.put, List.setIfInBounds_toArray, List.set_cons_zero, List.set_cons_succ]
                            have q4 : w6.cell? ⟨pb, 4, none⟩ = some sv := hHeld
                            have f4 : w6.frozen? ⟨pb, 4, none⟩ = false := ((hq5.below ((Below.refl _ _).alloc (Nat.le_refl _) _)).pbxGrown sgr).frozen 4
                            refine wpAnyL_late (i := 8) (by kernel_rfl) (by rfl) (by rfl) (fun K hK => ?_)
                            go_simp
                            refine hK.out _ _ ?_
                            clear hK K
                            try simp only [Act.put, List.setIfInBounds_toArray, List.set_cons_zero, List.set_cons_succ]
                            refine wpAny_done (by kernel_rfl) ?_ _
                            have R1 : Hid (DecB w (w6.setCell ⟨pb, 4, none⟩ (.slice (some ⟨sg, 0, none⟩) (ss.length + 1) sc)) rb rd2 pb n2 n1 n3 hd5 (.slice (some ⟨g, 0, none⟩) ls.length lc) ls (.slice (some ⟨sg, 0, none⟩) (ss.length + 1) sc) (ss ++ [t])) := (hq5.below ((Below.refl _ _).alloc (Nat.le_refl _) _)).pushSlot so sgr
                            clear q4 f4 so sgr sat slt hq5 hHeld
                            go_wp2
                            go_roundw
                            case rel => exact ⟨ss ++ [t], rd2, _, by simp, by simp; omega, R1.out, by show _ = _; rw [List.length_append]; exact hE2.out⟩
                            case measure => simp [intOf]; omega
                          exact EachL.nil
                        exact EachL.nil
                      exact EachL.nil
                    · have hke : ss.length = ls.length := by omega
                      have hE0 : l8 = ss ∧ r8 = rd' := by
                        have := hE.out
                        rw [hke, List.drop_length] at this
                        simpa [Rd.texts] using this
                      obtain ⟨rfl, rfl⟩ := hE0
                      have HM : Hid ((⟨n2, n1, (n3 : Int), hd5, l8⟩ : Sh).mild) := ⟨b2, b1, by show _ ≤ (n3 : Int); omega, by show (n3 : Int) ≤ _; omega, by show hd5.size ≤ _; omega, by show l8.length ≤ _; omega, by show slotsLen l8 ≤ _; have := HB81.out.2; omega⟩
                      have HQ := hq
                      rename World => w15
                      obtain ⟨sa, sc, rfl⟩ := (Reads.of_own HQ.out.slots).form
                      have HR := Lib.hid (Reads.of_own HQ.out.slots)
                      have HEN := Lib.hid (pencode_c (x := ⟨n2, n1, (n3 : Int), hd5, l8⟩) HR.out HM.out)
                      obtain ⟨be, ec, hen⟩ : ∃ be ec, (⟨n2, n1, (n3 : Int), hd5, l8⟩ : Sh).encE = (be, ec) := ⟨_, _, rfl⟩
                      rw [hen] at HEN HD
                      unfold ShV at HEN
                      clear hen hq hE hk hke HE8 HB HB81 HM
                      have c0 : w15.cell? ⟨pb, 0, none⟩ = some (.int .u32 (n2 : Int)) := HQ.out.pbx.cell 0
                      have c1 : w15.cell? ⟨pb, 1, none⟩ = some (.int .u64 (n1 : Int)) := HQ.out.pbx.cell 1
                      have c2 : w15.cell? ⟨pb, 2, none⟩ = some (.int .i64 (n3 : Int)) := HQ.out.pbx.cell 2
                      have c3 : w15.cell? ⟨pb, 3, none⟩ = some (.string hd5) := HQ.out.pbx.cell 3
                      have c4 : w15.cell? ⟨pb, 4, none⟩ = some (.slice sa l8.length sc) := HQ.out.pbx.cell 4
                      go_wp2_with (fail)
                      refine HEN.out.mono ?_
                      rintro e w16 ⟨rfl, hb16⟩
                      have H16 := Lib.hid (HQ.out.below hb16)
                      clear HEN hb16 c0 c1 c2 c3 c4 HQ hlt
                      have HRE := Lib.hid (rerr_c H16.out.a.rd)
                      go_wp2_with (fail)
                      refine HRE.out.mono ?_
                      rintro e w17 ⟨rfl, rfl⟩
                      clear HRE HR
                      have bx := H16.out.a.box
                      have c0 : w16.cell? ⟨w.heap.size, 0, none⟩ = some (.int .u32 0) := bx.cell 0
                      have c1 : w16.cell? ⟨w.heap.size, 1, none⟩ = some (.int .u64 0) := bx.cell 1
                      have c2 : w16.cell? ⟨w.heap.size, 2, none⟩ = some (.int .i64 0) := bx.cell 2
                      have c3 : w16.cell? ⟨w.heap.size, 3, none⟩ = some (.string ⟨#[]⟩) := bx.cell 3
                      have c4 : w16.cell? ⟨w.heap.size, 4, none⟩ = some (.slice none 0 0) := bx.cell 4
                      have z0 : w16.frozen? ⟨w.heap.size, 0, none⟩ = false := bx.frozen 0
                      have z1 : w16.frozen? ⟨w.heap.size, 1, none⟩ = false := bx.frozen 1
                      have z2 : w16.frozen? ⟨w.heap.size, 2, none⟩ = false := bx.frozen 2
                      have z3 : w16.frozen? ⟨w.heap.size, 3, none⟩ = false := bx.frozen 3
                      have z4 : w16.frozen? ⟨w.heap.size, 4, none⟩ = false := bx.frozen 4
                      have HBX := Lib.hid bx
                      have HBE : Hid (Below w.heap.size w w16) := H16.out.a.base
                      clear bx
                      by_cases k1 : r8.err = 0
                      · by_cases k2 : ec = 0
                        · by_cases k3 : be = s
                          · have HD2 : Hid (decE s = (⟨n2, n1, (n3 : Int), hd5, l8⟩, 0)) := by show _ = _; rw [HD.out, if_pos ⟨k1, by rw [k2, k3]⟩]
                            have HCM : Hid ((!(be.toList == s.toList)) = false) := by show _ = false; rw [toList_decide, decide_eq_true k3]; rfl
                            rw [k1, k2]
                            clear k1 k2 k3 HD
                            have d0 : w16.cell? ⟨pb, 0, none⟩ = some (.int .u32 (n2 : Int)) := H16.out.pbx.cell 0
                            have d1 : w16.cell? ⟨pb, 1, none⟩ = some (.int .u64 (n1 : Int)) := H16.out.pbx.cell 1
                            have d2 : w16.cell? ⟨pb, 2, none⟩ = some (.int .i64 (n3 : Int)) := H16.out.pbx.cell 2
                            have d3 : w16.cell? ⟨pb, 3, none⟩ = some (.string hd5) := H16.out.pbx.cell 3
                            have d4 : w16.cell? ⟨pb, 4, none⟩ = some (.slice sa l8.length sc) := H16.out.pbx.cell 4
                            go_wp2_with (fail)
                            · rename_i hh
                              exact absurd (HCM.out.symm.trans hh) (by decide)
                            · (try simp only [Exit.inBlock, Exit.then])
                              have B9' := (HBX.out).set5 (v0 := .int .u32 (n2 : Int)) (v1 := .int .u64 (n1 : Int)) (v2 := .int .i64 (n3 : Int)) (v3 := .string hd5) (v4 := .slice sa l8.length sc)
                              have q0 := B9'.cell 0
                              have q1 := B9'.cell 1
                              have q2 := B9'.cell 2
                              have q3 := B9'.cell 3
                              have q4 := B9'.cell 4
                              simp at q0 q1 q2 q3 q4
                              obtain ⟨p1, p2, p3⟩ := H16.out.done (.int .u32 (n2 : Int)) (.int .u64 (n1 : Int)) (.int .i64 (n3 : Int)) (.string hd5) (.slice sa l8.length sc)
                              refine bodyPost_ret (v := .tuple #[.agg #[.int .u32 (n2 : Int), .int .u64 (n1 : Int), .int .i64 (n3 : Int), .string hd5, .slice sa l8.length sc], .int .i64 0]) (by simp [results, Tryz.results26, go_sem, q0, q1, q2, q3, q4]) rfl ?_
                              exact ⟨.slice sa l8.length sc, by rw [HD2.out]; rfl, by rw [HD2.out]; exact p1, p3, p2⟩
                          · have hd2 : decE s = (Sh.none, 6) := by rw [HD.out, if_neg (fun h => k3 (by have := h.2; simp only [Prod.mk.injEq] at this; exact this.1))]
                            have HCM : Hid ((!(be.toList == s.toList)) = true) := by show _ = true; rw [toList_decide, decide_eq_false k3]; rfl
                            rw [k1, k2]
                            clear k1 k2 k3 HD
                            have HD := Lib.hid hd2
                            clear hd2
                            have d0 : w16.cell? ⟨pb, 0, none⟩ = some (.int .u32 (n2 : Int)) := H16.out.pbx.cell 0
                            have d1 : w16.cell? ⟨pb, 1, none⟩ = some (.int .u64 (n1 : Int)) := H16.out.pbx.cell 1
                            have d2 : w16.cell? ⟨pb, 2, none⟩ = some (.int .i64 (n3 : Int)) := H16.out.pbx.cell 2
                            have d3 : w16.cell? ⟨pb, 3, none⟩ = some (.string hd5) := H16.out.pbx.cell 3
                            have d4 : w16.cell? ⟨pb, 4, none⟩ = some (.slice sa l8.length sc) := H16.out.pbx.cell 4
                            go_wp2_with (fail)
                            · skip
                              (try simp only [Exit.inBlock, Exit.then])
                              have B9' := (HBX.out).set5 (v0 := .int .u32 0) (v1 := .int .u64 0) (v2 := .int .i64 0) (v3 := .string ⟨#[]⟩) (v4 := .slice none 0 0)
                              have r0 := B9'.cell 0
                              have r1 := B9'.cell 1
                              have r2 := B9'.cell 2
                              have r3 := B9'.cell 3
                              have r4 := B9'.cell 4
                              simp at r0 r1 r2 r3 r4
                              refine bodyPost_ret (v := .tuple #[.agg #[.int .u32 0, .int .u64 0, .int .i64 0, .string ⟨#[]⟩, .slice none 0 0], .int .i64 6]) (by simp [results, Tryz.results26, go_sem, r0, r1, r2, r3, r4]) rfl ?_
                              exact dec_none HD.out rfl (((((HBE.out.setCell (Nat.le_refl _) _).setCell (Nat.le_refl _) _).setCell (Nat.le_refl _) _).setCell (Nat.le_refl _) _).setCell (Nat.le_refl _) _)
                            · rename_i hh
                              exact absurd (HCM.out.symm.trans hh) (by decide)
                        · have hd2 : decE s = (Sh.none, 6) := by rw [HD.out, if_neg (fun h => k2 (by have := h.2; simp only [Prod.mk.injEq] at this; exact this.2))]
                          rw [k1]
                          clear k1 HD
                          have HD := Lib.hid hd2
                          clear hd2
                          go_wp2_with (fail)
                          (try simp only [Exit.inBlock, Exit.then])
                          have B9' := (HBX.out).set5 (v0 := .int .u32 0) (v1 := .int .u64 0) (v2 := .int .i64 0) (v3 := .string ⟨#[]⟩) (v4 := .slice none 0 0)
                          have r0 := B9'.cell 0
                          have r1 := B9'.cell 1
                          have r2 := B9'.cell 2
                          have r3 := B9'.cell 3
                          have r4 := B9'.cell 4
                          simp at r0 r1 r2 r3 r4
                          refine bodyPost_ret (v := .tuple #[.agg #[.int .u32 0, .int .u64 0, .int .i64 0, .string ⟨#[]⟩, .slice none 0 0], .int .i64 6]) (by simp [results, Tryz.results26, go_sem, r0, r1, r2, r3, r4]) rfl ?_
                          exact dec_none HD.out rfl (((((HBE.out.setCell (Nat.le_refl _) _).setCell (Nat.le_refl _) _).setCell (Nat.le_refl _) _).setCell (Nat.le_refl _) _).setCell (Nat.le_refl _) _)
                      · have hd2 : decE s = (Sh.none, 6) := by rw [HD.out, if_neg (fun h => k1 h.1)]
                        clear HD
                        have HD := Lib.hid hd2
                        clear hd2
                        go_wp2_with (fail)
                        (try simp only [Exit.inBlock, Exit.then])
                        have B9' := (HBX.out).set5 (v0 := .int .u32 0) (v1 := .int .u64 0) (v2 := .int .i64 0) (v3 := .string ⟨#[]⟩) (v4 := .slice none 0 0)
                        have r0 := B9'.cell 0
                        have r1 := B9'.cell 1
                        have r2 := B9'.cell 2
                        have r3 := B9'.cell 3
                        have r4 := B9'.cell 4
                        simp at r0 r1 r2 r3 r4
                        refine bodyPost_ret (v := .tuple #[.agg #[.int .u32 0, .int .u64 0, .int .i64 0, .string ⟨#[]⟩, .slice none 0 0], .int .i64 6]) (by simp [results, Tryz.results26, go_sem, r0, r1, r2, r3, r4]) rfl ?_
                        exact dec_none HD.out rfl (((((HBE.out.setCell (Nat.le_refl _) _).setCell (Nat.le_refl _) _).setCell (Nat.le_refl _) _).setCell (Nat.le_refl _) _).setCell (Nat.le_refl _) _)
          · have hd : decE s = (Sh.none, 32) := by unfold decE; rw [if_neg h1, if_neg h2, if_neg h3, if_neg (by rw [hf1, hf2, h4]; exact fun h => h rfl), if_pos (by rw [hbody]; exact h5)]
            have HD := Lib.hid hd
            have h6 : ¬ ((numAt s 0 4 : Int) = (crcMore 0 body : Int)) := by omega
            clear hd h3 h4 h5
            generalize numAt s 0 4 = na at *
            generalize crcMore 0 body = cr at *
            go_enter Tryz.func26, Tryz.ntmps26
            go_wp2_with (fail)
            refine (HCN _).out.mono ?_
            rintro e w2 ⟨rfl, rfl⟩
            have hB0 := Blk.new w 84 #[.int .u32 0, .int .u64 0, .int .i64 0, .string ⟨#[]⟩, .slice none 0 0]
            have hbw : Below w.heap.size w (w.alloc (.cells #[.int .u32 0, .int .u64 0, .int .i64 0, .string ⟨#[]⟩, .slice none 0 0] 84)) := (Below.refl _ _).alloc (Nat.le_refl _) _
            generalize w.alloc (.cells #[.int .u32 0, .int .u64 0, .int .i64 0, .string ⟨#[]⟩, .slice none 0 0] 84) = w1 at *
            have HB0 := Lib.hid hB0
            have HBW := Lib.hid hbw
            clear hB0 hbw
            go_wp2_with (fail)
            go_quiet (fail)
            have hB2 : Blk (w1.drewN nq) w.heap.size 84 #[.int .u32 0, .int .u64 0, .int .i64 0, .string ⟨#[]⟩, .slice none 0 0] := HB0.out
            have hbw2 : Below w.heap.size w (w1.drewN nq) := HBW.out.trans ((below_drewN w1 nq).mono HBW.out.size)
            generalize w1.drewN nq = w2 at *
            have HB2 := Lib.hid hB2
            have HBW2 := Lib.hid hbw2
            clear hB2 hbw2
            have c0 : w2.cell? ⟨w.heap.size, 0, none⟩ = some (.int .u32 0) := HB2.out.cell 0
            have c1 : w2.cell? ⟨w.heap.size, 1, none⟩ = some (.int .u64 0) := HB2.out.cell 1
            have c2 : w2.cell? ⟨w.heap.size, 2, none⟩ = some (.int .i64 0) := HB2.out.cell 2
            have c3 : w2.cell? ⟨w.heap.size, 3, none⟩ = some (.string ⟨#[]⟩) := HB2.out.cell 3
            have c4 : w2.cell? ⟨w.heap.size, 4, none⟩ = some (.slice none 0 0) := HB2.out.cell 4
            have z0 : w2.frozen? ⟨w.heap.size, 0, none⟩ = false := HB2.out.frozen 0
            have z1 : w2.frozen? ⟨w.heap.size, 1, none⟩ = false := HB2.out.frozen 1
            have z2 : w2.frozen? ⟨w.heap.size, 2, none⟩ = false := HB2.out.frozen 2
            have z3 : w2.frozen? ⟨w.heap.size, 3, none⟩ = false := HB2.out.frozen 3
            have z4 : w2.frozen? ⟨w.heap.size, 4, none⟩ = false := HB2.out.frozen 4
            go_wp2_with (fail)
            · rename_i hh
              exact absurd (HCM.out.symm.trans hh) (by decide)
            · refine (HG _).out.mono ?_
              rintro e w3 ⟨rfl, rfl⟩
              go_wp2_with (fail)
              refine (HS _).out.mono ?_
              rintro e w3 ⟨rfl, rfl⟩
              go_wp2_with (fail)
              (try simp only [Exit.inBlock, Exit.then])
              have B9' := (HB2.out).set5 (v0 := .int .u32 0) (v1 := .int .u64 0) (v2 := .int .i64 0) (v3 := .string ⟨#[]⟩) (v4 := .slice none 0 0)
              have r0 := B9'.cell 0
              have r1 := B9'.cell 1
              have r2 := B9'.cell 2
              have r3 := B9'.cell 3
              have r4 := B9'.cell 4
              simp at r0 r1 r2 r3 r4
              refine bodyPost_ret (v := .tuple #[.agg #[.int .u32 0, .int .u64 0, .int .i64 0, .string ⟨#[]⟩, .slice none 0 0], .int .i64 32]) (by simp [results, Tryz.results26, go_sem, r0, r1, r2, r3, r4]) rfl ?_
              exact dec_none HD.out rfl (((((HBW2.out.setCell (Nat.le_refl _) _).setCell (Nat.le_refl _) _).setCell (Nat.le_refl _) _).setCell (Nat.le_refl _) _).setCell (Nat.le_refl _) _)
        · have hd : decE s = (Sh.none, 34) := by unfold decE; rw [if_neg h1, if_neg h2, if_neg h3, if_pos (by rw [hf1, hf2]; exact h4)]
          have HD := Lib.hid hd
          have HCM : Hid ((!(f1.toList == f2.toList)) = true) := by show _ = true; rw [toList_decide, decide_eq_false h4]; rfl
          clear hd h3 h4
          go_enter Tryz.func26, Tryz.ntmps26
          go_wp2_with (fail)
          refine (HCN _).out.mono ?_
          rintro e w2 ⟨rfl, rfl⟩
          have hB0 := Blk.new w 84 #[.int .u32 0, .int .u64 0, .int .i64 0, .string ⟨#[]⟩, .slice none 0 0]
          have hbw : Below w.heap.size w (w.alloc (.cells #[.int .u32 0, .int .u64 0, .int .i64 0, .string ⟨#[]⟩, .slice none 0 0] 84)) := (Below.refl _ _).alloc (Nat.le_refl _) _
          generalize w.alloc (.cells #[.int .u32 0, .int .u64 0, .int .i64 0, .string ⟨#[]⟩, .slice none 0 0] 84) = w1 at *
          have HB0 := Lib.hid hB0
          have HBW := Lib.hid hbw
          clear hB0 hbw
          go_wp2_with (fail)
          go_quiet (fail)
          have hB2 : Blk (w1.drewN nq) w.heap.size 84 #[.int .u32 0, .int .u64 0, .int .i64 0, .string ⟨#[]⟩, .slice none 0 0] := HB0.out
          have hbw2 : Below w.heap.size w (w1.drewN nq) := HBW.out.trans ((below_drewN w1 nq).mono HBW.out.size)
          generalize w1.drewN nq = w2 at *
          have HB2 := Lib.hid hB2
          have HBW2 := Lib.hid hbw2
          clear hB2 hbw2
          have c0 : w2.cell? ⟨w.heap.size, 0, none⟩ = some (.int .u32 0) := HB2.out.cell 0
          have c1 : w2.cell? ⟨w.heap.size, 1, none⟩ = some (.int .u64 0) := HB2.out.cell 1
          have c2 : w2.cell? ⟨w.heap.size, 2, none⟩ = some (.int .i64 0) := HB2.out.cell 2
          have c3 : w2.cell? ⟨w.heap.size, 3, none⟩ = some (.string ⟨#[]⟩) := HB2.out.cell 3
          have c4 : w2.cell? ⟨w.heap.size, 4, none⟩ = some (.slice none 0 0) := HB2.out.cell 4
          have z0 : w2.frozen? ⟨w.heap.size, 0, none⟩ = false := HB2.out.frozen 0
          have z1 : w2.frozen? ⟨w.heap.size, 1, none⟩ = false := HB2.out.frozen 1
          have z2 : w2.frozen? ⟨w.heap.size, 2, none⟩ = false := HB2.out.frozen 2
          have z3 : w2.frozen? ⟨w.heap.size, 3, none⟩ = false := HB2.out.frozen 3
          have z4 : w2.frozen? ⟨w.heap.size, 4, none⟩ = false := HB2.out.frozen 4
          go_wp2_with (fail)
          · skip
            (try simp only [Exit.inBlock, Exit.then])
            have B9' := (HB2.out).set5 (v0 := .int .u32 0) (v1 := .int .u64 0) (v2 := .int .i64 0) (v3 := .string ⟨#[]⟩) (v4 := .slice none 0 0)
            have r0 := B9'.cell 0
            have r1 := B9'.cell 1
            have r2 := B9'.cell 2
            have r3 := B9'.cell 3
            have r4 := B9'.cell 4
            simp at r0 r1 r2 r3 r4
            refine bodyPost_ret (v := .tuple #[.agg #[.int .u32 0, .int .u64 0, .int .i64 0, .string ⟨#[]⟩, .slice none 0 0], .int .i64 34]) (by simp [results, Tryz.results26, go_sem, r0, r1, r2, r3, r4]) rfl ?_
            exact dec_none HD.out rfl (((((HBW2.out.setCell (Nat.le_refl _) _).setCell (Nat.le_refl _) _).setCell (Nat.le_refl _) _).setCell (Nat.le_refl _) _).setCell (Nat.le_refl _) _)
          · rename_i hh _ _ _ _ _ _
            exact absurd (HCM.out.symm.trans hh) (by decide)
end Go.Proofs.YtnghgkaoopcglaaGreat
