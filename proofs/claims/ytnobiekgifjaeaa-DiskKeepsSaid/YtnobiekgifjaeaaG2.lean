/-
  DiskKeeps: the walk.
-/
import Derived.Test.YtnobiekgifjaeaaG1
namespace Go.Proofs.Ytnobiekgifjaeaa
open Go.RowKit

theorem live_box {w X wx : World} {o : Obj} {m : Dk} (h : Live X (X.heap.size + 1) m wx) (hs : X.heap.size = w.heap.size + 1) (hb : Below w.heap.size w X) (hx : X.heap[w.heap.size]? = some o) : ∃ W0, Below w.heap.size w W0 ∧ (w.heap.size < W0.heap.size ∧ W0.heap[w.heap.size]? = some o) ∧ Live W0 (w.heap.size + 1 + 1) m wx :=
  ⟨X, hb, ⟨by omega, hx⟩, by rw [← hs]; exact h⟩

set_option maxRecDepth 100000 in
set_option maxHeartbeats 4000000 in
theorem diskKeeps_w (a0 : Option Addr) (n0 c0 : Nat) (zs : List Int) (lg : ByteArray) (f : Fl) (hf : f.ok) (w : World) (h0 : IsInts .u16 w a0 n0 c0 zs) (hlg : lg.size ≤ 9223372036854775807) :
    Calls Try.prog 4 #[.slice a0 n0 c0, .string lg, .agg #[.int .i64 f.at_, .int .u64 f.keep, .int .i64 f.torn, .int .i64 f.bytes, .int .i64 f.log]] w fun e w' => e = .returned (.bool true) ∧ Below w.heap.size w w' := by
  have HN : ∀ W, Hid (Calls Try.prog 14 #[.int .i64 64] W fun e w' => e = .returned (.tuple #[.pointer (some ⟨W.heap.size + 1, 0, none⟩), .int .i64 0]) ∧ Live W (W.heap.size + 1) (Dk.fresh 64) w') := fun W => new_c W 64 (by omega) (by omega)
  have HA : ∀ W, Hid (Calls Try.prog 15 #[] W fun e w' => e = .returned (.bool true) ∧ Below W.heap.size W w') := fun W => awake_c W
  obtain ⟨hl0, hlc, hl1⟩ := h0.len
  unfold maxLen at hl0 hl1
  have H0 := Lib.hid h0
  have hmm := @run_makeMap Try.prog
  obtain ⟨fa, fk, ft, fb, fl⟩ := f
  have HF := Lib.hid hf
  simp only []
  clear h0 hf
  go_enter Try.func4, Try.ntmps4
  go_upto_if 35 with (first | (go_at_call 14; refine (HN _).out.mono ?_; rintro e w1 ⟨rfl, l1⟩; have L1 := Lib.hid l1; clear l1) | (go_at_call 15; refine (HA _).out.mono ?_; rintro e w2 ⟨rfl, hb2⟩; have L2 := Lib.hid (L1.out.below hb2); have B2 := Lib.hid hb2; clear hb2))
  go_cut [1] (fun s1 wx => (∃ lg' : ByteArray, s1 = .string lg' ∧ lg'.size ≤ 100000) ∧ Hid (∃ W0, Below w.heap.size w W0 ∧ (w.heap.size < W0.heap.size ∧ W0.heap[w.heap.size]? = some (.cells #[.int .i64 fa, .int .u64 fk, .int .i64 ft, .int .i64 fb, .int .i64 fl] 39)) ∧ Live W0 (w.heap.size + 1 + 1) (Dk.fresh 64) wx))
  case first =>
    have HL : Hid (∃ W0, Below w.heap.size w W0 ∧ (w.heap.size < W0.heap.size ∧ W0.heap[w.heap.size]? = some (.cells #[.int .i64 fa, .int .u64 fk, .int .i64 ft, .int .i64 fb, .int .i64 fl] 39)) ∧ Live W0 (w.heap.size + 1 + 1) (Dk.fresh 64) w2) := live_box L2.out (by simp) ((Below.refl _ _).alloc (Nat.le_refl _) _) (heap_alloc_new w _)
    clear L1 L2 B2
    by_cases hbig : 100000 < lg.size
    · have q1 : (100000 : Int) ≤ (lg.size : Int) := by omega
      go_wp2
      go_meet
      exact ⟨⟨_, rfl, by rw [ByteArray.size_extract]; omega⟩, HL⟩
    · go_wp2
      go_meet
      exact ⟨⟨_, rfl, by omega⟩, HL⟩
  case rest =>
    obtain ⟨⟨lg', rfl, hlg'⟩, HLv⟩ := hcut
    obtain ⟨W0, hW0, hbox, hL⟩ := HLv.out
    generalize hb : w.heap.size + 1 + 1 = b at *
    have hg0 : W0.heap.size ≤ wc.heap.size := hL.base.size
    have HK := Lib.hid (LiveK.start hL (.map #[] 0))
    have HW0 := Lib.hid hW0
    have HBox : Hid (∀ wr : World, Below W0.heap.size W0 wr → Blk wr w.heap.size 39 #[.int .i64 fa, .int .u64 fk, .int .i64 ft, .int .i64 fb, .int .i64 fl]) := fun wr hb => (hb.block _ hbox.1).trans hbox.2
    generalize hg : wc.heap.size = g at *
    clear HLv hL hb hW0 HN HA hbox
    go_wp2_with (fail)
    go_loopw [10] (fun i wr => ∃ k : Nat, k ≤ n0 ∧ k ≤ 100 ∧ i = .int .i64 k ∧ Hid (∃ J L c, KeepRel W0 b g J L c k wr)) (fun i _ => 100 - (intOf i).toNat)
    case atStart => exact ⟨0, Nat.zero_le _, Nat.zero_le _, rfl, _, _, _, KeepRel.start HK.out⟩
    case round =>
      obtain ⟨k, hk, hk100, rfl, hS⟩ := hrel
      by_cases hlt : k < n0 ∧ k < 100
      · obtain ⟨hlt1, hlt2⟩ := hlt
        obtain ⟨J, L, c, hS⟩ := hS.out
        obtain ⟨o, hlv⟩ := hS.live
        obtain ⟨zb, zo, z, rfl, -, wz, hcell⟩ := H0.out.at_ (HW0.out.trans (hlv.base.mono HW0.out.size)) hlt1
        obtain ⟨hz0, hz1⟩ := bounds_u16 wz
        obtain ⟨p, hp, hp1, hp8⟩ : ∃ p : Nat, z % 64 + 1 = (p : Int) ∧ 1 ≤ p ∧ p ≤ 64 := ⟨(z % 64 + 1).toNat, by omega, by omega, by omega⟩
        have HP := Lib.hid hp
        have HSL := Lib.hid hS
        have HPg : Hid (Calls Try.prog 18 #[.int .u8 (k : Int)] wr fun e w' => e = .returned (.string (pageOf (UInt8.ofNat k))) ∧ LiveK W0 b g o { Dk.fresh 64 with calls := c, loose := L } w') := page_k (LiveK.host W0 b g o) hlv k (by omega)
        have hmay : Dk.may { Dk.fresh 64 with calls := c, loose := L } (p : Int) = 0 := by
          unfold Dk.may
          have e1 : ¬ ((p : Int) < 1 ∨ 4096 < (p : Int)) := by omega
          have e2 : ¬ ((64 : Int) ≤ ((p : Int) - 1) % 2048) := by omega
          rw [if_neg e1]
          show (if (64 : Int) ≤ ((p : Int) - 1) % 2048 then (20 : Int) else 0) = 0
          rw [if_neg e2]
        have HWr : ∀ W, LiveK W0 b g o { Dk.fresh 64 with calls := c, loose := L } W → Hid (Calls Try.prog 17 #[.pointer (some ⟨b, 0, none⟩), .int .u32 (p : Int), .string (pageOf (UInt8.ofNat k))] W fun e w' => e = .returned (.int .i64 0) ∧ LiveK W0 b g o { Dk.fresh 64 with calls := wrapI (c + 1), loose := L ++ [⟨p, (pageOf (UInt8.ofNat k)), 0⟩] } w') := fun W h =>
          write_H (LiveK.host W0 b g o) h p _ rfl (pageOf_size _) hmay rfl (by show L.length ≤ _; rw [hS.len]; omega)
        have HMp : ∀ W, W.heap[g]? = some o → MapI .i64 W g (byteOf J) := fun W e => hS.map.same (e.trans hlv.blk.symm)
        clear hS hlv hmay hp wz HK
        go_wp2_with (fail)
        rw [HP.out]
        refine HPg.out.mono ?_; rintro e w3 ⟨rfl, l3⟩
        have HW3 := HWr _ l3
        clear l3 HPg HWr
        go_wp2_with (fail)
        refine HW3.out.mono ?_; rintro e w4 ⟨rfl, l4⟩
        have hm4 := HMp _ l4.blk
        obtain ⟨w5, hrun, hm5, hg5⟩ := hm4.store (P := Try.prog) Try.underlying44 Try.underlying3 (p : Int) (.int .u8 (k : Int))
        have HN5 : Hid (∃ J L c, KeepRel W0 b g J L c (k + 1) w5) := ⟨_, _, _, HSL.out.next hlt2 hg0 ⟨by omega, by omega⟩ l4 hm5 hg5⟩
        clear l4 hm4 hm5 hg5 HSL HMp
        go_wp2_with (fail)
        go_roundw
        case rel => exact ⟨k + 1, by omega, by omega, by go_num, HN5.out⟩
        case measure => simp [intOf]; omega
      · obtain ⟨J, L, c, hS⟩ := hS.out
        obtain ⟨o, hlv⟩ := hS.live
        have HM : Hid (∀ W, W.heap[g]? = some o → MapI .i64 W g (byteOf J)) := fun W e => hS.map.same (e.trans hlv.blk.symm)
        have HJ : Hid (∀ q j, J q = some j → j < 100) := fun q j e => (hS.some_ q j e).1
        have hPJ : (fun q => ((lastOf q L).map (·.s)).or none) = PJ J := funext hS.page
        have hll : L.length ≤ 1000000000 := by rw [hS.len]; omega
        have hH := LiveK.host W0 b g o
        have H1 : Hid (Calls Try.prog 23 #[.pointer (some ⟨b, 0, none⟩), .string lg'] wr fun e w' => e = .returned (.int .i64 0) ∧ ∃ m', LiveK W0 b g o m' w' ∧ KeepM L (fun _ => none) ⟨#[]⟩ lg' m') := by
          have := keep_append hH hlv hS.keepM lg' (by show 0 + 0 + lg'.size ≤ _; omega)
          rw [nil_append] at this
          exact this
        have H2 : ∀ W m, LiveK W0 b g o m W → KeepM L (fun _ => none) ⟨#[]⟩ lg' m → Hid (Calls Try.prog 24 #[.pointer (some ⟨b, 0, none⟩)] W fun e w' => e = .returned (.int .i64 0) ∧ ∃ m', LiveK W0 b g o m' w' ∧ KeepM L (fun _ => none) lg' ⟨#[]⟩ m') := fun W m h1 h2 => by
          have := keep_syncLog hH h1 h2
          rw [nil_append] at this
          exact this
        have H3 : ∀ W m, LiveK W0 b g o m W → KeepM L (fun _ => none) lg' ⟨#[]⟩ m → Hid (Calls Try.prog 25 #[.pointer (some ⟨b, 0, none⟩)] W fun e w' => e = .returned (.int .i64 0) ∧ ∃ m', LiveK W0 b g o m' w' ∧ KeepM [] (PJ J) lg' ⟨#[]⟩ m') := fun W m h1 h2 => by
          have := keep_sync hH h1 h2 hll
          rw [hPJ] at this
          exact this
        have H4 : ∀ W m, LiveK W0 b g o m W → KeepM [] (PJ J) lg' ⟨#[]⟩ m → Hid (Calls Try.prog 23 #[.pointer (some ⟨b, 0, none⟩), .string ⟨#[109, 111, 114, 101]⟩] W fun e w' => e = .returned (.int .i64 0) ∧ ∃ m', LiveK W0 b g o m' w' ∧ KeepM [] (PJ J) lg' moreB m') := fun W m h1 h2 => by
          have := keep_append hH h1 h2 moreB (by show lg'.size + 0 + 4 ≤ _; omega)
          rw [nil_append] at this
          exact this
        have H5 : ∀ W m, LiveK W0 b g o m W → KeepM [] (PJ J) lg' moreB m → Hid (Calls Try.prog 19 #[.pointer (some ⟨b, 0, none⟩), .agg #[.int .i64 fa, .int .u64 fk, .int .i64 ft, .int .i64 fb, .int .i64 fl]] W fun e w' => e = .returned (.tuple #[]) ∧ ∃ m', LiveK W0 b g o m' w' ∧ m'.dead = true ∧ ∃ n, n ≤ 4 ∧ KeepM [] (PJ J) (lg' ++ moreB.extract 0 n) ⟨#[]⟩ { m' with dead := false }) := fun W m h1 h2 => by
          have := keep_fall hH h1 h2 ⟨fa, fk, ft, fb, fl⟩ HF.out
          have e : moreB.size = 4 := rfl
          rw [e] at this
          exact this
        have H6 : ∀ W m n, LiveK W0 b g o m W → m.dead = true → KeepM [] (PJ J) (lg' ++ moreB.extract 0 n) ⟨#[]⟩ { m with dead := false } → Hid (Calls Try.prog 21 #[.pointer (some ⟨b, 0, none⟩)] W fun e w' => e = .returned (.bool true) ∧ ∃ m', LiveK W0 b g o m' w' ∧ KeepM [] (PJ J) (lg' ++ moreB.extract 0 n) ⟨#[]⟩ m') := fun W m n h1 h2 h3 => keep_up hH h1 h2 h3
        have H7 : ∀ W m lo, LiveK W0 b g o m W → KeepM [] (PJ J) lo ⟨#[]⟩ m → Hid (Calls Try.prog 26 #[.pointer (some ⟨b, 0, none⟩)] W fun e w' => e = .returned (.tuple #[.string lo, .int .i64 0]) ∧ LiveK W0 b g o m w') := fun W m lo h1 h2 => keep_readLog hH h1 h2
        have HB0 := fun W (hl : ∃ m, LiveK W0 b g o m W) => HBox.out W (by obtain ⟨m, hl⟩ := hl; exact hl.base)
        have HB1 := Lib.hid HB0
        clear hS hlv hPJ hll hH HK HB0
        obtain hx | hx : (¬ k < n0) ∨ (k < n0 ∧ k = 100) := by omega
        all_goals
          first
          | obtain ⟨hx1, rfl⟩ := hx
            clear hlt
            go_wp2_with (fail)
          | clear hlt
            go_wp2_with (fail)
          refine H1.out.mono ?_; rintro e x1 ⟨rfl, m1, l1, k1⟩
          have C2 := H2 _ _ l1 k1
          clear l1 k1 H1 H2
          go_wp2_with (fail)
          refine C2.out.mono ?_; rintro e x2 ⟨rfl, m2, l2, k2⟩
          have C3 := H3 _ _ l2 k2
          clear l2 k2 H3 C2
          go_wp2_with (fail)
          refine C3.out.mono ?_; rintro e x3 ⟨rfl, m3, l3, k3⟩
          have C4 := H4 _ _ l3 k3
          clear l3 k3 H4 C3
          go_wp2_with (fail)
          refine C4.out.mono ?_; rintro e x4 ⟨rfl, m4, l4, k4⟩
          have C5 := H5 _ _ l4 k4
          have hbx := HB1.out x4 ⟨_, l4⟩
          have b0 := hbx.cell 0
          have b1 := hbx.cell 1
          have b2 := hbx.cell 2
          have b3 := hbx.cell 3
          have b4 := hbx.cell 4
          simp at b0 b1 b2 b3 b4
          clear l4 k4 H5 C4 hbx
          go_wp2_with (fail)
          refine C5.out.mono ?_; rintro e x5 ⟨rfl, m5, l5, d5, n, hn, k5⟩
          have C6 := H6 _ _ n l5 d5 k5
          clear l5 k5 H6 C5 b0 b1 b2 b3 b4
          go_wp2_with (fail)
          refine C6.out.mono ?_; rintro e x6 ⟨rfl, m6, l6, k6⟩
          obtain ⟨s, hs⟩ : ∃ s, s = lg' ++ moreB.extract 0 n := ⟨_, rfl⟩
          have hs1 : s.size = lg'.size + n := by
            have h1 : moreB.size = 4 := rfl
            rw [hs, ByteArray.size_append, ByteArray.size_extract, h1]
            omega
          have hs2 : (lg' ++ (⟨#[109, 111, 114, 101]⟩ : ByteArray)).extract 0 s.size = s := by rw [hs]; exact more_cut lg' n hn
          have hs3 : (lg' ++ (⟨#[109, 111, 114, 101]⟩ : ByteArray)).size = lg'.size + 4 := by rw [ByteArray.size_append]; rfl
          rw [← hs] at k6
          have C7 := H7 _ _ _ l6 k6
          have K6 := Lib.hid k6
          clear l6 k6 H7 C6 hs
          go_wp2_with (fail)
          refine C7.out.mono ?_; rintro e x7 ⟨rfl, l7⟩
          have L7 : Hid (∃ m, LiveK W0 b g o m x7 ∧ KeepM [] (PJ J) s ⟨#[]⟩ m) := ⟨_, l7, K6.out⟩
          clear l7 K6 C7
          have q6 : ∀ W : World, (Op.stringOp .add lg' ⟨#[109, 111, 114, 101]⟩).run Try.prog W = .ok (.string (lg' ++ ⟨#[109, 111, 114, 101]⟩)) W := fun W => run_string_add_sum W _ _ (by show lg'.size + 4 ≤ _; omega)
          generalize hlm : lg' ++ (⟨#[109, 111, 114, 101]⟩ : ByteArray) = lm at *
          have q1 : (s.size : Int) ≤ (lm.size : Int) := by omega
          have q2 : s.size ≤ lm.size := by omega
          have q3 : lg'.size ≤ s.size := by omega
          have q4 : s.size ≤ lg'.size + 4 := by omega
          have qa : ¬ s.size < lg'.size := by omega
          have qb : ¬ ((lg'.size : Int) + 4 < (s.size : Int)) := by omega
          have heq := beq_toList s
          clear hlm hs1 hs3
          go_wp2_with (fail)
          clear q1 q2 q3 q4 qa qb q6 heq hs2 hn
          go_loopw [14] (fun i wr => ∃ j : Nat, 1 ≤ j ∧ j ≤ 65 ∧ i = .int .i64 j ∧ Hid (∃ m, LiveK W0 b g o m wr ∧ KeepM [] (PJ J) s ⟨#[]⟩ m)) (fun i _ => 65 - (intOf i).toNat)
          case atStart => exact ⟨1, by omega, by omega, rfl, L7.out⟩
          case round =>
            obtain ⟨j, hj1, hj65, rfl, hE⟩ := hrel
            by_cases hlt : j < 65
            · obtain ⟨m, hm, ho⟩ := hE.out
              have HR : Hid (Calls Try.prog 22 #[.pointer (some ⟨b, 0, none⟩), .int .u32 (j : Int)] wr fun e w' => e = .returned (.tuple #[.string ((PJ J j).getD blank), .int .i64 0]) ∧ LiveK W0 b g o m w') := keep_read (LiveK.host W0 b g o) hm ho (j : Int) (by omega) (by omega)
              have hrun := (HM.out _ hm.blk).look (P := Try.prog) Try.underlying44 Try.underlying3 (j : Int) (zero_u8 wr) true
              have HO := Lib.hid ho
              have HJj := HJ.out (j : Int)
              have HPg : ∀ W, LiveK W0 b g o m W → ∀ k : Nat, k < 100 → Hid (Calls Try.prog 18 #[.int .u8 (k : Int)] W fun e w' => e = .returned (.string (pageOf (UInt8.ofNat k))) ∧ LiveK W0 b g o m w') := fun W h k hk => page_k (LiveK.host W0 b g o) h k (by omega)
              have HZ : ∀ W, LiveK W0 b g o m W → Hid (Calls Try.prog 16 #[] W fun e w' => e = .returned (.string blank) ∧ LiveK W0 b g o m w') := fun W h => zeros_H (LiveK.host W0 b g o) h
              clear hE hm ho
              cases hJ : J (j : Int) with
              | none =>
                have e1 : byteOf J (j : Int) = none := by unfold byteOf; rw [hJ]; rfl
                have e2 : PJ J (j : Int) = none := by unfold PJ; rw [hJ]; rfl
                rw [e1] at hrun
                rw [e2] at HR
                simp only [if_true, Option.getD_none, Option.isSome_none] at hrun HR
                have heq := beq_toList blank
                generalize blank = bl at *
                clear HPg HJj hJ e1 e2
                go_wp2_with (fail)
                refine HR.out.mono ?_; rintro e w6 ⟨rfl, l6⟩
                have HZ6 := HZ _ l6
                clear l6 HZ HR hrun
                go_wp2_with (fail)
                refine HZ6.out.mono ?_; rintro e w7 ⟨rfl, l7⟩
                have L7 : Hid (LiveK W0 b g o m w7) := l7
                clear l7 HZ6
                go_wp2_with (fail)
                go_roundw
                case rel => exact ⟨j + 1, by omega, by omega, by go_num, m, L7.out, HO.out⟩
                case measure => simp [intOf]; omega
              | some i =>
                have e1 : byteOf J (j : Int) = some (.int .u8 (i : Int)) := by unfold byteOf; rw [hJ]; rfl
                have e2 : PJ J (j : Int) = some (pageOf (UInt8.ofNat i)) := by unfold PJ; rw [hJ]; rfl
                have hi := HJj i hJ
                rw [e1] at hrun
                rw [e2] at HR
                simp only [if_true, Option.getD_some, Option.isSome_some] at hrun HR
                have HPgi := fun W h => HPg W h i hi
                clear HPg HZ HJj hJ e1 e2
                generalize pageOf (UInt8.ofNat i) = pg at *
                have heq := beq_toList pg
                go_wp2_with (fail)
                refine HR.out.mono ?_; rintro e w6 ⟨rfl, l6⟩
                have HP6 := HPgi _ l6
                clear l6 HPgi HR hrun
                go_wp2_with (fail)
                refine HP6.out.mono ?_; rintro e w7 ⟨rfl, l7⟩
                have L7 : Hid (LiveK W0 b g o m w7) := l7
                clear l7 HP6
                go_wp2_with (fail)
                go_roundw
                case rel => exact ⟨j + 1, by omega, by omega, by go_num, m, L7.out, HO.out⟩
                case measure => simp [intOf]; omega
            · obtain rfl : j = 65 := by omega
              have HB : Hid (Below w.heap.size w wr) := by
                obtain ⟨m, hm, _⟩ := hE.out
                exact HW0.out.trans (hm.base.mono HW0.out.size)
              clear hE
              go_wp2_with (fail)
              go_ret
              exact ⟨rfl, HB.out⟩
end Go.Proofs.Ytnobiekgifjaeaa
