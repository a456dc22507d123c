/-
  DiskLogs: of the log's loose bytes a beginning stays: the walk.
-/
import Derived.Test.YtnobiekgifjaeaaC0
namespace Go.Proofs.Ytnobiekgifjaeaa
open Go.RowKit

set_option maxRecDepth 100000 in
set_option maxHeartbeats 1000000 in
theorem diskLogs_w (a0 a1 : Option Addr) (n0 c0 n1 c1 : Nat) (ss ts : List ByteArray) (keep : Int) (w : World) (h0 : IsStrs w a0 n0 c0 ss) (h1 : IsStrs w a1 n1 c1 ts) (hk1 : -9223372036854775808 ≤ keep) (hk2 : keep ≤ 9223372036854775807) :
    Calls Try.prog 5 #[.slice a0 n0 c0, .slice a1 n1 c1, .int .i64 keep] w fun e w' => e = .returned (.bool true) ∧ Below w.heap.size w w' := by
  have HN : Hid (Calls Try.prog 14 #[.int .i64 8] w fun e w' => e = .returned (.tuple #[.pointer (some ⟨w.heap.size + 1, 0, none⟩), .int .i64 0]) ∧ Live w (w.heap.size + 1) (Dk.fresh 8) w') := new_c w 8 (by omega) (by omega)
  have HA : ∀ W, Hid (Calls Try.prog 15 #[] W fun e w' => e = .returned (.bool true) ∧ Below W.heap.size W w') := fun W => awake_c W
  generalize hb : w.heap.size + 1 = b at *
  have hl0 := h0.len
  have hl1 := h1.len
  unfold maxLen at hl0 hl1
  have H0 := Lib.hid h0
  have H1 := Lib.hid h1
  clear hb h0 h1
  go_enter Try.func5, Try.ntmps5
  go_wp2_with (first | (go_at_call 14; refine HN.out.mono ?_; rintro e w1 ⟨rfl, l1⟩; have L1 := Lib.hid l1; clear l1) | (go_at_call 15; refine (HA _).out.mono ?_; rintro e w2 ⟨rfl, hb2⟩; have L2 := Lib.hid (L1.out.below hb2); clear L1 hb2))
  go_loopw [9, 11] (fun a i wr => ∃ (k : Nat) (A : ByteArray), k ≤ 20 ∧ k ≤ n0 ∧ i = .int .i64 k ∧ a = .string A ∧ A.size ≤ 1000 * k ∧ Hid (∃ m, Live w b m wr ∧ LogOnly m ⟨#[]⟩ A)) (fun _ i _ => 20 - (intOf i).toNat)
  case atStart => exact ⟨0, ⟨#[]⟩, by omega, by omega, rfl, rfl, by simp [ByteArray.size], _, L2.out, ⟨rfl, rfl, rfl, rfl, rfl⟩⟩
  case round =>
    obtain ⟨k, A, hk20, hkn, rfl, rfl, hAs, hL⟩ := hrel
    by_cases hlt : k < n0 ∧ k < 20
    · obtain ⟨hlt1, hlt2⟩ := hlt
      obtain ⟨m, hm, hlo⟩ := hL.out
      obtain ⟨sb, so, s, rfl, hs, hsz, hcell⟩ := H0.out.at_ hm.base hlt1
      have e1 : (s.size : Int) ≤ 9223372036854775807 := by unfold maxLen at hsz; omega
      have hcs := cutTo_size s
      have HAp : ∀ s', s'.size ≤ 1000 → Hid (Calls Try.prog 23 #[.pointer (some ⟨b, 0, none⟩), .string s'] wr fun e w' => e = .returned (.int .i64 0) ∧ ∃ m, Live w b m w' ∧ LogOnly m ⟨#[]⟩ (A ++ s')) := fun s' hs' => by
        have := appendLog_L hm s' hlo.dead hlo.plan (by rw [hlo.log, hlo.tail]; show 0 + _ + _ ≤ _; omega)
        exact this.mono fun e w' ⟨he, hl⟩ => ⟨he, _, hl, ⟨hlo.dead, hlo.plan, hlo.loose, hlo.log, by rw [← hlo.tail]⟩⟩
      clear hL hm hlo hs hcs
      by_cases hbig : 1000 < s.size
      · have hbig' : (1000 : Int) < (s.size : Int) := by omega
        have e2 : (s.extract 0 1000).size ≤ 1000 := by rw [ByteArray.size_extract]; omega
        go_wp2_with (go_at_call 23; refine (HAp _ e2).out.mono ?_; rintro e w' ⟨rfl, hl⟩; have HL := Lib.hid hl; clear hl)
        go_roundw
        case rel => exact ⟨k + 1, _, by omega, by omega, by go_num, rfl, by rw [ByteArray.size_append]; omega, HL⟩
        case measure => simp [intOf]; omega
      · have hbig' : ¬ (1000 : Int) < (s.size : Int) := by omega
        go_wp2_with (go_at_call 23; refine (HAp _ (by omega)).out.mono ?_; rintro e w' ⟨rfl, hl⟩; have HL := Lib.hid hl; clear hl)
        go_roundw
        case rel => exact ⟨k + 1, _, by omega, by omega, by go_num, rfl, by rw [ByteArray.size_append]; omega, HL⟩
        case measure => simp [intOf]; omega
    · have hA20 : A.size ≤ 20000 := by omega
      have HS : Hid (Calls Try.prog 24 #[.pointer (some ⟨b, 0, none⟩)] wr fun e w' => e = .returned (.int .i64 0) ∧ ∃ m, Live w b m w' ∧ LogOnly m A ⟨#[]⟩) := by
        obtain ⟨m, hm, hlo⟩ := hL.out
        have := syncLog_L hm hlo.dead hlo.plan
        exact this.mono fun e w' ⟨he, hl⟩ => ⟨he, _, hl, ⟨hlo.dead, hlo.plan, hlo.loose, by show m.log ++ m.tail = A; rw [hlo.log, hlo.tail]; apply ByteArray.ext; simp [ByteArray.data_append], rfl⟩⟩
      clear hL hAs
      have two : (n0 ≤ k) ∨ (k < n0 ∧ 20 ≤ k) := by omega
      clear hlt
      rcases two with ht | ⟨ht, ht'⟩
      all_goals
        go_wp2_with (go_at_call 24; refine HS.out.mono ?_; rintro e w3 ⟨rfl, hl3⟩; have HL3 := Lib.hid hl3; clear hl3)
        go_loopw [10, 13] (fun a i wr => ∃ (k : Nat) (B : ByteArray), k ≤ 20 ∧ k ≤ n1 ∧ i = .int .i64 k ∧ a = .string B ∧ B.size ≤ 1000 * k ∧ Hid (∃ m, Live w b m wr ∧ LogOnly m A B)) (fun _ i _ => 20 - (intOf i).toNat)
        case atStart => exact ⟨0, ⟨#[]⟩, by omega, by omega, rfl, rfl, by simp [ByteArray.size], HL3.out⟩
        case round =>
          obtain ⟨j, B, hj20, hjn, rfl, rfl, hBs, hL⟩ := hrel
          by_cases hlt : j < n1 ∧ j < 20
          · obtain ⟨hlt1, hlt2⟩ := hlt
            obtain ⟨m, hm, hlo⟩ := hL.out
            obtain ⟨sb, so, s, rfl, hs, hsz, hcell⟩ := H1.out.at_ hm.base hlt1
            have e1 : (s.size : Int) ≤ 9223372036854775807 := by unfold maxLen at hsz; omega
            have HAp : ∀ s', s'.size ≤ 1000 → Hid (Calls Try.prog 23 #[.pointer (some ⟨b, 0, none⟩), .string s'] wr fun e w' => e = .returned (.int .i64 0) ∧ ∃ m, Live w b m w' ∧ LogOnly m A (B ++ s')) := fun s' hs' => by
              have := appendLog_L hm s' hlo.dead hlo.plan (by rw [hlo.log, hlo.tail]; omega)
              exact this.mono fun e w' ⟨he, hl⟩ => ⟨he, _, hl, ⟨hlo.dead, hlo.plan, hlo.loose, hlo.log, by rw [← hlo.tail]⟩⟩
            clear hL hm hlo hs
            by_cases hbig : 1000 < s.size
            · have hbig' : (1000 : Int) < (s.size : Int) := by omega
              have e2 : (s.extract 0 1000).size ≤ 1000 := by rw [ByteArray.size_extract]; omega
              go_wp2_with (go_at_call 23; refine (HAp _ e2).out.mono ?_; rintro e w' ⟨rfl, hl⟩; have HL := Lib.hid hl; clear hl)
              go_roundw
              case rel => exact ⟨j + 1, _, by omega, by omega, by go_num, rfl, by rw [ByteArray.size_append]; omega, HL⟩
              case measure => simp [intOf]; omega
            · have hbig' : ¬ (1000 : Int) < (s.size : Int) := by omega
              go_wp2_with (go_at_call 23; refine (HAp _ (by omega)).out.mono ?_; rintro e w' ⟨rfl, hl⟩; have HL := Lib.hid hl; clear hl)
              go_roundw
              case rel => exact ⟨j + 1, _, by omega, by omega, by go_num, rfl, by rw [ByteArray.size_append]; omega, HL⟩
              case measure => simp [intOf]; omega
          · have hB20 : B.size ≤ 20000 := by omega
            obtain ⟨nn, hnn, hn1, hn2⟩ : ∃ n : Nat, (n : Int) = cutN 0 B.size keep ∧ n ≤ B.size ∧ cutN 0 B.size keep = n := ⟨(cutN 0 B.size keep).toNat, by unfold cutN; omega, by unfold cutN; omega, by unfold cutN; omega⟩
            have HC : Hid (Calls Try.prog 19 #[.pointer (some ⟨b, 0, none⟩), .agg #[.int .i64 0, .int .u64 0, .int .i64 0, .int .i64 0, .int .i64 keep]] wr fun e w' => e = .returned (.tuple #[]) ∧ ∃ m, Live w b m w' ∧ m.dead = true ∧ LogOnly { m with dead := false } (A ++ B.extract 0 nn) ⟨#[]⟩) := by
              obtain ⟨m, hm, hlo⟩ := hL.out
              have := crash_L hm ⟨0, 0, 0, 0, keep⟩ (logFall_ok hk1 hk2) (by rw [hlo.loose]; decide)
              refine this.mono fun e w' ⟨he, hl⟩ => ⟨he, _, hl, ?_⟩
              have ec : m.crash ⟨0, 0, 0, 0, keep⟩ = m.fell ⟨0, 0, 0, 0, keep⟩ := by unfold Dk.crash; rw [if_neg (by rw [hlo.dead]; decide), hlo.loose]; rfl
              rw [ec]
              refine ⟨rfl, rfl, hlo.plan, rfl, ?_, rfl⟩
              show m.log ++ m.tail.extract 0 (cutN 0 m.tail.size keep).toNat = _
              rw [hlo.log, hlo.tail, hn2]
              rfl
            have HX := Lib.hid hnn
            clear hL hBs hnn hn2
            have two2 : (n1 ≤ j) ∨ (j < n1 ∧ 20 ≤ j) := by omega
            clear hlt
            have HU : ∀ W m, Live w b m W → m.dead = true → LogOnly { m with dead := false } (A ++ B.extract 0 nn) ⟨#[]⟩ → Hid (Calls Try.prog 21 #[.pointer (some ⟨b, 0, none⟩)] W fun e w' => e = .returned (.bool true) ∧ ∃ m, Live w b m w' ∧ LogOnly m (A ++ B.extract 0 nn) ⟨#[]⟩) := fun W m hm hd hlo => by
              have := up_L hm
              rw [hd] at this
              exact this.mono fun e w' ⟨he, hl⟩ => ⟨he, _, hl, hlo⟩
            have HR : ∀ W m, Live w b m W → LogOnly m (A ++ B.extract 0 nn) ⟨#[]⟩ → Hid (Calls Try.prog 26 #[.pointer (some ⟨b, 0, none⟩)] W fun e w' => e = .returned (.tuple #[.string (A ++ B.extract 0 nn), .int .i64 0]) ∧ Below w.heap.size w w') := fun W m hm hlo => by
              have := readLog_L hm hlo.dead
              rw [hlo.log, hlo.tail, append_nil] at this
              exact this.mono fun e w' ⟨he, hl⟩ => ⟨he, hl.base⟩
            have hcat : ∀ W : World, (Op.stringOp .add A (B.extract 0 nn)).run Try.prog W = .ok (.string (A ++ B.extract 0 nn)) W := fun W => run_string_add_sum W _ _ (by simp only [ByteArray.size_extract]; omega)
            have heq := beq_toList (A ++ B.extract 0 nn)
            have hbs : (B.size : Int) ≤ 20000 := by omega
            have hn0 : (0 : Int) ≤ (nn : Int) := by omega
            have hn3 : (nn : Int) ≤ (B.size : Int) := by omega
            by_cases hneg : keep < 0
            · have h0 : 0 = nn := by have := HX.out; unfold cutN at this; omega
              subst h0
              have hge : ¬ (B.size : Int) < 0 := by omega
              rcases two2 with hu | ⟨hu, hu'⟩
              all_goals
                go_wp2_with (fail)
                refine HC.out.mono ?_; rintro e w4 ⟨rfl, m4, l4, d4, o4⟩
                have HU4 := HU _ m4 l4 d4 o4
                clear l4 d4 o4 HU
                go_wp2_with (fail)
                refine HU4.out.mono ?_; rintro e w5 ⟨rfl, m5, l5, o5⟩
                have HR5 := HR _ m5 l5 o5
                clear l5 o5 HR
                go_wp2_with (go_at_call 26; refine HR5.out.mono ?_; rintro e w6 ⟨rfl, hb6⟩; have HB6 := Lib.hid hb6; clear hb6)
                go_ret
                exact ⟨rfl, HB6.out⟩
            · by_cases hbig : (B.size : Int) < keep
              · have h0 : B.size = nn := by have := HX.out; unfold cutN at this; omega
                have HE : Hid (((A ++ B.extract 0 nn).toList == (A ++ B).toList) = true) := by
                  show ((A ++ B.extract 0 nn).toList == (A ++ B).toList) = true
                  rw [← h0, extract_all]
                  exact beq_toList _
                clear h0
                rcases two2 with hu | ⟨hu, hu'⟩
                all_goals
                  go_wp2_with (fail)
                  refine HC.out.mono ?_; rintro e w4 ⟨rfl, m4, l4, d4, o4⟩
                  have HU4 := HU _ m4 l4 d4 o4
                  clear l4 d4 o4 HU
                  go_wp2_with (fail)
                  refine HU4.out.mono ?_; rintro e w5 ⟨rfl, m5, l5, o5⟩
                  have HR5 := HR _ m5 l5 o5
                  clear l5 o5 HR
                  go_wp2_with (go_at_call 26; refine HR5.out.mono ?_; rintro e w6 ⟨rfl, hb6⟩; have HB6 := Lib.hid hb6; clear hb6)
                  go_ret
                  exact ⟨ret_bool HE.out, HB6.out⟩
              · obtain rfl : keep = (nn : Int) := by have := HX.out; unfold cutN at this; omega
                rcases two2 with hu | ⟨hu, hu'⟩
                all_goals
                  go_wp2_with (fail)
                  refine HC.out.mono ?_; rintro e w4 ⟨rfl, m4, l4, d4, o4⟩
                  have HU4 := HU _ m4 l4 d4 o4
                  clear l4 d4 o4 HU
                  go_wp2_with (fail)
                  refine HU4.out.mono ?_; rintro e w5 ⟨rfl, m5, l5, o5⟩
                  have HR5 := HR _ m5 l5 o5
                  clear l5 o5 HR
                  go_wp2_with (go_at_call 26; refine HR5.out.mono ?_; rintro e w6 ⟨rfl, hb6⟩; have HB6 := Lib.hid hb6; clear hb6)
                  go_ret
                  exact ⟨rfl, HB6.out⟩
end Go.Proofs.Ytnobiekgifjaeaa
