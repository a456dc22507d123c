/-
  The walks of a reader's texts and Booleans, and of a writer's.
-/
import Derived.Test.YtpnndlahfllbhaaGreatUN0
import Derived.Test.YtpnndlahfllbhaaGreatUR0
import Derived.Test.YtpnndlahfllbhaaGreatUR1
import Derived.Test.YtpnndlahfllbhaaGreatUQ3a
namespace Go.Proofs.YtpnndlahfllbhaaGreat
open Go.RowKit
attribute [local go_sem ↓] Go.wp_at_zero Go.wp_at_succ

section
variable {w w' : World} {rb : Nat} {r r' : Rd}
theorem RdAt.setErr0 (h : RdAt w rb r) (e : Int) : RdPost w rb { r with err := e } (w.setCell ⟨rb, 2, none⟩ (.int .i64 e)) := by
  have := h.setErr e 0
  exact this
theorem RdAt.setPlace (h : RdAt w rb r) (k : Nat) (hk : k ≤ r.s.size) : RdPost w rb { r with at_ := k } (w.setCell ⟨rb, 1, none⟩ (.int .i64 (k : Int))) := by
  refine ⟨⟨?_, hk, h.small⟩, ((h.refl 0).2.setCell (.inl rfl) _)⟩
  have := h.blk.set_ 1 (.int .i64 (k : Int))
  simpa using this
theorem RdPost.trans {w1 : World} {r1 : Rd} (h : RdPost w rb r w1) (h2 : RdPost w1 rb r1 w') : RdPost w rb r1 w' := ⟨h2.1, h.2.trans (More.refl _ _) h2.2⟩
theorem Rd.number_s (r : Rd) (k : Nat) : (r.number k).2.s = r.s ∧ r.at_ ≤ (r.number k).2.at_ := by
  unfold Rd.number
  split
  · exact ⟨rfl, Nat.le_refl _⟩
  · split
    · exact ⟨rfl, Nat.le_refl _⟩
    · exact ⟨rfl, Nat.le_add_right _ _⟩
theorem Rd.bytes_s (r : Rd) (k : Nat) : (r.bytes k).2.s = r.s := by
  unfold Rd.bytes
  split
  · rfl
  · split
    · rfl
    · rfl
set_option maxRecDepth 100000 in
set_option maxHeartbeats 1000000 in
theorem rtext_c (h : RdAt w rb r) (m : Nat) (_hm : m ≤ 1000000) :
    Calls Tryz.prog 170 #[.pointer (some ⟨rb, 0, none⟩), .int .i64 (m : Int)] w fun e w' => e = .returned (.string (r.text m).1) ∧ RdPost w rb (r.text m).2 w' := by
  have HE := Lib.hid (rerr_c h)
  have c1 : w.cell? ⟨rb, 1, none⟩ = some (.int .i64 (r.at_ : Int)) := h.blk.cell 1
  have H := Lib.hid h
  have HNC := Lib.hid (rnumber_c h 2 (by decide))
  obtain ⟨⟨R1, R2⟩, hR⟩ : ∃ x, x = r.text m := ⟨_, rfl⟩
  rw [← hR]
  simp only
  unfold Rd.text at hR
  by_cases he : r.err = 0
  · rw [if_neg (by rw [he]; exact fun h => h rfl)] at hR
    rw [he] at HE
    have HRR := Lib.hid hR
    clear hR
    have HNB := r.number_lt 2
    have HNS := Lib.hid (r.number_s 2)
    clear h he
    generalize r.number 2 = q at *
    obtain ⟨n, r1⟩ := q
    simp only at HNC HNB HNS HRR ⊢
    have HZ1 : Hid (r1.s.size ≤ 1000000000000) := by rw [HNS.out.1]; exact H.out.small
    go_enter Tryz.func170, Tryz.ntmps170
    go_wp2_with (fail)
    refine HE.out.mono ?_
    rintro e w' ⟨rfl, rfl⟩
    go_wp2_with (fail)
    refine HNC.out.mono ?_
    rintro e w1 ⟨rfl, hp1⟩
    have d2 : w1.cell? ⟨rb, 2, none⟩ = some (.int .i64 r1.err) := hp1.1.blk.cell 2
    have z2 : w1.frozen? ⟨rb, 2, none⟩ = false := hp1.1.blk.frozen 2
    have HP1 := Lib.hid hp1
    have hn63 : n ≤ 65535 := by omega
    have hconv : IntKind.i64.wrap (n : Int) = (n : Int) := IntWalk.i64_in _ (by omega)
    clear hp1 HNC HE c1
    go_upto_region 5 with (fail)
    go_cut [27] (fun s27 wx => ∃ b, s27 = .bool b ∧ Hid (b = true ↔ (r1.err = 0 ∧ m < n)) ∧ wx = w1)
    case first =>
      by_cases h1 : r1.err = 0
      · rw [h1] at d2
        have H1 := Lib.hid h1
        clear h1
        by_cases h2 : (m : Int) < (n : Int)
        · go_wp2_with (fail)
          go_meet
          exact ⟨true, rfl, Lib.hid (iff_of_true rfl ⟨H1.out, by omega⟩), rfl⟩
        · go_wp2_with (fail)
          go_meet
          exact ⟨false, rfl, Lib.hid (iff_of_false Bool.false_ne_true (fun h => by omega)), rfl⟩
      · have h1' : (r1.err == 0) = false := by simp [h1]
        have H1 := Lib.hid h1
        clear h1
        go_wp2_with (fail)
        go_meet
        exact ⟨false, rfl, Lib.hid (iff_of_false Bool.false_ne_true (fun h => H1.out h.1)), rfl⟩
    case rest =>
    obtain ⟨b, rfl, hb, rfl⟩ := hcut
    go_upto_if 27 with (fail)
    go_cut [] (fun wx => Hid (RdPost w rb (r1.most n m) wx))
    case first =>
      cases b with
      | true =>
        have HR : Hid (RdPost w rb (r1.most n m) (wc.setCell ⟨rb, 2, none⟩ (.int .i64 5))) := by
          unfold Rd.most
          rw [if_pos (hb.out.1 rfl)]
          exact HP1.out.trans (HP1.out.1.setErr0 5)
        go_wp2_with (fail)
        go_meet
        exact HR
      | false =>
        have HR : Hid (RdPost w rb (r1.most n m) wc) := by
          unfold Rd.most
          rw [if_neg (fun h => Bool.false_ne_true (hb.out.2 h))]
          exact HP1.out
        go_wp2_with (fail)
        go_meet
        exact HR
    case rest =>
    have HQ := hcut
    clear hcut d2 z2
    have HMS : Hid ((r1.most n m).s = r.s) := by
      show _ = _
      rw [← HNS.out.1]
      unfold Rd.most
      split
      · rfl
      · rfl
    generalize r1.most n m = r2 at *
    have HBC := Lib.hid (rbytes_c HQ.out.1 n (by omega))
    have HBS : Hid ((r2.bytes n).2.s = r.s) := by
      show _ = _
      rw [r2.bytes_s, HMS.out]
    generalize r2.bytes n = q3 at *
    obtain ⟨t, r3⟩ := q3
    simp only at HBC HBS HRR ⊢
    go_wp2_with (fail)
    refine HBC.out.mono ?_
    rintro e w3 ⟨rfl, hp3⟩
    have d2 : w3.cell? ⟨rb, 2, none⟩ = some (.int .i64 r3.err) := hp3.1.blk.cell 2
    have d1 : w3.cell? ⟨rb, 1, none⟩ = some (.int .i64 (r3.at_ : Int)) := hp3.1.blk.cell 1
    have z1 : w3.frozen? ⟨rb, 1, none⟩ = false := hp3.1.blk.frozen 1
    have HP3 := Lib.hid (HQ.out.trans hp3)
    clear hp3 HBC
    by_cases h3 : r3.err = 0
    · have HH := HRR.out
      rw [if_neg (by rw [h3]; exact fun h => h rfl)] at HH
      obtain ⟨rfl, rfl⟩ := Prod.mk.inj HH
      rw [h3] at d2
      clear h3 HH
      go_wp2_with (fail)
      go_ret
      exact ⟨rfl, HP3.out⟩
    · have HH := HRR.out
      rw [if_pos h3] at HH
      obtain ⟨rfl, rfl⟩ := Prod.mk.inj HH
      clear HH
      have h3' : (r3.err == 0) = false := by simp [h3]
      have HR := Lib.hid (HP3.out.trans (HP3.out.1.setPlace r.at_ (by rw [HBS.out]; exact H.out.le)))
      clear h3
      go_wp2_with (fail)
      go_ret
      exact ⟨rfl, HR.out⟩
  · rw [if_pos he] at hR
    obtain ⟨rfl, rfl⟩ := Prod.mk.inj hR
    have he' : (R2.err == 0) = false := by simp [he]
    clear h he HNC c1 hR
    go_enter Tryz.func170, Tryz.ntmps170
    go_wp2_with (fail)
    refine HE.out.mono ?_
    rintro e w' ⟨rfl, rfl⟩
    go_wp2
    go_ret
    exact ⟨rfl, H.out.refl 0⟩
set_option maxRecDepth 100000 in
set_option maxHeartbeats 1000000 in
theorem rbool_c (h : RdAt w rb r) :
    Calls Tryz.prog 171 #[.pointer (some ⟨rb, 0, none⟩)] w fun e w' => e = .returned (.bool r.bool.1) ∧ RdPost w rb r.bool.2 w' := by
  have HE := Lib.hid (rerr_c h)
  have c0 : w.cell? ⟨rb, 0, none⟩ = some (.string r.s) := h.blk.cell 0
  have c1 : w.cell? ⟨rb, 1, none⟩ = some (.int .i64 (r.at_ : Int)) := h.blk.cell 1
  have c2 : w.cell? ⟨rb, 2, none⟩ = some (.int .i64 r.err) := h.blk.cell 2
  have z1 : w.frozen? ⟨rb, 1, none⟩ = false := h.blk.frozen 1
  have z2 : w.frozen? ⟨rb, 2, none⟩ = false := h.blk.frozen 2
  have hle := h.le
  have hsm := h.small
  have H := Lib.hid h
  unfold Rd.bool
  by_cases he : r.err = 0
  · rw [if_neg (by rw [he]; exact fun h => h rfl)]
    have HG := fun W => Lib.hid (rawGet_c r.s r.at_ 1 h.le (by decide) (by omega) W)
    clear h
    unfold getE at HG
    rw [he] at HE c2
    clear he
    by_cases hc : r.s.size - r.at_ < 1
    · rw [if_pos hc]
      have HGQ : ∀ n, Calls Tryz.prog 169 #[.string r.s, .int .i64 (r.at_ : Int), .int .i64 1] (w.drewN n) fun e w' => e = .returned (.tuple #[.int .u64 0, .int .i64 4]) ∧ w' = w.drewN n := fun n => by have := (HG (w.drewN n)).out; rw [if_pos hc] at this; exact this
      clear HG hc
      go_enter Tryz.func171, Tryz.ntmps171
      go_wp2_with (fail)
      refine HE.out.mono ?_
      rintro e w' ⟨rfl, rfl⟩
      go_wp2_with (fail)
      go_quiet ((go_at_call 169; exact Calls.quiet_of_same (HGQ _)))
      go_wp2
      go_ret
      exact ⟨rfl, H.out.setErr 4 _⟩
    · rw [if_neg hc]
      have HGQ : ∀ n, Calls Tryz.prog 169 #[.string r.s, .int .i64 (r.at_ : Int), .int .i64 1] (w.drewN n) fun e w' => e = .returned (.tuple #[.int .u64 (numAt r.s r.at_ 1 : Nat), .int .i64 0]) ∧ w' = w.drewN n := fun n => by have := (HG (w.drewN n)).out; rw [if_neg hc] at this; exact this
      have hk2 : r.at_ + 1 ≤ r.s.size := by omega
      have hx := numAt_lt r.s r.at_ 1
      clear HG hc
      generalize numAt r.s r.at_ 1 = x at *
      by_cases h1 : 1 < x
      · rw [if_pos h1]
        have h1' : (1 : Int) < (x : Int) := by omega
        go_enter Tryz.func171, Tryz.ntmps171
        go_wp2_with (fail)
        refine HE.out.mono ?_
        rintro e w' ⟨rfl, rfl⟩
        go_wp2_with (fail)
        go_quiet ((go_at_call 169; exact Calls.quiet_of_same (HGQ _)))
        go_wp2
        go_ret
        exact ⟨rfl, H.out.setErr 6 _⟩
      · rw [if_neg h1]
        have h1' : ¬ (1 : Int) < (x : Int) := by omega
        have HSA := fun n => Lib.hid (H.out.setAt 1 hk2 n)
        have e1 : IntKind.i64.wrap ((r.at_ : Int) + 1) = (r.at_ : Int) + 1 := IntWalk.i64_in _ (by omega)
        have hx1 : x = 0 ∨ x = 1 := by omega
        rcases hx1 with rfl | rfl
        · go_enter Tryz.func171, Tryz.ntmps171
          go_wp2_with (fail)
          refine HE.out.mono ?_
          rintro e w' ⟨rfl, rfl⟩
          go_wp2_with (fail)
          go_quiet ((go_at_call 169; exact Calls.quiet_of_same (HGQ _)))
          go_wp2
          go_ret
          exact ⟨rfl, (HSA _).out⟩
        · go_enter Tryz.func171, Tryz.ntmps171
          go_wp2_with (fail)
          refine HE.out.mono ?_
          rintro e w' ⟨rfl, rfl⟩
          go_wp2_with (fail)
          go_quiet ((go_at_call 169; exact Calls.quiet_of_same (HGQ _)))
          go_wp2
          go_ret
          exact ⟨rfl, (HSA _).out⟩
  · rw [if_pos he]
    have he' : (r.err == 0) = false := by simp [he]
    clear h he
    go_enter Tryz.func171, Tryz.ntmps171
    go_wp2_with (fail)
    refine HE.out.mono ?_
    rintro e w' ⟨rfl, rfl⟩
    go_wp2
    go_ret
    exact ⟨rfl, H.out.refl 0⟩
theorem rleft_c (h : RdAt w rb r) : Calls Tryz.prog 172 #[.pointer (some ⟨rb, 0, none⟩)] w fun e w' => e = .returned (.int .i64 ((r.s.size : Int) - (r.at_ : Int))) ∧ ∃ n, w' = w.drewN n := by
  have c0 : w.cell? ⟨rb, 0, none⟩ = some (.string r.s) := h.blk.cell 0
  have c1 : w.cell? ⟨rb, 1, none⟩ = some (.int .i64 (r.at_ : Int)) := h.blk.cell 1
  have hle := h.le
  have hsm := h.small
  have e1 : IntKind.i64.wrap ((r.s.size : Int) - (r.at_ : Int)) = (r.s.size : Int) - (r.at_ : Int) := IntWalk.i64_in _ (by omega)
  clear h
  go_enter Tryz.func172, Tryz.ntmps172
  go_wp2_with (fail)
  first
    | (go_ret; exact ⟨rfl, 0, rfl⟩)
    | (go_quiet (fail); go_wp2; go_ret; exact ⟨rfl, _, rfl⟩)
theorem rend_c (h : RdAt w rb r) : Calls Tryz.prog 91 #[.pointer (some ⟨rb, 0, none⟩)] w fun e w' => e = .returned (.int .i64 r.endOf) ∧ ∃ r', RdPost w rb r' w' := by
  have HL := Lib.hid (rleft_c h)
  have H := Lib.hid h
  have hle := h.le
  have hsm := h.small
  unfold Rd.endOf
  by_cases hl : r.at_ < r.s.size
  · have hl' : (0 : Int) < (r.s.size : Int) - (r.at_ : Int) := by omega
    by_cases he : r.err = 0
    · rw [if_pos ⟨he, hl⟩]
      have HF : ∀ n, Hid (Calls Tryz.prog 173 #[.pointer (some ⟨rb, 0, none⟩), .int .i64 5] (w.drewN n) fun e w' => e = .returned (.tuple #[]) ∧ RdPost w rb { r with err := 5 } w') := fun n => by
        show Calls _ _ _ _ _
        have h' := (h.refl n).1
        have c2 : (w.drewN n).cell? ⟨rb, 2, none⟩ = some (.int .i64 0) := by rw [← he]; exact h'.blk.cell 2
        have z2 : (w.drewN n).frozen? ⟨rb, 2, none⟩ = false := h'.blk.frozen 2
        have HR := Lib.hid ((h.refl n).trans (h'.setErr0 5))
        clear h h' he hl hl' HL H
        generalize w.drewN n = w0 at *
        go_enter Tryz.func173, Tryz.ntmps173
        go_wp2_with (fail)
        go_end0
        exact ⟨rfl, HR.out⟩
      clear h he hl
      go_enter Tryz.func91, Tryz.ntmps91
      go_wp2_with (fail)
      refine HL.out.mono ?_
      rintro e w' ⟨rfl, n, rfl⟩
      go_wp2_with (fail)
      refine (HF _).out.mono ?_
      rintro e w2 ⟨rfl, hp⟩
      have HE := Lib.hid (rerr_c hp.1)
      have HP := Lib.hid hp
      clear hp
      go_wp2_with (fail)
      refine HE.out.mono ?_
      rintro e w' ⟨rfl, rfl⟩
      go_wp2_with (fail)
      go_ret
      exact ⟨rfl, _, HP.out⟩
    · rw [if_neg (fun h => he h.1)]
      have he' : (r.err == 0) = false := by simp [he]
      have HF : ∀ n, Hid (Calls Tryz.prog 173 #[.pointer (some ⟨rb, 0, none⟩), .int .i64 5] (w.drewN n) fun e w' => e = .returned (.tuple #[]) ∧ w' = w.drewN n) := fun n => by
        show Calls _ _ _ _ _
        have h' := (h.refl n).1
        have c2 : (w.drewN n).cell? ⟨rb, 2, none⟩ = some (.int .i64 r.err) := h'.blk.cell 2
        clear h h' he hl hl' HL H
        generalize w.drewN n = w0 at *
        go_enter Tryz.func173, Tryz.ntmps173
        go_wp2_with (fail)
        go_end0
        exact ⟨rfl, rfl⟩
      have HE := fun n => Lib.hid (rerr_c (h.refl n).1)
      clear h he hl
      go_enter Tryz.func91, Tryz.ntmps91
      go_wp2_with (fail)
      refine HL.out.mono ?_
      rintro e w' ⟨rfl, n, rfl⟩
      go_wp2_with (fail)
      refine (HF _).out.mono ?_
      rintro e w2 ⟨rfl, rfl⟩
      go_wp2_with (fail)
      refine (HE _).out.mono ?_
      rintro e w' ⟨rfl, rfl⟩
      go_wp2_with (fail)
      go_ret
      exact ⟨rfl, _, H.out.refl n⟩
  · rw [if_neg (fun h => hl h.2)]
    have hl' : ¬ (0 : Int) < (r.s.size : Int) - (r.at_ : Int) := by omega
    have HE := fun n => Lib.hid (rerr_c (h.refl n).1)
    clear h hl
    go_enter Tryz.func91, Tryz.ntmps91
    go_wp2_with (fail)
    refine HL.out.mono ?_
    rintro e w' ⟨rfl, n, rfl⟩
    go_wp2_with (fail)
    refine (HE _).out.mono ?_
    rintro e w' ⟨rfl, rfl⟩
    go_wp2_with (fail)
    go_ret
    exact ⟨rfl, _, H.out.refl n⟩
end
/-! a writer's -/
section
variable {w w' : World} {B wb : Nat} {bs : ByteArray}
set_option maxRecDepth 100000 in
theorem rawText_c (s : ByteArray) (hs : s.size ≤ 65535) (w : World) : Calls Tryz.prog 219 #[.string s] w fun e w' => e = .returned (.tuple #[.string (textB s), .int .i64 0]) ∧ Below w.heap.size w w' := by
  have HP := Lib.hid (rawPutN_c s.size 2 (by decide) w)
  have h1 : ¬ (65535 : Int) < (s.size : Int) := by omega
  have h2 : (leB s.size 2).size + s.size ≤ 9223372036854775807 := by rw [leB_size]; omega
  have HT : Hid (textB s = leB s.size 2 ++ s) := rfl
  generalize leB s.size 2 = pre at *
  go_enter Tryz.func219, Tryz.ntmps219
  go_wp2_with (fail)
  refine HP.out.mono ?_
  rintro e w1 ⟨rfl, hb1⟩
  have HB := Lib.hid hb1
  clear hb1
  go_wp2_with (fail)
  refine bodyPost_ret (results_tmp2 rfl _ _ _) rfl ?_
  exact ⟨by rw [HT.out]; rfl, HB.out⟩
end
end Go.Proofs.YtpnndlahfllbhaaGreat
