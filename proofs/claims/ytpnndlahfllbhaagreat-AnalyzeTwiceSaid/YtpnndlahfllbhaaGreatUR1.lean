/-
  The walks of a reader.
-/
import Derived.Test.YtpnndlahfllbhaaGreatUP0
import Derived.Deep.QuietTactic
import Derived.BigQuiet
namespace Go.Proofs.YtpnndlahfllbhaaGreat
open Go.RowKit
attribute [local go_sem ↓] Go.wp_at_zero Go.wp_at_succ

/-- a reader in memory -/
structure RdAt (w : World) (rb : Nat) (r : Rd) : Prop where
  blk : Blk w rb 299 #[.string r.s, .int .i64 (r.at_ : Int), .int .i64 r.err]
  le : r.at_ ≤ r.s.size
  small : r.s.size ≤ 1000000000000
def RdPost (w : World) (rb : Nat) (r : Rd) (w' : World) : Prop := RdAt w' rb r ∧ Step (fun x => x = rb) w w'
section
variable {w w' : World} {rb : Nat} {r : Rd}
theorem RdAt.below (h : RdAt w rb r) (hb : Below w.heap.size w w') : RdAt w' rb r := ⟨h.blk.same (hb.block _ h.blk.lt), h.le, h.small⟩
theorem RdAt.refl (h : RdAt w rb r) (n : Nat) : RdPost w rb r (w.drewN n) := ⟨⟨h.blk, h.le, h.small⟩, ⟨rfl, rfl, rfl, Nat.le_refl _, fun _ _ _ => rfl⟩⟩
theorem RdAt.setErr (h : RdAt w rb r) (e : Int) (n : Nat) : RdPost w rb { r with err := e } ((w.drewN n).setCell ⟨rb, 2, none⟩ (.int .i64 e)) := by
  refine ⟨⟨?_, h.le, h.small⟩, ((h.refl n).2.setCell (.inl rfl) _)⟩
  have := (show Blk (w.drewN n) rb 299 _ from h.blk).set_ 2 (.int .i64 e)
  simpa using this
theorem RdAt.setAt (h : RdAt w rb r) (k : Nat) (hk : r.at_ + k ≤ r.s.size) (n : Nat) : RdPost w rb { r with at_ := r.at_ + k } ((w.drewN n).setCell ⟨rb, 1, none⟩ (.int .i64 ((r.at_ : Int) + (k : Int)))) := by
  refine ⟨⟨?_, hk, h.small⟩, ((h.refl n).2.setCell (.inl rfl) _)⟩
  have := (show Blk (w.drewN n) rb 299 _ from h.blk).set_ 1 (.int .i64 ((r.at_ : Int) + (k : Int)))
  simpa using this

theorem RdPost.drewN (h : RdPost w rb r w') (n : Nat) : RdPost w rb r (w'.drewN n) := ⟨⟨h.1.blk, h.1.le, h.1.small⟩, ⟨h.2.os, h.2.tape, h.2.output, h.2.size, h.2.block⟩⟩
set_option maxRecDepth 100000 in
theorem newReader_c (w : World) (s : ByteArray) (hs : s.size ≤ 1000000000000) : Calls Tryz.prog 86 #[.string s] w fun e w' => ∃ rb, e = .returned (.pointer (some ⟨rb, 0, none⟩)) ∧ w.heap.size ≤ rb ∧ RdAt w' rb ⟨s, 0, 0⟩ ∧ Below w.heap.size w w' := by
  go_enter Tryz.func86, Tryz.ntmps86
  go_wp2
  go_ret
  exact ⟨w.heap.size, rfl, Nat.le_refl _, ⟨Blk.new w _ _, Nat.zero_le _, hs⟩, (Below.refl _ _).alloc (Nat.le_refl _) _⟩
theorem rerr_c (h : RdAt w rb r) : Calls Tryz.prog 90 #[.pointer (some ⟨rb, 0, none⟩)] w fun e w' => e = .returned (.int .i64 r.err) ∧ w = w' := by
  have c2 : w.cell? ⟨rb, 2, none⟩ = some (.int .i64 r.err) := h.blk.cell 2
  clear h
  go_enter Tryz.func90, Tryz.ntmps90
  go_wp2
  go_ret
  exact ⟨rfl, rfl⟩
set_option maxRecDepth 100000 in
set_option maxHeartbeats 1000000 in
theorem rnumber_c (h : RdAt w rb r) (k : Nat) (hk : k ≤ 8) :
    Calls Tryz.prog 87 #[.pointer (some ⟨rb, 0, none⟩), .int .i64 (k : Int)] w fun e w' => e = .returned (.int .u64 ((r.number k).1 : Int)) ∧ RdPost w rb (r.number k).2 w' := by
  have HE := Lib.hid (rerr_c h)
  have c0 : w.cell? ⟨rb, 0, none⟩ = some (.string r.s) := h.blk.cell 0
  have c1 : w.cell? ⟨rb, 1, none⟩ = some (.int .i64 (r.at_ : Int)) := h.blk.cell 1
  have c2 : w.cell? ⟨rb, 2, none⟩ = some (.int .i64 r.err) := h.blk.cell 2
  have z1 : w.frozen? ⟨rb, 1, none⟩ = false := h.blk.frozen 1
  have z2 : w.frozen? ⟨rb, 2, none⟩ = false := h.blk.frozen 2
  have hle := h.le
  have hsm := h.small
  have H := Lib.hid h
  unfold Rd.number
  by_cases he : r.err = 0
  · rw [if_neg (by rw [he]; exact fun h => h rfl)]
    have HG := fun W => Lib.hid (rawGet_c r.s r.at_ k h.le hk (by omega) W)
    clear h
    unfold getE at HG
    have HX := Lib.hid he
    by_cases hc : r.s.size - r.at_ < k
    · rw [if_pos hc]
      have HGQ : ∀ n, Calls Tryz.prog 169 #[.string r.s, .int .i64 (r.at_ : Int), .int .i64 (k : Int)] (w.drewN n) fun e w' => e = .returned (.tuple #[.int .u64 0, .int .i64 4]) ∧ w' = w.drewN n := fun n => by have := (HG (w.drewN n)).out; rw [if_pos hc] at this; exact this
      clear HG
      clear hc he
      have he2 : Hid (r.err = 0) := HX.out
      rw [HX.out] at HE c2
      go_enter Tryz.func87, Tryz.ntmps87
      go_wp2_with (fail)
      refine HE.out.mono ?_
      rintro e w' ⟨rfl, rfl⟩
      go_wp2_with (fail)
      go_quiet ((go_at_call 169; exact Calls.quiet_of_same (HGQ _)))
      go_wp2
      go_ret
      exact ⟨rfl, H.out.setErr 4 _⟩
    · rw [if_neg hc]
      have HGQ : ∀ n, Calls Tryz.prog 169 #[.string r.s, .int .i64 (r.at_ : Int), .int .i64 (k : Int)] (w.drewN n) fun e w' => e = .returned (.tuple #[.int .u64 (numAt r.s r.at_ k : Nat), .int .i64 0]) ∧ w' = w.drewN n := fun n => by have := (HG (w.drewN n)).out; rw [if_neg hc] at this; exact this
      clear HG
      have hk2 : r.at_ + k ≤ r.s.size := by omega
      clear hc he
      rw [HX.out] at HE c2
      go_enter Tryz.func87, Tryz.ntmps87
      go_wp2_with (fail)
      refine HE.out.mono ?_
      rintro e w' ⟨rfl, rfl⟩
      go_wp2_with (fail)
      go_quiet ((go_at_call 169; exact Calls.quiet_of_same (HGQ _)))
      go_wp2
      go_ret
      exact ⟨rfl, H.out.setAt k hk2 _⟩
  · rw [if_pos he]
    clear h
    go_enter Tryz.func87, Tryz.ntmps87
    go_wp2_with (fail)
    refine HE.out.mono ?_
    rintro e w' ⟨rfl, rfl⟩
    go_wp2
    go_ret
    exact ⟨rfl, H.out.refl 0⟩
set_option maxRecDepth 100000 in
set_option maxHeartbeats 1000000 in
theorem rbytes_c (h : RdAt w rb r) (n : Nat) (hn : n ≤ 1000000000000) :
    Calls Tryz.prog 218 #[.pointer (some ⟨rb, 0, none⟩), .int .i64 (n : Int)] w fun e w' => e = .returned (.string (r.bytes n).1) ∧ RdPost w rb (r.bytes n).2 w' := by
  have HE := Lib.hid (rerr_c h)
  have c0 : w.cell? ⟨rb, 0, none⟩ = some (.string r.s) := h.blk.cell 0
  have c1 : w.cell? ⟨rb, 1, none⟩ = some (.int .i64 (r.at_ : Int)) := h.blk.cell 1
  have c2 : w.cell? ⟨rb, 2, none⟩ = some (.int .i64 r.err) := h.blk.cell 2
  have z1 : w.frozen? ⟨rb, 1, none⟩ = false := h.blk.frozen 1
  have z2 : w.frozen? ⟨rb, 2, none⟩ = false := h.blk.frozen 2
  have hle := h.le
  have hsm := h.small
  have H := Lib.hid h
  clear h
  unfold Rd.bytes
  by_cases he : r.err = 0
  · rw [if_neg (by rw [he]; exact fun h => h rfl)]
    have HX := Lib.hid he
    rw [he] at HE c2
    clear he
    by_cases hc : r.s.size - r.at_ < n
    · rw [if_pos hc]
      have hc2 : (r.s.size : Int) - (r.at_ : Int) < (n : Int) := by omega
      clear hc
      go_enter Tryz.func218, Tryz.ntmps218
      go_wp2_with (fail)
      refine HE.out.mono ?_
      rintro e w' ⟨rfl, rfl⟩
      go_wp2_with (fail)
      go_quiet (fail)
      go_wp2
      go_ret
      exact ⟨rfl, H.out.setErr 4 _⟩
    · rw [if_neg hc]
      have hc2 : ¬ (r.s.size : Int) - (r.at_ : Int) < (n : Int) := by omega
      have hk2 : r.at_ + n ≤ r.s.size := by omega
      clear hc
      go_enter Tryz.func218, Tryz.ntmps218
      go_wp2_with (fail)
      refine HE.out.mono ?_
      rintro e w' ⟨rfl, rfl⟩
      go_wp2_with (fail)
      go_quiet (fail)
      go_wp2_with (fail)
      have H5 := Lib.hid (H.out.setAt n hk2 nq)
      generalize (w.drewN nq).setCell ⟨rb, 1, none⟩ (.int .i64 ((r.at_ : Int) + (n : Int))) = w5 at *
      have d0 : w5.cell? ⟨rb, 0, none⟩ = some (.string r.s) := H5.out.1.blk.cell 0
      have d1 : w5.cell? ⟨rb, 1, none⟩ = some (.int .i64 ((r.at_ : Int) + (n : Int))) := H5.out.1.blk.cell 1
      have e1 : IntKind.i64.wrap ((r.at_ : Int) + (n : Int) - (n : Int)) = (r.at_ : Int) := by rw [IntKind.wrap_i64]; omega
      have e2 : ((r.at_ : Int) + (n : Int)).toNat = r.at_ + n := by omega
      have e3 : (0 : Int) ≤ (r.at_ : Int) + (n : Int) := by omega
      have e4 : (r.at_ : Int) + (n : Int) ≤ (r.s.size : Int) := by omega
      have e5 : (r.at_ : Int) ≤ (r.at_ : Int) + (n : Int) := by omega
      clear c0 c1 c2 z1 z2
      go_quiet (fail)
      go_wp2
      go_ret
      exact ⟨rfl, H5.out.drewN _⟩
  · rw [if_pos he]
    go_enter Tryz.func218, Tryz.ntmps218
    go_wp2_with (fail)
    refine HE.out.mono ?_
    rintro e w' ⟨rfl, rfl⟩
    go_wp2
    go_ret
    exact ⟨rfl, H.out.refl 0⟩
end
end Go.Proofs.YtpnndlahfllbhaaGreat
