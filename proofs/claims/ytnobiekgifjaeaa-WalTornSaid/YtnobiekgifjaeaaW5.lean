/-
  The walk of 'taken': the record whose frame stands at a place.
-/
import Derived.Test.YtnobiekgifjaeaaW4
namespace Go.Proofs.Ytnobiekgifjaeaa
open Go.RowKit

theorem toList_decide (a b : ByteArray) : (a.toList == b.toList) = decide (a = b) := by
  rw [ByteArray.toList_eq, ByteArray.toList_eq]
  by_cases h : a = b
  · subst h; simp
  · rw [decide_eq_false h]
    exact beq_eq_false_iff_ne.2 fun e => h (by apply ByteArray.ext; exact Array.toList_inj.1 e)

/-- a frame may stand here: its length is one, and there is so much -/
def fits (t : ByteArray) : Prop := 4 ≤ t.size ∧ 1 ≤ numAt t 0 4 ∧ numAt t 0 4 ≤ 8192 ∧ numAt t 0 4 + 12 ≤ t.size
instance (t : ByteArray) : Decidable (fits t) := by unfold fits; exact inferInstance
def takenBody (t : ByteArray) : ByteArray := if fits t then t.extract 8 (8 + numAt t 0 4) else ⟨#[]⟩
def takenOk (t : ByteArray) (at_ : Nat) : Bool := decide (fits t) && decide (t.extract 0 (numAt t 0 4 + 12) = frameB at_ (takenBody t))

theorem takenBody_size {t : ByteArray} (h : fits t) : (takenBody t).size = numAt t 0 4 := by
  obtain ⟨h1, h2, h3, h4⟩ := id h
  unfold takenBody
  rw [if_pos h, ByteArray.size_extract]
  omega

set_option maxRecDepth 100000 in
set_option maxHeartbeats 1000000 in
theorem taken_c (s : ByteArray) (at_ : Nat) (h1 : 1 ≤ at_) (h2 : at_ - 1 ≤ s.size) (hn : s.size ≤ 1000000000) (ha' : at_ < 18446744073709551616) (w : World) :
    Calls Try.prog 71 #[.string s, .int .u64 (at_ : Int)] w fun e w' => e = .returned (.tuple #[.string (takenBody (s.extract (at_ - 1) s.size)), .bool (takenOk (s.extract (at_ - 1) s.size) at_)]) ∧ Below w.heap.size w w' := by
  obtain ⟨a, rfl⟩ : ∃ a, at_ = a + 1 := ⟨at_ - 1, by omega⟩
  simp only [Nat.add_sub_cancel] at h2 ⊢
  have ha := ha'
  clear ha'
  have hw1 : IntKind.u64.wrap (((a + 1 : Nat) : Int) - 1) = (a : Int) := by rw [IntKind.wrap_u64]; omega
  have q0 : (0 : Int) ≤ (a : Int) := by omega
  have q1 : (a : Int) ≤ (s.size : Int) := by omega
  have hts : (s.extract a s.size).size = s.size - a := by rw [ByteArray.size_extract]; omega
  have HS : Hid ((s.extract a s.size).size ≤ 1000000000) := by show (s.extract a s.size).size ≤ 1000000000; omega
  clear hts
  go_enter Try.func71, Try.ntmps71
  go_wp2_with (fail)
  clear hw1 q0 q1 h1 h2 hn
  generalize hT : s.extract a s.size = t at *
  have HT := Lib.hid hT
  clear hT
  have HG : Hid (Calls Try.prog 83 #[.string t, .int .i64 0, .int .i64 4] w fun e w' => e = .returned (getE t 0 4) ∧ w' = w) := rawGet_c t 0 4 (Nat.zero_le _) (by omega) (by have := HS.out; omega) w
  unfold getE at HG
  by_cases h4 : t.size - 0 < 4
  · rw [if_pos h4] at HG
    have hnf : ¬ fits t := fun h => by have := h.1; omega
    have e1 : takenBody t = ⟨#[]⟩ := by unfold takenBody; rw [if_neg hnf]
    have e2 : takenOk t (a + 1) = false := by unfold takenOk; rw [decide_eq_false hnf]; rfl
    have E1 := Lib.hid e1
    have E2 := Lib.hid e2
    clear e1 e2 hnf h4
    refine HG.out.mono ?_; rintro e w' ⟨rfl, rfl⟩
    go_wp2_with (fail)
    go_ret2
    exact ⟨by rw [HT.out, E1.out, E2.out]; rfl, Below.refl _ _⟩
  · rw [if_neg h4] at HG
    have h4' : 4 ≤ t.size := by omega
    have hn32 : numAt t 0 4 < 4294967296 := numAt_lt t 0 4
    refine HG.out.mono ?_; rintro e w' ⟨rfl, rfl⟩
    by_cases hf : fits t
    · obtain ⟨f1, f2, f3, f4⟩ := id hf
      have e1 : takenBody t = t.extract 8 (8 + numAt t 0 4) := by unfold takenBody; rw [if_pos hf]
      have hbs := takenBody_size hf
      have HF : Hid (Calls Try.prog 35 #[.int .u64 ((a + 1 : Nat) : Int), .string (takenBody t)] w' fun e w2 => e = .returned (frameE (a + 1) (takenBody t)) ∧ Below w'.heap.size w' w2) := frame_c (a + 1) _ ha (by rw [hbs]; omega) w'
      have e3 : frameE (a + 1) (takenBody t) = .tuple #[.string (frameB (a + 1) (takenBody t)), .int .i64 0] := by
        unfold frameE
        rw [if_neg (by rw [hbs]; omega), if_neg (by omega)]
      rw [e3] at HF
      have hfs : (frameB (a + 1) (takenBody t)).size = numAt t 0 4 + 12 := by rw [frameB_size, hbs]
      have e2 : takenOk t (a + 1) = ((t.extract 0 (numAt t 0 4 + 12)).toList == (frameB (a + 1) (takenBody t)).toList) := by
        rw [toList_decide]
        unfold takenOk
        rw [decide_eq_true hf, Bool.true_and]
      have hE2 := Lib.hid e2
      have E1 := Lib.hid e1
      clear e1 e2 e3 hf HG h4 h4' hbs
      have hbody : t.extract 8 (8 + numAt t 0 4) = takenBody t := E1.out.symm
      generalize frameB (a + 1) (takenBody t) = want at *
      generalize numAt t 0 4 = n at *
      have hws : IntKind.i64.wrap (n : Int) = (n : Int) := by rw [IntKind.wrap_i64]; omega
      go_wp2_with (fail)
      refine HF.out.mono ?_; rintro e w2 ⟨rfl, b2⟩
      have B2 := Lib.hid b2
      clear b2
      have hfs' : (want.size : Int) ≤ (t.size : Int) := by omega
      go_wp2_with (fail)
      go_quiet (fail)
      go_wp2_with (fail)
      go_ret2
      refine ⟨?_, B2.out.trans ⟨rfl, rfl, rfl, Nat.le_refl _, fun _ _ => rfl⟩⟩
      rw [HT.out, hE2.out]
      rfl
    · have e1 : takenBody t = ⟨#[]⟩ := by unfold takenBody; rw [if_neg hf]
      have e2 : takenOk t (a + 1) = false := by unfold takenOk; rw [decide_eq_false hf]; rfl
      have E1 := Lib.hid e1
      have E2 := Lib.hid e2
      clear e1 e2 HG h4
      have hx : numAt t 0 4 < 1 ∨ (¬ numAt t 0 4 < 1 ∧ 8192 < numAt t 0 4) ∨ (¬ numAt t 0 4 < 1 ∧ ¬ 8192 < numAt t 0 4 ∧ t.size < numAt t 0 4 + 12) := by
        unfold fits at hf
        omega
      clear hf
      generalize numAt t 0 4 = n at *
      obtain hx | ⟨hx1, hx2⟩ | ⟨hx1, hx2, hx3⟩ := hx
      all_goals
        go_wp2_with (fail)
        go_ret2
        exact ⟨by rw [HT.out, E1.out, E2.out]; rfl, Below.refl _ _⟩
end Go.Proofs.Ytnobiekgifjaeaa
