/-
  The walk of 'WalFull'.
-/
import Derived.Test.YtnobiekgifjaeaaY4
namespace Go.Proofs.Ytnobiekgifjaeaa
open Go.RowKit
attribute [local go_sem ↓] Go.wp_at_zero Go.wp_at_succ

def one97 : ByteArray := ⟨#[97]⟩
theorem one97_size : one97.size = 1 := rfl

set_option maxRecDepth 100000 in
set_option maxHeartbeats 4000000 in
theorem walFull_w (n : Int) (w : World) (hn : -9223372036854775808 ≤ n ∧ n ≤ 9223372036854775807) :
    Calls Try.prog 9 #[.int .i64 n] w fun e w' => e = .returned (.bool true) ∧ Below w.heap.size w w' := by
  have HN := new_c w 8 (by omega) (by omega)
  generalize hb : w.heap.size + 1 = b at *
  have HO1 : ∀ W, DW w (fun _ => False) (fun _ => True) b ⟨#[]⟩ 0 W → Hid (Calls Try.prog 38 #[.pointer (some ⟨b, 0, none⟩)] W fun e w' => ∃ lb, e = .returned (.tuple #[.pointer (some ⟨lb, 0, none⟩), .int .i64 0, .int .i64 0]) ∧ FullX w b lb [] 0 w') := fun W h =>
    h.open_ stable_none (by omega) [] ⟨#[]⟩ (bytes_nil _).symm (by simp) (takenOk_short (by decide) _)
  have HW : ∀ W, Hid (Calls Try.prog 36 #[] W fun e w' => e = .returned (.bool true) ∧ Below W.heap.size W w') := fun W => awake5_c W
  have hmk := make_zz
  have E0 : endFrom 1 [] = 1 := rfl
  have E1 : endFrom 1 ([] ++ [one97]) = 14 := rfl
  have E0' := Lib.hid E0
  have E1' := Lib.hid E1
  clear hb E0 E1
  go_enter Try.func9, Try.ntmps9
  go_wp2_with (fail)
  refine HN.mono ?_; rintro e w1 ⟨rfl, l1⟩
  have L1 := HO1 _ (DW.of_live l1)
  clear l1
  go_wp2_with (fail)
  refine L1.out.mono ?_; rintro e w2 ⟨lb, rfl, l2⟩
  have L2 := Lib.hid l2
  clear l2
  go_wp2_with (fail)
  refine (HW _).out.mono ?_; rintro e w3 ⟨rfl, l3⟩
  have L3 : FullX w b lb [] 0 w3 := LW.below stable_none L2.out l3
  have L3k := Lib.hid (L3.keep (n := 1000) (by omega) (by omega) (by rw [E0'.out]; omega))
  clear l3 L3 L1 L2 HN HO1 HW
  go_wp2_with (fail)
  refine L3k.out.mono ?_; rintro e w4 ⟨rfl, l4⟩
  have L4 : Hid (FullX w b lb [] 1000 (w4.alloc (.cells zrow 5))) := LW.below stable_none l4 ((Below.refl _ _).alloc (Nat.le_refl _) _)
  have hcv := zz_string (w4.alloc (.cells zrow 5)) w4.heap.size (Blk.new _ _ _)
  clear l4 L3k
  by_cases h3 : n = 3
  · subst h3
    go_wp2_with (fail)
    generalize w4.alloc (.cells zrow 5) = w5 at *
    clear hcv hmk
    have hzs := zz_size
    have HZS := Lib.hid hzs
    have ER : ∀ k, Hid (endFrom 1 (List.replicate k zz) = 1 + 8204 * k) := fun k => by show endFrom 1 (List.replicate k zz) = 1 + 8204 * k; rw [endFrom_rep, zz_size]
    have s1z : (zz.extract 0 1048).size = 1048 := by rw [ByteArray.size_extract, zz_size]; rfl
    have s2z : (zz.extract 0 500).size = 500 := by rw [ByteArray.size_extract, zz_size]; rfl
    have S1 := Lib.hid s1z
    have S2 := Lib.hid s2z
    have hz1 : (1048 : Nat) ≤ zz.size := by rw [zz_size]; decide
    have hz2 : (500 : Nat) ≤ zz.size := by rw [zz_size]; decide
    clear s1z s2z hzs
    generalize zz = z at *
    go_loopg [14] 511 (fun gh s14 wr => ∃ k : Nat, k ≤ 511 ∧ 511 - k ≤ gh ∧ Hid (FullX w b lb (List.replicate k z) 1000 wr))
    case atStart => exact ⟨0, Nat.zero_le _, Nat.le_refl _, L4.out⟩
    case round =>
      obtain ⟨k, hk, hg, hR⟩ := hrel
      have hek := (ER k).out
      by_cases hlt : k < 511
      · have HA := Lib.hid (hR.out.append (s := z) (by rw [HZS.out]; omega) (by rw [HZS.out, hek]; omega))
        have er : List.replicate k z ++ [z] = List.replicate (k + 1) z := List.replicate_succ'.symm
        rw [er] at HA
        clear hR hek er
        generalize endFrom 1 (List.replicate k z) = ek at *
        go_wp2_with (fail)
        refine HA.out.mono ?_
        rintro e w6 ⟨rfl, l6⟩
        have L6 := Lib.hid l6
        clear l6 HA
        go_wp2
        go_roundg (511 - (k + 1))
        case measure => omega
        case rel => exact ⟨k + 1, by omega, Nat.le_refl _, L6.out⟩
      · obtain rfl : k = 511 := by omega
        have HA := Lib.hid (hR.out.append_no (s := z) (by rw [HZS.out]; omega) (by rw [HZS.out, hek]; omega))
        have HEK := Lib.hid hek
        clear hR hek
        generalize List.replicate 511 z = l at *
        go_wp2_with (fail)
        refine HA.out.mono ?_
        rintro e w6 ⟨rfl, l6⟩
        have HR := Lib.hid l6.room
        have e1 : (4194305 : Int) - (endFrom 1 l : Int) = 2060 := by rw [HEK.out]; rfl
        rw [e1] at HR
        clear l6 HA e1
        go_wp2_with (fail)
        refine HR.out.mono ?_
        rintro e w7 ⟨rfl, l7⟩
        have HK := Lib.hid l7.kept
        clear l7 HR
        go_wp2_with (fail)
        refine HK.out.mono ?_
        rintro e w8 ⟨rfl, l8⟩
        have HA2 := Lib.hid (l8.append (s := z.extract 0 1048) (by rw [S1.out]; omega) (by rw [S1.out, HEK.out]; omega))
        have e2 : endFrom 1 (l ++ [z.extract 0 1048]) = 4193305 := by rw [endFrom_snoc, HEK.out, S1.out]
        have HE2 := Lib.hid e2
        clear l8 HK e2
        go_wp2_with (fail)
        refine HA2.out.mono ?_
        rintro e w9 ⟨rfl, l9⟩
        have HA3 := Lib.hid (l9.append_no (s := one97) (by rw [one97_size]; omega) (by rw [HE2.out, one97_size]; omega))
        clear l9 HA2
        go_wp2_with (fail)
        refine HA3.out.mono ?_
        rintro e w10 ⟨rfl, l10⟩
        have HSp := Lib.hid (l10.spend (s := z.extract 0 500) (by rw [S2.out]; omega) (by rw [HE2.out, S2.out]; omega))
        have e3 : endFrom 1 (l ++ [z.extract 0 1048] ++ [z.extract 0 500]) = 4193817 := by rw [endFrom_snoc, HE2.out, S2.out]
        have e4 : lessOf 1000 (((z.extract 0 500).size : Int) + 12) = 488 := by rw [S2.out]; rfl
        have HE3 := Lib.hid e3
        rw [e4] at HSp
        clear l10 HA3 e3 e4
        go_wp2_with (fail)
        refine HSp.out.mono ?_
        rintro e w11 ⟨rfl, l11⟩
        have HKe := Lib.hid l11.kept
        clear l11 HSp
        go_wp2_with (fail)
        refine HKe.out.mono ?_
        rintro e w12 ⟨rfl, l12⟩
        have HR2 := Lib.hid l12.room
        have e5 : (4194305 : Int) - (endFrom 1 (l ++ [z.extract 0 1048] ++ [z.extract 0 500]) : Int) = 488 := by rw [HE3.out]; rfl
        rw [e5] at HR2
        clear l12 HKe e5
        go_wp2_with (fail)
        refine HR2.out.mono ?_
        rintro e w13 ⟨rfl, l13⟩
        have HKf := Lib.hid l13.kept
        clear l13 HR2
        go_wp2_with (fail)
        refine HKf.out.mono ?_
        rintro e w14 ⟨rfl, l14⟩
        have L14 := Lib.hid (LW.base l14)
        clear l14
        go_wp2
        go_ret
        exact ⟨rfl, L14.out⟩
  · go_wp2_with (fail)
    generalize w4.alloc (.cells zrow 5) = w5 at *
    clear hcv hmk
    have HR := Lib.hid (L4.out.room)
    rw [E0'.out] at HR
    refine HR.out.mono ?_; rintro e w6 ⟨rfl, l6⟩
    have HK := Lib.hid (l6.keep (n := 4193304) (by omega) (by omega) (by rw [E0'.out]; omega))
    clear l6 HR L4
    go_wp2_with (fail)
    refine HK.out.mono ?_; rintro e w7 ⟨rfl, l7⟩
    have HK2 := Lib.hid (l7.keep_no (n := 1) (by omega) (by omega) (by rw [E0'.out]; omega))
    clear l7 HK
    go_wp2_with (fail)
    refine HK2.out.mono ?_; rintro e w8 ⟨rfl, l8⟩
    have HA := Lib.hid (l8.append_no (s := one97) (by rw [one97_size]; omega) (by rw [E0'.out, one97_size]; omega))
    clear l8 HK2
    go_wp2_with (fail)
    refine HA.out.mono ?_; rintro e w9 ⟨rfl, l9⟩
    have HS := Lib.hid (l9.spend (s := one97) (by rw [one97_size]; omega) (by rw [E0'.out, one97_size]; omega))
    clear l9 HA
    go_wp2_with (fail)
    refine HS.out.mono ?_; rintro e w10 ⟨rfl, l10⟩
    have ek : lessOf (1000 + 4193304) ((one97.size : Int) + 12) = 4194291 := by rw [one97_size]; rfl
    rw [ek] at l10
    have HKe := Lib.hid (l10.kept)
    clear l10 HS ek
    go_wp2_with (fail)
    refine HKe.out.mono ?_; rintro e w11 ⟨rfl, l11⟩
    have HR2 := Lib.hid (l11.room)
    rw [E1'.out] at HR2
    clear l11 HKe
    go_wp2_with (fail)
    refine HR2.out.mono ?_; rintro e w12 ⟨rfl, l12⟩
    have L12 := Lib.hid (LW.base l12)
    clear l12
    go_wp2
    go_ret
    exact ⟨rfl, L12.out⟩
end Go.Proofs.Ytnobiekgifjaeaa
