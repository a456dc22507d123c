/-
  The walks of 'Append', 'Spend'.
-/
import Derived.Test.YtnobiekgifjaeaaX1
namespace Go.Proofs.Ytnobiekgifjaeaa
open Go.RowKit
attribute [local go_sem ↓] Go.wp_at_zero Go.wp_at_succ

section
variable {w : World} {G : Nat → Prop} {lb db : Nat} {g : Lg}

theorem WPost.trans {g' : Lg} {w1 w2 : World} {G1 : Nat → Prop} (hs : Step G w w1) (hm : More G G1 w) (h : WPost w1 G1 lb db g' w2) : WPost w G lb db g' w2 := by
  obtain ⟨G', h1, h2, h3⟩ := h
  exact ⟨G', h1, hs.trans hm h2, hm.trans hs.size h3⟩

theorem lappend_c (h : WalAt w G lb db g) (ht : g.tight) (s : ByteArray) (hs : s.size ≤ 1000000000000) :
    Calls Try.prog 39 #[.pointer (some ⟨lb, 0, none⟩), .string s] w fun e w' => e = .returned (addV g s g.kept) ∧ WPost w G lb db (g.tryAdd s g.kept) w' := by
  have HK := Lib.hid (lkept_c h)
  have HA := Lib.hid (ladd_c h ht s hs g.kept ⟨h.ok.kept1, h.ok.kept2⟩)
  clear h
  have hv : ∃ a b, addV g s g.kept = .tuple #[a, b] := by
    unfold addV
    split
    · exact ⟨_, _, rfl⟩
    · split
      · exact ⟨_, _, rfl⟩
      · exact ⟨_, _, rfl⟩
  obtain ⟨a, b, hv⟩ := hv
  rw [hv] at HA ⊢
  clear hv
  generalize g.tryAdd s g.kept = g' at *
  go_enter Try.func39, Try.ntmps39
  go_wp2_with (fail)
  refine HK.out.mono ?_
  rintro e w' ⟨rfl, rfl⟩
  go_wp2_with (fail)
  refine HA.out.mono ?_
  rintro e w' ⟨rfl, hq⟩
  go_wp2
  go_ret2
  exact ⟨rfl, hq⟩
theorem lappend_nil (w : World) (s : ByteArray) : Calls Try.prog 39 #[.pointer none, .string s] w fun e w' => e = .returned (.tuple #[.int .u64 0, .int .i64 1]) ∧ w' = w := by
  have HK := Lib.hid (lkept_nil w)
  have HA := Lib.hid (ladd_nil w s 0)
  go_enter Try.func39, Try.ntmps39
  go_wp2_with (fail)
  refine HK.out.mono ?_
  rintro e w' ⟨rfl, rfl⟩
  go_wp2_with (fail)
  refine HA.out.mono ?_
  rintro e w' ⟨rfl, rfl⟩
  go_wp2
  go_ret2
  exact ⟨rfl, rfl⟩

def Lg.spend (g : Lg) (s : ByteArray) : Lg := if badRec s then g else if addFull g s 0 then g else { g.add s with kept := lessOf g.kept ((s.size : Int) + 12) }
theorem lspend_c (h : WalAt w G lb db g) (ht : g.tight) (s : ByteArray) (hs : s.size ≤ 1000000000000) :
    Calls Try.prog 45 #[.pointer (some ⟨lb, 0, none⟩), .string s] w fun e w' => e = .returned (addV g s 0) ∧ WPost w G lb db (g.spend s) w' := by
  have HA := Lib.hid (ladd_c h ht s hs 0 (by omega))
  clear h ht
  unfold addV Lg.tryAdd at HA
  unfold addV Lg.spend
  by_cases hb : badRec s
  · simp only [if_pos hb] at HA ⊢
    clear hb
    go_enter Try.func45, Try.ntmps45
    go_wp2_with (fail)
    refine HA.out.mono ?_
    rintro e w' ⟨rfl, hq⟩
    go_wp2
    go_ret2
    exact ⟨rfl, hq⟩
  · simp only [if_neg hb] at HA ⊢
    by_cases hf : addFull g s 0
    · simp only [if_pos hf] at HA ⊢
      clear hb hf
      go_enter Try.func45, Try.ntmps45
      go_wp2_with (fail)
      refine HA.out.mono ?_
      rintro e w' ⟨rfl, hq⟩
      go_wp2
      go_ret2
      exact ⟨rfl, hq⟩
    · simp only [if_neg hf] at HA ⊢
      have hk : (g.add s).kept = g.kept := rfl
      have HK := Lib.hid hk
      clear hb hf hk
      generalize g.add s = g1 at *
      go_enter Try.func45, Try.ntmps45
      go_wp2_with (fail)
      refine HA.out.mono ?_
      rintro e w' ⟨rfl, G1, h1, h2, h3⟩
      have HG := Lib.hid (lgive_c h1 ((s.size : Int) + 12) (by omega))
      have HS : Hid (Step G w w' ∧ More G G1 w) := ⟨h2, h3⟩
      clear h1 h2 h3
      go_wp2_with (fail)
      refine HG.out.mono ?_
      rintro e w2 ⟨rfl, hq⟩
      go_wp2
      go_ret2
      refine ⟨rfl, ?_⟩
      have := WPost.trans HS.out.1 HS.out.2 hq
      rw [HK.out] at this
      exact this
theorem lspend_nil (w : World) (s : ByteArray) : Calls Try.prog 45 #[.pointer none, .string s] w fun e w' => e = .returned (.tuple #[.int .u64 0, .int .i64 1]) ∧ w' = w := by
  have HA := Lib.hid (ladd_nil w s 0)
  go_enter Try.func45, Try.ntmps45
  go_wp2_with (fail)
  refine HA.out.mono ?_
  rintro e w' ⟨rfl, rfl⟩
  go_wp2
  go_ret2
  exact ⟨rfl, rfl⟩
end
end Go.Proofs.Ytnobiekgifjaeaa
