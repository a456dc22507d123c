/-
  The walk of 'WalTorn'.
-/
import Derived.Test.YtnobiekgifjaeaaV3
import Derived.Deep.CutBlock
import Derived.Deep.DeepCutAuto
namespace Go.Proofs.Ytnobiekgifjaeaa
open Go.RowKit
attribute [local go_sem ↓] Go.wp_at_zero Go.wp_at_succ

set_option maxRecDepth 100000 in
set_option maxHeartbeats 8000000 in
theorem walTorn_w (a : Option Addr) (len cap : Nat) (ss : List ByteArray) (rest0 : ByteArray) (w : World) (h : IsStrs w a len cap ss) (hrs : rest0.size ≤ 9223372036854775807) :
    Calls Try.prog 11 #[.slice a len cap, .string rest0] w fun e w' => e = .returned (.bool true) ∧ Below w.heap.size w w' := by
  have HN := Lib.hid (new_c w 8 (by omega) (by omega))
  generalize hbb : w.heap.size + 1 = b at *
  have hlen := h.len
  have HH := Lib.hid h
  clear h
  go_enter Try.func11, Try.ntmps11
  go_upto_if 25 with fail
  obtain ⟨rest, hre⟩ : ∃ rest, rest = cutRest rest0 := ⟨_, rfl⟩
  have hrz : rest.size ≤ 100000 := by rw [hre]; exact cutRest_size rest0
  go_cut [1] (fun s1 wx => s1 = .string rest ∧ w = wx)
  case first =>
    by_cases hbig : 100000 < rest0.size
    · have e1 : rest0.extract 0 100000 = rest := by rw [hre]; unfold cutRest; rw [if_pos hbig]
      have h1 : (100000 : Nat) ≤ rest0.size := by omega
      have hbi : (100000 : Int) < (rest0.size : Int) := by omega
      clear hre
      go_wp2_with (fail)
      go_meet
      case rel => exact ⟨rfl, rfl⟩
    · have e1 : rest = rest0 := by rw [hre]; unfold cutRest; rw [if_neg hbig]
      have hbi : ¬ (100000 : Int) < (rest0.size : Int) := by omega
      clear hre hbig
      go_wp2_with (fail)
      go_meet
      case rel => exact ⟨by rw [e1], rfl⟩
  case rest =>
    obtain ⟨rfl, rfl⟩ := hcut
    clear hre
    go_wp2_with (fail)
    refine HN.out.mono ?_
    rintro e w1 ⟨rfl, l1⟩
    have L1 := Lib.hid l1
    have hbw1 : Below w.heap.size w w1 := l1.base
    have HBW1 := Lib.hid hbw1
    have HS : Hid (TornA w1 (.slice none 0 0) [] (w1.alloc (.cells #[.slice none 0 0, .int .i64 0, .int .i64 0, .int .u64 0] 89))) := ⟨(Below.refl _ _).alloc (Nat.le_refl _) _, Blk.new _ _ _, .inl ⟨rfl, rfl⟩, fun k hk => by simp [Value.ownBlock] at hk, fun s hs => by simp at hs, fun k hk => by simp [Value.ownBlock] at hk⟩
    clear l1 HN hbw1
    go_upto_block 0 with fail
    go_cut [8] (fun s8 wx => ∃ (lv : Value) (l : List ByteArray), l.length ≤ 20 ∧ s8 = .string (frames 1 l) ∧ Hid (TornA w1 lv l wx))
    case first =>
      go_wp2_with (fail)
      go_loopw [8, 9] (fun s8 s9 wr => ∃ (k : Nat) (lv : Value) (l : List ByteArray), k ≤ len ∧ k ≤ 20 ∧ s8 = .string (frames 1 l) ∧ s9 = .int .i64 (k : Int) ∧ l.length ≤ k ∧ Hid (TornA w1 lv l wr)) (fun _ i _ => 20 - (intOf i).toNat)
      case atStart => exact ⟨0, _, [], Nat.zero_le _, Nat.zero_le _, rfl, rfl, Nat.le_refl _, HS.out⟩
      case round =>
        obtain ⟨k, lv, l, hk1, hk2, rfl, rfl, hlk, hR⟩ := hrel
        by_cases hgo : k < len ∧ k < 20
        · obtain ⟨hg1, hg2⟩ := hgo
          have hbr : Below w.heap.size w wr := HBW1.out.trans (hR.out.base.mono HBW1.out.size)
          obtain ⟨ab, off, s, rfl, hs, hsz, hc⟩ := HH.out.at_ hbr hg1
          have hcl : len ≤ cap ∧ cap ≤ maxLen := by
            rcases HH.out with ⟨h, _⟩ | ⟨_, _, h1, h2, _⟩
            · cases h
            · exact ⟨h1, h2⟩
          obtain ⟨hcl1, hcl2⟩ := hcl
          have hab : ab < wr.heap.size := World.block_lt_of_cell? wr _ hc
          have hmb := hR.out.box.lt
          have D0 : Hid (wr.cell? ⟨w1.heap.size, 0, none⟩ = some lv) := hR.out.box.cell 0
          have D1 : Hid (wr.cell? ⟨w1.heap.size, 1, none⟩ = some (.int .i64 0)) := hR.out.box.cell 1
          have D2 : Hid (wr.cell? ⟨w1.heap.size, 2, none⟩ = some (.int .i64 0)) := hR.out.box.cell 2
          have D3 : Hid (wr.cell? ⟨w1.heap.size, 3, none⟩ = some (.int .u64 0)) := hR.out.box.cell 3
          have DC := Lib.hid hc
          have hro := torn_recsOk hR.out.sizes (by omega)
          obtain ⟨la, lc, rfl⟩ := hR.out.reads.form
          by_cases hv : badRec s
          · have HMP : ∀ W, Below wr.heap.size wr W → Hid (Calls Try.prog 50 #[.agg #[.slice la l.length lc, .int .i64 0, .int .i64 0, .int .u64 0], .string s, .int .i64 0] W fun e w' => e = .returned (.tuple #[.agg #[.slice la l.length lc, .int .i64 0, .int .i64 0, .int .u64 0], .int .u64 0, .int .i64 51]) ∧ Below W.heap.size W w') := fun W hW => mput_bad (c1 := 0) (c2 := 0) (c3 := 0) (hR.out.reads.below hW) hv (by unfold maxLen at hsz; exact hsz)
            clear hs hsz hro hbr hv
            go_wp2_with (fail)
            refine wp_region_late (S := Below wr.heap.size wr) (late := [11]) (by kernel_rfl) (below_drewN wr 1) (fun hHeld => ?_)
            refine wpAnyL_load (i := 0) (v := ?_) (by rfl) (by kernel_rfl) (by kernel_rfl) (by kernel_rfl) (by rfl) (by kernel_rfl) (by exact fun _ _ _ h => h) (Or.inl ⟨by rfl, ?_⟩) (by assumption) ?_; rotate_left; · (intro w0 hS0; have k0 : w0.cell? ⟨w1.heap.size, 0, none⟩ = some (.slice la l.length lc) := (hS0.cell (p := ⟨w1.heap.size, 0, none⟩) hmb).trans D0.out; have k1 : w0.cell? ⟨w1.heap.size, 1, none⟩ = some (.int .i64 0) := (hS0.cell (p := ⟨w1.heap.size, 1, none⟩) hmb).trans D1.out; have k2 : w0.cell? ⟨w1.heap.size, 2, none⟩ = some (.int .i64 0) := (hS0.cell (p := ⟨w1.heap.size, 2, none⟩) hmb).trans D2.out; have k3 : w0.cell? ⟨w1.heap.size, 3, none⟩ = some (.int .u64 0) := (hS0.cell (p := ⟨w1.heap.size, 3, none⟩) hmb).trans D3.out; have kc : w0.cell? ⟨ab, off + k, none⟩ = some (.string s) := (hS0.cell (p := ⟨ab, off + k, none⟩) hab).trans DC.out; go_simp; try with_reducible rfl)
            try simp only [Act.put, List.setIfInBounds_toArray, List.set_cons_zero, List.set_cons_succ]
            refine wpAnyL_move (i := 1) (v := ?_) (by rfl) (by kernel_rfl) (by kernel_rfl) (by kernel_rfl) (by rfl) (by exact fun _ _ _ h => h) (Or.inl ⟨by rfl, ?_⟩) (by assumption) ?_; rotate_left; · (intro w0; go_simp; try with_reducible rfl)
            try simp only [Act.put, List.setIfInBounds_toArray, List.set_cons_zero, List.set_cons_succ]
            refine wpAnyL_move (i := 2) (v := ?_) (by rfl) (by kernel_rfl) (by kernel_rfl) (by kernel_rfl) (by rfl) (by exact fun _ _ _ h => h) (Or.inl ⟨by rfl, ?_⟩) (by assumption) ?_; rotate_left; · (intro w0; go_simp; try with_reducible rfl)
            try simp only [Act.put, List.setIfInBounds_toArray, List.set_cons_zero, List.set_cons_succ]
            refine wpAnyL_move (i := 3) (v := ?_) (by rfl) (by kernel_rfl) (by kernel_rfl) (by kernel_rfl) (by rfl) (by exact fun _ _ _ h => h) (Or.inl ⟨by rfl, ?_⟩) (by assumption) ?_; rotate_left; · (intro w0; go_simp; try with_reducible rfl)
            try simp only [Act.put, List.setIfInBounds_toArray, List.set_cons_zero, List.set_cons_succ]
            refine wpAnyL_load (i := 4) (v := ?_) (by rfl) (by kernel_rfl) (by kernel_rfl) (by kernel_rfl) (by rfl) (by kernel_rfl) (by exact fun _ _ _ h => h) (Or.inl ⟨by rfl, ?_⟩) (by assumption) ?_; rotate_left; · (intro w0 hS0; have k0 : w0.cell? ⟨w1.heap.size, 0, none⟩ = some (.slice la l.length lc) := (hS0.cell (p := ⟨w1.heap.size, 0, none⟩) hmb).trans D0.out; have k1 : w0.cell? ⟨w1.heap.size, 1, none⟩ = some (.int .i64 0) := (hS0.cell (p := ⟨w1.heap.size, 1, none⟩) hmb).trans D1.out; have k2 : w0.cell? ⟨w1.heap.size, 2, none⟩ = some (.int .i64 0) := (hS0.cell (p := ⟨w1.heap.size, 2, none⟩) hmb).trans D2.out; have k3 : w0.cell? ⟨w1.heap.size, 3, none⟩ = some (.int .u64 0) := (hS0.cell (p := ⟨w1.heap.size, 3, none⟩) hmb).trans D3.out; have kc : w0.cell? ⟨ab, off + k, none⟩ = some (.string s) := (hS0.cell (p := ⟨ab, off + k, none⟩) hab).trans DC.out; go_simp; try with_reducible rfl)
            try simp only [Act.put, List.setIfInBounds_toArray, List.set_cons_zero, List.set_cons_succ]
            refine wpAnyL_each (rs := [5, 10]) (by kernel_rfl) (by simp) ?_
            refine EachL.cons (by rfl) (by rfl) (fun K hK => ?_) ?_
            · go_simp
              refine (HMP _ hHeld).out.mono ?_
              rintro e w2 ⟨rfl, hb2⟩
              have hw2 : Below wr.heap.size wr w2 := hHeld.trans (hb2.mono hHeld.size)
              try have q0 : w2.cell? ⟨wr.heap.size, 0, none⟩ = some (.slice none 0 0) := (hb2.cell (p := ⟨wr.heap.size, 0, none⟩) (by simp)).trans ((Blk.new wr 89 #[.slice none 0 0, .int .i64 0, .int .i64 0, .int .u64 0]).cell 0)
              try have q1 : w2.cell? ⟨wr.heap.size, 1, none⟩ = some (.int .i64 0) := (hb2.cell (p := ⟨wr.heap.size, 1, none⟩) (by simp)).trans ((Blk.new wr 89 #[.slice none 0 0, .int .i64 0, .int .i64 0, .int .u64 0]).cell 1)
              try have q2 : w2.cell? ⟨wr.heap.size, 2, none⟩ = some (.int .i64 0) := (hb2.cell (p := ⟨wr.heap.size, 2, none⟩) (by simp)).trans ((Blk.new wr 89 #[.slice none 0 0, .int .i64 0, .int .i64 0, .int .u64 0]).cell 2)
              try have q3 : w2.cell? ⟨wr.heap.size, 3, none⟩ = some (.int .u64 0) := (hb2.cell (p := ⟨wr.heap.size, 3, none⟩) (by simp)).trans ((Blk.new wr 89 #[.slice none 0 0, .int .i64 0, .int .i64 0, .int .u64 0]).cell 3)
              try have z0 : ∀ i, w2.frozen? ⟨wr.heap.size, i, none⟩ = false := fun i => (hb2.frozen (p := ⟨wr.heap.size, i, none⟩) (by simp)).trans ((Blk.new wr 89 #[.slice none 0 0, .int .i64 0, .int .i64 0, .int .u64 0]).frozen i)
              dsimp only
              refine hK.out _ _ (hHeld.trans (hb2.mono hHeld.size)) (fun hHeld => ?_)
              clear hK K
              try simp only [Act.put, List.setIfInBounds_toArray, List.set_cons_zero, List.set_cons_succ]
              refine wpAnyL_move (i := 6) (v := ?_) (by rfl) (by kernel_rfl) (by kernel_rfl) (by kernel_rfl) (by rfl) (by exact fun _ _ _ h => h) (Or.inl ⟨by rfl, ?_⟩) (by assumption) ?_; rotate_left; · (intro w0; go_simp; try with_reducible rfl)
              try simp only [Act.put, List.setIfInBounds_toArray, List.set_cons_zero, List.set_cons_succ]
              refine wpAnyL_move (i := 7) (v := ?_) (by rfl) (by kernel_rfl) (by kernel_rfl) (by kernel_rfl) (by rfl) (by exact fun _ _ _ h => h) (Or.inl ⟨by rfl, ?_⟩) (by assumption) ?_; rotate_left; · (intro w0; go_simp; try with_reducible rfl)
              try simp only [Act.put, List.setIfInBounds_toArray, List.set_cons_zero, List.set_cons_succ]
              refine wpAnyL_move (i := 8) (v := ?_) (by rfl) (by kernel_rfl) (by kernel_rfl) (by kernel_rfl) (by rfl) (by exact fun _ _ _ h => h) (Or.inl ⟨by rfl, ?_⟩) (by assumption) ?_; rotate_left; · (intro w0; go_simp; try with_reducible rfl)
              try simp only [Act.put, List.setIfInBounds_toArray, List.set_cons_zero, List.set_cons_succ]
              refine wpAnyL_move (i := 9) (v := ?_) (by rfl) (by kernel_rfl) (by kernel_rfl) (by kernel_rfl) (by rfl) (by exact fun _ _ _ h => h) (Or.inl ⟨by rfl, ?_⟩) (by assumption) ?_; rotate_left; · (intro w0; go_simp; try with_reducible rfl)
              try simp only [Act.put, List.setIfInBounds_toArray, List.set_cons_zero, List.set_cons_succ]
              refine wpAnyL_each (rs := [10]) (by kernel_rfl) (by simp) ?_
              refine EachL.cons (by rfl) (by rfl) (fun K hK => ?_) ?_
              · go_simp
                refine hK.out _ _ (hHeld.alloc hHeld.size _) (fun hHeld => ?_)
                clear hK K
                try simp only [Act.put, List.setIfInBounds_toArray, List.set_cons_zero, List.set_cons_succ]
                refine wpAnyL_late (i := 11) (by kernel_rfl) (by rfl) (by rfl) (fun K hK => ?_)
                go_simp
                refine hK.out _ _ ?_
                clear hK K
                try simp only [Act.put, List.setIfInBounds_toArray, List.set_cons_zero, List.set_cons_succ]
                refine wpAny_move (i := 12) (v := ?_) (by rfl) (by kernel_rfl) (by kernel_rfl) (by kernel_rfl) (by exact fun _ _ _ h => h) (Or.inl ⟨by rfl, ?_⟩) ?_; rotate_left; · (intro w0; go_simp; try with_reducible rfl)
                try simp only [Act.put, List.setIfInBounds_toArray, List.set_cons_zero, List.set_cons_succ]
                refine wpAny_move (i := 13) (v := ?_) (by rfl) (by kernel_rfl) (by kernel_rfl) (by kernel_rfl) (by exact fun _ _ _ h => h) (Or.inl ⟨by rfl, ?_⟩) ?_; rotate_left; · (intro w0; go_simp; try with_reducible rfl)
                try simp only [Act.put, List.setIfInBounds_toArray, List.set_cons_zero, List.set_cons_succ]
                refine wpAny_done (by kernel_rfl) ?_ _
                go_wp2
                go_roundw
                case rel => exact ⟨k + 1, _, l, by omega, by omega, rfl, by go_num, by omega, hR.out.below (by first | exact hw2.alloc hw2.size _ | exact (((hw2.setCell (Nat.le_refl _) _).setCell (Nat.le_refl _) _).setCell (Nat.le_refl _) _).setCell (Nat.le_refl _) _ | exact hw2)⟩
                case measure => simp [intOf]; omega
              exact EachL.nil
            refine EachL.cons (by rfl) (by rfl) (fun K hK => ?_) ?_
            · go_simp
              refine hK.out _ _ (hHeld.alloc hHeld.size _) (fun hHeld => ?_)
              clear hK K
              try simp only [Act.put, List.setIfInBounds_toArray, List.set_cons_zero, List.set_cons_succ]
              refine wpAnyL_each (rs := [5]) (by kernel_rfl) (by simp) ?_
              refine EachL.cons (by rfl) (by rfl) (fun K hK => ?_) ?_
              · go_simp
                refine (HMP _ hHeld).out.mono ?_
                rintro e w2 ⟨rfl, hb2⟩
                have hw2 : Below wr.heap.size wr w2 := hHeld.trans (hb2.mono hHeld.size)
                try have q0 : w2.cell? ⟨wr.heap.size, 0, none⟩ = some (.slice none 0 0) := (hb2.cell (p := ⟨wr.heap.size, 0, none⟩) (by simp)).trans ((Blk.new wr 89 #[.slice none 0 0, .int .i64 0, .int .i64 0, .int .u64 0]).cell 0)
                try have q1 : w2.cell? ⟨wr.heap.size, 1, none⟩ = some (.int .i64 0) := (hb2.cell (p := ⟨wr.heap.size, 1, none⟩) (by simp)).trans ((Blk.new wr 89 #[.slice none 0 0, .int .i64 0, .int .i64 0, .int .u64 0]).cell 1)
                try have q2 : w2.cell? ⟨wr.heap.size, 2, none⟩ = some (.int .i64 0) := (hb2.cell (p := ⟨wr.heap.size, 2, none⟩) (by simp)).trans ((Blk.new wr 89 #[.slice none 0 0, .int .i64 0, .int .i64 0, .int .u64 0]).cell 2)
                try have q3 : w2.cell? ⟨wr.heap.size, 3, none⟩ = some (.int .u64 0) := (hb2.cell (p := ⟨wr.heap.size, 3, none⟩) (by simp)).trans ((Blk.new wr 89 #[.slice none 0 0, .int .i64 0, .int .i64 0, .int .u64 0]).cell 3)
                try have z0 : ∀ i, w2.frozen? ⟨wr.heap.size, i, none⟩ = false := fun i => (hb2.frozen (p := ⟨wr.heap.size, i, none⟩) (by simp)).trans ((Blk.new wr 89 #[.slice none 0 0, .int .i64 0, .int .i64 0, .int .u64 0]).frozen i)
                dsimp only
                refine hK.out _ _ (hHeld.trans (hb2.mono hHeld.size)) (fun hHeld => ?_)
                clear hK K
                try simp only [Act.put, List.setIfInBounds_toArray, List.set_cons_zero, List.set_cons_succ]
                refine wpAnyL_move (i := 6) (v := ?_) (by rfl) (by kernel_rfl) (by kernel_rfl) (by kernel_rfl) (by rfl) (by exact fun _ _ _ h => h) (Or.inl ⟨by rfl, ?_⟩) (by assumption) ?_; rotate_left; · (intro w0; go_simp; try with_reducible rfl)
                try simp only [Act.put, List.setIfInBounds_toArray, List.set_cons_zero, List.set_cons_succ]
                refine wpAnyL_move (i := 7) (v := ?_) (by rfl) (by kernel_rfl) (by kernel_rfl) (by kernel_rfl) (by rfl) (by exact fun _ _ _ h => h) (Or.inl ⟨by rfl, ?_⟩) (by assumption) ?_; rotate_left; · (intro w0; go_simp; try with_reducible rfl)
                try simp only [Act.put, List.setIfInBounds_toArray, List.set_cons_zero, List.set_cons_succ]
                refine wpAnyL_move (i := 8) (v := ?_) (by rfl) (by kernel_rfl) (by kernel_rfl) (by kernel_rfl) (by rfl) (by exact fun _ _ _ h => h) (Or.inl ⟨by rfl, ?_⟩) (by assumption) ?_; rotate_left; · (intro w0; go_simp; try with_reducible rfl)
                try simp only [Act.put, List.setIfInBounds_toArray, List.set_cons_zero, List.set_cons_succ]
                refine wpAnyL_move (i := 9) (v := ?_) (by rfl) (by kernel_rfl) (by kernel_rfl) (by kernel_rfl) (by rfl) (by exact fun _ _ _ h => h) (Or.inl ⟨by rfl, ?_⟩) (by assumption) ?_; rotate_left; · (intro w0; go_simp; try with_reducible rfl)
                try simp only [Act.put, List.setIfInBounds_toArray, List.set_cons_zero, List.set_cons_succ]
                refine wpAnyL_late (i := 11) (by kernel_rfl) (by rfl) (by rfl) (fun K hK => ?_)
                go_simp
                refine hK.out _ _ ?_
                clear hK K
                try simp only [Act.put, List.setIfInBounds_toArray, List.set_cons_zero, List.set_cons_succ]
                refine wpAny_move (i := 12) (v := ?_) (by rfl) (by kernel_rfl) (by kernel_rfl) (by kernel_rfl) (by exact fun _ _ _ h => h) (Or.inl ⟨by rfl, ?_⟩) ?_; rotate_left; · (intro w0; go_simp; try with_reducible rfl)
                try simp only [Act.put, List.setIfInBounds_toArray, List.set_cons_zero, List.set_cons_succ]
                refine wpAny_move (i := 13) (v := ?_) (by rfl) (by kernel_rfl) (by kernel_rfl) (by kernel_rfl) (by exact fun _ _ _ h => h) (Or.inl ⟨by rfl, ?_⟩) ?_; rotate_left; · (intro w0; go_simp; try with_reducible rfl)
                try simp only [Act.put, List.setIfInBounds_toArray, List.set_cons_zero, List.set_cons_succ]
                refine wpAny_done (by kernel_rfl) ?_ _
                go_wp2
                go_roundw
                case rel => exact ⟨k + 1, _, l, by omega, by omega, rfl, by go_num, by omega, hR.out.below (by first | exact hw2.alloc hw2.size _ | exact (((hw2.setCell (Nat.le_refl _) _).setCell (Nat.le_refl _) _).setCell (Nat.le_refl _) _).setCell (Nat.le_refl _) _ | exact hw2)⟩
                case measure => simp [intOf]; omega
              exact EachL.nil
            exact EachL.nil
          · have hmf : ¬ mputFull l s 0 := by
              have := endFrom_max l 1 (fun x hx => (hR.out.sizes x hx).2)
              unfold mputFull
              unfold badRec at hv
              omega
            have HMP : ∀ W, Below wr.heap.size wr W → Hid (Calls Try.prog 50 #[.agg #[.slice la l.length lc, .int .i64 0, .int .i64 0, .int .u64 0], .string s, .int .i64 0] W fun e w' => ∃ lv', e = .returned (.tuple #[modelV lv' 0 0 0, .int .u64 (endFrom 1 l : Int), .int .i64 0]) ∧ w'.ownsRow W.heap.size 9 1 lv' (l.length + 1) ((l ++ [s]).map Value.string) ∧ Below W.heap.size W w') := fun W hW => mput_ok (c1 := 0) (c2 := 0) (c3 := 0) (hR.out.reads.below hW) hro hv (by omega) hmf
            unfold modelV at HMP
            have hem := endFrom_max l 1 (fun x hx => (hR.out.sizes x hx).2)
            have hfz := frames_size l 1
            have hsv : 1 ≤ s.size ∧ s.size ≤ 8192 := by unfold badRec at hv; omega
            have HEND : Hid (endFrom 1 l < 18446744073709551616) := by show _ < _; omega
            have HSS : Hid (s.size ≤ 1000000000) := by show _ ≤ _; omega
            have HADD : Hid ((frames 1 l).size + (frameB (endFrom 1 l) s).size ≤ 9223372036854775807) := by show _ ≤ _; rw [frameB_size]; omega
            have HSZ : Hid (1 ≤ s.size ∧ s.size ≤ 8192) := hsv
            clear hs hsz hro hbr hmf hem hfz hsv hv
            go_wp2_with (fail)
            refine wp_region_late (S := Below wr.heap.size wr) (late := [11]) (by kernel_rfl) (below_drewN wr 1) (fun hHeld => ?_)
            refine wpAnyL_load (i := 0) (v := ?_) (by rfl) (by kernel_rfl) (by kernel_rfl) (by kernel_rfl) (by rfl) (by kernel_rfl) (by exact fun _ _ _ h => h) (Or.inl ⟨by rfl, ?_⟩) (by assumption) ?_; rotate_left; · (intro w0 hS0; have k0 : w0.cell? ⟨w1.heap.size, 0, none⟩ = some (.slice la l.length lc) := (hS0.cell (p := ⟨w1.heap.size, 0, none⟩) hmb).trans D0.out; have k1 : w0.cell? ⟨w1.heap.size, 1, none⟩ = some (.int .i64 0) := (hS0.cell (p := ⟨w1.heap.size, 1, none⟩) hmb).trans D1.out; have k2 : w0.cell? ⟨w1.heap.size, 2, none⟩ = some (.int .i64 0) := (hS0.cell (p := ⟨w1.heap.size, 2, none⟩) hmb).trans D2.out; have k3 : w0.cell? ⟨w1.heap.size, 3, none⟩ = some (.int .u64 0) := (hS0.cell (p := ⟨w1.heap.size, 3, none⟩) hmb).trans D3.out; have kc : w0.cell? ⟨ab, off + k, none⟩ = some (.string s) := (hS0.cell (p := ⟨ab, off + k, none⟩) hab).trans DC.out; go_simp; try with_reducible rfl)
            try simp only [Act.put, List.setIfInBounds_toArray, List.set_cons_zero, List.set_cons_succ]
            refine wpAnyL_move (i := 1) (v := ?_) (by rfl) (by kernel_rfl) (by kernel_rfl) (by kernel_rfl) (by rfl) (by exact fun _ _ _ h => h) (Or.inl ⟨by rfl, ?_⟩) (by assumption) ?_; rotate_left; · (intro w0; go_simp; try with_reducible rfl)
            try simp only [Act.put, List.setIfInBounds_toArray, List.set_cons_zero, List.set_cons_succ]
            refine wpAnyL_move (i := 2) (v := ?_) (by rfl) (by kernel_rfl) (by kernel_rfl) (by kernel_rfl) (by rfl) (by exact fun _ _ _ h => h) (Or.inl ⟨by rfl, ?_⟩) (by assumption) ?_; rotate_left; · (intro w0; go_simp; try with_reducible rfl)
            try simp only [Act.put, List.setIfInBounds_toArray, List.set_cons_zero, List.set_cons_succ]
            refine wpAnyL_move (i := 3) (v := ?_) (by rfl) (by kernel_rfl) (by kernel_rfl) (by kernel_rfl) (by rfl) (by exact fun _ _ _ h => h) (Or.inl ⟨by rfl, ?_⟩) (by assumption) ?_; rotate_left; · (intro w0; go_simp; try with_reducible rfl)
            try simp only [Act.put, List.setIfInBounds_toArray, List.set_cons_zero, List.set_cons_succ]
            refine wpAnyL_load (i := 4) (v := ?_) (by rfl) (by kernel_rfl) (by kernel_rfl) (by kernel_rfl) (by rfl) (by kernel_rfl) (by exact fun _ _ _ h => h) (Or.inl ⟨by rfl, ?_⟩) (by assumption) ?_; rotate_left; · (intro w0 hS0; have k0 : w0.cell? ⟨w1.heap.size, 0, none⟩ = some (.slice la l.length lc) := (hS0.cell (p := ⟨w1.heap.size, 0, none⟩) hmb).trans D0.out; have k1 : w0.cell? ⟨w1.heap.size, 1, none⟩ = some (.int .i64 0) := (hS0.cell (p := ⟨w1.heap.size, 1, none⟩) hmb).trans D1.out; have k2 : w0.cell? ⟨w1.heap.size, 2, none⟩ = some (.int .i64 0) := (hS0.cell (p := ⟨w1.heap.size, 2, none⟩) hmb).trans D2.out; have k3 : w0.cell? ⟨w1.heap.size, 3, none⟩ = some (.int .u64 0) := (hS0.cell (p := ⟨w1.heap.size, 3, none⟩) hmb).trans D3.out; have kc : w0.cell? ⟨ab, off + k, none⟩ = some (.string s) := (hS0.cell (p := ⟨ab, off + k, none⟩) hab).trans DC.out; go_simp; try with_reducible rfl)
            try simp only [Act.put, List.setIfInBounds_toArray, List.set_cons_zero, List.set_cons_succ]
            refine wpAnyL_each (rs := [5, 10]) (by kernel_rfl) (by simp) ?_
            refine EachL.cons (by rfl) (by rfl) (fun K hK => ?_) ?_
            · go_simp
              refine (HMP _ hHeld).out.mono ?_
              rintro e w2 ⟨lv2, rfl, ho2, hb2⟩
              obtain ⟨a2, ca2, hlv2⟩ := own_form ho2
              subst hlv2
              have hw2 : Below wr.heap.size wr w2 := hHeld.trans (hb2.mono hHeld.size)
              try have q0 : w2.cell? ⟨wr.heap.size, 0, none⟩ = some (.slice none 0 0) := (hb2.cell (p := ⟨wr.heap.size, 0, none⟩) (by simp)).trans ((Blk.new wr 89 #[.slice none 0 0, .int .i64 0, .int .i64 0, .int .u64 0]).cell 0)
              try have q1 : w2.cell? ⟨wr.heap.size, 1, none⟩ = some (.int .i64 0) := (hb2.cell (p := ⟨wr.heap.size, 1, none⟩) (by simp)).trans ((Blk.new wr 89 #[.slice none 0 0, .int .i64 0, .int .i64 0, .int .u64 0]).cell 1)
              try have q2 : w2.cell? ⟨wr.heap.size, 2, none⟩ = some (.int .i64 0) := (hb2.cell (p := ⟨wr.heap.size, 2, none⟩) (by simp)).trans ((Blk.new wr 89 #[.slice none 0 0, .int .i64 0, .int .i64 0, .int .u64 0]).cell 2)
              try have q3 : w2.cell? ⟨wr.heap.size, 3, none⟩ = some (.int .u64 0) := (hb2.cell (p := ⟨wr.heap.size, 3, none⟩) (by simp)).trans ((Blk.new wr 89 #[.slice none 0 0, .int .i64 0, .int .i64 0, .int .u64 0]).cell 3)
              try have z0 : ∀ i, w2.frozen? ⟨wr.heap.size, i, none⟩ = false := fun i => (hb2.frozen (p := ⟨wr.heap.size, i, none⟩) (by simp)).trans ((Blk.new wr 89 #[.slice none 0 0, .int .i64 0, .int .i64 0, .int .u64 0]).frozen i)
              dsimp only
              refine hK.out _ _ (hHeld.trans (hb2.mono hHeld.size)) (fun hHeld => ?_)
              clear hK K
              try simp only [Act.put, List.setIfInBounds_toArray, List.set_cons_zero, List.set_cons_succ]
              refine wpAnyL_move (i := 6) (v := ?_) (by rfl) (by kernel_rfl) (by kernel_rfl) (by kernel_rfl) (by rfl) (by exact fun _ _ _ h => h) (Or.inl ⟨by rfl, ?_⟩) (by assumption) ?_; rotate_left; · (intro w0; go_simp; try with_reducible rfl)
              try simp only [Act.put, List.setIfInBounds_toArray, List.set_cons_zero, List.set_cons_succ]
              refine wpAnyL_move (i := 7) (v := ?_) (by rfl) (by kernel_rfl) (by kernel_rfl) (by kernel_rfl) (by rfl) (by exact fun _ _ _ h => h) (Or.inl ⟨by rfl, ?_⟩) (by assumption) ?_; rotate_left; · (intro w0; go_simp; try with_reducible rfl)
              try simp only [Act.put, List.setIfInBounds_toArray, List.set_cons_zero, List.set_cons_succ]
              refine wpAnyL_move (i := 8) (v := ?_) (by rfl) (by kernel_rfl) (by kernel_rfl) (by kernel_rfl) (by rfl) (by exact fun _ _ _ h => h) (Or.inl ⟨by rfl, ?_⟩) (by assumption) ?_; rotate_left; · (intro w0; go_simp; try with_reducible rfl)
              try simp only [Act.put, List.setIfInBounds_toArray, List.set_cons_zero, List.set_cons_succ]
              refine wpAnyL_move (i := 9) (v := ?_) (by rfl) (by kernel_rfl) (by kernel_rfl) (by kernel_rfl) (by rfl) (by exact fun _ _ _ h => h) (Or.inl ⟨by rfl, ?_⟩) (by assumption) ?_; rotate_left; · (intro w0; go_simp; try with_reducible rfl)
              try simp only [Act.put, List.setIfInBounds_toArray, List.set_cons_zero, List.set_cons_succ]
              refine wpAnyL_each (rs := [10]) (by kernel_rfl) (by simp) ?_
              refine EachL.cons (by rfl) (by rfl) (fun K hK => ?_) ?_
              · go_simp
                refine hK.out _ _ (hHeld.alloc hHeld.size _) (fun hHeld => ?_)
                clear hK K
                try simp only [Act.put, List.setIfInBounds_toArray, List.set_cons_zero, List.set_cons_succ]
                refine wpAnyL_late (i := 11) (by kernel_rfl) (by rfl) (by rfl) (fun K hK => ?_)
                go_simp
                refine hK.out _ _ ?_
                clear hK K
                try simp only [Act.put, List.setIfInBounds_toArray, List.set_cons_zero, List.set_cons_succ]
                refine wpAny_move (i := 12) (v := ?_) (by rfl) (by kernel_rfl) (by kernel_rfl) (by kernel_rfl) (by exact fun _ _ _ h => h) (Or.inl ⟨by rfl, ?_⟩) ?_; rotate_left; · (intro w0; go_simp; try with_reducible rfl)
                try simp only [Act.put, List.setIfInBounds_toArray, List.set_cons_zero, List.set_cons_succ]
                refine wpAny_move (i := 13) (v := ?_) (by rfl) (by kernel_rfl) (by kernel_rfl) (by kernel_rfl) (by exact fun _ _ _ h => h) (Or.inl ⟨by rfl, ?_⟩) ?_; rotate_left; · (intro w0; go_simp; try with_reducible rfl)
                try simp only [Act.put, List.setIfInBounds_toArray, List.set_cons_zero, List.set_cons_succ]
                refine wpAny_done (by kernel_rfl) ?_ _
                have X5 : Hid (Blk (w2.alloc (.cells #[.slice a2 (l.length + 1) ca2, .int .i64 0, .int .i64 0, .int .u64 0] 89)) (w2.heap.size) 89 #[.slice a2 (l.length + 1) ca2, .int .i64 0, .int .i64 0, .int .u64 0]) := Blk.new w2 89 #[.slice a2 (l.length + 1) ca2, .int .i64 0, .int .i64 0, .int .u64 0]
                have Y5 : Hid (Below w2.heap.size w2 (w2.alloc (.cells #[.slice a2 (l.length + 1) ca2, .int .i64 0, .int .i64 0, .int .u64 0] 89)) ) := (Below.refl _ _).alloc (Nat.le_refl _) _
                have Z5 : Hid (Below wr.heap.size wr (w2.alloc (.cells #[.slice a2 (l.length + 1) ca2, .int .i64 0, .int .i64 0, .int .u64 0] 89))) := hw2.alloc hw2.size _
                have R5 : Hid (Reads (w2.alloc (.cells #[.slice a2 (l.length + 1) ca2, .int .i64 0, .int .i64 0, .int .u64 0] 89)) (.slice a2 (l.length + 1) ca2) (l ++ [s])) := by
                  have hl1 : (l ++ [s]).length = l.length + 1 := by simp
                  have r2 := Reads.of_own (l := l ++ [s]) (by rw [hl1]; exact ho2)
                  exact r2.below ((Below.refl _ _).alloc (Nat.le_refl _) _)
                have O5 : Hid (∀ k', (Value.slice a2 (l.length + 1) ca2).ownBlock = some k' → w1.heap.size ≤ k') := fun k' hk' => by have := (ho2.lt k' hk').1; have := hR.out.base.size; have := hHeld.size; simp at *; omega
                generalize w2.alloc (.cells #[.slice a2 (l.length + 1) ca2, .int .i64 0, .int .i64 0, .int .u64 0] 89) = w5 at *
                have u0 : w5.cell? ⟨w2.heap.size, 0, none⟩ = some (.slice a2 (l.length + 1) ca2) := X5.out.cell 0
                have hkl := X5.out.lt
                have kc5 : w5.cell? ⟨ab, off + k, none⟩ = some (.string s) := (Z5.out.cell (p := ⟨ab, off + k, none⟩) hab).trans DC.out
                have HFr := Lib.hid (frame5_c (endFrom 1 l) s HEND.out HSS.out w5)
                have EAD := sizes_add (frames 1 l) (frameB (endFrom 1 l) s) HADD.out
                have HFS : Hid (frames 1 l ++ frameB (endFrom 1 l) s = frames 1 (l ++ [s])) := (frames_snoc s l 1).symm
                generalize frameB (endFrom 1 l) s = fb at *
                clear hHeld hb2 ho2 hw2 HMP D0 D1 D2 D3 Y5
                go_wp2_with (fail)
                refine HFr.out.mono ?_
                rintro e w6 ⟨rfl, hb6⟩
                have v0 : w6.cell? ⟨w2.heap.size, 0, none⟩ = some (.slice a2 (l.length + 1) ca2) := (hb6.cell (p := ⟨w2.heap.size, 0, none⟩) hkl).trans (X5.out.cell 0)
                have v1 : w6.cell? ⟨w2.heap.size, 1, none⟩ = some (.int .i64 0) := (hb6.cell (p := ⟨w2.heap.size, 1, none⟩) hkl).trans (X5.out.cell 1)
                have v2 : w6.cell? ⟨w2.heap.size, 2, none⟩ = some (.int .i64 0) := (hb6.cell (p := ⟨w2.heap.size, 2, none⟩) hkl).trans (X5.out.cell 2)
                have v3 : w6.cell? ⟨w2.heap.size, 3, none⟩ = some (.int .u64 0) := (hb6.cell (p := ⟨w2.heap.size, 3, none⟩) hkl).trans (X5.out.cell 3)
                have A6 := Lib.hid (hR.out.below (Z5.out.trans (hb6.mono Z5.out.size)))
                have p0 : w6.cell? ⟨w1.heap.size, 0, none⟩ = some (.slice la l.length lc) := A6.out.box.cell 0
                have p1 : w6.cell? ⟨w1.heap.size, 1, none⟩ = some (.int .i64 0) := A6.out.box.cell 1
                have p2 : w6.cell? ⟨w1.heap.size, 2, none⟩ = some (.int .i64 0) := A6.out.box.cell 2
                have p3 : w6.cell? ⟨w1.heap.size, 3, none⟩ = some (.int .u64 0) := A6.out.box.cell 3
                have z0 := A6.out.box.frozen 0
                have z1 := A6.out.box.frozen 1
                have z2 := A6.out.box.frozen 2
                have z3 := A6.out.box.frozen 3
                have R6 := Lib.hid (R5.out.below hb6)
                clear hb6 u0 kc5 X5
                go_wp2
                go_roundw
                case rel => exact ⟨k + 1, _, l ++ [s], by omega, by omega, by rw [HFS.out], by go_num, by simp; omega, TornA.store A6.out R6.out O5.out HSZ.out⟩
                case measure => simp [intOf]; omega
              exact EachL.nil
            refine EachL.cons (by rfl) (by rfl) (fun K hK => ?_) ?_
            · go_simp
              refine hK.out _ _ (hHeld.alloc hHeld.size _) (fun hHeld => ?_)
              clear hK K
              try simp only [Act.put, List.setIfInBounds_toArray, List.set_cons_zero, List.set_cons_succ]
              refine wpAnyL_each (rs := [5]) (by kernel_rfl) (by simp) ?_
              refine EachL.cons (by rfl) (by rfl) (fun K hK => ?_) ?_
              · go_simp
                refine (HMP _ hHeld).out.mono ?_
                rintro e w2 ⟨lv2, rfl, ho2, hb2⟩
                obtain ⟨a2, ca2, hlv2⟩ := own_form ho2
                subst hlv2
                have hw2 : Below wr.heap.size wr w2 := hHeld.trans (hb2.mono hHeld.size)
                try have q0 : w2.cell? ⟨wr.heap.size, 0, none⟩ = some (.slice none 0 0) := (hb2.cell (p := ⟨wr.heap.size, 0, none⟩) (by simp)).trans ((Blk.new wr 89 #[.slice none 0 0, .int .i64 0, .int .i64 0, .int .u64 0]).cell 0)
                try have q1 : w2.cell? ⟨wr.heap.size, 1, none⟩ = some (.int .i64 0) := (hb2.cell (p := ⟨wr.heap.size, 1, none⟩) (by simp)).trans ((Blk.new wr 89 #[.slice none 0 0, .int .i64 0, .int .i64 0, .int .u64 0]).cell 1)
                try have q2 : w2.cell? ⟨wr.heap.size, 2, none⟩ = some (.int .i64 0) := (hb2.cell (p := ⟨wr.heap.size, 2, none⟩) (by simp)).trans ((Blk.new wr 89 #[.slice none 0 0, .int .i64 0, .int .i64 0, .int .u64 0]).cell 2)
                try have q3 : w2.cell? ⟨wr.heap.size, 3, none⟩ = some (.int .u64 0) := (hb2.cell (p := ⟨wr.heap.size, 3, none⟩) (by simp)).trans ((Blk.new wr 89 #[.slice none 0 0, .int .i64 0, .int .i64 0, .int .u64 0]).cell 3)
                try have z0 : ∀ i, w2.frozen? ⟨wr.heap.size, i, none⟩ = false := fun i => (hb2.frozen (p := ⟨wr.heap.size, i, none⟩) (by simp)).trans ((Blk.new wr 89 #[.slice none 0 0, .int .i64 0, .int .i64 0, .int .u64 0]).frozen i)
                dsimp only
                refine hK.out _ _ (hHeld.trans (hb2.mono hHeld.size)) (fun hHeld => ?_)
                clear hK K
                try simp only [Act.put, List.setIfInBounds_toArray, List.set_cons_zero, List.set_cons_succ]
                refine wpAnyL_move (i := 6) (v := ?_) (by rfl) (by kernel_rfl) (by kernel_rfl) (by kernel_rfl) (by rfl) (by exact fun _ _ _ h => h) (Or.inl ⟨by rfl, ?_⟩) (by assumption) ?_; rotate_left; · (intro w0; go_simp; try with_reducible rfl)
                try simp only [Act.put, List.setIfInBounds_toArray, List.set_cons_zero, List.set_cons_succ]
                refine wpAnyL_move (i := 7) (v := ?_) (by rfl) (by kernel_rfl) (by kernel_rfl) (by kernel_rfl) (by rfl) (by exact fun _ _ _ h => h) (Or.inl ⟨by rfl, ?_⟩) (by assumption) ?_; rotate_left; · (intro w0; go_simp; try with_reducible rfl)
                try simp only [Act.put, List.setIfInBounds_toArray, List.set_cons_zero, List.set_cons_succ]
                refine wpAnyL_move (i := 8) (v := ?_) (by rfl) (by kernel_rfl) (by kernel_rfl) (by kernel_rfl) (by rfl) (by exact fun _ _ _ h => h) (Or.inl ⟨by rfl, ?_⟩) (by assumption) ?_; rotate_left; · (intro w0; go_simp; try with_reducible rfl)
                try simp only [Act.put, List.setIfInBounds_toArray, List.set_cons_zero, List.set_cons_succ]
                refine wpAnyL_move (i := 9) (v := ?_) (by rfl) (by kernel_rfl) (by kernel_rfl) (by kernel_rfl) (by rfl) (by exact fun _ _ _ h => h) (Or.inl ⟨by rfl, ?_⟩) (by assumption) ?_; rotate_left; · (intro w0; go_simp; try with_reducible rfl)
                try simp only [Act.put, List.setIfInBounds_toArray, List.set_cons_zero, List.set_cons_succ]
                refine wpAnyL_late (i := 11) (by kernel_rfl) (by rfl) (by rfl) (fun K hK => ?_)
                go_simp
                refine hK.out _ _ ?_
                clear hK K
                try simp only [Act.put, List.setIfInBounds_toArray, List.set_cons_zero, List.set_cons_succ]
                refine wpAny_move (i := 12) (v := ?_) (by rfl) (by kernel_rfl) (by kernel_rfl) (by kernel_rfl) (by exact fun _ _ _ h => h) (Or.inl ⟨by rfl, ?_⟩) ?_; rotate_left; · (intro w0; go_simp; try with_reducible rfl)
                try simp only [Act.put, List.setIfInBounds_toArray, List.set_cons_zero, List.set_cons_succ]
                refine wpAny_move (i := 13) (v := ?_) (by rfl) (by kernel_rfl) (by kernel_rfl) (by kernel_rfl) (by exact fun _ _ _ h => h) (Or.inl ⟨by rfl, ?_⟩) ?_; rotate_left; · (intro w0; go_simp; try with_reducible rfl)
                try simp only [Act.put, List.setIfInBounds_toArray, List.set_cons_zero, List.set_cons_succ]
                refine wpAny_done (by kernel_rfl) ?_ _
                have X5 : Hid (Blk ((((w2.setCell ⟨wr.heap.size, 0, none⟩ (.slice a2 (l.length + 1) ca2)).setCell ⟨wr.heap.size, 1, none⟩ (.int .i64 0)).setCell ⟨wr.heap.size, 2, none⟩ (.int .i64 0)).setCell ⟨wr.heap.size, 3, none⟩ (.int .u64 0)) (wr.heap.size) 89 #[.slice a2 (l.length + 1) ca2, .int .i64 0, .int .i64 0, .int .u64 0]) := ((((((Blk.new wr 89 #[.slice none 0 0, .int .i64 0, .int .i64 0, .int .u64 0]).same (hb2.block _ (by simp))).set_ 0 (.slice a2 (l.length + 1) ca2)).set_ 1 (.int .i64 0)).set_ 2 (.int .i64 0)).set_ 3 (.int .u64 0))
                have Y5 : Hid (Below w2.heap.size w2 (w2) ) := Below.refl _ _
                have Z5 : Hid (Below wr.heap.size wr ((((w2.setCell ⟨wr.heap.size, 0, none⟩ (.slice a2 (l.length + 1) ca2)).setCell ⟨wr.heap.size, 1, none⟩ (.int .i64 0)).setCell ⟨wr.heap.size, 2, none⟩ (.int .i64 0)).setCell ⟨wr.heap.size, 3, none⟩ (.int .u64 0))) := (((hw2.setCell (Nat.le_refl _) _).setCell (Nat.le_refl _) _).setCell (Nat.le_refl _) _).setCell (Nat.le_refl _) _
                have R5 : Hid (Reads ((((w2.setCell ⟨wr.heap.size, 0, none⟩ (.slice a2 (l.length + 1) ca2)).setCell ⟨wr.heap.size, 1, none⟩ (.int .i64 0)).setCell ⟨wr.heap.size, 2, none⟩ (.int .i64 0)).setCell ⟨wr.heap.size, 3, none⟩ (.int .u64 0)) (.slice a2 (l.length + 1) ca2) (l ++ [s])) := by
                  have hl1 : (l ++ [s]).length = l.length + 1 := by simp
                  have r2 := Reads.of_own (l := l ++ [s]) (by rw [hl1]; exact ho2)
                  exact Reads.of_own (B := 0) (l := l ++ [s]) (by rw [hl1]; exact own_base (own_same ho2 (fun k' hk' => by have hne := own_blk_ne ho2 ((Blk.new wr 89 #[.slice none 0 0, .int .i64 0, .int .i64 0, .int .u64 0]).same (hb2.block _ (by simp))) (by decide); have hn2 : k' ≠ wr.heap.size := fun e => hne (by rw [hk', e]); exact (Below.heap_setCell _ _ _ k' hn2).trans ((Below.heap_setCell _ _ _ k' hn2).trans ((Below.heap_setCell _ _ _ k' hn2).trans (Below.heap_setCell _ _ _ k' hn2))))))
                have O5 : Hid (∀ k', (Value.slice a2 (l.length + 1) ca2).ownBlock = some k' → w1.heap.size ≤ k') := fun k' hk' => by have := (ho2.lt k' hk').1; have := hR.out.base.size; have := hHeld.size; simp at *; omega
                generalize (((w2.setCell ⟨wr.heap.size, 0, none⟩ (.slice a2 (l.length + 1) ca2)).setCell ⟨wr.heap.size, 1, none⟩ (.int .i64 0)).setCell ⟨wr.heap.size, 2, none⟩ (.int .i64 0)).setCell ⟨wr.heap.size, 3, none⟩ (.int .u64 0) = w5 at *
                have u0 : w5.cell? ⟨wr.heap.size, 0, none⟩ = some (.slice a2 (l.length + 1) ca2) := X5.out.cell 0
                have hkl := X5.out.lt
                have kc5 : w5.cell? ⟨ab, off + k, none⟩ = some (.string s) := (Z5.out.cell (p := ⟨ab, off + k, none⟩) hab).trans DC.out
                have HFr := Lib.hid (frame5_c (endFrom 1 l) s HEND.out HSS.out w5)
                have EAD := sizes_add (frames 1 l) (frameB (endFrom 1 l) s) HADD.out
                have HFS : Hid (frames 1 l ++ frameB (endFrom 1 l) s = frames 1 (l ++ [s])) := (frames_snoc s l 1).symm
                generalize frameB (endFrom 1 l) s = fb at *
                clear hHeld hb2 ho2 hw2 HMP D0 D1 D2 D3 Y5
                go_wp2_with (fail)
                refine HFr.out.mono ?_
                rintro e w6 ⟨rfl, hb6⟩
                have v0 : w6.cell? ⟨wr.heap.size, 0, none⟩ = some (.slice a2 (l.length + 1) ca2) := (hb6.cell (p := ⟨wr.heap.size, 0, none⟩) hkl).trans (X5.out.cell 0)
                have v1 : w6.cell? ⟨wr.heap.size, 1, none⟩ = some (.int .i64 0) := (hb6.cell (p := ⟨wr.heap.size, 1, none⟩) hkl).trans (X5.out.cell 1)
                have v2 : w6.cell? ⟨wr.heap.size, 2, none⟩ = some (.int .i64 0) := (hb6.cell (p := ⟨wr.heap.size, 2, none⟩) hkl).trans (X5.out.cell 2)
                have v3 : w6.cell? ⟨wr.heap.size, 3, none⟩ = some (.int .u64 0) := (hb6.cell (p := ⟨wr.heap.size, 3, none⟩) hkl).trans (X5.out.cell 3)
                have A6 := Lib.hid (hR.out.below (Z5.out.trans (hb6.mono Z5.out.size)))
                have p0 : w6.cell? ⟨w1.heap.size, 0, none⟩ = some (.slice la l.length lc) := A6.out.box.cell 0
                have p1 : w6.cell? ⟨w1.heap.size, 1, none⟩ = some (.int .i64 0) := A6.out.box.cell 1
                have p2 : w6.cell? ⟨w1.heap.size, 2, none⟩ = some (.int .i64 0) := A6.out.box.cell 2
                have p3 : w6.cell? ⟨w1.heap.size, 3, none⟩ = some (.int .u64 0) := A6.out.box.cell 3
                have z0 := A6.out.box.frozen 0
                have z1 := A6.out.box.frozen 1
                have z2 := A6.out.box.frozen 2
                have z3 := A6.out.box.frozen 3
                have R6 := Lib.hid (R5.out.below hb6)
                clear hb6 u0 kc5 X5
                go_wp2
                go_roundw
                case rel => exact ⟨k + 1, _, l ++ [s], by omega, by omega, by rw [HFS.out], by go_num, by simp; omega, TornA.store A6.out R6.out O5.out HSZ.out⟩
                case measure => simp [intOf]; omega
              exact EachL.nil
            exact EachL.nil
        · have hlk2 : l.length ≤ 20 := by omega
          go_wp2_with (fail)
          all_goals
            go_meet
            case rel => exact ⟨_, l, hlk2, rfl, hR⟩
    case rest =>
      obtain ⟨lv, l, hlk2, rfl, hR⟩ := hcut
      rename World => wr
      have hd := hR.out.disk (w := w) L1.out
      have hsz5 := hR.out.sizes
      have hsm5 := hR.out.some_
      have hem := endFrom_max l 1 (fun x hx => (hsz5 x hx).2)
      have hfz := frames_size l 1
      obtain ⟨la, lc, rfl⟩ := hR.out.reads.form
      have HSM5 : Hid (∀ k, (Value.slice la l.length lc).ownBlock = some k → 0 < l.length) := hsm5
      have HD := Lib.hid hd
      have HSZ5 : Hid (∀ s ∈ l, 1 ≤ s.size ∧ s.size ≤ 8192) := hsz5
      have HAW := Lib.hid (awake5_c wr)
      have hsum : (frames 1 l).size + rest.size ≤ 300000 := by omega
      have EAD := sizes_add (frames 1 l) rest (by omega)
      have HAP : ∀ W, DW w (tK w1.heap.size (.slice la l.length lc)) (tP w1.heap.size (.slice la l.length lc) l 0) b ⟨#[]⟩ 0 W → Hid (Calls Try.prog 23 #[.pointer (some ⟨b, 0, none⟩), .string (frames 1 l ++ rest)] W fun e w' => e = .returned (.int .i64 0) ∧ ∃ c, DX w (tK w1.heap.size (.slice la l.length lc)) (tP w1.heap.size (.slice la l.length lc) l 0) b { dk c ⟨#[]⟩ 0 with tail := frames 1 l ++ rest } w') := fun W hW =>
        hW.appends (t_stable _ _ _ _) _ (by rw [ByteArray.size_append]; show 0 + _ ≤ _; omega)
      have HSY : ∀ W c, DX w (tK w1.heap.size (.slice la l.length lc)) (tP w1.heap.size (.slice la l.length lc) l 0) b { dk c ⟨#[]⟩ 0 with tail := frames 1 l ++ rest } W → Hid (Calls Try.prog 24 #[.pointer (some ⟨b, 0, none⟩)] W fun e w' => e = .returned (.int .i64 0) ∧ DW w (tK w1.heap.size (.slice la l.length lc)) (tP w1.heap.size (.slice la l.length lc) l 0) b (frames 1 l ++ rest) 0 w') := fun W c hW => by
        have := hW.syncs (t_stable _ _ _ _)
        rw [bytes_nil'] at this
        exact this
      have HSUM : Hid ((frames 1 l).size + rest.size ≤ 300000) := hsum
      clear hd hsz5 hem hfz hR hsum hsm5
      go_wp2_with (fail)
      refine HAW.out.mono ?_
      rintro e w2 ⟨rfl, hb2⟩
      have HA2 := HAP _ (HD.out.below (t_stable _ _ _ _) hb2)
      clear hb2
      go_wp2_with (fail)
      refine HA2.out.mono ?_
      rintro e w3 ⟨rfl, c3, h3⟩
      have HS3 := HSY _ _ h3
      clear h3 HA2
      go_wp2_with (fail)
      refine HS3.out.mono ?_
      rintro e w4 ⟨rfl, h4⟩
      have HB4 : Hid (TornB w w1.heap.size b (frames 1 l ++ rest) (.slice la l.length lc) l rest w4) := ⟨h4, rfl, HSZ5.out, HSM5.out, by rw [ByteArray.size_append]; exact HSUM.out⟩
      clear h4 HS3 HAP HSY HD HSZ5 HSM5 HAW EAD
      go_upto_block 2 with fail
      go_cut [] (fun wx => ∃ (ll : List ByteArray) (left : ByteArray) (lv : Value), takenOk left (endFrom 1 ll) = false ∧ Hid (TornB w w1.heap.size b (frames 1 l ++ rest) lv ll left wx))
      case first =>
        go_wp2_with (fail)
        go_loopw [13] (fun s13 wr => ∃ (ll : List ByteArray) (left : ByteArray) (lv : Value), s13 = .string left ∧ Hid (TornB w w1.heap.size b (frames 1 l ++ rest) lv ll left wr)) (fun s13 _ => strLen s13)
        case atStart => exact ⟨l, rest, _, rfl, HB4.out⟩
        case round =>
          obtain ⟨ll, left, lv, rfl, hQ⟩ := hrel
          obtain ⟨hre, hro⟩ := hQ.out.recsOk
          by_cases h12 : left.size < 12
          · have HTK := Lib.hid (takenOk_short (t := left) (by omega) (endFrom 1 ll))
            clear hre hro
            go_wp2_with (fail)
            go_meet
            case rel => exact ⟨ll, left, lv, HTK.out, hQ⟩
          · have h4 : 4 ≤ left.size := by omega
            have hex : (left.extract 0 4).size = 4 := by rw [ByteArray.size_extract]; omega
            have HNu : Hid (Calls Try.prog 51 #[.string (left.extract 0 4)] wr fun e w' => e = .returned (.int .u64 (numAt left 0 4 : Nat)) ∧ w' = wr) := by
              have := refNumber_c (left.extract 0 4) (by omega) wr
              rw [hex, numAt_cut h4] at this
              exact this
            have hnl : numAt left 0 4 < 4294967296 := numAt_lt left 0 4
            by_cases hf : fits left
            · obtain ⟨-, hn1, hn2, hn3⟩ := id hf
              have hbody : takenBody left = left.extract 8 (8 + numAt left 0 4) := by unfold takenBody; rw [if_pos hf]
              have htk : takenOk left (endFrom 1 ll) = decide (left.extract 0 (numAt left 0 4 + 12) = frameB (endFrom 1 ll) (left.extract 8 (8 + numAt left 0 4))) := by unfold takenOk; rw [decide_eq_true hf, Bool.true_and, hbody]
              have HTK := Lib.hid htk
              clear hbody htk hf
              generalize numAt left 0 4 = n at *
              have hnx := fun he => frame_next (n := n) hQ.out (by omega) hn3 he
              obtain ⟨s, hs⟩ : ∃ s, left.extract 8 (8 + n) = s := ⟨_, rfl⟩
              obtain ⟨want, hwant⟩ : ∃ s, left.extract 0 (n + 12) = s := ⟨_, rfl⟩
              obtain ⟨left2, hleft2⟩ : ∃ s, left.extract (n + 12) left.size = s := ⟨_, rfl⟩
              have hsz : s.size = n := by rw [← hs, ByteArray.size_extract]; omega
              have hl2 : left2.size < left.size := by rw [← hleft2, ByteArray.size_extract]; omega
              rw [hs, hwant] at HTK hnx
              rw [hleft2] at hnx
              have HNX := Lib.hid hnx
              have HSS : Hid (1 ≤ s.size ∧ s.size ≤ 8192) := by show _ ∧ _; omega
              have hel : endFrom 1 ll ≤ 300001 := by omega
              have hlen5 : ll.length ≤ 300001 := by have := endFrom_length ll 1; omega
              have hls : left.size ≤ 300001 := by omega
              have HFr : ∀ W, Hid (Calls Try.prog 37 #[.int .u64 (endFrom 1 ll : Int), .string s] W fun e w' => e = .returned (.string (frameB (endFrom 1 ll) s)) ∧ Below W.heap.size W w') := fun W => frame5_c _ _ (by omega) (by omega) W
              obtain ⟨la, lc, rfl⟩ := hQ.out.own.2.form
              have HMA : ∀ W, Below wr.heap.size wr W → Hid (Calls Try.prog 52 #[.agg #[.slice la ll.length lc, .int .i64 0, .int .i64 0, .int .u64 0]] W (AtPost W ll)) := fun W hW =>
                mat_c W _ ll _ _ _ (hQ.out.own.2.below hW) hro.len hro.end_ hro.sizes
              have HQB := Lib.hid hQ.out.own.1
              have hmb := HQB.out.lt
              have D0 : Hid (wr.cell? ⟨w1.heap.size, 0, none⟩ = some (.slice la ll.length lc)) := HQB.out.cell 0
              have D1 : Hid (wr.cell? ⟨w1.heap.size, 1, none⟩ = some (.int .i64 0)) := HQB.out.cell 1
              have D2 : Hid (wr.cell? ⟨w1.heap.size, 2, none⟩ = some (.int .i64 0)) := HQB.out.cell 2
              have D3 : Hid (wr.cell? ⟨w1.heap.size, 3, none⟩ = some (.int .u64 0)) := HQB.out.cell 3
              have hw1 : IntKind.u64.wrap (left.size : Int) = (left.size : Int) := by rw [IntKind.wrap_u64]; omega
              have hw2 : IntKind.u64.wrap ((n : Int) + 12) = (n : Int) + 12 := by rw [IntKind.wrap_u64]; omega
              have hw3 : IntKind.u64.wrap (8 + (n : Int)) = 8 + (n : Int) := by rw [IntKind.wrap_u64]; omega
              clear hnx hre hro hex
              have hq0 : (0 : Int) ≤ (n : Int) + 12 := by omega
              have hq1 : ((n : Int) + 12).toNat = n + 12 := by omega
              have hq2 : (n : Int) + 12 ≤ (left.size : Int) := by omega
              go_wp2_with (fail)
              refine HNu.out.mono ?_
              rintro e w' ⟨rfl, rfl⟩
              clear HNu
              go_wp2_with (fail)
              refine wp_region_late (S := Below w'.heap.size w') (late := []) (by kernel_rfl) (below_drewN w' 1) (fun hHeld => ?_)
              refine wpAnyL_load (i := 0) (v := ?_) (by rfl) (by kernel_rfl) (by kernel_rfl) (by kernel_rfl) (by rfl) (by kernel_rfl) (by exact fun _ _ _ h => h) (Or.inl ⟨by rfl, ?_⟩) (by assumption) ?_; rotate_left; · (intro w0 hS0; have k0 : w0.cell? ⟨w1.heap.size, 0, none⟩ = some (.slice la ll.length lc) := (hS0.cell (p := ⟨w1.heap.size, 0, none⟩) hmb).trans D0.out; have k1 : w0.cell? ⟨w1.heap.size, 1, none⟩ = some (.int .i64 0) := (hS0.cell (p := ⟨w1.heap.size, 1, none⟩) hmb).trans D1.out; have k2 : w0.cell? ⟨w1.heap.size, 2, none⟩ = some (.int .i64 0) := (hS0.cell (p := ⟨w1.heap.size, 2, none⟩) hmb).trans D2.out; have k3 : w0.cell? ⟨w1.heap.size, 3, none⟩ = some (.int .u64 0) := (hS0.cell (p := ⟨w1.heap.size, 3, none⟩) hmb).trans D3.out; go_simp; try with_reducible rfl)
              try simp only [Act.put, List.setIfInBounds_toArray, List.set_cons_zero, List.set_cons_succ]
              refine wpAnyL_move (i := 2) (v := ?_) (by rfl) (by kernel_rfl) (by kernel_rfl) (by kernel_rfl) (by rfl) (by exact fun _ _ _ h => h) (Or.inl ⟨by rfl, ?_⟩) (by assumption) ?_; rotate_left; · (intro w0; go_simp; try with_reducible rfl)
              try simp only [Act.put, List.setIfInBounds_toArray, List.set_cons_zero, List.set_cons_succ]
              refine wpAnyL_load (i := 3) (v := ?_) (by rfl) (by kernel_rfl) (by kernel_rfl) (by kernel_rfl) (by rfl) (by kernel_rfl) (by exact fun _ _ _ h => h) (Or.inl ⟨by rfl, ?_⟩) (by assumption) ?_; rotate_left; · (intro w0 hS0; have k0 : w0.cell? ⟨w1.heap.size, 0, none⟩ = some (.slice la ll.length lc) := (hS0.cell (p := ⟨w1.heap.size, 0, none⟩) hmb).trans D0.out; have k1 : w0.cell? ⟨w1.heap.size, 1, none⟩ = some (.int .i64 0) := (hS0.cell (p := ⟨w1.heap.size, 1, none⟩) hmb).trans D1.out; have k2 : w0.cell? ⟨w1.heap.size, 2, none⟩ = some (.int .i64 0) := (hS0.cell (p := ⟨w1.heap.size, 2, none⟩) hmb).trans D2.out; have k3 : w0.cell? ⟨w1.heap.size, 3, none⟩ = some (.int .u64 0) := (hS0.cell (p := ⟨w1.heap.size, 3, none⟩) hmb).trans D3.out; go_simp; try with_reducible rfl)
              try simp only [Act.put, List.setIfInBounds_toArray, List.set_cons_zero, List.set_cons_succ]
              refine wpAnyL_move (i := 4) (v := ?_) (by rfl) (by kernel_rfl) (by kernel_rfl) (by kernel_rfl) (by rfl) (by exact fun _ _ _ h => h) (Or.inl ⟨by rfl, ?_⟩) (by assumption) ?_; rotate_left; · (intro w0; go_simp; try with_reducible rfl)
              try simp only [Act.put, List.setIfInBounds_toArray, List.set_cons_zero, List.set_cons_succ]
              refine wpAnyL_each (rs := [1]) (by kernel_rfl) (by simp) ?_
              refine EachL.cons (by rfl) (by rfl) (fun K hK => ?_) EachL.nil
              go_simp
              refine (HMA _ hHeld).out.mono ?_
              rintro e w8 ⟨ag, agc, rfl, ho, hb8⟩
              have ce : w8.cell? ⟨ag, ll.length, none⟩ = some (.int .u64 (endFrom 1 ll : Int)) := by
                rw [ho.cellAt ll.length (by omega), plRow_get ll (Nat.le_refl _)]
                show some (Value.int .u64 (endFrom 1 (ll.take ll.length) : Int)) = _
                rw [List.take_length]
              have hgc : ll.length + 1 ≤ agc ∧ agc ≤ maxLen := by
                rcases ho.2 with ⟨e, _⟩ | ⟨g', c', cur, e, _, _, h1, h2, _⟩
                · cases e
                · cases e
                  exact ⟨h1, h2⟩
              obtain ⟨hgc1, hgc2⟩ := hgc
              have hll : (ll.length : Int) < (ll.length : Int) + 1 := by omega
              dsimp only
              refine hK.out _ _ (hHeld.trans (hb8.mono hHeld.size)) (fun hHeld => ?_)
              clear hK K
              try simp only [Act.put, List.setIfInBounds_toArray, List.set_cons_zero, List.set_cons_succ]
              refine wpAnyL_move (i := 5) (v := ?_) (by rfl) (by kernel_rfl) (by kernel_rfl) (by kernel_rfl) (by rfl) (by exact fun _ _ _ h => h) (Or.inl ⟨by rfl, ?_⟩) (by assumption) ?_; rotate_left; · (intro w0; go_simp; try with_reducible rfl)
              try simp only [Act.put, List.setIfInBounds_toArray, List.set_cons_zero, List.set_cons_succ]
              refine wpAnyL_each (rs := [6]) (by kernel_rfl) (by simp) ?_
              refine EachL.cons (by rfl) (by rfl) (fun K hK => ?_) EachL.nil
              go_simp
              refine hK.out _ _ hHeld (fun hHeld => ?_)
              clear hK K
              try simp only [Act.put, List.setIfInBounds_toArray, List.set_cons_zero, List.set_cons_succ]
              refine wpAnyL_move (i := 7) (v := ?_) (by rfl) (by kernel_rfl) (by kernel_rfl) (by kernel_rfl) (by rfl) (by exact fun _ _ _ h => h) (Or.inl ⟨by rfl, ?_⟩) (by assumption) ?_; rotate_left; · (intro w0; go_simp; try with_reducible rfl)
              try simp only [Act.put, List.setIfInBounds_toArray, List.set_cons_zero, List.set_cons_succ]
              refine wpAnyL_done (by kernel_rfl) ?_ _
              have HQ8 := Lib.hid (hQ.out.below hHeld)
              clear hHeld ho ce hb8 D0 D1 D2 D3 HQB HMA hQ
              go_wp2_with (fail)
              refine wp_region_late (S := Below w8.heap.size w8) (late := []) (by kernel_rfl) (below_drewN w8 1) (fun hHeld => ?_)
              refine wpAnyL_move (i := 0) (v := ?_) (by rfl) (by kernel_rfl) (by kernel_rfl) (by kernel_rfl) (by rfl) (by exact fun _ _ _ h => h) (Or.inl ⟨by rfl, ?_⟩) (by assumption) ?_; rotate_left; · (intro w0; go_simp; try with_reducible rfl)
              try simp only [Act.put, List.setIfInBounds_toArray, List.set_cons_zero, List.set_cons_succ]
              refine wpAnyL_move (i := 1) (v := ?_) (by rfl) (by kernel_rfl) (by kernel_rfl) (by kernel_rfl) (by rfl) (by exact fun _ _ _ h => h) (Or.inl ⟨by rfl, ?_⟩) (by assumption) ?_; rotate_left; · (intro w0; go_simp; try with_reducible rfl)
              try simp only [Act.put, List.setIfInBounds_toArray, List.set_cons_zero, List.set_cons_succ]
              refine wpAnyL_move (i := 3) (v := ?_) (by rfl) (by kernel_rfl) (by kernel_rfl) (by kernel_rfl) (by rfl) (by exact fun _ _ _ h => h) (Or.inl ⟨by rfl, ?_⟩) (by assumption) ?_; rotate_left; · (intro w0; go_simp; try with_reducible rfl)
              try simp only [Act.put, List.setIfInBounds_toArray, List.set_cons_zero, List.set_cons_succ]
              refine wpAnyL_move (i := 4) (v := ?_) (by rfl) (by kernel_rfl) (by kernel_rfl) (by kernel_rfl) (by rfl) (by exact fun _ _ _ h => h) (Or.inl ⟨by rfl, ?_⟩) (by assumption) ?_; rotate_left; · (intro w0; go_simp; try with_reducible rfl)
              try simp only [Act.put, List.setIfInBounds_toArray, List.set_cons_zero, List.set_cons_succ]
              refine wpAnyL_move (i := 5) (v := ?_) (by rfl) (by kernel_rfl) (by kernel_rfl) (by kernel_rfl) (by rfl) (by exact fun _ _ _ h => h) (Or.inl ⟨by rfl, ?_⟩) (by assumption) ?_; rotate_left; · (intro w0; go_simp; try with_reducible rfl)
              try simp only [Act.put, List.setIfInBounds_toArray, List.set_cons_zero, List.set_cons_succ]
              refine wpAnyL_move (i := 6) (v := ?_) (by rfl) (by kernel_rfl) (by kernel_rfl) (by kernel_rfl) (by rfl) (by exact fun _ _ _ h => h) (Or.inl ⟨by rfl, ?_⟩) (by assumption) ?_; rotate_left; · (intro w0; go_simp; try with_reducible rfl)
              try simp only [Act.put, List.setIfInBounds_toArray, List.set_cons_zero, List.set_cons_succ]
              refine wpAnyL_each (rs := [2]) (by kernel_rfl) (by simp) ?_
              refine EachL.cons (by rfl) (by rfl) (fun K hK => ?_) EachL.nil
              go_simp
              refine (HFr _).out.mono ?_
              rintro e w9 ⟨rfl, hb9⟩
              dsimp only
              refine hK.out _ _ (hHeld.trans (hb9.mono hHeld.size)) (fun hHeld => ?_)
              clear hK K
              try simp only [Act.put, List.setIfInBounds_toArray, List.set_cons_zero, List.set_cons_succ]
              refine wpAnyL_move (i := 7) (v := ?_) (by rfl) (by kernel_rfl) (by kernel_rfl) (by kernel_rfl) (by rfl) (by exact fun _ _ _ h => h) (Or.inl ⟨by rfl, ?_⟩) (by assumption) ?_; rotate_left; · (intro w0; go_simp; try with_reducible rfl)
              try simp only [Act.put, List.setIfInBounds_toArray, List.set_cons_zero, List.set_cons_succ]
              refine wpAnyL_done (by kernel_rfl) ?_ _
              have HQ9 := Lib.hid (HQ8.out.below hHeld)
              clear hHeld hb9 HQ8
              by_cases hm : want = frameB (endFrom 1 ll) s
              · obtain ⟨is, his, hsz0, hsz1, hsz2⟩ := info_parts infoString
                have HC := Lib.hid (HNX.out hm.symm)
                have HB9 := Lib.hid HQ9.out.own.1
                have hm9 := HB9.out.lt
                have D9 : Hid (w9.cell? ⟨w1.heap.size, 0, none⟩ = some (.slice la ll.length lc)) := HB9.out.cell 0
                have HL2 : Hid (strLen (.string left2) < strLen (.string left)) := hl2
                have O1 : Hid (∀ u ∈ [Value.string s], u.oneCell' = true) := fun u hu => by simp at hu; subst hu; rfl
                have OO : Hid (∀ u ∈ ll.map Value.string, u.oneCell' = true) := fun u hu => by obtain ⟨t, _, rfl⟩ := List.mem_map.1 hu; rfl
                have NA : Hid (0 + ll.length ≤ maxLen) := by show 0 + ll.length ≤ maxLen; simp only [maxLen]; omega
                have NB : Hid ((0 + ll.length) * 16 ≤ 140737488355328) := by show (0 + ll.length) * 16 ≤ _; omega
                have NC : Hid (ll.length + 1 ≤ maxLen) := by show ll.length + 1 ≤ maxLen; simp only [maxLen]; omega
                have ND : Hid ((ll.length + 1) * 16 ≤ 140737488355328) := by show (ll.length + 1) * 16 ≤ _; omega
                have HCM : Hid ((!((frameB (endFrom 1 ll) s).toList == want.toList)) = false) := by show _ = false; rw [toList_decide, decide_eq_true hm.symm]; rfl
                clear HNX hm HTK
                have HPS : ∀ w6 g6 c6, w6.ownsRow w9.heap.size 9 1 (.slice (some ⟨g6, 0, none⟩) (ll.length + 1) c6) (ll.length + 1) ((ll ++ [s]).map Value.string) → Below w9.heap.size w9 w6 → Hid (TornB w w1.heap.size b (frames 1 l ++ rest) (.slice (some ⟨g6, 0, none⟩) (ll.length + 1) c6) (ll ++ [s]) left2 (w6.setCell ⟨w1.heap.size, 0, none⟩ (.slice (some ⟨g6, 0, none⟩) (ll.length + 1) c6))) := fun w6 g6 c6 h1 h2 => TornB.push HQ9.out h2 h1 HSS.out HC.out
                have HX9 : ∀ w6, Below w9.heap.size w9 w6 → Hid (w6.cell? ⟨w1.heap.size, 0, none⟩ = some (.slice la ll.length lc) ∧ w6.frozen? ⟨w1.heap.size, 0, none⟩ = false) := fun w6 h2 => ⟨(h2.cell (p := ⟨w1.heap.size, 0, none⟩) hm9).trans D9.out, (h2.frozen (p := ⟨w1.heap.size, 0, none⟩) hm9).trans (HB9.out.frozen 0)⟩
                have HSR : ∀ w6, Below w9.heap.size w9 w6 → Hid (SrcR w6 la ll.length 1 (ll.map Value.string)) := fun w6 h2 => (HQ9.out.own.2.below h2).src
                go_wp2_with (fail)
                · rename_i hh
                  exact absurd (HCM.out.symm.trans hh) (by decide)
                refine wp_region_late (S := Below w9.heap.size w9) (late := [12]) (by kernel_rfl) (below_drewN w9 1) (fun hHeld => ?_)
                refine wpAnyL_move (i := 1) (v := ?_) (by rfl) (by kernel_rfl) (by kernel_rfl) (by kernel_rfl) (by rfl) (by exact fun _ _ _ h => h) (Or.inl ⟨by rfl, ?_⟩) (by assumption) ?_; rotate_left; · (intro w0; go_simp; try with_reducible rfl)
                try simp only [Act.put, List.setIfInBounds_toArray, List.set_cons_zero, List.set_cons_succ]
                refine wpAnyL_load (i := 2) (v := ?_) (by rfl) (by kernel_rfl) (by kernel_rfl) (by kernel_rfl) (by rfl) (by kernel_rfl) (by exact fun _ _ _ h => h) (Or.inl ⟨by rfl, ?_⟩) (by assumption) ?_; rotate_left; · (intro w0 hS0; have k0 : w0.cell? ⟨w1.heap.size, 0, none⟩ = some (.slice la ll.length lc) := (hS0.cell (p := ⟨w1.heap.size, 0, none⟩) hm9).trans D9.out; go_simp; try with_reducible rfl)
                try simp only [Act.put, List.setIfInBounds_toArray, List.set_cons_zero, List.set_cons_succ]
                refine wpAnyL_move (i := 4) (v := ?_) (by rfl) (by kernel_rfl) (by kernel_rfl) (by kernel_rfl) (by rfl) (by exact fun _ _ _ h => h) (Or.inl ⟨by rfl, ?_⟩) (by assumption) ?_; rotate_left; · (intro w0; go_simp; try with_reducible rfl)
                try simp only [Act.put, List.setIfInBounds_toArray, List.set_cons_zero, List.set_cons_succ]
                refine wpAnyL_move (i := 7) (v := ?_) (by rfl) (by kernel_rfl) (by kernel_rfl) (by kernel_rfl) (by rfl) (by exact fun _ _ _ h => h) (Or.inl ⟨by rfl, ?_⟩) (by assumption) ?_; rotate_left; · (intro w0; go_simp; try with_reducible rfl)
                try simp only [Act.put, List.setIfInBounds_toArray, List.set_cons_zero, List.set_cons_succ]
                refine wpAnyL_move (i := 8) (v := ?_) (by rfl) (by kernel_rfl) (by kernel_rfl) (by kernel_rfl) (by rfl) (by exact fun _ _ _ h => h) (Or.inl ⟨by rfl, ?_⟩) (by assumption) ?_; rotate_left; · (intro w0; go_simp; try with_reducible rfl)
                try simp only [Act.put, List.setIfInBounds_toArray, List.set_cons_zero, List.set_cons_succ]
                refine wpAnyL_move (i := 9) (v := ?_) (by rfl) (by kernel_rfl) (by kernel_rfl) (by kernel_rfl) (by rfl) (by exact fun _ _ _ h => h) (Or.inl ⟨by rfl, ?_⟩) (by assumption) ?_; rotate_left; · (intro w0; go_simp; try with_reducible rfl)
                try simp only [Act.put, List.setIfInBounds_toArray, List.set_cons_zero, List.set_cons_succ]
                refine wpAnyL_move (i := 10) (v := ?_) (by rfl) (by kernel_rfl) (by kernel_rfl) (by kernel_rfl) (by rfl) (by exact fun _ _ _ h => h) (Or.inl ⟨by rfl, ?_⟩) (by assumption) ?_; rotate_left; · (intro w0; go_simp; try with_reducible rfl)
                try simp only [Act.put, List.setIfInBounds_toArray, List.set_cons_zero, List.set_cons_succ]
                refine wpAnyL_each (rs := [0, 5]) (by kernel_rfl) (by simp) ?_
                refine EachL.cons (by rfl) (by rfl) (fun K hK => ?_) ?_
                · go_simp
                  refine hK.out _ _ (hHeld.alloc hHeld.size _) (fun hHeld => ?_)
                  clear hK K
                  try simp only [Act.put, List.setIfInBounds_toArray, List.set_cons_zero, List.set_cons_succ]
                  refine wpAnyL_each (rs := [3, 5]) (by kernel_rfl) (by simp) ?_
                  refine EachL.cons (by rfl) (by rfl) (fun K hK => ?_) ?_
                  · refine step_append_any _ (by rfl) _ _ 51 (by rfl) w9.heap.size 9 is _ 1 16 Try.underlying51 his hsz0 hsz1 hsz2 rfl (by omega) (.slice (some ⟨w9.heap.size, 0, none⟩) 0 0) 0 [] (by rfl) (own_lit_got (show Got _ _ _ from (Got.new _ _ (by simp))) (by omega)) _ ll.length lc (ll.map Value.string) (by rfl) (HSR _ hHeld).out OO.out NA.out NB.out hHeld.size ?_; intro v3 w3 p0 g3 _; have p1 := own_shape p0 (Nat.zero_add _) (List.nil_append _); clear p0; obtain ⟨a3, c3, rfl⟩ := own_form p1
                    refine hK.out _ _ (hHeld.grown g3 hHeld.size (fun k hk => by simp [Value.ownBlock] at hk; omega)) (fun hHeld => ?_)
                    clear hK K
                    try simp only [Act.put, List.setIfInBounds_toArray, List.set_cons_zero, List.set_cons_succ]
                    refine wpAnyL_each (rs := [5]) (by kernel_rfl) (by simp) ?_
                    refine EachL.cons (by rfl) (by rfl) (fun K hK => ?_) ?_
                    · go_simp
                      refine hK.out _ _ (hHeld.alloc hHeld.size _) (fun hHeld => ?_)
                      clear hK K
                      try simp only [Act.put, List.setIfInBounds_toArray, List.set_cons_zero, List.set_cons_succ]
                      refine wpAnyL_each (rs := [6]) (by kernel_rfl) (by simp) ?_
                      refine EachL.cons (by rfl) (by rfl) (fun K hK => ?_) ?_
                      · refine step_append_lies _ (by rfl) _ _ 51 (by rfl) w9.heap.size 9 is _ 1 16 Try.underlying51 his hsz0 hsz1 hsz2 rfl (by omega) (.slice a3 ll.length c3) ll.length (ll.map Value.string) (by rfl) (own_same p1 (fun k hk => Below.heap_alloc _ _ k (p1.lt k hk).2)) _ 1 1 [Value.string s] (by rfl) (by rfl) (World.news_of_block (cs := #[Value.string s]) (t := 9) (fr := (0, 0)) (show Got _ _ _ from (Got.new _ _ (by simp)))) O1.out (by omega) NC.out ND.out hHeld.size _ rfl ?_; intro g6 c6 w6 q1 q2 q3 q4
                        refine hK.out _ _ (hHeld.grown q2 hHeld.size (fun k hk => (p1.lt k hk).1)) (fun hHeld => ?_)
                        clear hK K
                        try simp only [Act.put, List.setIfInBounds_toArray, List.set_cons_zero, List.set_cons_succ]
                        refine wpAnyL_move (i := 11) (v := ?_) (by rfl) (by kernel_rfl) (by kernel_rfl) (by kernel_rfl) (by rfl) (by exact fun _ _ _ h => h) (Or.inl ⟨by rfl, ?_⟩) (by assumption) ?_; rotate_left; · (intro w0; go_simp; try with_reducible rfl)
                        try simp only [Act.put, List.setIfInBounds_toArray, List.set_cons_zero, List.set_cons_succ]
                        have PS := HPS w6 g6 c6 (own_shape q1 rfl (by simp)) hHeld; have k6 := (HX9 _ hHeld).out.1; have z6 := (HX9 _ hHeld).out.2; clear hHeld q1 q2 q3 q4 p1 g3 HPS HX9 HSR
                        refine wpAnyL_late (i := 12) (by kernel_rfl) (by rfl) (by rfl) (fun K hK => ?_)
                        go_simp
                        refine hK.out _ _ ?_
                        clear hK K
                        try simp only [Act.put, List.setIfInBounds_toArray, List.set_cons_zero, List.set_cons_succ]
                        refine wpAny_move (i := 13) (v := ?_) (by rfl) (by kernel_rfl) (by kernel_rfl) (by kernel_rfl) (by exact fun _ _ _ h => h) (Or.inl ⟨by rfl, ?_⟩) ?_; rotate_left; · (intro w0; go_simp; try with_reducible rfl)
                        try simp only [Act.put, List.setIfInBounds_toArray, List.set_cons_zero, List.set_cons_succ]
                        refine wpAny_done (by kernel_rfl) ?_ _
                        go_wp2
                        go_roundw
                        case rel => exact ⟨_, _, _, rfl, PS⟩
                        case measure => exact HL2.out
                      exact EachL.nil
                    exact EachL.nil
                  refine EachL.cons (by rfl) (by rfl) (fun K hK => ?_) ?_
                  · go_simp
                    refine hK.out _ _ (hHeld.alloc hHeld.size _) (fun hHeld => ?_)
                    clear hK K
                    try simp only [Act.put, List.setIfInBounds_toArray, List.set_cons_zero, List.set_cons_succ]
                    refine wpAnyL_each (rs := [3]) (by kernel_rfl) (by simp) ?_
                    refine EachL.cons (by rfl) (by rfl) (fun K hK => ?_) ?_
                    · refine step_append_any _ (by rfl) _ _ 51 (by rfl) w9.heap.size 9 is _ 1 16 Try.underlying51 his hsz0 hsz1 hsz2 rfl (by omega) (.slice (some ⟨w9.heap.size, 0, none⟩) 0 0) 0 [] (by rfl) (own_lit_got (show Got _ _ _ from ((Got.new _ _ (by simp)).alloc _)) (by omega)) _ ll.length lc (ll.map Value.string) (by rfl) (HSR _ hHeld).out OO.out NA.out NB.out hHeld.size ?_; intro v3 w3 p0 g3 _; have p1 := own_shape p0 (Nat.zero_add _) (List.nil_append _); clear p0; obtain ⟨a3, c3, rfl⟩ := own_form p1
                      refine hK.out _ _ (hHeld.grown g3 hHeld.size (fun k hk => by simp [Value.ownBlock] at hk; omega)) (fun hHeld => ?_)
                      clear hK K
                      try simp only [Act.put, List.setIfInBounds_toArray, List.set_cons_zero, List.set_cons_succ]
                      refine wpAnyL_each (rs := [6]) (by kernel_rfl) (by simp) ?_
                      refine EachL.cons (by rfl) (by rfl) (fun K hK => ?_) ?_
                      · refine step_append_lies _ (by rfl) _ _ 51 (by rfl) w9.heap.size 9 is _ 1 16 Try.underlying51 his hsz0 hsz1 hsz2 rfl (by omega) (.slice a3 ll.length c3) ll.length (ll.map Value.string) (by rfl) p1 _ 1 1 [Value.string s] (by rfl) (by rfl) (World.news_of_block (cs := #[Value.string s]) (t := 9) (fr := (0, 0)) (show Got _ _ _ from ((Got.new _ _ (by simp)).drew.grown g3 (by first | (simp [Value.ownBlock]; done) | (simp [Value.ownBlock]; omega))))) O1.out (by omega) NC.out ND.out hHeld.size _ rfl ?_; intro g6 c6 w6 q1 q2 q3 q4
                        refine hK.out _ _ (hHeld.grown q2 hHeld.size (fun k hk => (p1.lt k hk).1)) (fun hHeld => ?_)
                        clear hK K
                        try simp only [Act.put, List.setIfInBounds_toArray, List.set_cons_zero, List.set_cons_succ]
                        refine wpAnyL_move (i := 11) (v := ?_) (by rfl) (by kernel_rfl) (by kernel_rfl) (by kernel_rfl) (by rfl) (by exact fun _ _ _ h => h) (Or.inl ⟨by rfl, ?_⟩) (by assumption) ?_; rotate_left; · (intro w0; go_simp; try with_reducible rfl)
                        try simp only [Act.put, List.setIfInBounds_toArray, List.set_cons_zero, List.set_cons_succ]
                        have PS := HPS w6 g6 c6 (own_shape q1 rfl (by simp)) hHeld; have k6 := (HX9 _ hHeld).out.1; have z6 := (HX9 _ hHeld).out.2; clear hHeld q1 q2 q3 q4 p1 g3 HPS HX9 HSR
                        refine wpAnyL_late (i := 12) (by kernel_rfl) (by rfl) (by rfl) (fun K hK => ?_)
                        go_simp
                        refine hK.out _ _ ?_
                        clear hK K
                        try simp only [Act.put, List.setIfInBounds_toArray, List.set_cons_zero, List.set_cons_succ]
                        refine wpAny_move (i := 13) (v := ?_) (by rfl) (by kernel_rfl) (by kernel_rfl) (by kernel_rfl) (by exact fun _ _ _ h => h) (Or.inl ⟨by rfl, ?_⟩) ?_; rotate_left; · (intro w0; go_simp; try with_reducible rfl)
                        try simp only [Act.put, List.setIfInBounds_toArray, List.set_cons_zero, List.set_cons_succ]
                        refine wpAny_done (by kernel_rfl) ?_ _
                        go_wp2
                        go_roundw
                        case rel => exact ⟨_, _, _, rfl, PS⟩
                        case measure => exact HL2.out
                      exact EachL.nil
                    exact EachL.nil
                  exact EachL.nil
                refine EachL.cons (by rfl) (by rfl) (fun K hK => ?_) ?_
                · go_simp
                  refine hK.out _ _ (hHeld.alloc hHeld.size _) (fun hHeld => ?_)
                  clear hK K
                  try simp only [Act.put, List.setIfInBounds_toArray, List.set_cons_zero, List.set_cons_succ]
                  refine wpAnyL_each (rs := [0]) (by kernel_rfl) (by simp) ?_
                  refine EachL.cons (by rfl) (by rfl) (fun K hK => ?_) ?_
                  · go_simp
                    refine hK.out _ _ (hHeld.alloc hHeld.size _) (fun hHeld => ?_)
                    clear hK K
                    try simp only [Act.put, List.setIfInBounds_toArray, List.set_cons_zero, List.set_cons_succ]
                    refine wpAnyL_each (rs := [3]) (by kernel_rfl) (by simp) ?_
                    refine EachL.cons (by rfl) (by rfl) (fun K hK => ?_) ?_
                    · refine step_append_any _ (by rfl) _ _ 51 (by rfl) w9.heap.size 9 is _ 1 16 Try.underlying51 his hsz0 hsz1 hsz2 rfl (by omega) (.slice (some ⟨w9.heap.size + 1, 0, none⟩) 0 0) 0 [] (by rfl) (own_lit_got (show Got _ _ _ from (Got.new _ _ (by simp))) (by omega)) _ ll.length lc (ll.map Value.string) (by rfl) (HSR _ hHeld).out OO.out NA.out NB.out hHeld.size ?_; intro v3 w3 p0 g3 _; have p1 := own_shape p0 (Nat.zero_add _) (List.nil_append _); clear p0; obtain ⟨a3, c3, rfl⟩ := own_form p1
                      refine hK.out _ _ (hHeld.grown g3 hHeld.size (fun k hk => by simp [Value.ownBlock] at hk; omega)) (fun hHeld => ?_)
                      clear hK K
                      try simp only [Act.put, List.setIfInBounds_toArray, List.set_cons_zero, List.set_cons_succ]
                      refine wpAnyL_each (rs := [6]) (by kernel_rfl) (by simp) ?_
                      refine EachL.cons (by rfl) (by rfl) (fun K hK => ?_) ?_
                      · refine step_append_lies _ (by rfl) _ _ 51 (by rfl) w9.heap.size 9 is _ 1 16 Try.underlying51 his hsz0 hsz1 hsz2 rfl (by omega) (.slice a3 ll.length c3) ll.length (ll.map Value.string) (by rfl) p1 _ 1 1 [Value.string s] (by rfl) (by rfl) (World.news_of_block (cs := #[Value.string s]) (t := 9) (fr := (0, 0)) (show Got _ _ _ from (((Got.new _ _ (by simp)).alloc _).drew.grown g3 (by first | (simp [Value.ownBlock]; done) | (simp [Value.ownBlock]; omega))))) O1.out (by omega) NC.out ND.out hHeld.size _ rfl ?_; intro g6 c6 w6 q1 q2 q3 q4
                        refine hK.out _ _ (hHeld.grown q2 hHeld.size (fun k hk => (p1.lt k hk).1)) (fun hHeld => ?_)
                        clear hK K
                        try simp only [Act.put, List.setIfInBounds_toArray, List.set_cons_zero, List.set_cons_succ]
                        refine wpAnyL_move (i := 11) (v := ?_) (by rfl) (by kernel_rfl) (by kernel_rfl) (by kernel_rfl) (by rfl) (by exact fun _ _ _ h => h) (Or.inl ⟨by rfl, ?_⟩) (by assumption) ?_; rotate_left; · (intro w0; go_simp; try with_reducible rfl)
                        try simp only [Act.put, List.setIfInBounds_toArray, List.set_cons_zero, List.set_cons_succ]
                        have PS := HPS w6 g6 c6 (own_shape q1 rfl (by simp)) hHeld; have k6 := (HX9 _ hHeld).out.1; have z6 := (HX9 _ hHeld).out.2; clear hHeld q1 q2 q3 q4 p1 g3 HPS HX9 HSR
                        refine wpAnyL_late (i := 12) (by kernel_rfl) (by rfl) (by rfl) (fun K hK => ?_)
                        go_simp
                        refine hK.out _ _ ?_
                        clear hK K
                        try simp only [Act.put, List.setIfInBounds_toArray, List.set_cons_zero, List.set_cons_succ]
                        refine wpAny_move (i := 13) (v := ?_) (by rfl) (by kernel_rfl) (by kernel_rfl) (by kernel_rfl) (by exact fun _ _ _ h => h) (Or.inl ⟨by rfl, ?_⟩) ?_; rotate_left; · (intro w0; go_simp; try with_reducible rfl)
                        try simp only [Act.put, List.setIfInBounds_toArray, List.set_cons_zero, List.set_cons_succ]
                        refine wpAny_done (by kernel_rfl) ?_ _
                        go_wp2
                        go_roundw
                        case rel => exact ⟨_, _, _, rfl, PS⟩
                        case measure => exact HL2.out
                      exact EachL.nil
                    exact EachL.nil
                  exact EachL.nil
                exact EachL.nil
              · have htf : takenOk left (endFrom 1 ll) = false := by rw [HTK.out, decide_eq_false hm]
                have HTF := Lib.hid htf
                have HCM : Hid ((!((frameB (endFrom 1 ll) s).toList == want.toList)) = true) := by show _ = true; rw [toList_decide, decide_eq_false (fun e => hm e.symm)]; rfl
                clear htf
                go_wp2_with (fail)
                · go_meet
                  case rel => exact ⟨ll, left, _, HTF.out, HQ9⟩
                · rename_i hh
                  exact absurd (HCM.out.symm.trans hh) (by decide)
            · have HTK : Hid (takenOk left (endFrom 1 ll) = false) := by show takenOk left _ = false; unfold takenOk; rw [decide_eq_false hf]; rfl
              have hx : numAt left 0 4 < 1 ∨ (¬ numAt left 0 4 < 1 ∧ 8192 < numAt left 0 4) ∨ (¬ numAt left 0 4 < 1 ∧ ¬ 8192 < numAt left 0 4 ∧ left.size < numAt left 0 4 + 12) := by
                unfold fits at hf
                omega
              clear hf
              generalize numAt left 0 4 = n at *
              have hw1 : IntKind.u64.wrap (left.size : Int) = (left.size : Int) := by rw [IntKind.wrap_u64]; omega
              have hw2 : IntKind.u64.wrap ((n : Int) + 12) = (n : Int) + 12 := by rw [IntKind.wrap_u64]; omega
              clear hre hro hex
              go_wp2_with (fail)
              refine HNu.out.mono ?_
              rintro e w' ⟨rfl, rfl⟩
              clear HNu
              obtain hx | ⟨hx1, hx2⟩ | ⟨hx1, hx2, hx3⟩ := hx
              all_goals
                go_wp2_with (fail)
                go_meet
                case rel => exact ⟨ll, left, lv, HTK.out, hQ⟩
      case rest =>
        obtain ⟨ll, left, lv, htk, hQ⟩ := hcut
        rename World => w5
        obtain ⟨hre, hro⟩ := hQ.out.recsOk
        have hcz : (frames 1 l).size + rest.size = (frames 1 ll).size + left.size := by
          have := congrArg ByteArray.size hQ.out.cut
          rwa [ByteArray.size_append, ByteArray.size_append] at this
        have hfz := frames_size ll 1
        obtain ⟨la, lc, rfl⟩ := hQ.out.own.2.form
        have c1 : w5.cell? ⟨w1.heap.size, 1, none⟩ = some (.int .i64 0) := hQ.out.own.1.cell 1
        have c0 : w5.cell? ⟨w1.heap.size, 0, none⟩ = some (.slice la ll.length lc) := hQ.out.own.1.cell 0
        have z1 := hQ.out.own.1.frozen 1
        have HOp := Lib.hid ((hQ.out.sure ll.length).open_ (t_stable _ _ _ _) (by omega) ll left hQ.out.cut hQ.out.sizes htk)
        have HSM : Hid ((frames 1 l).size + rest.size ≤ 300000) := HSUM.out
        have HSZ : Hid (∀ s ∈ ll, 1 ≤ s.size ∧ s.size ≤ 8192) := hQ.out.sizes
        have HRO := Lib.hid hro
        have hsum := HSM.out
        clear htk hQ
        go_wp2_with (fail)
        refine HOp.out.mono ?_
        rintro e w7 ⟨lb, rfl, h7⟩
        have H7 := Lib.hid h7
        have HSA : ∀ lb W, LW w (tK w1.heap.size (.slice la ll.length lc)) (tP w1.heap.size (.slice la ll.length lc) ll ll.length) b lb (frames 1 ll) 0 (openG ll 0) W → Hid (Calls Try.prog 53 #[.pointer (some ⟨lb, 0, none⟩), .agg #[.slice la ll.length lc, .int .i64 (ll.length : Int), .int .i64 0, .int .u64 0], .agg #[.int .i64 0, .int .i64 0, .string ⟨#[]⟩, .int .u64 0, .int .i64 0, .int .u64 0, .int .i64 0, .int .i64 0, .int .i64 0]] W fun e w' => e = .returned (.bool true) ∧ Below W.heap.size W w') := fun lb W hW => hW.says0 hW.ownP.2
        have HMA : ∀ W, Below w7.heap.size w7 W → Hid (Calls Try.prog 52 #[.agg #[.slice la ll.length lc, .int .i64 (ll.length : Int), .int .i64 0, .int .u64 0]] W (AtPost W ll)) := fun W hW =>
          mat_c W _ ll _ _ _ (h7.below (t_stable _ _ _ _) hW).ownP.2 HRO.out.len HRO.out.end_ HRO.out.sizes
        have B7 := Lib.hid h7.ownP.1
        have hmb := B7.out.lt
        have D0 : Hid (w7.cell? ⟨w1.heap.size, 0, none⟩ = some (.slice la ll.length lc)) := B7.out.cell 0
        have D1 : Hid (w7.cell? ⟨w1.heap.size, 1, none⟩ = some (.int .i64 (ll.length : Int))) := B7.out.cell 1
        have D2 : Hid (w7.cell? ⟨w1.heap.size, 2, none⟩ = some (.int .i64 0)) := B7.out.cell 2
        have D3 : Hid (w7.cell? ⟨w1.heap.size, 3, none⟩ = some (.int .u64 0)) := B7.out.cell 3
        have e1 : IntKind.u64.wrap ((endFrom 1 ll : Int) - 1) = (endFrom 1 ll : Int) - 1 := by rw [IntKind.wrap_u64]; omega
        have e2 : IntKind.i64.wrap ((endFrom 1 ll : Int) - 1) = (endFrom 1 ll : Int) - 1 := by rw [IntKind.wrap_i64]; omega
        have e3 : IntKind.i64.wrap (((frames 1 l).size : Int) + (rest.size : Int)) = ((frames 1 l).size : Int) + (rest.size : Int) := by rw [IntKind.wrap_i64]; omega
        have e4 : IntKind.i64.wrap (((frames 1 l).size : Int) + (rest.size : Int) - ((endFrom 1 ll : Int) - 1)) = (left.size : Int) := by rw [IntKind.wrap_i64]; omega
        have EG : Hid (1 ≤ endFrom 1 ll) := endFrom_le ll 1
        clear hcz hfz hre hro h7 HOp c0 c1 z1
        go_wp2_with (fail)
        refine wp_region_late (S := Below w7.heap.size w7) (late := []) (by kernel_rfl) (below_drewN w7 1) (fun hHeld => ?_)
        refine wpAnyL_move (i := 0) (v := ?_) (by rfl) (by kernel_rfl) (by kernel_rfl) (by kernel_rfl) (by rfl) (by exact fun _ _ _ h => h) (Or.inl ⟨by rfl, ?_⟩) (by assumption) ?_; rotate_left; · (intro w0; go_simp; try with_reducible rfl)
        try simp only [Act.put, List.setIfInBounds_toArray, List.set_cons_zero, List.set_cons_succ]
        refine wpAnyL_move (i := 1) (v := ?_) (by rfl) (by kernel_rfl) (by kernel_rfl) (by kernel_rfl) (by rfl) (by exact fun _ _ _ h => h) (Or.inl ⟨by rfl, ?_⟩) (by assumption) ?_; rotate_left; · (intro w0; go_simp; try with_reducible rfl)
        try simp only [Act.put, List.setIfInBounds_toArray, List.set_cons_zero, List.set_cons_succ]
        refine wpAnyL_move (i := 2) (v := ?_) (by rfl) (by kernel_rfl) (by kernel_rfl) (by kernel_rfl) (by rfl) (by exact fun _ _ _ h => h) (Or.inl ⟨by rfl, ?_⟩) (by assumption) ?_; rotate_left; · (intro w0; go_simp; try with_reducible rfl)
        try simp only [Act.put, List.setIfInBounds_toArray, List.set_cons_zero, List.set_cons_succ]
        refine wpAnyL_move (i := 3) (v := ?_) (by rfl) (by kernel_rfl) (by kernel_rfl) (by kernel_rfl) (by rfl) (by exact fun _ _ _ h => h) (Or.inl ⟨by rfl, ?_⟩) (by assumption) ?_; rotate_left; · (intro w0; go_simp; try with_reducible rfl)
        try simp only [Act.put, List.setIfInBounds_toArray, List.set_cons_zero, List.set_cons_succ]
        refine wpAnyL_move (i := 4) (v := ?_) (by rfl) (by kernel_rfl) (by kernel_rfl) (by kernel_rfl) (by rfl) (by exact fun _ _ _ h => h) (Or.inl ⟨by rfl, ?_⟩) (by assumption) ?_; rotate_left; · (intro w0; go_simp; try with_reducible rfl)
        try simp only [Act.put, List.setIfInBounds_toArray, List.set_cons_zero, List.set_cons_succ]
        refine wpAnyL_move (i := 5) (v := ?_) (by rfl) (by kernel_rfl) (by kernel_rfl) (by kernel_rfl) (by rfl) (by exact fun _ _ _ h => h) (Or.inl ⟨by rfl, ?_⟩) (by assumption) ?_; rotate_left; · (intro w0; go_simp; try with_reducible rfl)
        try simp only [Act.put, List.setIfInBounds_toArray, List.set_cons_zero, List.set_cons_succ]
        refine wpAnyL_move (i := 6) (v := ?_) (by rfl) (by kernel_rfl) (by kernel_rfl) (by kernel_rfl) (by rfl) (by exact fun _ _ _ h => h) (Or.inl ⟨by rfl, ?_⟩) (by assumption) ?_; rotate_left; · (intro w0; go_simp; try with_reducible rfl)
        try simp only [Act.put, List.setIfInBounds_toArray, List.set_cons_zero, List.set_cons_succ]
        refine wpAnyL_move (i := 7) (v := ?_) (by rfl) (by kernel_rfl) (by kernel_rfl) (by kernel_rfl) (by rfl) (by exact fun _ _ _ h => h) (Or.inl ⟨by rfl, ?_⟩) (by assumption) ?_; rotate_left; · (intro w0; go_simp; try with_reducible rfl)
        try simp only [Act.put, List.setIfInBounds_toArray, List.set_cons_zero, List.set_cons_succ]
        refine wpAnyL_move (i := 8) (v := ?_) (by rfl) (by kernel_rfl) (by kernel_rfl) (by kernel_rfl) (by rfl) (by exact fun _ _ _ h => h) (Or.inl ⟨by rfl, ?_⟩) (by assumption) ?_; rotate_left; · (intro w0; go_simp; try with_reducible rfl)
        try simp only [Act.put, List.setIfInBounds_toArray, List.set_cons_zero, List.set_cons_succ]
        refine wpAnyL_move (i := 9) (v := ?_) (by rfl) (by kernel_rfl) (by kernel_rfl) (by kernel_rfl) (by rfl) (by exact fun _ _ _ h => h) (Or.inl ⟨by rfl, ?_⟩) (by assumption) ?_; rotate_left; · (intro w0; go_simp; try with_reducible rfl)
        try simp only [Act.put, List.setIfInBounds_toArray, List.set_cons_zero, List.set_cons_succ]
        refine wpAnyL_move (i := 10) (v := ?_) (by rfl) (by kernel_rfl) (by kernel_rfl) (by kernel_rfl) (by rfl) (by exact fun _ _ _ h => h) (Or.inl ⟨by rfl, ?_⟩) (by assumption) ?_; rotate_left; · (intro w0; go_simp; try with_reducible rfl)
        try simp only [Act.put, List.setIfInBounds_toArray, List.set_cons_zero, List.set_cons_succ]
        refine wpAnyL_move (i := 11) (v := ?_) (by rfl) (by kernel_rfl) (by kernel_rfl) (by kernel_rfl) (by rfl) (by exact fun _ _ _ h => h) (Or.inl ⟨by rfl, ?_⟩) (by assumption) ?_; rotate_left; · (intro w0; go_simp; try with_reducible rfl)
        try simp only [Act.put, List.setIfInBounds_toArray, List.set_cons_zero, List.set_cons_succ]
        refine wpAnyL_move (i := 12) (v := ?_) (by rfl) (by kernel_rfl) (by kernel_rfl) (by kernel_rfl) (by rfl) (by exact fun _ _ _ h => h) (Or.inl ⟨by rfl, ?_⟩) (by assumption) ?_; rotate_left; · (intro w0; go_simp; try with_reducible rfl)
        try simp only [Act.put, List.setIfInBounds_toArray, List.set_cons_zero, List.set_cons_succ]
        refine wpAnyL_load (i := 13) (v := ?_) (by rfl) (by kernel_rfl) (by kernel_rfl) (by kernel_rfl) (by rfl) (by kernel_rfl) (by exact fun _ _ _ h => h) (Or.inl ⟨by rfl, ?_⟩) (by assumption) ?_; rotate_left; · (intro w0 hS0; have k0 : w0.cell? ⟨w1.heap.size, 0, none⟩ = some (.slice la ll.length lc) := (hS0.cell (p := ⟨w1.heap.size, 0, none⟩) hmb).trans D0.out; have k1 : w0.cell? ⟨w1.heap.size, 1, none⟩ = some (.int .i64 (ll.length : Int)) := (hS0.cell (p := ⟨w1.heap.size, 1, none⟩) hmb).trans D1.out; have k2 : w0.cell? ⟨w1.heap.size, 2, none⟩ = some (.int .i64 0) := (hS0.cell (p := ⟨w1.heap.size, 2, none⟩) hmb).trans D2.out; have k3 : w0.cell? ⟨w1.heap.size, 3, none⟩ = some (.int .u64 0) := (hS0.cell (p := ⟨w1.heap.size, 3, none⟩) hmb).trans D3.out; go_simp; try with_reducible rfl)
        try simp only [Act.put, List.setIfInBounds_toArray, List.set_cons_zero, List.set_cons_succ]
        refine wpAnyL_move (i := 15) (v := ?_) (by rfl) (by kernel_rfl) (by kernel_rfl) (by kernel_rfl) (by rfl) (by exact fun _ _ _ h => h) (Or.inl ⟨by rfl, ?_⟩) (by assumption) ?_; rotate_left; · (intro w0; go_simp; try with_reducible rfl)
        try simp only [Act.put, List.setIfInBounds_toArray, List.set_cons_zero, List.set_cons_succ]
        refine wpAnyL_load (i := 16) (v := ?_) (by rfl) (by kernel_rfl) (by kernel_rfl) (by kernel_rfl) (by rfl) (by kernel_rfl) (by exact fun _ _ _ h => h) (Or.inl ⟨by rfl, ?_⟩) (by assumption) ?_; rotate_left; · (intro w0 hS0; have k0 : w0.cell? ⟨w1.heap.size, 0, none⟩ = some (.slice la ll.length lc) := (hS0.cell (p := ⟨w1.heap.size, 0, none⟩) hmb).trans D0.out; have k1 : w0.cell? ⟨w1.heap.size, 1, none⟩ = some (.int .i64 (ll.length : Int)) := (hS0.cell (p := ⟨w1.heap.size, 1, none⟩) hmb).trans D1.out; have k2 : w0.cell? ⟨w1.heap.size, 2, none⟩ = some (.int .i64 0) := (hS0.cell (p := ⟨w1.heap.size, 2, none⟩) hmb).trans D2.out; have k3 : w0.cell? ⟨w1.heap.size, 3, none⟩ = some (.int .u64 0) := (hS0.cell (p := ⟨w1.heap.size, 3, none⟩) hmb).trans D3.out; go_simp; try with_reducible rfl)
        try simp only [Act.put, List.setIfInBounds_toArray, List.set_cons_zero, List.set_cons_succ]
        refine wpAnyL_move (i := 17) (v := ?_) (by rfl) (by kernel_rfl) (by kernel_rfl) (by kernel_rfl) (by rfl) (by exact fun _ _ _ h => h) (Or.inl ⟨by rfl, ?_⟩) (by assumption) ?_; rotate_left; · (intro w0; go_simp; try with_reducible rfl)
        try simp only [Act.put, List.setIfInBounds_toArray, List.set_cons_zero, List.set_cons_succ]
        refine wpAnyL_each (rs := [14]) (by kernel_rfl) (by simp) ?_
        refine EachL.cons (by rfl) (by rfl) (fun K hK => ?_) EachL.nil
        go_simp
        refine (HMA _ hHeld).out.mono ?_
        rintro e w8 ⟨ag, agc, rfl, ho, hb8⟩
        have ce : w8.cell? ⟨ag, ll.length, none⟩ = some (.int .u64 (endFrom 1 ll : Int)) := by
          rw [ho.cellAt ll.length (by omega), plRow_get ll (Nat.le_refl _)]
          show some (Value.int .u64 (endFrom 1 (ll.take ll.length) : Int)) = _
          rw [List.take_length]
        have hgc : ll.length + 1 ≤ agc ∧ agc ≤ maxLen := by
          rcases ho.2 with ⟨e, _⟩ | ⟨g', c', cur, e, _, _, h1, h2, _⟩
          · cases e
          · cases e
            exact ⟨h1, h2⟩
        obtain ⟨hgc1, hgc2⟩ := hgc
        have hll : (ll.length : Int) < (ll.length : Int) + 1 := by omega
        dsimp only
        refine hK.out _ _ (hHeld.trans (hb8.mono hHeld.size)) (fun hHeld => ?_)
        clear hK K
        try simp only [Act.put, List.setIfInBounds_toArray, List.set_cons_zero, List.set_cons_succ]
        refine wpAnyL_move (i := 18) (v := ?_) (by rfl) (by kernel_rfl) (by kernel_rfl) (by kernel_rfl) (by rfl) (by exact fun _ _ _ h => h) (Or.inl ⟨by rfl, ?_⟩) (by assumption) ?_; rotate_left; · (intro w0; go_simp; try with_reducible rfl)
        try simp only [Act.put, List.setIfInBounds_toArray, List.set_cons_zero, List.set_cons_succ]
        refine wpAnyL_each (rs := [19]) (by kernel_rfl) (by simp) ?_
        refine EachL.cons (by rfl) (by rfl) (fun K hK => ?_) EachL.nil
        go_simp
        refine hK.out _ _ hHeld (fun hHeld => ?_)
        clear hK K
        try simp only [Act.put, List.setIfInBounds_toArray, List.set_cons_zero, List.set_cons_succ]
        refine wpAnyL_move (i := 20) (v := ?_) (by rfl) (by kernel_rfl) (by kernel_rfl) (by kernel_rfl) (by rfl) (by exact fun _ _ _ h => h) (Or.inl ⟨by rfl, ?_⟩) (by assumption) ?_; rotate_left; · (intro w0; go_simp; try with_reducible rfl)
        try simp only [Act.put, List.setIfInBounds_toArray, List.set_cons_zero, List.set_cons_succ]
        refine wpAnyL_move (i := 21) (v := ?_) (by rfl) (by kernel_rfl) (by kernel_rfl) (by kernel_rfl) (by rfl) (by exact fun _ _ _ h => h) (Or.inl ⟨by rfl, ?_⟩) (by assumption) ?_; rotate_left; · (intro w0; go_simp; try with_reducible rfl)
        try simp only [Act.put, List.setIfInBounds_toArray, List.set_cons_zero, List.set_cons_succ]
        refine wpAnyL_move (i := 22) (v := ?_) (by rfl) (by kernel_rfl) (by kernel_rfl) (by kernel_rfl) (by rfl) (by exact fun _ _ _ h => h) (Or.inl ⟨by rfl, ?_⟩) (by assumption) ?_; rotate_left; · (intro w0; go_simp; try with_reducible rfl)
        try simp only [Act.put, List.setIfInBounds_toArray, List.set_cons_zero, List.set_cons_succ]
        refine wpAnyL_move (i := 23) (v := ?_) (by rfl) (by kernel_rfl) (by kernel_rfl) (by kernel_rfl) (by rfl) (by exact fun _ _ _ h => h) (Or.inl ⟨by rfl, ?_⟩) (by assumption) ?_; rotate_left; · (intro w0; go_simp; try with_reducible rfl)
        try simp only [Act.put, List.setIfInBounds_toArray, List.set_cons_zero, List.set_cons_succ]
        refine wpAnyL_move (i := 24) (v := ?_) (by rfl) (by kernel_rfl) (by kernel_rfl) (by kernel_rfl) (by rfl) (by exact fun _ _ _ h => h) (Or.inl ⟨by rfl, ?_⟩) (by assumption) ?_; rotate_left; · (intro w0; go_simp; try with_reducible rfl)
        try simp only [Act.put, List.setIfInBounds_toArray, List.set_cons_zero, List.set_cons_succ]
        refine wpAnyL_move (i := 25) (v := ?_) (by rfl) (by kernel_rfl) (by kernel_rfl) (by kernel_rfl) (by rfl) (by exact fun _ _ _ h => h) (Or.inl ⟨by rfl, ?_⟩) (by assumption) ?_; rotate_left; · (intro w0; go_simp; try with_reducible rfl)
        try simp only [Act.put, List.setIfInBounds_toArray, List.set_cons_zero, List.set_cons_succ]
        refine wpAnyL_move (i := 26) (v := ?_) (by rfl) (by kernel_rfl) (by kernel_rfl) (by kernel_rfl) (by rfl) (by exact fun _ _ _ h => h) (Or.inl ⟨by rfl, ?_⟩) (by assumption) ?_; rotate_left; · (intro w0; go_simp; try with_reducible rfl)
        try simp only [Act.put, List.setIfInBounds_toArray, List.set_cons_zero, List.set_cons_succ]
        refine wpAnyL_load (i := 27) (v := ?_) (by rfl) (by kernel_rfl) (by kernel_rfl) (by kernel_rfl) (by rfl) (by kernel_rfl) (by exact fun _ _ _ h => h) (Or.inl ⟨by rfl, ?_⟩) (by assumption) ?_; rotate_left; · (intro w0 hS0; have k0 : w0.cell? ⟨w1.heap.size, 0, none⟩ = some (.slice la ll.length lc) := (hS0.cell (p := ⟨w1.heap.size, 0, none⟩) hmb).trans D0.out; have k1 : w0.cell? ⟨w1.heap.size, 1, none⟩ = some (.int .i64 (ll.length : Int)) := (hS0.cell (p := ⟨w1.heap.size, 1, none⟩) hmb).trans D1.out; have k2 : w0.cell? ⟨w1.heap.size, 2, none⟩ = some (.int .i64 0) := (hS0.cell (p := ⟨w1.heap.size, 2, none⟩) hmb).trans D2.out; have k3 : w0.cell? ⟨w1.heap.size, 3, none⟩ = some (.int .u64 0) := (hS0.cell (p := ⟨w1.heap.size, 3, none⟩) hmb).trans D3.out; go_simp; try with_reducible rfl)
        try simp only [Act.put, List.setIfInBounds_toArray, List.set_cons_zero, List.set_cons_succ]
        refine wpAnyL_move (i := 28) (v := ?_) (by rfl) (by kernel_rfl) (by kernel_rfl) (by kernel_rfl) (by rfl) (by exact fun _ _ _ h => h) (Or.inl ⟨by rfl, ?_⟩) (by assumption) ?_; rotate_left; · (intro w0; go_simp; try with_reducible rfl)
        try simp only [Act.put, List.setIfInBounds_toArray, List.set_cons_zero, List.set_cons_succ]
        refine wpAnyL_each (rs := [29]) (by kernel_rfl) (by simp) ?_
        refine EachL.cons (by rfl) (by rfl) (fun K hK => ?_) EachL.nil
        go_simp
        refine (HSA _ _ (H7.out.below (t_stable _ _ _ _) hHeld)).out.mono ?_
        rintro e w9 ⟨rfl, hb9⟩
        dsimp only
        refine hK.out _ _ (hHeld.trans (hb9.mono hHeld.size)) (fun hHeld => ?_)
        clear hK K
        try simp only [Act.put, List.setIfInBounds_toArray, List.set_cons_zero, List.set_cons_succ]
        refine wpAnyL_move (i := 30) (v := ?_) (by rfl) (by kernel_rfl) (by kernel_rfl) (by kernel_rfl) (by rfl) (by exact fun _ _ _ h => h) (Or.inl ⟨by rfl, ?_⟩) (by assumption) ?_; rotate_left; · (intro w0; go_simp; try with_reducible rfl)
        try simp only [Act.put, List.setIfInBounds_toArray, List.set_cons_zero, List.set_cons_succ]
        refine wpAnyL_move (i := 31) (v := ?_) (by rfl) (by kernel_rfl) (by kernel_rfl) (by kernel_rfl) (by rfl) (by exact fun _ _ _ h => h) (Or.inl ⟨by rfl, ?_⟩) (by assumption) ?_; rotate_left; · (intro w0; go_simp; try with_reducible rfl)
        try simp only [Act.put, List.setIfInBounds_toArray, List.set_cons_zero, List.set_cons_succ]
        refine wpAnyL_done (by kernel_rfl) ?_ _
        have H9 := Lib.hid (H7.out.below (t_stable _ _ _ _) hHeld)
        have HO2 := Lib.hid (H9.out.disk.open_ (t_stable _ _ _ _) (by omega) ll ⟨#[]⟩ (bytes_nil _).symm HSZ.out (takenOk_short (by decide) _))
        clear hHeld ho ce hb8 hb9
        go_wp2_with (fail)
        refine HO2.out.mono ?_
        rintro e w10 ⟨lb2, rfl, h10⟩
        have HS2 := HSA _ _ h10
        have B10 := Lib.hid h10.ownP.1
        have D0 : w10.cell? ⟨w1.heap.size, 0, none⟩ = some (.slice la ll.length lc) := B10.out.cell 0
        have D1 : w10.cell? ⟨w1.heap.size, 1, none⟩ = some (.int .i64 (ll.length : Int)) := B10.out.cell 1
        have D2 : w10.cell? ⟨w1.heap.size, 2, none⟩ = some (.int .i64 0) := B10.out.cell 2
        have D3 : w10.cell? ⟨w1.heap.size, 3, none⟩ = some (.int .u64 0) := B10.out.cell 3
        have HB10 : Hid (Below w.heap.size w w10) := h10.base
        clear h10
        go_wp2_with (fail)
        refine HS2.out.mono ?_
        rintro e w11 ⟨rfl, hb11⟩
        have HB11 : Hid (Below w.heap.size w w11) := HB10.out.trans (hb11.mono HB10.out.size)
        clear hb11
        go_wp2
        go_ret
        exact ⟨rfl, HB11.out⟩
end Go.Proofs.Ytnobiekgifjaeaa
