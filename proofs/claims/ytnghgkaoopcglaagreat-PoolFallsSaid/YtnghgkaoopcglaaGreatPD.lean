/-
  The walk of a pool's Dirty, where there is one frame, and of SortFunc over one.
-/
import Derived.Test.YtnghgkaoopcglaaGreatPW
import Derived.Test.YtnghgkaoopcglaaGreatKS
import Derived.Maps.RangeWalk
import Derived.Maps.OwnIn
namespace Go.Proofs.YtnghgkaoopcglaaGreat
open Go Go.RowKit
attribute [local go_sem ↓] Go.wp_at_zero Go.wp_at_succ

theorem infoDirty : (Tryz.prog.info? 50).map (fun i => (i.zero, i.size, i.bytes)) = some (some (.agg #[.int .u32 0, .int .u64 0]), 2, 16) := by kernel_rfl
set_option maxRecDepth 100000 in
set_option maxHeartbeats 2000000 in
theorem insDirty1 (s : Value) (f : Value) (w : World) : Calls Tryz.prog 163 #[s, .int .i64 0, .int .i64 1, f] w fun e w' => e = .returned (.tuple #[]) ∧ w' = w := by
  go_enter Tryz.func163, Tryz.ntmps163
  go_wp2
  go_loopw [8] (fun vi wr => vi = .int .i64 1 ∧ wr = w) (fun _ _ => 0)
  case atStart => exact ⟨rfl, rfl⟩
  case round =>
    obtain ⟨rfl, rfl⟩ := hrel
    go_wp2
    go_end0
    exact ⟨rfl, rfl⟩
set_option maxRecDepth 100000 in
set_option maxHeartbeats 2000000 in
theorem pdqDirty1 (s : Value) (f : Value) (lim : Int) (w : World) : Calls Tryz.prog 142 #[s, .int .i64 0, .int .i64 1, .int .i64 lim, f] w fun e w' => e = .returned (.tuple #[]) ∧ w' = w := by
  have HI := Lib.hid (insDirty1 s f w)
  go_enter Tryz.func142, Tryz.ntmps142
  go_wp2_with (fail)
  go_loopw [1, 2, 3] (fun a b c wr => a = .int .i64 0 ∧ b = .int .i64 1 ∧ wr = w) (fun _ _ _ _ => 0)
  case atStart => exact ⟨rfl, rfl, rfl⟩
  case round =>
    obtain ⟨rfl, rfl, rfl⟩ := hrel
    go_wp2_with (fail)
    refine HI.out.mono ?_
    rintro e w' ⟨rfl, h⟩
    go_wp2
    refine bodyPost_ret (results_none rfl _ _ _) rfl ?_
    first | exact ⟨rfl, h⟩ | exact ⟨rfl, rfl⟩
set_option maxRecDepth 100000 in
set_option maxHeartbeats 2000000 in
theorem sortDirty1 (a : Option Addr) (c : Nat) (f : Value) (w : World) : Calls Tryz.prog 107 #[.slice a 1 c, f] w fun e w' => e = .returned (.tuple #[]) ∧ w' = w := by
  have HB := fun W => Lib.hid (Tryz.bits_Len 1 W (by omega) (by omega))
  have HP := fun lim => Lib.hid (pdqDirty1 (.slice a 1 c) f lim w)
  go_enter Tryz.func107, Tryz.ntmps107
  go_wp2_with (fail)
  refine (HB _).out.mono ?_
  rintro e w' ⟨rfl, rfl⟩
  go_wp2_with (fail)
  refine (HP _).out.mono ?_
  rintro e w' ⟨rfl, rfl⟩
  go_wp2
  go_end0
  exact ⟨rfl, rfl⟩
set_option maxRecDepth 100000 in
set_option maxHeartbeats 4000000 in
theorem pdirty1_c {w : World} {H : Nat → Prop} {pb b lb mb n : Nat} {pk : Value} {v : Value} {q : Po} {f : Fr} (h : PoolIn w H pb b lb mb pk [(n, v)] q) (hq : q.frames = [(n, f)]) (hd : f.dirty ≠ 0) :
    Calls Tryz.prog 68 #[.pointer (some ⟨pb, 0, none⟩)] w fun e w' => ∃ a c, e = .returned (.slice a 1 c) ∧ Below w.heap.size w w' := by
  obtain ⟨i0, hi, hz0, hz1, hz2⟩ := info_parts infoDirty
  have c3 : w.cell? ⟨pb, 3, none⟩ = some (.map (some mb)) := h.cells.2.2.2.1
  have hfr := h.frs
  rw [hq] at hfr
  obtain ⟨sa, sl, sc, hv⟩ : ∃ sa sl sc, v = FrV f (.slice sa sl sc) := by
    cases hfr with
    | cons h1 _ =>
      obtain ⟨sv, e, hr, _⟩ := h1.val
      obtain ⟨sa, sc, rfl⟩ := hr.form
      exact ⟨sa, _, sc, e⟩
  have hown := h.map.own
  have hrs := h.map.rising
  have HSD := fun a c fv W => Lib.hid (sortDirty1 a c fv W)
  have hfd : ¬ ((f.dirty : Int) = 0) := by omega
  have hlt := h.map.lt
  clear h hfr hq hd
  obtain ⟨fp, fd⟩ := f
  subst hv
  unfold FrV at hown hrs
  simp only at hown hrs hfd
  have hsz1 : ([(n, (Value.agg #[.int .u32 (fp.num : Int), .int .u64 (fp.lsn : Int), .int .i64 fp.kind, .string fp.head, .slice sa sl sc, .int .u64 (fd : Int)]))] : List (Nat × Value)).length = 1 := rfl
  rw [hsz1] at hown
  go_enter Tryz.func68, Tryz.ntmps68
  go_wp2_with (first
    | (at_range; refine wpList_range_own _ rfl _ 158 rfl 48 156 keyedP Tryz.underlying158 anyV mb 1 _ rfl hown ?_; intro w0 hrg0 hg0 hs0)
    | go_in)
  go_frame
  have HRS := Lib.hid hrs
  have HOWN := Lib.hid hown
  go_loopw [3] (fun vo wr => ∃ (left : Lit → Bool) (cnt : Nat) (ss : List Nat), wr.ranges Tryz.prog 48 anyV mb w.heap.size 1 (mapD [(n, (Value.agg #[.int .u32 (fp.num : Int), .int .u64 (fp.lsn : Int), .int .i64 fp.kind, .string fp.head, .slice sa sl sc, .int .u64 (fd : Int)]))]) left cnt ∧ ss.length + cnt ≤ 1 ∧ GotK [(n, (Value.agg #[.int .u32 (fp.num : Int), .int .u64 (fp.lsn : Int), .int .i64 fp.kind, .string fp.head, .slice sa sl sc, .int .u64 (fd : Int)]))] left ss ∧ ((ss = [] ∧ vo = .slice none 0 0) ∨ (ss.length = 1 ∧ ∃ a c, vo = .slice a 1 c)) ∧ Hid (Below w.heap.size w wr))
    (fun _ wr => wr.rangeLeft mb w.heap.size)
  case atStart =>
    exact ⟨_, _, [], hrg0, by simp [mapD_size], GotK.start _, .inl ⟨rfl, rfl⟩, (Below.refl _ w).grown hg0 (Nat.le_refl _) (fun k e => by cases e)⟩
  case round =>
    obtain ⟨left, cnt, ss, hrg, hcs, hC, hvo, hB⟩ := hrel
    clear hown c3 hrg0 hg0 hs0
    go_wp2_with (first
      | (at_next; refine wpList_next_ranges _ rfl _ rfl 48 keyedP anyV encP id (fun key kl hk => by obtain ⟨x, hx, _⟩ := keyOf_page hk; exact ⟨x, hx⟩) (fun v _ _ => ⟨v, rfl⟩) mb w.heap.size 1 _ _ _ rfl hrg ?_ ?_)
      | go_in)
    · intro hc0 hl0
      have hp := (hC.done HRS.out hl0).length_eq
      rcases hvo with ⟨rfl, _⟩ | ⟨_, a, c, rfl⟩
      · simp at hp
      · have HS1 := HSD a c
        go_wp2_with (fail)
        refine (HS1 _ _).out.mono ?_
        rintro e w' ⟨rfl, rfl⟩
        go_wp2
        go_ret
        exact ⟨a, c, rfl, hB.out⟩
    · intro x c kl yd yp w2 cnt2 hkey hlk hv hat hrg2 hlt2 hg2 hs2 hen
      obtain ⟨x', ex, rfl⟩ := keyOf_page hkey
      obtain rfl : x = x' := encP_inj ex
      have hin := has_of_at hat
      have hxn : x = n := by
        unfold getL at hin
        split at hin
        · rename_i e; exact e.symm
        · simp [getL] at hin
      subst hxn
      have hc : c = (Value.agg #[.int .u32 (fp.num : Int), .int .u64 (fp.lsn : Int), .int .i64 fp.kind, .string fp.head, .slice sa sl sc, .int .u64 (fd : Int)]) := by
        have h1 := hat (.held (.bool true))
        rw [mapD_at] at h1
        have h2 : getL x [(x, (Value.agg #[.int .u32 (fp.num : Int), .int .u64 (fp.lsn : Int), .int .i64 fp.kind, .string fp.head, .slice sa sl sc, .int .u64 (fd : Int)]))] = some (Value.agg #[.int .u32 (fp.num : Int), .int .u64 (fp.lsn : Int), .int .i64 fp.kind, .string fp.head, .slice sa sl sc, .int .u64 (fd : Int)]) := by simp [getL]
        rw [h2] at h1
        unfold anyV at hv
        simp at hv h1
        rw [← hv.1] at h1
        simpa using h1.symm
      subst hc
      have hss : ss = [] := List.eq_nil_of_length_eq_zero (by omega)
      subst hss
      rcases hvo with ⟨_, rfl⟩ | ⟨e, _⟩
      rotate_left
      · simp at e
      have HC2 := Lib.hid (hC.step hlk hin)
      have HB2 : Hid (Below w.heap.size w w2) := hB.out.grown hg2 hB.out.size (fun k e => by cases e; exact Nat.le_refl _)
      have HRG2 := Lib.hid hrg2
      have hml : mb < w2.heap.size := hrg2.owns.lt
      have HM : Hid (wr.rangeLeft mb w.heap.size = cnt) := hrg.left_eq
      have HLT := Lib.hid hlt2
      have HCS : Hid (0 + cnt ≤ 1) := by show _ ≤ _; simpa using hcs
      clear hkey hlk hv hat hin hC hB hrg2 hcs hg2 hrg hlt2 ex hs2
      have hg5 : Below w.heap.size w (w2.alloc (.cells #[.int .u32 (fp.num : Int), .int .u64 (fp.lsn : Int), .int .i64 fp.kind, .string fp.head, .slice sa sl sc, .int .u64 (fd : Int)] 156)) := HB2.out.alloc HB2.out.size _
      obtain ⟨w3, hw3⟩ : ∃ w3, (w2.alloc (.cells #[.int .u32 (fp.num : Int), .int .u64 (fp.lsn : Int), .int .i64 fp.kind, .string fp.head, .slice sa sl sc, .int .u64 (fd : Int)] 156)).alloc (.cells #[encP x, .int .u64 (fd : Int)] 50) = w3 := ⟨_, rfl⟩
      have hg6 : Below w.heap.size w w3 := by rw [← hw3]; exact hg5.alloc hg5.size _
      have hrg3 := (HRG2.out.alloc (.cells #[.int .u32 (fp.num : Int), .int .u64 (fp.lsn : Int), .int .i64 fp.kind, .string fp.head, .slice sa sl sc, .int .u64 (fd : Int)] 156)).alloc (.cells #[encP x, .int .u64 (fd : Int)] 50)
      rw [hw3] at hrg3
      have HRG3 := Lib.hid hrg3
      have HB6 := Lib.hid hg6
      have HW3 := Lib.hid hw3
      clear hg5 hg6 hrg3 hw3 HRG2
      have HBK : Hid (w3.heap[w2.heap.size + 1]? = some (.cells #[encP x, .int .u64 (fd : Int)] 50 (0, 0))) := by
        show w3.heap[w2.heap.size + 1]? = _
        have := heap_alloc_new (w2.alloc (.cells #[.int .u32 (fp.num : Int), .int .u64 (fp.lsn : Int), .int .i64 fp.kind, .string fp.head, .slice sa sl sc, .int .u64 (fd : Int)] 156)) (.cells #[encP x, .int .u64 (fd : Int)] 50)
        rw [HW3.out] at this
        simpa using this
      have N1 : Hid (0 + 1 ≤ maxLen) := by show _ ≤ maxLen; decide
      have N2 : Hid ((0 + 1) * 16 ≤ 140737488355328) := by show _ ≤ _; decide
      have N3 : Hid (w.heap.size ≤ w3.heap.size) := HB6.out.size
      have O1 : Hid (∀ u ∈ [encP x, Value.int .u64 (fd : Int)], u.oneCell' = true) := fun u hu => by simp at hu; rcases hu with rfl | rfl <;> rfl
      go_wp2_with (at_builtin; rw [HW3.out]; refine wpList_append_lies _ (by rfl) _ _ 29 (by rfl) w.heap.size 50 i0 _ 2 16 Tryz.underlying29 hi hz0 hz1 hz2 rfl (by omega) (.slice none 0 0) 0 [] (by rfl) (World.ownsRow_nil _ _ _ _) ⟨w2.heap.size + 1, 0, none⟩ 1 1 [encP x, .int .u64 (fd : Int)] (by rfl) (by rfl) (World.news_of_block (cs := #[encP x, .int .u64 (fd : Int)]) (t := 50) (fr := (0, 0)) HBK.out) O1.out (by omega) N1.out N2.out N3.out _ rfl ?_; intro g4 c4 w4 ho hg hat hlt4)
      have hrg4 := HRG3.out.kept hg (by simp [Value.ownBlock]) (by simp [Value.ownBlock])
      have HRG4 := Lib.hid hrg4
      have HB7 : Hid (Below w.heap.size w w4) := HB6.out.grown hg HB6.out.size (fun k e => by simp [Value.ownBlock] at e)
      clear ho hg hat hlt4 hrg4
      go_roundw
      case rel => exact ⟨_, cnt2, [] ++ [x], HRG4.out, by have := HCS.out; have := HLT.out; simp; omega, HC2.out, .inr ⟨rfl, _, _, rfl⟩, HB7.out⟩
      case measure => rw [HRG4.out.left_eq, HM.out]; exact HLT.out
end Go.Proofs.YtnghgkaoopcglaaGreat
