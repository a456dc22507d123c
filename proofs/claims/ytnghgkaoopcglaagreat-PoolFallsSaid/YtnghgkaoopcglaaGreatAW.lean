/-
  girderlaw06's awake: a page that was put is there.
-/
import Derived.Test.YtnghgkaoopcglaaGreatRL
namespace Go.Proofs.YtnghgkaoopcglaaGreat
open Go.RowKit
attribute [local go_sem ↓] Go.wp_at_zero Go.wp_at_succ

section
variable {w0 W W' : World} {b lb pb : Nat} {m m' : Dk} {g g' : Lg} {q q' : Po}
theorem PL.put (h : PL w0 b lb pb m g q W) (hb : Below W.heap.size W W') (hp : PlanOk m) (hl : m.loose.length ≤ 1000000) (hpk : q.picks = []) (h12 : q.frames.length ≤ 12) (x : Sh) (sv : Value) (hrx : Reads W' sv x.slots) (hso : ∀ k, sv.ownBlock = some k → W.heap.size ≤ k) (hmx : x.mild) :
    Calls Tryz.prog 22 #[.pointer (some ⟨pb, 0, none⟩), ShV x sv] W' fun e w' => e = .returned (.int .i64 (putQ m g q x).1) ∧ PL w0 b lb pb (putQ m g q x).2.1 (putQ m g q x).2.2.1 (putQ m g q x).2.2.2 w' := by
  obtain ⟨U, h1, h2, h3⟩ := h
  exact (pput_c (h1.below hb) hp hl hpk h12 x sv hrx (fun k hk hu => by have := hso k hk; have := (h2 k hu).2; omega) hmx).mono fun e w' ⟨he, hpp⟩ => ⟨he, PL.post (fun r hr => (h2 r hr).1) (h3.trans (hb.mono h3.size)) hpp⟩
theorem PL.get (h : PL w0 b lb pb m g q W) (hp : PlanOk m) (hl : m.loose.length ≤ 1000000) (hpk : q.picks = []) (h12 : q.frames.length ≤ 12) (n : Nat) (hn : n ≤ 4294967295) :
    Calls Tryz.prog 24 #[.pointer (some ⟨pb, 0, none⟩), .int .u32 (n : Int)] W fun e w' => ∃ sv, e = .returned (.tuple #[ShV (getQ m g q n).1 sv, .int .i64 (getQ m g q n).2.1]) ∧ Reads w' sv (getQ m g q n).1.slots ∧ PL w0 b lb pb (getQ m g q n).2.2.1 (getQ m g q n).2.2.2.1 (getQ m g q n).2.2.2.2 w' := by
  obtain ⟨U, h1, h2, h3⟩ := h
  exact (pget_c h1 hp hl hpk h12 n hn).mono fun e w' ⟨sv, he, hr, _, hpp⟩ => ⟨sv, he, hr, PL.post (fun r hr => (h2 r hr).1) h3 hpp⟩
theorem PL.write (h : PL w0 b lb pb m g q W) (hp : PlanOk m) (hl : m.loose.length ≤ 1000000) (n : Nat) (hn : n ≤ 1000000) :
    Calls Tryz.prog 23 #[.pointer (some ⟨pb, 0, none⟩), .int .u32 (n : Int)] W fun e w' => e = .returned (.int .i64 (writeQ m g q n).1) ∧ PL w0 b lb pb (writeQ m g q n).2.1 (writeQ m g q n).2.2.1 (writeQ m g q n).2.2.2 w' :=
  h.calls fun _U h1 _ => pwrite_c h1 hp hl n hn
theorem PL.append (h : PL w0 b lb pb m g q W) (ht : g.tight) (s : ByteArray) (hs : s.size ≤ 9223372036854775807) :
    Calls Tryz.prog 15 #[.pointer (some ⟨lb, 0, none⟩), .string s] W fun e w' => e = .returned (addV g s g.kept) ∧ PL w0 b lb pb m (g.tryAdd s g.kept) q w' :=
  h.log fun _G h1 => lappend_c h1 ht s hs
end
theorem below_one (w : World) (o : Obj) : Below w.heap.size w (w.alloc o) := (Below.refl _ w).alloc (Nat.le_refl _) o
theorem reads_one (w : World) (s : ByteArray) (t : Nat) : Reads (w.alloc (.cells #[.string s] t)) (.slice (some ⟨w.heap.size, 0, none⟩) 1 1) [s] := by
  refine .inr ⟨_, 1, rfl, Nat.le_refl _, by decide, by simp, fun i x hi => ?_⟩
  match i, hi with
  | 0, hi => cases hi; exact (Blk.new w t #[.string s]).cell 0
def a6 : ByteArray := ⟨#[97]⟩
def g6a : Lg := openG [] 0
def g6b : Lg := g6a.add a6
theorem a6_size : a6.size = 1 := rfl
theorem g6a_end : g6a.end_ = 1 := rfl
theorem g6_add : g6a.tryAdd a6 g6a.kept = g6b := by
  unfold Lg.tryAdd
  rw [if_neg (by unfold badRec; rw [a6_size]; omega), if_neg (by unfold addFull; rw [a6_size, g6a_end]; show ¬ _ < _ + _ + (0 : Int); omega)]
  rfl
theorem g6_addV : addV g6a a6 g6a.kept = .tuple #[.int .u64 1, .int .i64 0] := by
  unfold addV
  rw [if_neg (by unfold badRec; rw [a6_size]; omega), if_neg (by unfold addFull; rw [a6_size, g6a_end]; show ¬ _ < _ + _ + (0 : Int); omega)]
  rfl
def x6 : Sh := ⟨3, 1, 2, ⟨#[]⟩, [⟨#[120]⟩]⟩
def q6 : Po := (Po.new 4).put x6 0
theorem x6_fit : x6.fit := ⟨⟨by show (0 : Int) ≤ 2; decide, by show (2 : Int) ≤ 255; decide, by show (0 : Nat) ≤ 32; decide, by show (1 : Nat) ≤ 64; decide⟩, by show (0 : Int) ≤ 485 - 0 - _; decide, by show 3 < _; omega, by show 1 < _; omega⟩
theorem x6_mild : x6.mild := Sh.mild_of x6_fit.encE (by show 3 < _; omega) (by show 1 < _; omega)
theorem put6 (m : Dk) (g : Lg) : putQ m g (Po.new 4) x6 = (0, m, g, q6) := by
  unfold putQ
  rw [if_neg (by show ¬ (3 < 1 ∨ 2048 < 3); omega), x6_fit.encE]
  rfl
theorem q6_frames : q6.frames = [(3, ⟨x6, 1⟩)] := rfl
theorem get6 (m : Dk) (g : Lg) : getQ m g q6 3 = (x6, 0, m, g, q6) := by
  unfold getQ
  rw [if_neg (by omega), q6_frames]
  rfl
theorem PL.dirty6 {w0 W : World} {b lb pb : Nat} {m : Dk} {g : Lg} (h : PL w0 b lb pb m g q6 W) :
    Calls Tryz.prog 68 #[.pointer (some ⟨pb, 0, none⟩)] W fun e w' => ∃ a c, e = .returned (.slice a 1 c) ∧ Below w0.heap.size w0 w' := by
  have hB := h.base
  obtain ⟨F, G, H, mb, pk, vs, _, h2⟩ := h.parts
  have hfr := h2.frs
  rw [q6_frames] at hfr
  cases hfr with
  | cons h1 h3 =>
    cases h3
    rename_i a
    obtain ⟨k, v⟩ := a
    obtain rfl : k = 3 := h1.key
    exact (pdirty1_c h2 q6_frames (by decide)).mono fun e w' ⟨a, c, he, hb⟩ => ⟨a, c, he, hB.trans (hb.mono hB.size)⟩
set_option maxRecDepth 100000 in
set_option maxHeartbeats 1000000 in
theorem awake6_c (w : World) : Calls Tryz.prog 21 #[] w fun e w' => e = .returned (.bool true) ∧ Below w.heap.size w w' := by
  have HN := Lib.hid (begun6_c w 8 4 (by omega) (by omega) (by omega) (by omega))
  have HA : ∀ W b lb pb, PL w b lb pb (Dk.fresh 8) g6a (Po.new 4) W → Hid (Calls Tryz.prog 15 #[.pointer (some ⟨lb, 0, none⟩), .string ⟨#[97]⟩] W fun e w' => e = .returned (.tuple #[.int .u64 1, .int .i64 0]) ∧ PL w b lb pb (Dk.fresh 8) g6b (Po.new 4) w') := fun W b lb pb h => by
    have := h.append (by show 0 + 1 ≤ 1; omega) a6 (by rw [a6_size]; omega)
    rw [g6_addV, g6_add] at this
    exact this
  have HP : ∀ W W' b lb pb, PL w b lb pb (Dk.fresh 8) g6b (Po.new 4) W → Below W.heap.size W W' → ∀ r, Reads W' (.slice (some ⟨r, 0, none⟩) 1 1) [⟨#[120]⟩] → W.heap.size ≤ r → Hid (Calls Tryz.prog 22 #[.pointer (some ⟨pb, 0, none⟩), .agg #[.int .u32 3, .int .u64 1, .int .i64 2, .string ⟨#[]⟩, .slice (some ⟨r, 0, none⟩) 1 1]] W' fun e w' => e = .returned (.int .i64 0) ∧ PL w b lb pb (Dk.fresh 8) g6b q6 w') := fun W W' b lb pb h hb r hr hw => by
    have := h.put hb (.inl rfl) (Nat.zero_le _) rfl (Nat.zero_le _) x6 (.slice (some ⟨r, 0, none⟩) 1 1) hr (fun k hk => by simp [Value.ownBlock] at hk; omega) x6_mild
    rw [put6] at this
    exact this
  have HG : ∀ W b lb pb, PL w b lb pb (Dk.fresh 8) g6b q6 W → Hid (Calls Tryz.prog 24 #[.pointer (some ⟨pb, 0, none⟩), .int .u32 3] W fun e w' => ∃ a c, e = .returned (.tuple #[.agg #[.int .u32 3, .int .u64 1, .int .i64 2, .string ⟨#[]⟩, .slice a 1 c], .int .i64 0]) ∧ PL w b lb pb (Dk.fresh 8) g6b q6 w') := fun W b lb pb h => by
    have := h.get (.inl rfl) (Nat.zero_le _) rfl (by decide) 3 (by omega)
    rw [get6] at this
    refine this.mono fun e w' ⟨sv, he, hr, hp⟩ => ?_
    obtain ⟨a, c, rfl⟩ := hr.form
    exact ⟨a, c, he, hp⟩
  have HD : ∀ W b lb pb, PL w b lb pb (Dk.fresh 8) g6b q6 W → Hid (Calls Tryz.prog 68 #[.pointer (some ⟨pb, 0, none⟩)] W fun e w' => ∃ a c, e = .returned (.slice a 1 c) ∧ Below w.heap.size w w') := fun W b lb pb h => h.dirty6
  go_enter Tryz.func21, Tryz.ntmps21
  go_wp2_with (fail)
  refine HN.out.mono ?_; rintro e w1 ⟨b, lb, pb, rfl, l1⟩
  have L1 := HA _ _ _ _ l1
  clear l1 HN
  go_wp2_with (fail)
  refine L1.out.mono ?_; rintro e w2 ⟨rfl, l2⟩
  have L2 := fun W' => HP _ W' _ _ _ l2
  clear l2 L1 HA HP
  go_wp2_with (fail)
  have hz := L2 (w2.alloc (Obj.cells #[Value.string ⟨#[120]⟩] 9)) (below_one _ _) w2.heap.size (reads_one _ _ _) (Nat.le_refl _)
  clear L2
  refine hz.out.mono ?_; rintro e w3 ⟨rfl, l3⟩
  have L3 := HG _ _ _ _ l3
  clear l3 hz HG
  go_wp2_with (fail)
  refine L3.out.mono ?_; rintro e w4 ⟨a, c, rfl, l4⟩
  have L4 := HD _ _ _ _ (l4.below (below_one _ (.cells #[.int .u32 3, .int .u64 1, .int .i64 2, .string ⟨#[]⟩, .slice a 1 c] 84)))
  clear L3 HD l4
  go_wp2_with (fail)
  refine L4.out.mono ?_; rintro e w5 ⟨ra, rc, rfl, hb⟩
  have HB := Lib.hid hb
  clear L4 hb
  go_wp2
  go_ret
  exact ⟨rfl, HB.out⟩
end Go.Proofs.YtnghgkaoopcglaaGreat
