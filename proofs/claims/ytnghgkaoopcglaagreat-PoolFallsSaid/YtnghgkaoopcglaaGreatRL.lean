/-
  A pool in a law's body; girderlaw06's begun and awake.
-/
import Derived.Test.YtnghgkaoopcglaaGreatPP
import Derived.Test.YtnghgkaoopcglaaGreatPD
import Derived.Test.YtnghgkaoopcglaaGreatL6
namespace Go.Proofs.YtnghgkaoopcglaaGreat
open Go.RowKit
attribute [local go_sem ↓] Go.wp_at_zero Go.wp_at_succ

/-- a law's own pool, laid since w0 -/
def PL (w0 : World) (b lb pb : Nat) (m : Dk) (g : Lg) (q : Po) (W : World) : Prop := ∃ U, PX W U b lb pb m g q ∧ (∀ r, U r → w0.heap.size ≤ r ∧ r < W.heap.size) ∧ Below w0.heap.size w0 W
section
variable {w0 W W' : World} {b lb pb : Nat} {m m' : Dk} {g g' : Lg} {q q' : Po}
theorem PL.mk' {U : Nat → Prop} (h : PX W U b lb pb m g q) (hU : ∀ r, U r → w0.heap.size ≤ r) (hb : Below w0.heap.size w0 W) : PL w0 b lb pb m g q W := by
  obtain ⟨U', h1, h2, h3⟩ := h.fit
  exact ⟨U', h1, fun r hr => ⟨hU r (h2 r hr), h3 r hr⟩, hb⟩
theorem PL.post {U : Nat → Prop} (hU : ∀ r, U r → w0.heap.size ≤ r) (hb : Below w0.heap.size w0 W) (hp : PPost W U b lb pb m' g' q' W') : PL w0 b lb pb m' g' q' W' := by
  obtain ⟨U', k1, k2, k3⟩ := hp
  refine PL.mk' k1 (fun r hr => ?_) (hb.trans (k2.belowB hU hb.size))
  rcases k3 r hr with h | h
  · exact hU r h
  · exact Nat.le_trans hb.size h
theorem PL.base (h : PL w0 b lb pb m g q W) : Below w0.heap.size w0 W := by obtain ⟨_, _, _, h⟩ := h; exact h
theorem PL.below (h : PL w0 b lb pb m g q W) (hb : Below W.heap.size W W') : PL w0 b lb pb m g q W' := by
  obtain ⟨U, h1, h2, h3⟩ := h
  exact PL.mk' (h1.below hb) (fun r hr => (h2 r hr).1) (h3.trans (hb.mono h3.size))
theorem PL.parts (h : PL w0 b lb pb m g q W) : ∃ F G H mb pk vs, BothIn W F G b lb m g ∧ PoolIn W H pb b lb mb pk vs q := by
  obtain ⟨U, ⟨F, G, H, mb, pk, vs, h1, h2, _⟩, _⟩ := h
  exact ⟨F, G, H, mb, pk, vs, h1, h2⟩
theorem PL.calls (h : PL w0 b lb pb m g q W) {f : FuncId} {args : Array Value} {v : Ending} (hc : ∀ U, PX W U b lb pb m g q → (∀ r, U r → r < W.heap.size) → Calls Tryz.prog f args W fun e w' => e = v ∧ PPost W U b lb pb m' g' q' w') :
    Calls Tryz.prog f args W fun e w' => e = v ∧ PL w0 b lb pb m' g' q' w' := by
  obtain ⟨U, h1, h2, h3⟩ := h
  exact (hc U h1 (fun r hr => (h2 r hr).2)).mono fun e w' ⟨he, hp⟩ => ⟨he, PL.post (fun r hr => (h2 r hr).1) h3 hp⟩
theorem PL.log (h : PL w0 b lb pb m g q W) {f : FuncId} {args : Array Value} {v : Ending} (hc : ∀ G, WalAt W G lb b g → Calls Tryz.prog f args W fun e w' => e = v ∧ WPost W G lb b g' w') :
    Calls Tryz.prog f args W fun e w' => e = v ∧ PL w0 b lb pb m g' q w' := by
  obtain ⟨U, hx, h2, h3⟩ := h
  obtain ⟨F, G, H, mb, pk, vs, k1, k2, k3, k4⟩ := hx
  refine (hc G k1.wal).mono fun e w' ⟨he, hp⟩ => ⟨he, ?_⟩
  obtain ⟨F', G', r1, r2, r3, r4, r5⟩ := PX.both k1 k2 k3 (k1.log hp)
  refine PL.post (U := U) (fun r hr => (h2 r hr).1) h3 ⟨fun r => (F' r ∨ G' r) ∨ H r, ⟨F', G', H, mb, pk, vs, r1, r2, r3, fun _ h => h⟩, r4.wider (fun r hr => k4 r (.inl hr)), fun r hr => ?_⟩
  rcases hr with hr | hr
  · rcases r5 r hr with h | h
    · exact .inl (k4 r (.inl h))
    · exact .inr h
  · exact .inl (k4 r (.inr hr))
set_option maxRecDepth 100000 in
set_option maxHeartbeats 1000000 in
theorem begun6_c (w : World) (n : Nat) (most : Nat) (h1 : 8 ≤ n) (h2 : n ≤ 2048) (h3 : 4 ≤ most) (h4 : most ≤ 256) :
    Calls Tryz.prog 20 #[.int .i64 (n : Int), .int .i64 (most : Int)] w fun e w' => ∃ b lb pb, e = .returned (.tuple #[.pointer (some ⟨b, 0, none⟩), .pointer (some ⟨lb, 0, none⟩), .pointer (some ⟨pb, 0, none⟩)]) ∧ PL w b lb pb (Dk.fresh n) (openG [] 0) (Po.new most) w' := by
  have HN := Lib.hid (new_c w n (by omega) (by omega))
  go_enter Tryz.func20, Tryz.ntmps20
  go_wp2_with (fail)
  refine HN.out.mono ?_
  rintro e w1 ⟨rfl, F, hD, hF, hb1⟩
  have HO := Lib.hid (open_c hD rfl rfl (Nat.zero_le _) ⟨by show (0:Int) ≤ 0; decide, by show (0:Int) < 18446744073709551616; decide⟩ [] ⟨#[]⟩ (bytes_nil _).symm (by simp) (takenOk_short (by decide) _))
  generalize w.heap.size + 1 = b at *
  have HB1 := Lib.hid hb1
  have HF := Lib.hid hF
  clear HN hD hF hb1
  go_wp2_with (fail)
  refine HO.out.mono ?_
  rintro e w2 ⟨lb, rfl, hp⟩
  rw [if_pos (show (ByteArray.size ⟨#[]⟩) = 0 from rfl)] at hp
  obtain ⟨F', G', hB, hs, hm, hg⟩ := hp
  have HP := Lib.hid (poolNew_c hB most h3 h4)
  have hb2 : Below w.heap.size w w2 := HB1.out.trans (hs.belowB HF.out HB1.out.size)
  have HB2 := Lib.hid hb2
  have HU : Hid (∀ r, F' r ∨ G' r → w.heap.size ≤ r) := fun r hr => by
    have hz := HB1.out.size
    rcases hr with hr | hr
    · rcases hm r hr with h | h
      · exact HF.out r h
      · omega
    · have := hg r hr; omega
  clear HO hB hs hm hg hb2
  go_wp2_with (fail)
  refine HP.out.mono ?_
  rintro e w3 ⟨rfl, hx, hb3⟩
  have hz2 := HB2.out.size
  have HL := Lib.hid (PL.mk' (w0 := w) hx (fun r hr => by
    rcases hr with hr | hr | hr
    · exact HU.out r hr
    · omega
    · omega) (HB2.out.trans (hb3.mono HB2.out.size)))
  generalize w2.heap.size + 1 = pb at *
  clear HP hx hb3 hz2
  go_wp2
  refine bodyPost_ret (v := .tuple #[.pointer (some ⟨b, 0, none⟩), .pointer (some ⟨lb, 0, none⟩), .pointer (some ⟨pb, 0, none⟩)]) (by simp [results, Tryz.results20, go_sem]) rfl ?_
  exact ⟨_, _, _, rfl, HL.out⟩
end
end Go.Proofs.YtnghgkaoopcglaaGreat
