/-
  The disk: a loose write lands; the power fails.
-/
import Derived.Test.YtnobiekgifjaeaaA0
import Derived.StillTailTactics
import Derived.Deep.RegionHeld3
import Derived.Deep.DeepCutAuto
import Derived.BigRegion
import Derived.Maps.OwnOps
namespace Go.Proofs.Ytnobiekgifjaeaa
open Go.RowKit

theorem putAt_map (f : Int → Option ByteArray) (p : Int) (s : ByteArray) : (fun q => if q = p then some (Value.string s) else (f q).map Value.string) = fun q => (putAt f p s q).map Value.string := by
  funext q
  simp only [putAt]
  split <;> rfl

section
variable {w w' : World} {F : Nat → Prop} {b mb : Nat} {lv pv : Value} {m : Dk}

theorem DiskIn.b_ne (h : DiskIn w F b mb lv pv m) : mb ≠ b := by
  rintro rfl
  obtain ⟨es, c, h1, _⟩ := h.map
  have h2 := h.blk
  unfold Blk at h2
  rw [h1] at h2
  cases h2

/-- all but the disk's own block stands; that block is rewritten; the slices may be others -/
theorem DiskIn.anew (h : DiskIn w F b mb lv pv m) (ho : ∀ r, r ≠ b → r < w.heap.size → w'.heap[r]? = w.heap[r]?) (hs : w.heap.size ≤ w'.heap.size) {F' : Nat → Prop} {lv' pv' : Value} {m' : Dk} (hb : Blk w' b 106 (dkCells mb lv' pv' m')) (hp : m'.pages = m.pages)
    (hl : w'.ownsRow 0 109 3 lv' m'.loose.length (wrsCells m'.loose)) (hpl : w'.ownsRow 0 39 5 pv' m'.plan.length (flsCells m'.plan))
    (f0 : ∀ r, F r → F' r) (f1 : ∀ g, lv'.ownBlock = some g → F' g) (f2 : ∀ g, pv'.ownBlock = some g → F' g) (hok : m'.ok) (hlt : ∀ r, F' r → r < w'.heap.size) : DiskIn w' F' b mb lv' pv' m' :=
  ⟨hb, by rw [hp]; exact h.map.same (ho _ h.b_ne h.map.lt), hl, hpl, f0 _ h.fb, f0 _ h.fm, f1, f2, hok, hlt⟩

theorem DiskIn.loose_ne (h : DiskIn w F b mb lv pv m) : ∀ g, lv.ownBlock = some g → g ≠ b := fun g hg e => own_blk_ne h.loose h.blk (by decide) (by rw [hg, e])
theorem DiskIn.plan_ne (h : DiskIn w F b mb lv pv m) : ∀ g, pv.ownBlock = some g → g ≠ b := fun g hg e => own_blk_ne h.plan h.blk (by decide) (by rw [hg, e])

/-- a store into the disk's map -/
theorem DiskIn.stored (h : DiskIn w F b mb lv pv m) (p : Int) (s : ByteArray) (hs : s.size = 512) (hm : MapI .u32 w' mb (fun q => if q = p then some (.string s) else (m.pages q).map Value.string)) (hg : w.grownBy w' (some mb)) :
    DiskIn w' F b mb lv pv { m with pages := putAt m.pages p s } := by
  have hb : b ≠ mb := by
    rintro rfl
    obtain ⟨es, c, h1, _⟩ := h.map
    have h2 := h.blk
    unfold Blk at h2
    rw [h1] at h2
    cases h2
  have own_ne : ∀ {e : TypeId} {size n : Nat} {v : Value} {xs : List Value}, w.ownsRow 0 e size v n xs → ∀ g, v.ownBlock = some g → g ≠ mb := by
    intro e size n v xs hown g hg hgm
    subst hgm
    rcases hown.2 with ⟨rfl, _⟩ | ⟨g', cap, cur, rfl, _, hh, _⟩
    · simp [Value.ownBlock] at hg
    · obtain rfl : g' = g := by simpa [Value.ownBlock] using hg
      obtain ⟨es, c, h1, _⟩ := h.map
      rw [h1] at hh
      cases hh
  have ho : ∀ r, F r → r ≠ mb → w'.heap[r]? = w.heap[r]? := fun r hr hne => hg.block r (h.lt r hr) (by simpa using hne)
  refine ⟨h.blk.same (ho _ h.fb hb), ?_, own_same h.loose (fun g hgg => ho g (h.fl g hgg) (own_ne h.loose g hgg)), own_same h.plan (fun g hgg => ho g (h.fp g hgg) (own_ne h.plan g hgg)), h.fb, h.fm, h.fl, h.fp, ?_, fun r hr => Nat.lt_of_lt_of_le (h.lt r hr) hg.size⟩
  · rw [putAt_map] at hm
    exact hm
  · refine ⟨h.ok.room1, h.ok.room2, h.ok.calls1, h.ok.calls2, h.ok.logs, h.ok.loose, fun q t hq => ?_⟩
    simp only [putAt] at hq
    split at hq
    · cases hq; exact hs
    · exact h.ok.pages q t hq
end

/-- what land leaves: the disk's slices are as they were -/
def LandPost (w : World) (F : Nat → Prop) (b mb : Nat) (lv pv : Value) (m : Dk) (w' : World) : Prop := DiskIn w' F b mb lv pv m ∧ Step F w w'

section
variable {w : World} {F : Nat → Prop} {b mb : Nat} {lv pv : Value} {m : Dk}
set_option maxRecDepth 100000 in
set_option maxHeartbeats 400000 in
theorem land_c (h : DiskIn w F b mb lv pv m) (x : Wr) (hx : x.ok) : Calls Try.prog 62 #[.pointer (some ⟨b, 0, none⟩), .agg #[.int .u32 x.page, .string x.s, .int .u64 x.mark]] w
    fun e w' => e = .returned (.tuple #[]) ∧ LandPost w F b mb lv pv (m.land x) w' := by
  have hb := h.lt b h.fb
  obtain ⟨p, s, mk⟩ := x
  by_cases hp : p = 0
  · subst hp
    have h1 := h.set 2 (.int .u64 mk) { m with mark := mk } rfl rfl rfl rfl ⟨h.ok.room1, h.ok.room2, h.ok.calls1, h.ok.calls2, h.ok.logs, h.ok.loose, h.ok.pages⟩
    have h2 := h1.below ((Below.refl _ _).alloc (Nat.le_refl _) (.cells #[.int .u32 0, .string s, .int .u64 mk] 109))
    have hs := ((Step.refl F w).setCell (p := ⟨b, 2, none⟩) (.inl h.fb) (.int .u64 mk)).alloc (.cells #[.int .u32 0, .string s, .int .u64 mk] 109)
    have c2 := h.cells.2.2.1
    have f2 := h.cells.2.2.2.2.2.2.2.2.2 2
    have HE : Hid (LandPost w F b mb lv pv (m.land ⟨0, s, mk⟩) ((w.setCell ⟨b, 2, none⟩ (.int .u64 mk)).alloc (.cells #[.int .u32 0, .string s, .int .u64 mk] 109))) := ⟨by simpa [Dk.land] using h2, hs⟩
    clear h h1 h2 hs
    go_enter Try.func62, Try.ntmps62
    go_wp2
    go_end0
    exact ⟨rfl, HE.out⟩
  · have c1 := h.cells.2.1
    have hpb : ((p : Int) == 0) = false := by simpa using hp
    have hmap := h.map
    have HS : ∀ w2, Hid (MapI .u32 w2 mb (fun q => if q = p then some (.string s) else (m.pages q).map Value.string) → (w.alloc (.cells #[.int .u32 p, .string s, .int .u64 mk] 109)).grownBy w2 (some mb) → LandPost w F b mb lv pv (m.land ⟨p, s, mk⟩) w2) := fun w2 hm hg => by
      have h1 : DiskIn (w.alloc (.cells #[.int .u32 p, .string s, .int .u64 mk] 109)) F b mb lv pv m := h.below ((Below.refl _ _).alloc (Nat.le_refl _) _)
      have h2 := h1.stored p s (hx.2.2 hp) hm hg
      refine ⟨by simpa [Dk.land, hp] using h2, ((Step.refl F w).alloc _).grown hg (fun k hk => .inl ?_)⟩
      cases hk
      exact h.fm
    have hm0 : MapI .u32 (w.alloc (.cells #[.int .u32 p, .string s, .int .u64 mk] 109)).drew mb (fun q => (m.pages q).map Value.string) := hmap.same (Below.heap_alloc w _ mb hmap.lt)
    obtain ⟨w2, hrun, hm2, hg2⟩ := hm0.store (P := Try.prog) Try.underlying103 Try.underlying34 p (.string s)
    have HE : Hid (LandPost w F b mb lv pv (m.land ⟨p, s, mk⟩) w2) := (HS w2).out hm2 ⟨hg2.os, hg2.tape, hg2.output, hg2.size, hg2.block⟩
    have k1 : w2.cell? ⟨b, 1, none⟩ = some (.map (some mb)) := hg2.cell (by go_simp) (by simpa using fun e => DiskIn.b_ne h (e.symm))
    have k2 : w2.cell? ⟨w.heap.size, 0, none⟩ = some (.int .u32 p) := hg2.cell (by go_simp) (by have := hmap.lt; simp; omega)
    have k3 : w2.cell? ⟨w.heap.size, 1, none⟩ = some (.string s) := hg2.cell (by go_simp) (by have := hmap.lt; simp; omega)
    clear h hmap hx HS hm0 hm2 hg2
    go_enter Try.func62, Try.ntmps62
    go_wp2
    go_region_held3 (fun w' => w'.cell? ⟨b, 1, none⟩ = some (.map (some mb)) ∧ w'.cell? ⟨w.heap.size, 0, none⟩ = some (.int .u32 p) ∧ w'.cell? ⟨w.heap.size, 1, none⟩ = some (.string s)) (go_keep) ((fail))
    go_wp2
    go_outline
    go_end0
    exact ⟨rfl, HE.out⟩
end
end Go.Proofs.Ytnobiekgifjaeaa
