/-
  The sort of pages that lack changes, by their numbers.
-/
import Derived.Test.YtpnndlahfllbhaaGreatUO7
import Derived.Test.YtpnndlahfllbhaaGreatUN5
import Derived.Test.YtpnndlahfllbhaaGreatUS2
import Derived.Shelf.SlSortCmp.NoneTotal
namespace Go.Proofs.YtpnndlahfllbhaaGreat
open Go Go.RowKit Go.Sort Go.Shelf Go.Proofs
attribute [local go_sem ↓] Go.wp_at_zero Go.wp_at_succ

def cmpD (x y : Nat × Nat) : Int := if x.1 < y.1 then -1 else if y.1 < x.1 then 1 else 0
theorem ltD (x y : Nat × Nat) : ltOf cmpD x y = decide (x.1 < y.1) := by
  unfold ltOf cmpD
  by_cases h1 : x.1 < y.1
  · simp [h1]
  · by_cases h2 : y.1 < x.1 <;> simp [h1, h2]
theorem swoD : SWO (ltOf cmpD) where
  irrefl x := by rw [ltD]; simp
  trans x y z h1 h2 := by rw [ltD] at *; simp at *; omega
  ntrans x y z h1 h2 := by rw [ltD] at *; simp at *; omega
set_option maxHeartbeats 1000000 in
theorem cmpP_c (x y : Nat) (w : World) : Calls Tryz.prog 166 #[.int .u32 (x : Int), .int .u32 (y : Int)] w fun e w' => e = .returned (.int .i64 (cmpD (x, 0) (y, 0))) ∧ w' = w := by
  have HC1 := Lib.hid (isNaNP_c (x : Int) w)
  have HC2 := fun w => Lib.hid (isNaNP_c (y : Int) w)
  by_cases h1 : x < y
  · have hv : cmpD (x, 0) (y, 0) = -1 := by unfold cmpD; rw [if_pos (show (x, 0).1 < (y, 0).1 from h1)]
    have h1' : (x : Int) < (y : Int) := by omega
    rw [hv]
    clear hv h1
    go_enter Tryz.func166, Tryz.ntmps166
    go_wp2_with (fail)
    refine HC1.out.mono ?_
    rintro e w' ⟨rfl, rfl⟩
    go_wp2_with (fail)
    refine (HC2 _).out.mono ?_
    rintro e w' ⟨rfl, rfl⟩
    go_wp2
    refine bodyPost_ret (results_tmp rfl _ _ _) rfl ?_
    exact ⟨rfl, rfl⟩
  · have h1' : ¬ (x : Int) < (y : Int) := by omega
    by_cases h2 : y < x
    · have hv : cmpD (x, 0) (y, 0) = 1 := by unfold cmpD; rw [if_neg (show ¬ (x, 0).1 < (y, 0).1 from h1), if_pos (show (y, 0).1 < (x, 0).1 from h2)]
      have h2' : (y : Int) < (x : Int) := by omega
      rw [hv]
      clear hv h1 h2
      go_enter Tryz.func166, Tryz.ntmps166
      go_wp2_with (fail)
      refine HC1.out.mono ?_
      rintro e w' ⟨rfl, rfl⟩
      go_wp2_with (fail)
      refine (HC2 _).out.mono ?_
      rintro e w' ⟨rfl, rfl⟩
      go_wp2
      refine bodyPost_ret (results_tmp rfl _ _ _) rfl ?_
      exact ⟨rfl, rfl⟩
    · have hv : cmpD (x, 0) (y, 0) = 0 := by unfold cmpD; rw [if_neg (show ¬ (x, 0).1 < (y, 0).1 from h1), if_neg (show ¬ (y, 0).1 < (x, 0).1 from h2)]
      have h2' : ¬ (y : Int) < (x : Int) := by omega
      rw [hv]
      clear hv h1 h2
      go_enter Tryz.func166, Tryz.ntmps166
      go_wp2_with (fail)
      refine HC1.out.mono ?_
      rintro e w' ⟨rfl, rfl⟩
      go_wp2_with (fail)
      refine (HC2 _).out.mono ?_
      rintro e w' ⟨rfl, rfl⟩
      go_wp2
      go_ret
      exact ⟨rfl, rfl⟩
set_option maxHeartbeats 1000000 in
theorem told1_c (x y : Nat × Nat) (W : World) : Calls Tryz.prog 165 #[.agg #[.int .u32 (x.1 : Int), .int .u64 (x.2 : Int)], .agg #[.int .u32 (y.1 : Int), .int .u64 (y.2 : Int)]] W fun e w' => e = .returned (.int .i64 (cmpD x y)) ∧ ∃ q os', w' = grow (W.drewN q) os' := by
  have hcon := fun W' => cmpP_c x.1 y.1 W'
  have e : cmpD (x.1, 0) (y.1, 0) = cmpD x y := rfl
  rw [e] at hcon
  generalize cmpD x y = r at hcon ⊢
  go_enter Tryz.func165, Tryz.ntmps165
  go_wp2_with (go_at_call 166; refine (hcon _).mono ?_; rintro e w' ⟨rfl, rfl⟩)
  go_ret
  exact ⟨rfl, 0, _, by rw [alloc_eq_grow, alloc_eq_grow, grow_grow]; rfl⟩
theorem cmpLaysD (blk off size : Nat) (w : World) : CmpLays Tryz.prog 165 #[] dpC 2 cmpD blk off size w :=
  fun _ _ _ _ x y => told1_c x y _

theorem flatK_at (ds : List (Nat × Nat)) (j : Nat) (hj : j < ds.length * 2) : (cellsL dpC ds)[j]? = some ((flatK dpC 2 ds.toArray)[j]!) := by
  rw [get_flatK _ _ _ _ (by simpa using hj)]
  have h1 : j / 2 < ds.length := by omega
  have h2 := cellsL_at (size := 2) (f := dpC) (fun _ => rfl) (l := ds) (i := j / 2) (x := ds[j / 2]) (j := j % 2) (u := (dpC ds[j / 2])[j % 2]!) (List.getElem?_eq_getElem h1) (by
    have : j % 2 < (dpC ds[j / 2]).length := by show j % 2 < 2; omega
    rw [List.getElem?_eq_getElem this, getElem!_pos (dpC ds[j / 2]) (j % 2) this])
  have e : j / 2 * 2 + j % 2 = j := by omega
  rw [e] at h2
  rw [h2]
  have e2 : ds.toArray[j / 2]! = ds[j / 2] := by
    rw [getElem!_pos ds.toArray (j / 2) (by simpa using h1)]
    simp
  rw [e2]
theorem holdsK_own {w : World} {B b n c : Nat} {ds : List (Nat × Nat)} (h : w.ownsRow B 50 2 (.slice (some ⟨b, 0, none⟩) n c) ds.length (cellsL dpC ds)) : HoldsK dpC 2 w b 0 ds.toArray ∧ b < w.heap.size := by
  rcases h.2 with ⟨h2, _⟩ | ⟨g, cap, cur, e, hg, hh, r1, r2, r3, r4⟩
  · cases h2
  · cases e
    refine ⟨fun j hj => ?_, (Array.getElem?_eq_some_iff.1 hh).1⟩
    rw [size_flatK] at hj
    have hj' : j < ds.length * 2 := by simpa using hj
    refine ⟨?_, by simp [World.frozen?, hh]⟩
    have h1 : (cur.toList.take (ds.length * 2))[j]? = (cellsL dpC ds)[j]? := by rw [← r4]
    rw [List.getElem?_take_of_lt hj', flatK_at ds j hj'] at h1
    simp only [World.cell?, hh, Nat.zero_add]
    simp only [Option.isSome_none, Bool.false_eq_true, if_false]
    rw [← Array.getElem?_toList, h1]
    rfl
theorem sorted_is {ds l : List (Nat × Nat)} {d' : Array (Nat × Nat)} (hp : ds.Perm l) (hr : RisingL l) (h1 : PermIn 0 ds.toArray.size ds.toArray d') (h2 : SortedIn (ltOf cmpD) 0 ds.toArray.size d') : d' = l.toArray := by
  obtain ⟨hs, _, hpm⟩ := h1
  have hs' : d'.size = ds.length := by simpa using hs
  have e1 : d'.extract 0 ds.toArray.size = d' := by rw [← hs]; simp
  have e2 : ds.toArray.extract 0 ds.toArray.size = ds.toArray := by simp
  rw [e1, e2] at hpm
  have hpl : d'.toList.Perm l := (hpm.trans (by simp)).trans hp
  have hsd : d'.toList.Pairwise (fun x y => x.1 ≤ y.1) := by
    rw [List.pairwise_iff_getElem]
    intro i j hi hj hij
    have hi' : i < d'.size := by simpa using hi
    have hj' : j < d'.size := by simpa using hj
    have := h2 i j (Nat.zero_le _) hij (by rw [← hs]; exact hj')
    rw [ltD, getElem!_pos d' i hi', getElem!_pos d' j hj'] at this
    simp at this
    simpa using this
  have hsl : l.Pairwise (fun x y => x.1 ≤ y.1) := hr.imp fun h => by omega
  have he : d'.toList = l := by
    refine List.Perm.eq_of_pairwise (le := fun x y => x.1 ≤ y.1) (fun a b ha hb h1 h2 => ?_) hsd hsl hpl
    have hk : a.1 = b.1 := by omega
    have ha' := hpl.subset ha
    have g1 := getL_of_mem hr (n := a.1) (x := a.2) ha'
    have g2 := getL_of_mem hr (n := b.1) (x := b.2) hb
    rw [hk, g2] at g1
    exact Prod.ext hk (Option.some.inj g1).symm
  rw [← he]
theorem grownBy_sortedK {w : World} {g n : Nat} {os : Array Obj} (d : Array (Nat × Nat)) : w.grownBy (sortWorldK dpC 2 w g 0 n d os) (some g) := by
  unfold sortWorldK putRowK
  refine ⟨rfl, rfl, rfl, by simp, fun k hk hne => ?_⟩
  rw [heap_grow_old _ _ (by simpa using hk)]
  have : g ≠ k := fun e => hne (by rw [e])
  simp [putRow, mapBlock, Sort.ahead, Array.getElem?_modify, this]
set_option maxRecDepth 100000 in
set_option maxHeartbeats 1000000 in
theorem sortDirty_c {w : World} {B n c : Nat} {sa : Option Addr} {ds l : List (Nat × Nat)} (h : w.ownsRow B 50 2 (.slice sa n c) ds.length (cellsL dpC ds)) (hp : ds.Perm l) (hr : RisingL l) (hl : ds.length ≤ 1000000000) :
    Calls Tryz.prog 164 #[.slice sa n c, .func (.func 165) #[] #[]] w fun e w' => e = .returned (.tuple #[]) ∧ RdC 2 dpC w' (.slice sa n c) l ∧ w.grownBy w' (Value.slice sa n c).ownBlock := by
  rcases h.2 with ⟨h2, h0⟩ | ⟨g, cap, cur, e, hg, hh, r1, r2, r3, r4⟩
  · cases h2
    have hl0 : l = [] := List.eq_nil_of_length_eq_zero (by rw [← hp.length_eq]; exact h0)
    subst hl0
    have := AnyF.slices_SortFunc_none Tryz.laysSF none 0 (.func (.func 165) #[] #[]) w
    refine Calls.mono (show Calls Tryz.prog 164 _ _ _ from this) ?_
    rintro e w' ⟨rfl, rfl⟩
    exact ⟨rfl, RdC.nil _ _, World.grownBy.refl _ _⟩
  · cases e
    obtain ⟨hH, hb⟩ := holdsK_own h
    have eg : ∀ args w, (callFunc 165 args).run Tryz.prog w = .ok (.enter 165 args) w := enters_of Tryz.func165 (by kernel_rfl) rfl
    have hsz : ds.toArray.size = ds.length := by simp
    have := AnyQ.slices_SortFunc Tryz.laysSF 2 Tryz.isAgg50 Tryz.sizeOf50 dpC (fun _ => rfl) (fun x v hv => by simp [dpC] at hv; rcases hv with rfl | rfl <;> rfl) cmpD swoD 165 #[] g 0 c ds.toArray w eg (cmpLaysD g 0 ds.toArray.size w) hH hb (by rw [hsz]; omega)
    rw [hsz] at this
    refine Calls.mono (show Calls Tryz.prog 164 _ _ _ from this) ?_
    rintro e w' ⟨rfl, d', nn, os, hp1, hs1, rfl⟩
    rw [← hsz] at hp1 hs1
    have hd := sorted_is hp hr hp1 hs1
    have hll := hp.length_eq
    have hH2 := holdsK_sortWorldK_c (enc := dpC) (k := 2) (w := w) (blk := g) (off := 0) (d := ds.toArray) (dk := d') (m := nn) (os := os) (hH := hH) (hblk := hb) (hs := by rw [hd, hsz]; simp [hll])
    refine ⟨rfl, ?_, grownBy_sortedK _⟩
    subst hd
    refine .inr ⟨g, 0, c, by rw [hll], by omega, r2, ?_, fun i x hi j u hu => ?_⟩
    · exact Nat.lt_of_lt_of_le hb (size_sortWorldK_c (enc := dpC) (k := 2) (w := w) (blk := g) (off := 0) (m := nn) (dk := l.toArray) (os := os))
    · have hil := (List.getElem?_eq_some_iff.1 hi).1
      have hjl : j < 2 := (List.getElem?_eq_some_iff.1 hu).1
      have h1 := (hH2 (i * 2 + j) (by rw [size_flatK]; simp; omega)).1
      rw [Nat.zero_add] at h1 ⊢
      rw [h1]
      have h3 := flatK_at l (i * 2 + j) (by omega)
      rw [cellsL_at (size := 2) (fun _ => rfl) hi hu] at h3
      exact h3.symm
end Go.Proofs.YtpnndlahfllbhaaGreat
