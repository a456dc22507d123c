/-
  The keys of a map of frames, collected and sorted: at most twelve of them.
-/
import Derived.Test.YtpnndlahfllbhaaGreatUM2
import Derived.RangeFuncNested
import Derived.RangeFuncBound
import Derived.RangeFuncCalls
import Derived.RangeFuncLeaves
import Derived.RangeFuncBox
import Derived.RangeFuncStops
import Derived.Shelf.Abstract
import Derived.Maps.OwnIn
import Derived.Maps.AppendAt
import Derived.WalkKit
import Derived.OwnWalkIn
import Derived.TacticsInMore
import Derived.LoopNIn
import Derived.LoopIn
import Derived.Sort.WalkA
import Derived.Sort.MapsRangeIn
import Derived.Deep.QuietTactic
import Derived.BigQuiet
namespace Go.Proofs.YtpnndlahfllbhaaGreat
open Go Go.RowKit Go.Sort Go.Shelf
open Go.Maps (Keyed)

abbrev encP (x : Nat) : Value := .int .u32 (x : Int)
theorem encP_inj {x y : Nat} (h : encP x = encP y) : x = y := by
  simp [encP] at h
  omega
theorem keyOf_page {key : Value} {kl : Lit} (h : keyOf Tryz.prog 48 key = some kl) : ∃ x : Nat, key = encP x ∧ kl = keyD x := by
  obtain ⟨x, h1, h2, h3⟩ := Maps.keyOf_int_inv Tryz.underlying48 h
  have hw : 0 ≤ x := by
    unfold Lit.wf at h3
    simp [IntKind.min, IntKind.max, IntKind.signed, IntKind.bits] at h3
    exact h3.1
  refine ⟨x.toNat, ?_, ?_⟩
  · rw [h1, encP, Int.toNat_of_nonneg hw]
  · rw [h2, keyD, Int.toNat_of_nonneg hw]
/-- what has come of a map's keys -/
def GotK (l : List (Nat × Value)) (left : Lit → Bool) (ss : List Nat) : Prop := ss.Nodup ∧ ∀ x, x ∈ ss ↔ ((getL x l).isSome = true ∧ left (keyD x) = false)
theorem GotK.start (l : List (Nat × Value)) : GotK l (Maps.has (mapD l)) [] := ⟨List.nodup_nil, fun x => by rw [mapD_has]; cases (getL x l).isSome <;> simp⟩
theorem GotK.step {l : List (Nat × Value)} {left : Lit → Bool} {ss : List Nat} (h : GotK l left ss) {x : Nat} (hx : left (keyD x) = true) (hin : (getL x l).isSome = true) : GotK l (fun z => left z && !z.sameKey (keyD x)) (ss ++ [x]) := by
  have hnew : x ∉ ss := fun hm => by have := ((h.2 x).1 hm).2; rw [hx] at this; cases this
  refine ⟨List.nodup_append.2 ⟨h.1, by simp, fun a ha b hb => by simp at hb; subst hb; exact fun e => hnew (e ▸ ha)⟩, fun y => ?_⟩
  rw [List.mem_append, h.2 y, List.mem_singleton]
  show _ ↔ (getL y l).isSome = true ∧ (left (keyD y) && !(keyD y).sameKey (keyD x)) = false
  rw [keyD_same]
  by_cases e : y = x
  · subst e; simp [hin]
  · simp [e]
theorem GotK.done {l : List (Nat × Value)} {left : Lit → Bool} {ss : List Nat} (h : GotK l left ss) (hr : RisingL l) (hl : ∀ kl, left kl = false) : ss.Perm (l.map (·.1)) := by
  refine (List.perm_ext_iff_of_nodup h.1 ?_).2 fun x => ?_
  · exact List.pairwise_map.2 (hr.imp fun hlt e => by omega)
  · rw [h.2 x, hl]
    simp only [and_true, List.mem_map]
    constructor
    · intro hs
      obtain ⟨v, hv⟩ := Option.isSome_iff_exists.1 hs
      exact ⟨(x, v), getL_some_mem hv, rfl⟩
    · rintro ⟨⟨k, v⟩, hm, rfl⟩
      rw [getL_of_mem hr hm]; rfl
theorem has_of_at {l : List (Nat × Value)} {x : Nat} {y : DataW Value} (h : ∀ zd, (mapD l).atKey (keyD x) zd = y) : (getL x l).isSome = true := by
  cases hg : getL x l with
  | some v => rfl
  | none =>
    have h1 := h (.held (.bool true))
    have h2 := h (.held (.bool false))
    rw [mapD_at, hg] at h1 h2
    rw [← h2] at h1
    simp at h1

section
attribute [local go_sem] Oper.semAt_some
end

/-! the sort of at most twelve -/
set_option maxHeartbeats 1000000 in
theorem isNaNP_c (x : Int) (w : World) : Calls Tryz.prog 216 #[.int .u32 x] w fun e w' => e = .returned (.bool false) ∧ w' = w := by
  go_enter Tryz.func216, Tryz.ntmps216
  go_wp2
  go_ret
  exact ⟨by simp, rfl⟩
/-! what is sorted is the rising list -/
end Go.Proofs.YtpnndlahfllbhaaGreat
