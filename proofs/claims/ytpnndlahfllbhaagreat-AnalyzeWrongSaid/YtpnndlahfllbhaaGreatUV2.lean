/-
  Loads ahead of late operations that wait for them through others.
-/
import Derived.Test.YtpnndlahfllbhaaGreatUV1
namespace Go.Proofs.YtpnndlahfllbhaaGreat
open Go

section
variable {P : Program} {ops : Array Oper} {Q : Exit → Act → World → Prop} {md : Region.Mode} {S : World → Prop} {late : List Nat}

/-- j waits for i, through at most n others -/
def waitsT (md : Region.Mode) (ops : Array Oper) : Nat → Nat → Nat → Bool
  | 0, _, _ => false
  | n + 1, j, i => match ops[j]? with
    | some oj => oj.after.any (fun e => Region.binds md e && (e.on == i || waitsT md ops n e.on i))
    | none => false
/-- what is listed has all it waits for listed -/
def closedB (md : Region.Mode) (ops : Array Oper) (listed : Array Bool) : Bool :=
  (List.range ops.size).all fun k => !(listed.getD k false) || match ops[k]? with
    | some ok => ok.after.all (fun e => !(Region.binds md e) || listed.getD e.on false)
    | none => true
def Closed (md : Region.Mode) (ops : Array Oper) (listed : Array Bool) : Prop := ∀ k ok, ops[k]? = some ok → listed.getD k false = true → ∀ e ∈ ok.after, Region.binds md e = true → listed.getD e.on false = true

theorem closedB_spec {listed : Array Bool} (h : closedB md ops listed = true) : Closed md ops listed := fun k ok hk hl e he hb => by
  have h1 := List.all_eq_true.1 h k (List.mem_range.2 (Array.getElem?_eq_some_iff.1 hk).1)
  rw [hk, hl] at h1
  have h0 : (ok.after.all fun e => !(Region.binds md e) || listed.getD e.on false) = true := h1
  have h2 := Array.all_eq_true_iff_forall_mem.1 h0 e he
  rw [hb] at h2
  exact h2
theorem waitsT_listed {listed : Array Bool} (hc : Closed md ops listed) {i : Nat} : ∀ (n j : Nat), waitsT md ops n j i = true → ∀ oj, ops[j]? = some oj → (∀ e ∈ oj.after, Region.binds md e = true → listed.getD e.on false = true) → listed.getD i false = true
  | 0, _, h, _, _, _ => by cases h
  | n + 1, j, h, oj, hj, hd => by
    unfold waitsT at h
    rw [hj] at h
    obtain ⟨e, he, h2⟩ := Array.any_eq_true'.1 h
    rw [Bool.and_eq_true, Bool.or_eq_true] at h2
    obtain ⟨hb, h3⟩ := h2
    have hl := hd e he hb
    rcases h3 with h3 | h3
    · rw [show e.on = i by simpa using h3] at hl
      exact hl
    · cases ho : ops[e.on]? with
      | none =>
        exfalso
        cases n with
        | zero => cases h3
        | succ n => unfold waitsT at h3; rw [ho] at h3; cases h3
      | some ok => exact waitsT_listed hc n e.on h3 ok ho (hc e.on ok ho hl)
theorem Closed.set {listed : Array Bool} (hc : Closed md ops listed) {j : Nat} {oj : Oper} (hj : ops[j]? = some oj) (hd : ∀ e ∈ oj.after, Region.binds md e = true → listed.getD e.on false = true) : Closed md ops (listed.setIfInBounds j true) := fun k ok hk hl e he hb => by
  by_cases hkj : j = k
  · subst hkj
    rw [hj] at hk
    cases hk
    exact getD_set_true (hd e he hb)
  · rw [getD_set_ne false hkj] at hl
    exact getD_set_true (hc k ok hk hl e he hb)

theorem wpAnyL_firstT {i n : Nat} {oi : Oper} {v : Value} (hi : ops[i]? = some oi) (hsel : ∀ (j : Nat) (o : Oper) cs b, ops[j]? = some o → o.op ≠ .select cs b)
    (hQ : ∀ c a w, Q (.panic c) (a.put oi.dst v) w → Q (.panic c) a w) (hw : ∀ j, late.contains j = true → waitsT md ops n j i = true) :
    ∀ (fuel : Nat) (listed : Array Bool) (a : Act) (w : World), Closed md ops listed →
      (∀ j oj, ops[j]? = some oj → j ≠ i → listed.getD j true = false → (∀ e ∈ oj.after, Region.binds md e = true → e.on ≠ i) → oi.apart ops oj = true) →
      i ∈ Region.ready md ops listed → YieldsIf P ops S oi v a → S w → late.contains i = false →
      wpAnyL P md ops Q S late fuel (listed.setIfInBounds i true) (a.put oi.dst v) w → wpAnyL P md ops Q S late (fuel + 1) listed a w := by
  intro fuel
  induction fuel with
  | zero =>
    intro listed a w _ _ hr hy hS hli H
    refine ⟨fun h => (by rw [h] at hr; cases hr), fun j hj => ?_⟩
    by_cases hji : j = i
    · subst hji; exact hy.wpOp hi hS (by rw [if_neg (by rw [hli]; exact Bool.false_ne_true)]; exact ⟨hS, H⟩)
    · have := ready_mono hj hji
      rw [H.1] at this
      cases this
  | succ fuel ih =>
    intro listed a w hcl hfree hr hy hS hli H
    refine ⟨fun h => (by rw [h] at hr; cases hr), fun j hj => ?_⟩
    by_cases hji : j = i
    · subst hji; exact hy.wpOp hi hS (by rw [if_neg (by rw [hli]; exact Bool.false_ne_true)]; exact ⟨hS, H⟩)
    · have h1 := H.2 j (ready_mono hj hji)
      obtain ⟨hjun, oj, hoj, hall⟩ := mem_ready.1 hj
      have hiun : listed.getD i false = false := by
        have h0 := (mem_ready.1 hr).1
        rcases Nat.lt_or_ge i listed.size with h' | h'
        · simpa [h'] using h0
        · simp [Array.getElem?_eq_none h'] at h0
      have hnot : ∀ e ∈ oj.after, Region.binds md e = true → e.on ≠ i := fun e he hb heq => by
        have h1 := hall e he hb
        rw [heq, hiun] at h1
        cases h1
      have h2 := wpOp_putIf hoj (hfree j oj hoj hji hjun hnot) (fun cs b => hsel i oi cs b hi) (fun cs b => hsel j oj cs b hoj) hQ hy h1
      have hfree' : ∀ k ok, ops[k]? = some ok → k ≠ i → (listed.setIfInBounds j true).getD k true = false →
          (∀ e ∈ ok.after, Region.binds md e = true → e.on ≠ i) → oi.apart ops ok = true := fun k ok hk hki hun hno => by
        refine hfree k ok hk hki ?_ hno
        by_cases hjk : j = k
        · subst hjk; exact hjun
        · rw [getD_set_ne true hjk] at hun; exact hun
      refine wpOp_mono (fun a' w' h3 => ?_) h2
      by_cases hl : late.contains j = true
      · have := waitsT_listed hcl n j (hw j hl) oj hoj hall
        rw [hiun] at this
        cases this
      · have h4 := h3.2
        rw [if_neg hl] at h4 ⊢
        refine ⟨h4.1, ih (listed.setIfInBounds j true) a' w' (hcl.set hoj hall) hfree' (ready_mono hr (Ne.symm hji)) h3.1 h4.1 hli ?_⟩
        rw [Array.setIfInBounds_comm _ _ hji]
        exact h4.2

/-- a load is taken first: those that are late wait for it, through others -/
theorem wpAnyL_loadT (n : Nat) {i : Nat} {oi : Oper} {v : Value} {fuel : Nat} {listed : Array Bool} {a : Act} {w : World} {tl : List Oper} (hi : ops.toList.drop i = oi :: tl)
    (hs : Region.noSelect ops = true) (hf : Region.free md ops listed i = true) (hr : (Region.ready md ops listed).contains i = true) (hl : late.contains i = false) (hw : (late.all fun j => waitsT md ops n j i) = true) (hc : closedB md ops listed = true)
    (hQ : ∀ c a w, Q (.panic c) (a.put oi.dst v) w → Q (.panic c) a w) (hy : YieldsIf P ops S oi v a) (hS : S w)
    (h : wpAnyL P md ops Q S late fuel (listed.setIfInBounds i true) (a.put oi.dst v) w) : wpAnyL P md ops Q S late (fuel + 1) listed a w :=
  wpAnyL_firstT (op_at hi) (Region.noSelect_spec hs) hQ (fun j hj => List.all_eq_true.1 hw j (by simpa using hj)) fuel listed a w (closedB_spec hc) (Region.free_spec (op_at hi) hf) (by simpa using hr) hy hS hl h
end
end Go.Proofs.YtpnndlahfllbhaaGreat
