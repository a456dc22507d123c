/-
  The plain law of girderlaw19's statements.
-/
import Derived.Test.YtpnndlahfllbhaaGreatUAM
namespace Go.Proofs.YtpnndlahfllbhaaGreat
open Go.RowKit

theorem encs_drop (l : List Rc) (i : Nat) : (encs l).drop i = encs (l.drop i) := by unfold encs; rw [List.map_drop]
theorem placed_snd : ∀ (l : List Rc) (p : Nat), (placed p l).map (·.2) = l
  | [], _ => rfl
  | x :: l, p => by
    show x :: (placed _ l).map (·.2) = x :: l
    rw [placed_snd l]
theorem laid_ok {W : World} {qs : List Q19} {ks : List Rc} {i0 : Nat} (hs : SaysQ qs ((placed 1 ks).drop i0)) (hq : ∀ q ∈ qs, q.ok W) : ∀ r ∈ ks.drop i0, r.ok ∧ r.mild := fun r hr => by
  have h1 : qs.map (·.r) = ks.drop i0 := by
    have h2 : ((placed 1 ks).drop i0).map (·.2) = ks.drop i0 := by rw [List.map_drop, placed_snd]
    rw [← h2, ← hs, List.map_map]
    rfl
  rw [← h1] at hr
  obtain ⟨q, hqm, rfl⟩ := List.mem_map.1 hr
  exact ⟨(hq q hqm).ok, (hq q hqm).mild⟩
/-- what is found is what the document finds -/
theorem laid_run {W : World} {qs : List Q19} {ks : List Rc} {i0 : Nat} (hs : SaysQ qs ((placed 1 ks).drop i0)) (hq : ∀ q ∈ qs, q.ok W) :
    runA (pl (encs ks) i0) ((encs ks).drop i0) An.zero = some (runAn qs) := by
  rw [hs.run, placed_drop, encs_drop]
  exact runA_placed _ _ _ (laid_ok hs hq)
/-- and one record more -/
theorem runA_snoc (s : ByteArray) : ∀ (l : List ByteArray) (p : Nat) (a b : An), runA p l a = some b → runA p (l ++ [s]) a = if (recE s).2 = 0 then some (b.step (endFrom p l) (recE s).1).next else none
  | [], p, a, b, h => by
    rw [runA] at h
    cases h
    rfl
  | x :: l, p, a, b, h => by
    rw [runA] at h
    show runA p (x :: (l ++ [s])) a = _
    rw [runA]
    by_cases hx : (recE x).2 = 0
    · rw [if_pos hx] at h ⊢
      exact runA_snoc s l _ _ b h
    · rw [if_neg hx] at h
      cases h

/-! the record of awake -/
def rcA : Rc := ⟨1, 3, 0, 0, 5, ⟨2, 0, ⟨#[]⟩, ⟨#[]⟩⟩, 0, 0, .none, false, [], []⟩
theorem rcA_ok : rcA.ok := by
  refine ⟨?_, ?_, ⟨fun _ => ⟨?_, ?_⟩, fun h => absurd (Or.inl rfl) h⟩, ⟨?_, fun _ => ⟨rfl, rfl, rfl⟩⟩, ⟨.inr rfl, .inl rfl⟩, ⟨.inr ⟨rfl, rfl⟩, ?_, ?_⟩, ?_⟩
  · show (1 : Int) ≤ 1 ∧ (1 : Int) ≤ 8 ∧ (0 : Int) ≤ 3 ∧ (3 : Int) < 2147483648; omega
  · show (0 : Int) ≤ 0 ∧ (0 : Int) ≤ 2; omega
  · show (5 : Nat) ≠ 0; omega
  · decide
  · show (0 : Int) = 2 → _; intro h; omega
  · exact Nat.zero_le _
  · exact Nat.zero_le _
  · intro t ht; cases ht
theorem rcA_mild : rcA.mild := by
  refine ⟨?_, ?_, ?_, ?_, ?_, ?_, ?_, ?_, ?_, ?_, ?_, ?_, ?_, ?_, (fun t ht => by cases ht), (fun t ht => by cases ht), Nat.zero_le _, Nat.zero_le _⟩ <;> decide
theorem runA_awake : (((An.zero.step 1 rcA).next)) = ⟨[(3, ⟨3, 1, 1, 1⟩)], [(5, 1)], 3, 1⟩ := by rfl
theorem keepR_awake : keepR (List.take 60 [rcA]) = [rcA] := by
  have := keepR_yes (l := []) rcA_ok
  exact this

/-! how transactions stand -/
def An.st (a : An) : Prop := ∀ p ∈ a.txs, 1 ≤ p.2.state ∧ p.2.state ≤ 3
theorem An.st.step {a : An} (h : a.st) {r : Rc} (hr : r.ok) (n : Nat) : ((a.step n r).next).st := by
  have h1 : (a.most_ r).st := h
  have h2 : ((a.most_ r).tx_ n r).st := by
    unfold An.tx_
    split
    · intro p hp
      replace hp : p ∈ r.txE n a.txs := hp
      unfold Rc.txE at hp
      split at hp
      · exact h p (mem_delL hp)
      · rcases mem_putL hp with rfl | hp
        · have h3 : 1 ≤ ((getL r.tx.toNat a.txs).getD ⟨r.tx, 1, 0, 0⟩).state ∧ ((getL r.tx.toNat a.txs).getD ⟨r.tx, 1, 0, 0⟩).state ≤ 3 := by
            cases e : getL r.tx.toNat a.txs with
            | none => exact ⟨Int.le_refl _, by show (1 : Int) ≤ 3; omega⟩
            | some t => exact h _ (getL_some_mem e)
          generalize (getL r.tx.toNat a.txs).getD ⟨r.tx, 1, 0, 0⟩ = t at h3
          show 1 ≤ (r.stepT n t).state ∧ (r.stepT n t).state ≤ 3
          unfold Rc.stepT
          repeat' split
          all_goals first | exact h3 | exact ⟨(by decide : (1 : Int) ≤ 2), (by decide : (2 : Int) ≤ 3)⟩ | exact ⟨(by decide : (1 : Int) ≤ 3), (by decide : (3 : Int) ≤ 3)⟩
        · exact h p hp
    · exact h1
  have h3 : ∀ (l : List Ts) (c : An), c.st → (∀ t ∈ l, t.ok) → (l.foldl An.take c).st := by
    intro l
    induction l with
    | nil => intro c hc _; exact hc
    | cons t l ih =>
      intro c hc hl
      refine ih _ ?_ (fun x hx => hl x (List.mem_cons_of_mem _ hx))
      intro p hp
      unfold An.take at hp
      simp only at hp
      split at hp
      · exact hc p hp
      · rcases mem_putL hp with rfl | hp
        · exact (hl t (List.mem_cons_self ..)).2.2
        · exact hc p hp
  have h4 : ∀ (l : List (Nat × Nat)) (c : An), c.st → (l.foldl An.page c).st := by
    intro l
    induction l with
    | nil => intro c hc; exact hc
    | cons t l ih => intro c hc; exact ih _ hc
  have h5 : ∀ b : An, b.st → (b.rest n r).st := by
    intro b hb
    unfold An.rest
    split
    · exact hb
    · split
      · exact h4 _ _ (h3 _ _ hb hr.a7)
      · exact hb
  exact h5 _ h2
theorem runAn_st : ∀ (qs : List Q19), (∀ q ∈ qs, q.r.ok) → (runAn qs).st := by
  intro qs h
  have : ∀ (l : List Q19) (a : An), a.st → (∀ q ∈ l, q.r.ok) → (l.foldl (fun a q => (a.step q.at_ q.r).next) a).st := by
    intro l
    induction l with
    | nil => intro a ha _; exact ha
    | cons q l ih => intro a ha hl; exact ih _ (ha.step (hl q (List.mem_cons_self ..)) _) (fun x hx => hl x (List.mem_cons_of_mem _ hx))
  exact this qs An.zero (fun p hp => by cases hp) h

/-! a checkpoint says it again -/
def rcB : Rc := { Rc.none with kind := 7 }
def rcK (a : An) : Rc := { Rc.none with kind := 8, tx := (a.most : Int), txs := sndL a.txs, dirty := a.dirty }
theorem rcB_ok : rcB.ok := by
  refine ⟨?_, ?_, ⟨fun h => ?_, fun _ => ⟨rfl, rfl, rfl⟩⟩, ⟨?_, fun _ => ⟨rfl, rfl, rfl⟩⟩, ⟨.inr rfl, .inr rfl⟩, ⟨.inr ⟨rfl, rfl⟩, ?_, ?_⟩, ?_⟩
  · show (1 : Int) ≤ 7 ∧ (7 : Int) ≤ 8 ∧ (0 : Int) ≤ 0 ∧ (0 : Int) < 2147483648; omega
  · show (0 : Int) ≤ 0 ∧ (0 : Int) ≤ 2; omega
  · have h : (7 : Int) = 1 ∨ (7 : Int) = 2 := h
    omega
  · show (0 : Int) = 2 → _; intro h; omega
  · exact Nat.zero_le _
  · exact Nat.zero_le _
  · intro t ht; cases ht
theorem rcB_mild : rcB.mild := by
  refine ⟨?_, ?_, ?_, ?_, ?_, ?_, ?_, ?_, ?_, ?_, ?_, ?_, ?_, ?_, (fun t ht => by cases ht), (fun t ht => by cases ht), Nat.zero_le _, Nat.zero_le _⟩ <;> decide
theorem rcK_mild {a : An} (ha : a.ok) (hs : a.st) (h1 : a.txs.length ≤ 64) (h2 : a.dirty.length ≤ 256) : (rcK a).mild := by
  have hm := ha.most
  refine ⟨?_, ?_, ?_, ?_, ?_, ?_, ?_, ?_, ?_, ?_, ?_, ?_, ?_, ?_, (fun t ht => ?_), (fun d hd => ha.dp d hd), ?_, ?_⟩
  · show (-9223372036854775808 : Int) ≤ 8 ∧ (8 : Int) ≤ 9223372036854775807; omega
  · show (-9223372036854775808 : Int) ≤ (a.most : Int) ∧ (a.most : Int) ≤ 9223372036854775807; omega
  · show 0 < 18446744073709551616; omega
  · show 0 < 18446744073709551616; omega
  · show 0 < 4294967296; omega
  · show (-9223372036854775808 : Int) ≤ 0 ∧ (0 : Int) ≤ 9223372036854775807; omega
  · show (-9223372036854775808 : Int) ≤ 0 ∧ (0 : Int) ≤ 9223372036854775807; omega
  · show 0 ≤ 9223372036854775807; omega
  · show 0 ≤ 9223372036854775807; omega
  · show (-9223372036854775808 : Int) ≤ 0 ∧ (0 : Int) ≤ 9223372036854775807; omega
  · show (-9223372036854775808 : Int) ≤ 0 ∧ (0 : Int) ≤ 9223372036854775807; omega
  · show 0 ≤ 9223372036854775807; omega
  · show 0 < 4294967296; omega
  · show (-9223372036854775808 : Int) ≤ 0 ∧ (0 : Int) ≤ 9223372036854775807; omega
  · obtain ⟨p, hp, rfl⟩ := List.mem_map.1 ht
    obtain ⟨q1, q2, q3, q4⟩ := ha.tx p hp
    obtain ⟨s1, s2⟩ := hs p hp
    exact ⟨by omega, by omega, q3, q4⟩
  · show (sndL a.txs).length ≤ maxLen
    unfold sndL maxLen
    rw [List.length_map]
    omega
  · show a.dirty.length ≤ maxLen
    unfold maxLen
    omega
theorem run_again {a : An} (ha : a.ok) (p : Nat) (hk : (rcK a).ok) (hm : (rcK a).mild) : runA p [rcB.enc, (rcK a).enc] An.zero = some ⟨a.txs, a.dirty, a.most, 2⟩ := by
  have h := runA_placed [rcB, rcK a] p An.zero (fun r hr => by
    rcases List.mem_cons.1 hr with rfl | hr
    · exact ⟨rcB_ok, rcB_mild⟩
    · rcases List.mem_cons.1 hr with rfl | hr
      · exact ⟨hk, hm⟩
      · cases hr)
  have e1 : (An.zero.step p rcB).next = ⟨[], [], 0, 1⟩ := rfl
  have hmost : (sndL a.txs).foldl (fun m t => max m t.tx.toNat) a.most = a.most := by
    have : ∀ (l : List (Nat × Ts)) (m : Nat), (∀ q ∈ l, q.2.tx.toNat ≤ m) → (sndL l).foldl (fun m t => max m t.tx.toNat) m = m := by
      intro l
      induction l with
      | nil => intro m _; rfl
      | cons q l ih =>
        intro m hl
        have hq := hl q (List.mem_cons_self ..)
        show (sndL l).foldl _ (max m q.2.tx.toNat) = m
        rw [Nat.max_eq_left hq]
        exact ih m (fun x hx => hl x (List.mem_cons_of_mem _ hx))
    exact this a.txs a.most (fun q hq => by obtain ⟨q1, q2, _⟩ := ha.tx q hq; omega)
  have e2 : ∀ n, ((⟨[], [], 0, 1⟩ : An).step n (rcK a)).next = ⟨a.txs, a.dirty, a.most, 2⟩ := by
    intro n
    have e3 : ((⟨[], [], 0, 1⟩ : An).step n (rcK a)) = ((⟨[], [], a.most, 1⟩ : An).check (rcK a)) := by
      show ((⟨[], [], max 0 a.most, 1⟩ : An).check (rcK a)) = _
      rw [Nat.zero_max]
    rw [e3]
    unfold An.check
    show (a.dirty.foldl An.page ((sndL a.txs).foldl An.take ⟨[], [], a.most, 1⟩)).next = _
    rw [foldl_take_all a.txs ⟨[], [], a.most, 1⟩ (by simpa using ha.rt) (fun q hq => (ha.tx q hq).1)]
    rw [foldl_page_all a.dirty _ (by simpa using ha.rd)]
    simp only [List.nil_append]
    unfold An.next
    simp only [hmost]
  show runA p (encs [rcB, rcK a]) An.zero = _
  rw [h]
  show some (((((An.zero.step p rcB).next).step _ (rcK a)).next)) = _
  rw [e1, e2]
theorem redo_same (m n : Nat) : ∀ {l : List (Nat × Nat)}, l ≠ [] → redoOf m l = redoOf n l
  | [], h => absurd rfl h
  | _ :: _, _ => rfl
end Go.Proofs.YtpnndlahfllbhaaGreat
