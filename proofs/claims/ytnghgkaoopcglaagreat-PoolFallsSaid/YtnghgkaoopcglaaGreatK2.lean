/-
  The pool as plain lists: how many frames there are; what is read is mild.
-/
import Derived.Test.YtnghgkaoopcglaaGreatK1
namespace Go.Proofs.YtnghgkaoopcglaaGreat
open Go.RowKit

theorem writeF_frames (m : Dk) (g : Lg) (q : Po) (n : Nat) (f : Fr) : (writeF m g q n f).2.2.2 = q ∨ (writeF m g q n f).2.2.2 = q.wrote n f := by
  unfold writeF
  simp only
  split
  · exact .inl rfl
  · split
    · exact .inl rfl
    · split
      · exact .inl rfl
      · exact .inr rfl
theorem writeQ_keep (m : Dk) (g : Lg) (q : Po) (n : Nat) (hr : RisingL q.frames) :
    (writeQ m g q n).2.2.2.frames.length = q.frames.length ∧ (writeQ m g q n).2.2.2.most = q.most ∧ (writeQ m g q n).2.2.2.picks = q.picks ∧ RisingL (writeQ m g q n).2.2.2.frames ∧ ∀ k, (getL k (writeQ m g q n).2.2.2.frames).isSome = (getL k q.frames).isSome := by
  unfold writeQ
  cases hg : getL n q.frames with
  | none => exact ⟨rfl, rfl, rfl, hr, fun _ => rfl⟩
  | some f =>
    simp only
    split
    · exact ⟨rfl, rfl, rfl, hr, fun _ => rfl⟩
    · rcases writeF_frames m g q n f with e | e
      · rw [e]; exact ⟨rfl, rfl, rfl, hr, fun _ => rfl⟩
      · rw [e]
        refine ⟨putL_length_in n _ hr (by rw [hg]; rfl), rfl, rfl, hr.put, fun k => ?_⟩
        show (getL k (putL n _ q.frames)).isSome = _
        rw [getL_put n k _ hr]
        split
        · rename_i e; rw [e, hg]; rfl
        · rfl
theorem roomQ_keep (m : Dk) (g : Lg) (q : Po) (hr : RisingL q.frames) (hp : q.picks = []) (hle : q.frames.length ≤ q.most) (h1 : 1 ≤ q.most) :
    (roomQ m g q).2.2.2.most = q.most ∧ (roomQ m g q).2.2.2.picks = [] ∧ (roomQ m g q).2.2.2.frames.length ≤ q.frames.length ∧ ((roomQ m g q).1 = 0 → (roomQ m g q).2.2.2.frames.length < q.most) := by
  unfold roomQ
  split
  · rename_i h; exact ⟨rfl, hp, Nat.le_refl _, fun _ => h⟩
  · rename_i h
    have hat : q.at_ = (0, q) := by unfold Po.at_; rw [hp]
    simp only [hat]
    obtain ⟨⟨k, f⟩, fr, hfr⟩ : ∃ p fr, q.frames = p :: fr := by
      cases hq : q.frames with
      | nil => rw [hq] at h; simp at h; omega
      | cons p fr => exact ⟨p, fr, rfl⟩
    have hk : ((q.frames[0]?).map (·.1)).getD 0 = k := by rw [hfr]; rfl
    rw [hk]
    obtain ⟨w1, w2, w3, w4, w5⟩ := writeQ_keep m g q k hr
    split
    · rename_i hne
      exact ⟨w2, by rw [w3, hp], by omega, fun e => absurd e hne⟩
    · have hd : ((writeQ m g q k).2.2.2.drop k).frames.length + 1 = (writeQ m g q k).2.2.2.frames.length := delL_length_in k w4 (by rw [w5 k, hfr]; simp [getL])
      refine ⟨w2, by show (writeQ m g q k).2.2.2.picks = []; rw [w3, hp], by show ((writeQ m g q k).2.2.2.drop k).frames.length ≤ _; omega, fun _ => by show ((writeQ m g q k).2.2.2.drop k).frames.length < _; omega⟩
theorem Sh.none_mild : Sh.none.mild := ⟨by decide, by decide, by decide, by decide, by decide, by decide, by decide⟩
theorem Rd.number_lt' (r : Rd) (k : Nat) : (r.number k).1 < 256 ^ k := by
  have h : 0 < 256 ^ k := Nat.pow_pos (by decide)
  unfold Rd.number
  split
  · exact h
  · split
    · exact h
    · exact numAt_lt _ _ _
theorem Sh.mild_of {x : Sh} {s : ByteArray} (h : x.encE = (s, 0)) (hn : x.num < 4294967296) (hl : x.lsn < 18446744073709551616) : x.mild := by
  unfold Sh.encE at h
  split at h
  · rename_i ha
    split at h
    · cases h
    · rename_i hr
      have h1 := ha.kind1
      have h2 := ha.kind2
      have h3 := ha.head
      have h4 := ha.slots
      unfold Sh.room at hr
      exact ⟨hn, hl, by omega, by omega, by omega, by omega, by omega⟩
  · cases h
theorem decE_mild (s : ByteArray) : (decE s).1.mild := by
  by_cases h : (decE s).2 = 0
  · rcases decE_ok (s := s) (p := (decE s).1) (by rw [← h]) with ⟨_, e⟩ | ⟨h1, _, _, _, h2⟩
    · rw [e]; exact Sh.none_mild
    · refine Sh.mild_of h1 ?_ ?_
      · rw [h2]; exact Rd.number_lt' _ 4
      · rw [h2]; exact Rd.number_lt' _ 8
  · have : (decE s).1 = Sh.none := by
      unfold decE at h ⊢
      split
      · rfl
      · split
        · rfl
        · split
          · rfl
          · split
            · rfl
            · split
              · rfl
              · split
                · rename_i a1 a2 a3 a4 a5 a6
                  rw [if_neg a1, if_neg a2, if_neg a3, if_neg a4, if_neg a5, if_pos a6] at h
                  exact absurd rfl h
                · rfl
    rw [this]; exact Sh.none_mild
theorem Sh.mild.withNum {x : Sh} (h : x.mild) {n : Nat} (hn : n < 4294967296) : (x.withNum n).mild := ⟨hn, h.lsn, h.kind1, h.kind2, h.head, h.count, h.slots⟩
theorem fetchE_mild (m : Dk) {n : Nat} (hn : n < 4294967296) : (fetchE m n).1.mild := by
  unfold fetchE
  split
  · exact Sh.none_mild
  · split
    · exact Sh.none_mild
    · unfold betterE
      split
      · exact (decE_mild _).withNum hn
      · split
        · exact (decE_mild _).withNum hn
        · exact Sh.none_mild
end Go.Proofs.YtnghgkaoopcglaaGreat
