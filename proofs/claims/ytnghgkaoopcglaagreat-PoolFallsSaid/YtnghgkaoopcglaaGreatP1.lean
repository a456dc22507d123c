/-
  A page that was written in part: the plain law.
-/
import Derived.Test.YtnghgkaoopcglaaGreatP0
namespace Go.Proofs.YtnghgkaoopcglaaGreat
open Go.RowKit

theorem leList_inj : ∀ (k a b : Nat), a < 256 ^ k → b < 256 ^ k → leList a k = leList b k → a = b := by
  intro k a b ha hb h
  rw [← numOf_le k a ha, ← numOf_le k b hb, h]
theorem leList_numOf : ∀ (l : List UInt8), leList (numOf l) l.length = l
  | [] => rfl
  | b :: l => by
    have h2 := b.toNat_lt
    have e1 : (numOf l * 256 + b.toNat) % 256 = b.toNat := by omega
    have e2 : (numOf l * 256 + b.toNat) / 256 = numOf l := by omega
    rw [numOf, List.length_cons, leList, e1, e2, leList_numOf l]
    simp
theorem numOf_inj {l m : List UInt8} (hl : l.length = m.length) (h : numOf l = numOf m) : l = m := by
  rw [← leList_numOf l, ← leList_numOf m, h, hl]
theorem numOf_zero : ∀ {l : List UInt8}, (∀ x ∈ l, x = 0) → numOf l = 0
  | [], _ => rfl
  | b :: l, h => by
    rw [numOf, numOf_zero (fun x hx => h x (List.mem_cons_of_mem _ hx)), h b (by simp)]
    rfl

/-- the first k bytes of b, behind them what stands in a -/
def mixL (k : Nat) (a b : List UInt8) : List UInt8 := b.take k ++ a.drop k
def mixB (k : Nat) (a b : ByteArray) : ByteArray := ⟨(mixL k a.data.toList b.data.toList).toArray⟩

theorem mix_get {k i : Nat} {a b : List UInt8} (hb : k ≤ b.length) : (mixL k a b)[i]? = if i < k then b[i]? else a[i]? := by
  unfold mixL
  by_cases h : i < k
  · rw [if_pos h, List.getElem?_append_left (by rw [List.length_take]; omega), List.getElem?_take, if_pos h]
  · rw [if_neg h, List.getElem?_append_right (by rw [List.length_take]; omega), List.length_take, List.getElem?_drop]
    congr 1
    omega
theorem part_get (l : List UInt8) (p n i : Nat) : ((l.drop p).take n)[i]? = if i < n then l[p + i]? else none := by
  rw [List.getElem?_take]
  split
  · rw [List.getElem?_drop]
  · rfl
theorem part_eq {l m : List UInt8} {p q n : Nat} (h : ∀ i, i < n → l[p + i]? = m[q + i]?) : (l.drop p).take n = (m.drop q).take n := by
  apply List.ext_getElem?
  intro i
  rw [part_get, part_get]
  split
  · exact h i (by assumption)
  · rfl
theorem part_at {l m : List UInt8} {p q n : Nat} (h : (l.drop p).take n = (m.drop q).take n) : ∀ i, i < n → l[p + i]? = m[q + i]? := fun i hi => by
  have := congrArg (·[i]?) h
  simp only [part_get, if_pos hi] at this
  exact this
theorem ext_list (s : ByteArray) (p n : Nat) : (s.extract p (p + n)).data.toList = (s.data.toList.drop p).take n := by
  rw [ByteArray.data_extract, Array.toList_extract, List.extract_eq_take_drop, Nat.add_sub_cancel_left]

theorem Sh.fit.ends {x : Sh} (h : x.fit) : (x.enc.data.toList.drop 4).take 8 = leList x.lsn 8 ∧ (x.enc.data.toList.drop 504).take 8 = leList x.lsn 8 ∧ (x.enc.data.toList.drop 4).take 508 = x.mid.data.toList ∧ x.enc.data.toList.take 4 = leList (crcMore 0 x.mid) 4 := by
  have hz := h.size
  have hm := h.mid_size
  have hf := x.front_size
  have hr := h.room
  unfold Sh.room at hr
  have e0 : x.enc.data.toList = leList (crcMore 0 x.mid) 4 ++ x.mid.data.toList := by
    unfold Sh.enc
    rw [ba_app]
    simp [leB]
  have hl4 := leList_length 4 (crcMore 0 x.mid)
  have e1 : x.mid.data.toList = leList x.lsn 8 ++ ((leB x.num 4 ++ (leB x.kind.toNat 1 ++ (leB x.head.size 1 ++ (x.head ++ (leB x.slots.length 1 ++ (lensB x.slots ++ catB x.slots)))))).data.toList ++ ((zerosB (500 - x.front.size)).data.toList ++ leList x.lsn 8)) := by
    conv => lhs; unfold Sh.mid
    conv => lhs; arg 1; arg 1; lhs; lhs; unfold Sh.front
    rw [ba_app, ba_app, ba_app (leB x.lsn 8)]
    simp [leB]
  have e2 : x.mid.data.toList = (x.front ++ zerosB (500 - x.front.size)).data.toList ++ leList x.lsn 8 := by
    conv => lhs; unfold Sh.mid
    rw [ba_app]
    simp [leB]
  have hl8 := leList_length 8 x.lsn
  have hfz : (x.front ++ zerosB (500 - x.front.size)).data.toList.length = 500 := by
    rw [← ba_size, ByteArray.size_append, zerosB_size]
    omega
  have hml : x.mid.data.toList.length = 508 := by rw [← ba_size]; exact hm
  refine ⟨?_, ?_, ?_, ?_⟩
  · rw [e0, List.drop_left' hl4, e1, List.take_left' hl8]
  · rw [e0, List.drop_append, hl4, List.drop_of_length_le (by rw [hl4]; omega), List.nil_append, e2, List.drop_left' hfz, List.take_of_length_le (by rw [hl8]; omega)]
  · rw [e0, List.drop_left' hl4, List.take_of_length_le (by rw [hml]; omega)]
  · rw [e0, List.take_left' hl4]

theorem none_fit : Sh.none.fit := ⟨⟨by decide, by decide, by decide, by decide⟩, by decide, by decide, by decide⟩
theorem none_mid : Sh.none.mid = zerosB 508 := by decide +kernel
theorem Sh.fit.nonzero {x : Sh} (h : x.fit) (h1 : 1 ≤ x.lsn) : allZero x.enc = false := by
  rw [Bool.eq_false_iff]
  intro hz
  have h2 := List.all_eq_true.1 hz
  have h3 := h.ends.1
  have h4 : numOf (leList x.lsn 8) = 0 := by
    rw [← h3]
    exact numOf_zero fun y hy => by simpa using h2 y (List.mem_of_mem_drop (List.mem_of_mem_take hy))
  rw [numOf_le 8 x.lsn h.lsn] at h4
  omega

/-- what is read of a page that was written in part -/
theorem torn_read {a b : ByteArray} {y p : Sh} {k : Nat} (hk : k ≤ 512) (hy : y.fit) (hy1 : 1 ≤ y.lsn) (hb : b = y.enc) (ha : a = zerosB 512 ∨ ∃ x : Sh, x.fit ∧ 1 ≤ x.lsn ∧ x.lsn ≠ y.lsn ∧ a = x.enc)
    (h : decE (mixB k a b) = (p, 0)) : p = y ∨ (a = zerosB 512 ∧ p = Sh.none) ∨ decE a = (p, 0) := by
  subst hb
  have hBz : y.enc.data.toList.length = 512 := by rw [← ba_size]; exact hy.size
  have hAz : a.data.toList.length = 512 := by
    rw [← ba_size]
    rcases ha with rfl | ⟨x, hx, _, _, rfl⟩
    · exact zerosB_size 512
    · exact hx.size
  obtain ⟨b1, b2, b3, b4⟩ := hy.ends
  -- the ends of what stood there
  have hA : ∃ n, n < 256 ^ 8 ∧ n ≠ y.lsn ∧ (a.data.toList.drop 4).take 8 = leList n 8 ∧ (a.data.toList.drop 504).take 8 = leList n 8 ∧ (n = 0 → a = zerosB 512) := by
    rcases ha with rfl | ⟨x, hx, hx1, hne, rfl⟩
    · exact ⟨0, by decide, by omega, by decide +kernel, by decide +kernel, fun _ => rfl⟩
    · obtain ⟨a1, a2, _, _⟩ := hx.ends
      exact ⟨x.lsn, hx.lsn, hne, a1, a2, by omega⟩
  obtain ⟨n, hn, hne, a1, a2, hn0⟩ := hA
  have hM : (mixB k a y.enc).data.toList = mixL k a.data.toList y.enc.data.toList := by simp [mixB]
  have hg := fun i => mix_get (k := k) (i := i) (a := a.data.toList) (b := y.enc.data.toList) (by omega)
  have hMz : (mixL k a.data.toList y.enc.data.toList).length = 512 := by unfold mixL; rw [List.length_append, List.length_take, List.length_drop]; omega
  generalize hMM : mixL k a.data.toList y.enc.data.toList = M at *
  have hfront : 12 ≤ k → (M.drop 4).take 8 = leList y.lsn 8 := fun h12 => by
    rw [← b1]
    exact part_eq fun i hi => by rw [hg, if_pos (by omega)]
  have hback : k ≤ 504 → (M.drop 504).take 8 = leList n 8 := fun h504 => by
    rw [← a2]
    exact part_eq fun i hi => by rw [hg, if_neg (by omega)]
  rcases decE_ok h with ⟨hz, hp⟩ | ⟨he, hs, hends, hcrc, hpp⟩
  · by_cases hn1 : n = 0
    · exact .inr (.inl ⟨hn0 hn1, hp⟩)
    · exfalso
      have h2 : ∀ x ∈ M, x = 0 := fun x hx => by
        have := List.all_eq_true.1 hz x (by rw [hM]; exact hx)
        simpa using this
      rcases Nat.lt_or_ge 504 k with hk5 | hk5
      · have := numOf_le 8 y.lsn hy.lsn
        rw [← hfront (by omega), numOf_zero fun x hx => h2 x (List.mem_of_mem_drop (List.mem_of_mem_take hx))] at this
        omega
      · have := numOf_le 8 n hn
        rw [← hback hk5, numOf_zero fun x hx => h2 x (List.mem_of_mem_drop (List.mem_of_mem_take hx))] at this
        omega
  · have hends2 : (M.drop 4).take 8 = (M.drop 504).take 8 := by
      have this : ((mixB k a y.enc).extract 4 12).data.toList = ((mixB k a y.enc).extract 504 512).data.toList := by rw [hends]
      rw [show (12 : Nat) = 4 + 8 from rfl, show (512 : Nat) = 504 + 8 from rfl, ext_list, ext_list, hM] at this
      exact this
    rcases Nat.lt_or_ge k 12 with hk1 | hk1
    · -- the sum and the LSN's front alone
      right
      have hb2 := hback (by omega)
      have hrest : (M.drop 4).take 508 = (a.data.toList.drop 4).take 508 := part_eq fun i hi => by
        by_cases h12 : i < 8
        · have e1 := part_at (hends2.trans (hb2.trans a1.symm)) i h12
          exact e1
        · rw [hg, if_neg (by omega)]
      rcases ha with rfl | ⟨x, hx, hx1, hxne, rfl⟩
      · left
        refine ⟨rfl, ?_⟩
        have hz5 : (mixB k (zerosB 512) y.enc).extract 4 512 = zerosB 508 := by
          apply ba_ext
          rw [show (512 : Nat) = 4 + 508 from rfl, ext_list, hM, hrest]
          decide +kernel
        have hr : pageRd (mixB k (zerosB 512) y.enc) = ⟨Sh.none.mid, 0, 0⟩ := by
          unfold pageRd
          rw [hz5, none_mid]
        rw [hpp, hr, none_fit.read]
      · right
        obtain ⟨x1, x2, x3, x4⟩ := hx.ends
        have hext : (mixB k x.enc y.enc).extract 4 512 = x.mid := by
          apply ba_ext
          rw [show (512 : Nat) = 4 + 508 from rfl, ext_list, hM, hrest, x3]
        rw [hext] at hcrc
        unfold numAt at hcrc
        rw [List.drop_zero, hM] at hcrc
        have hc4 := numOf_le 4 (crcMore 0 x.mid) (crcMore_lt (by decide) _)
        rw [← x4] at hc4
        have h4 : M.take 4 = x.enc.data.toList.take 4 := numOf_inj (by rw [List.length_take, List.length_take]; omega) (hcrc.trans hc4.symm)
        have hMA : M = x.enc.data.toList := by
          rw [← List.take_append_drop 4 M, ← List.take_append_drop 4 x.enc.data.toList, h4]
          congr 1
          rw [← List.take_of_length_le (l := M.drop 4) (i := 508) (by rw [List.length_drop]; omega), ← List.take_of_length_le (l := x.enc.data.toList.drop 4) (i := 508) (by rw [List.length_drop]; omega)]
          exact hrest
        have : mixB k x.enc y.enc = x.enc := ba_ext (by rw [hM, hMA])
        rw [this] at h
        exact h
    · rcases Nat.lt_or_ge 504 k with hk5 | hk5
      · left
        have hf := hfront hk1
        have hMB : M = y.enc.data.toList := by
          apply List.ext_getElem?
          intro i
          by_cases hi : i < k
          · rw [hg, if_pos hi]
          · by_cases hi5 : i < 512
            · have e1 := part_at (hends2.symm.trans (hf.trans b2.symm)) (i - 504) (by omega)
              rw [show 504 + (i - 504) = i by omega] at e1
              exact e1
            · rw [List.getElem?_eq_none (by omega), List.getElem?_eq_none (by omega)]
        have : mixB k a y.enc = y.enc := ba_ext (by rw [hM, hMB])
        rw [this, hy.dec (hy.nonzero hy1)] at h
        exact (Prod.mk.inj h).1.symm
      · exfalso
        have := (hfront hk1).symm.trans (hends2.trans (hback hk5))
        exact hne (leList_inj 8 y.lsn n hy.lsn hn this).symm
end Go.Proofs.YtnghgkaoopcglaaGreat
