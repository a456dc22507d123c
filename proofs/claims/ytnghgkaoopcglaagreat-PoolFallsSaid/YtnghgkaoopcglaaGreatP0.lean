/-
  Pages as bytes: the plain law.
-/
import Derived.Test.YtnghgkaoopcglaaGreatKX
namespace Go.Proofs.YtnghgkaoopcglaaGreat
open Go.RowKit

/-- a reader: the bytes, how many were taken, the error -/
structure Rd where
  s : ByteArray
  at_ : Nat
  err : Int
def Rd.number (r : Rd) (k : Nat) : Nat × Rd := if r.err ≠ 0 then (0, r) else if r.s.size - r.at_ < k then (0, { r with err := 4 }) else (numAt r.s r.at_ k, { r with at_ := r.at_ + k })
def Rd.bytes (r : Rd) (n : Nat) : ByteArray × Rd := if r.err ≠ 0 then (⟨#[]⟩, r) else if r.s.size - r.at_ < n then (⟨#[]⟩, { r with err := 4 }) else (r.s.extract r.at_ (r.at_ + n), { r with at_ := r.at_ + n })
def Rd.numbers (k : Nat) : Nat → Rd → List Nat × Rd
  | 0, r => ([], r)
  | n + 1, r => ((r.number k).1 :: (Rd.numbers k n (r.number k).2).1, (Rd.numbers k n (r.number k).2).2)
def Rd.texts : List Nat → Rd → List ByteArray × Rd
  | [], r => ([], r)
  | n :: l, r => ((r.bytes n).1 :: (Rd.texts l (r.bytes n).2).1, (Rd.texts l (r.bytes n).2).2)

/-- a page -/
structure Sh where
  num : Nat
  lsn : Nat
  kind : Int
  head : ByteArray
  slots : List ByteArray
def Sh.none : Sh := ⟨0, 0, 0, ⟨#[]⟩, []⟩
def slotsLen : List ByteArray → Nat
  | [] => 0
  | s :: l => s.size + 2 + slotsLen l
def Sh.room (x : Sh) : Int := 485 - (x.head.size : Int) - (slotsLen x.slots : Int)
def lensB : List ByteArray → ByteArray
  | [] => ⟨#[]⟩
  | s :: l => leB s.size 2 ++ lensB l
def catB : List ByteArray → ByteArray
  | [] => ⟨#[]⟩
  | s :: l => s ++ catB l
def zerosB (n : Nat) : ByteArray := ⟨(List.replicate n 0).toArray⟩
def Sh.front (x : Sh) : ByteArray := leB x.lsn 8 ++ (leB x.num 4 ++ (leB x.kind.toNat 1 ++ (leB x.head.size 1 ++ (x.head ++ (leB x.slots.length 1 ++ (lensB x.slots ++ catB x.slots))))))
def Sh.mid (x : Sh) : ByteArray := x.front ++ zerosB (500 - x.front.size) ++ leB x.lsn 8
def Sh.enc (x : Sh) : ByteArray := leB (crcMore 0 x.mid) 4 ++ x.mid
structure Sh.argOk (x : Sh) : Prop where
  kind1 : 0 ≤ x.kind
  kind2 : x.kind ≤ 255
  head : x.head.size ≤ 32
  slots : x.slots.length ≤ 64
instance (x : Sh) : Decidable x.argOk := decidable_of_iff (0 ≤ x.kind ∧ x.kind ≤ 255 ∧ x.head.size ≤ 32 ∧ x.slots.length ≤ 64) ⟨fun ⟨a, b, c, d⟩ => ⟨a, b, c, d⟩, fun ⟨a, b, c, d⟩ => ⟨a, b, c, d⟩⟩
/-- a page's bytes, or why not -/
def Sh.encE (x : Sh) : ByteArray × Int := if x.argOk then if x.room < 0 then (⟨#[]⟩, 30) else (x.enc, 0) else (⟨#[]⟩, 1)
def allZero (s : ByteArray) : Bool := s.data.toList.all (· == 0)
def pageRd (s : ByteArray) : Rd := ⟨s.extract 4 512, 0, 0⟩
/-- what is read of a page -/
def pageOfRd (r0 : Rd) : Sh × Rd :=
  let a := r0.number 8
  let b := a.2.number 4
  let c := b.2.number 1
  let d := c.2.number 1
  let e := d.2.bytes d.1
  let f := e.2.number 1
  let g := Rd.numbers 2 f.1 f.2
  let h := Rd.texts g.1 g.2
  (⟨b.1, a.1, (c.1 : Int), e.1, h.1⟩, h.2)
def decE (s : ByteArray) : Sh × Int :=
  if s.size < 512 then (Sh.none, 4) else if 512 < s.size then (Sh.none, 5) else if allZero s = true then (Sh.none, 0) else
  if s.extract 4 12 ≠ s.extract 504 512 then (Sh.none, 34) else if numAt s 0 4 ≠ crcMore 0 (s.extract 4 512) then (Sh.none, 32) else
  if (pageOfRd (pageRd s)).2.err = 0 ∧ (pageOfRd (pageRd s)).1.encE = (s, 0) then ((pageOfRd (pageRd s)).1, 0) else (Sh.none, 6)

/-! what was put is read again -/
theorem ba_ext {a b : ByteArray} (h : a.data.toList = b.data.toList) : a = b := by
  apply ByteArray.ext
  exact Array.toList_inj.1 h
theorem ba_size (a : ByteArray) : a.size = a.data.toList.length := by rw [Array.length_toList]; rfl
theorem ba_app (a b : ByteArray) : (a ++ b).data.toList = a.data.toList ++ b.data.toList := by rw [ByteArray.data_append, Array.toList_append]
theorem ba_ext_at (a b c : ByteArray) : (a ++ (b ++ c)).extract a.size (a.size + b.size) = b := by
  apply ba_ext
  rw [ByteArray.data_extract, Array.toList_extract, ba_app, ba_app]
  simp only [List.extract_eq_take_drop, ba_size]
  rw [List.drop_left, Nat.add_sub_cancel_left, List.take_left]
theorem numAt_at (a c : ByteArray) (n k : Nat) (h : n < 256 ^ k) : numAt (a ++ (leB n k ++ c)) a.size k = n := by
  unfold numAt
  rw [ba_app, ba_app, ba_size, List.drop_left]
  have e : (leB n k).data.toList = leList n k := by simp [leB]
  rw [e]
  have : (leList n k ++ c.data.toList).take k = leList n k := by
    rw [List.take_append_of_le_length (by rw [leList_length]; exact Nat.le_refl _)]
    exact List.take_of_length_le (by rw [leList_length]; exact Nat.le_refl _)
  rw [this, numOf_le k n h]
theorem Rd.number_at (a c : ByteArray) (n k : Nat) (h : n < 256 ^ k) : (⟨a ++ (leB n k ++ c), a.size, 0⟩ : Rd).number k = (n, ⟨(a ++ leB n k) ++ c, (a ++ leB n k).size, 0⟩) := by
  unfold Rd.number
  rw [if_neg (by simp)]
  have hz : (a ++ (leB n k ++ c)).size = a.size + (k + c.size) := by rw [ByteArray.size_append, ByteArray.size_append, leB_size]
  rw [if_neg (by show ¬ (a ++ (leB n k ++ c)).size - a.size < k; omega)]
  show (numAt (a ++ (leB n k ++ c)) a.size k, (⟨a ++ (leB n k ++ c), a.size + k, 0⟩ : Rd)) = _
  rw [numAt_at a c n k h, ByteArray.size_append, leB_size, ByteArray.append_assoc]
theorem Rd.bytes_at (a t c : ByteArray) : (⟨a ++ (t ++ c), a.size, 0⟩ : Rd).bytes t.size = (t, ⟨(a ++ t) ++ c, (a ++ t).size, 0⟩) := by
  unfold Rd.bytes
  rw [if_neg (by simp)]
  have hz : (a ++ (t ++ c)).size = a.size + (t.size + c.size) := by rw [ByteArray.size_append, ByteArray.size_append]
  rw [if_neg (by show ¬ (a ++ (t ++ c)).size - a.size < t.size; omega)]
  show ((a ++ (t ++ c)).extract a.size (a.size + t.size), (⟨a ++ (t ++ c), a.size + t.size, 0⟩ : Rd)) = _
  rw [ba_ext_at, ByteArray.size_append, ByteArray.append_assoc]
theorem Rd.numbers_at : ∀ (l : List ByteArray) (a c : ByteArray), (∀ s ∈ l, s.size < 65536) → Rd.numbers 2 l.length (⟨a ++ (lensB l ++ c), a.size, 0⟩ : Rd) = (l.map ByteArray.size, ⟨(a ++ lensB l) ++ c, (a ++ lensB l).size, 0⟩)
  | [], a, c, _ => by
    have e : lensB [] = ⟨#[]⟩ := rfl
    simp only [List.length_nil, Rd.numbers, List.map_nil, e, bytes_nil, bytes_nil']
  | s :: l, a, c, h => by
    have e : lensB (s :: l) = leB s.size 2 ++ lensB l := rfl
    rw [List.length_cons, Rd.numbers, e, ByteArray.append_assoc, Rd.number_at a (lensB l ++ c) s.size 2 (h s (by simp))]
    simp only
    rw [Rd.numbers_at l (a ++ leB s.size 2) c (fun x hx => h x (List.mem_cons_of_mem _ hx))]
    simp only [List.map_cons, ByteArray.append_assoc]
theorem Rd.texts_at : ∀ (l : List ByteArray) (a c : ByteArray), Rd.texts (l.map ByteArray.size) (⟨a ++ (catB l ++ c), a.size, 0⟩ : Rd) = (l, ⟨(a ++ catB l) ++ c, (a ++ catB l).size, 0⟩)
  | [], a, c => by
    have e : catB [] = ⟨#[]⟩ := rfl
    simp only [List.map_nil, Rd.texts, e, bytes_nil, bytes_nil']
  | s :: l, a, c => by
    have e : catB (s :: l) = s ++ catB l := rfl
    rw [List.map_cons, Rd.texts, e, ByteArray.append_assoc, Rd.bytes_at a s (catB l ++ c)]
    simp only
    rw [Rd.texts_at l (a ++ s) c]
    simp only [ByteArray.append_assoc]
theorem lensB_size : ∀ l : List ByteArray, (lensB l).size = 2 * l.length
  | [] => rfl
  | s :: l => by
    have e : lensB (s :: l) = leB s.size 2 ++ lensB l := rfl
    rw [e, ByteArray.size_append, leB_size, lensB_size l, List.length_cons]; omega
theorem lens_cat : ∀ l : List ByteArray, slotsLen l = 2 * l.length + (catB l).size
  | [] => rfl
  | s :: l => by
    have e : catB (s :: l) = s ++ catB l := rfl
    rw [e, ByteArray.size_append, slotsLen, lens_cat l, List.length_cons]; omega
theorem Sh.front_size (x : Sh) : x.front.size = 15 + x.head.size + slotsLen x.slots := by
  unfold Sh.front
  simp only [ByteArray.size_append, leB_size, lensB_size]
  rw [lens_cat]
  omega
theorem zerosB_size (n : Nat) : (zerosB n).size = n := by simp [zerosB, ByteArray.size]
structure Sh.fit (x : Sh) : Prop where
  arg : x.argOk
  room : 0 ≤ x.room
  num : x.num < 4294967296
  lsn : x.lsn < 18446744073709551616
theorem Sh.fit.slot {x : Sh} (h : x.fit) : ∀ s ∈ x.slots, s.size ≤ 485 := by
  have hr := h.room
  unfold Sh.room at hr
  have : ∀ (l : List ByteArray) (s : ByteArray), s ∈ l → s.size ≤ slotsLen l := by
    intro l
    induction l with
    | nil => intro s hs; simp at hs
    | cons y l ih =>
      intro s hs
      rw [slotsLen]
      rcases List.mem_cons.1 hs with rfl | hs
      · omega
      · have := ih s hs; omega
  intro s hs
  have := this x.slots s hs
  omega
theorem Sh.fit.mid_size {x : Sh} (h : x.fit) : x.mid.size = 508 := by
  have hr := h.room
  unfold Sh.room at hr
  have hf := x.front_size
  unfold Sh.mid
  rw [ByteArray.size_append, ByteArray.size_append, zerosB_size, leB_size]
  omega
theorem Sh.fit.size {x : Sh} (h : x.fit) : x.enc.size = 512 := by
  unfold Sh.enc
  rw [ByteArray.size_append, leB_size, h.mid_size]
theorem Sh.fit.encE {x : Sh} (h : x.fit) : x.encE = (x.enc, 0) := by
  unfold Sh.encE
  rw [if_pos h.arg, if_neg (by have := h.room; omega)]
theorem ba_right {a b : ByteArray} {k n : Nat} (hk : k = a.size) (hn : n = a.size + b.size) : (a ++ b).extract k n = b := by
  subst hk hn
  have := ba_ext_at a b ⟨#[]⟩
  rwa [bytes_nil] at this
theorem Sh.fit.read {x : Sh} (h : x.fit) : pageOfRd ⟨x.mid, 0, 0⟩ = (x, ⟨x.mid, x.front.size, 0⟩) := by
  have hk : ((x.kind.toNat : Nat) : Int) = x.kind := by have := h.arg.kind1; omega
  have hm : x.mid = (⟨#[]⟩ : ByteArray) ++ (leB x.lsn 8 ++ (leB x.num 4 ++ (leB x.kind.toNat 1 ++ (leB x.head.size 1 ++ (x.head ++ (leB x.slots.length 1 ++ (lensB x.slots ++ (catB x.slots ++ (zerosB (500 - x.front.size) ++ leB x.lsn 8))))))))) := by
    rw [bytes_nil']
    unfold Sh.mid Sh.front
    simp only [ByteArray.append_assoc]
  have hs : ∀ s ∈ x.slots, s.size < 65536 := fun s hs => by have := h.slot s hs; omega
  have hsz : x.front.size = ((⟨#[]⟩ : ByteArray) ++ x.front).size := by rw [bytes_nil']
  rw [hsz]
  conv => lhs; rw [hm]
  conv => rhs; rw [hm]
  unfold pageOfRd
  have h1 := h.arg.kind2
  have h2 := h.arg.head
  have h3 := h.arg.slots
  have z : (0 : Nat) = (⟨#[]⟩ : ByteArray).size := rfl
  rw [show (⟨(⟨#[]⟩ : ByteArray) ++ (leB x.lsn 8 ++ (leB x.num 4 ++ (leB x.kind.toNat 1 ++ (leB x.head.size 1 ++ (x.head ++ (leB x.slots.length 1 ++ (lensB x.slots ++ (catB x.slots ++ (zerosB (500 - x.front.size) ++ leB x.lsn 8))))))))), 0, 0⟩ : Rd) = ⟨(⟨#[]⟩ : ByteArray) ++ (leB x.lsn 8 ++ (leB x.num 4 ++ (leB x.kind.toNat 1 ++ (leB x.head.size 1 ++ (x.head ++ (leB x.slots.length 1 ++ (lensB x.slots ++ (catB x.slots ++ (zerosB (500 - x.front.size) ++ leB x.lsn 8))))))))), (⟨#[]⟩ : ByteArray).size, 0⟩ from rfl]
  simp only [Rd.number_at _ _ x.lsn 8 h.lsn, Rd.number_at _ _ x.num 4 h.num, Rd.number_at _ _ x.kind.toNat 1 (by omega), Rd.number_at _ _ x.head.size 1 (by omega), Rd.bytes_at, Rd.number_at _ _ x.slots.length 1 (by omega), Rd.numbers_at x.slots _ _ hs, Rd.texts_at, hk]
  congr 1
  unfold Sh.front
  simp only [ByteArray.append_assoc]
theorem Sh.fit.dec {x : Sh} (h : x.fit) (hz : allZero x.enc = false) : decE x.enc = (x, 0) := by
  have hz5 := h.size
  have hm : x.enc.extract 4 512 = x.mid := ba_right (by rw [leB_size]) (by rw [leB_size, h.mid_size])
  have hc : numAt x.enc 0 4 = crcMore 0 x.mid := by
    have := numAt_at ⟨#[]⟩ x.mid (crcMore 0 x.mid) 4 (crcMore_lt (by decide) _)
    rw [bytes_nil'] at this
    exact this
  have hf := x.front_size
  have hr := h.room
  unfold Sh.room at hr
  have he : x.enc.extract 4 12 = leB x.lsn 8 := by
    have e : x.enc = leB (crcMore 0 x.mid) 4 ++ (leB x.lsn 8 ++ ((leB x.num 4 ++ (leB x.kind.toNat 1 ++ (leB x.head.size 1 ++ (x.head ++ (leB x.slots.length 1 ++ (lensB x.slots ++ catB x.slots)))))) ++ zerosB (500 - x.front.size) ++ leB x.lsn 8)) := by
      unfold Sh.enc
      conv => lhs; rhs; unfold Sh.mid
      conv => lhs; rhs; lhs; lhs; unfold Sh.front
      simp only [ByteArray.append_assoc]
    rw [e]
    have := ba_ext_at (leB (crcMore 0 x.mid) 4) (leB x.lsn 8) ((leB x.num 4 ++ (leB x.kind.toNat 1 ++ (leB x.head.size 1 ++ (x.head ++ (leB x.slots.length 1 ++ (lensB x.slots ++ catB x.slots)))))) ++ zerosB (500 - x.front.size) ++ leB x.lsn 8)
    rwa [leB_size, leB_size] at this
  have hl : x.enc.extract 504 512 = leB x.lsn 8 := by
    have e : x.enc = (leB (crcMore 0 x.mid) 4 ++ (x.front ++ zerosB (500 - x.front.size))) ++ leB x.lsn 8 := by
      unfold Sh.enc
      conv => lhs; rhs; unfold Sh.mid
      simp only [ByteArray.append_assoc]
    rw [e]
    exact ba_right (by rw [ByteArray.size_append, ByteArray.size_append, zerosB_size, leB_size]; omega) (by rw [ByteArray.size_append, ByteArray.size_append, zerosB_size, leB_size, leB_size]; omega)
  have hp : pageRd x.enc = ⟨x.mid, 0, 0⟩ := by unfold pageRd; rw [hm]
  unfold decE
  rw [if_neg (by omega), if_neg (by omega), if_neg (by rw [hz]; exact Bool.false_ne_true), if_neg (by rw [he, hl]; exact fun h => h rfl), if_neg (by rw [hc, hm]; exact fun h => h rfl), hp, h.read]
  rw [if_pos ⟨rfl, h.encE⟩]
/-- what is read was put so -/
theorem decE_ok {s : ByteArray} {p : Sh} (h : decE s = (p, 0)) : (allZero s = true ∧ p = Sh.none) ∨ (p.encE = (s, 0) ∧ s.size = 512 ∧ s.extract 4 12 = s.extract 504 512 ∧ numAt s 0 4 = crcMore 0 (s.extract 4 512) ∧ p = (pageOfRd (pageRd s)).1) := by
  unfold decE at h
  split at h
  · cases h
  · split at h
    · cases h
    · split at h
      · rename_i hz
        cases h
        exact .inl ⟨hz, rfl⟩
      · split at h
        · cases h
        · split at h
          · cases h
          · split at h
            · rename_i h1 h2 h3 h4 h5 h6
              cases h
              exact .inr ⟨h6.2, by omega, Decidable.not_not.1 h4, Decidable.not_not.1 h5, rfl⟩
            · cases h
theorem allZero_blank (n : Nat) : allZero (zerosB n) = true := by
  unfold allZero zerosB
  simp
end Go.Proofs.YtnghgkaoopcglaaGreat
