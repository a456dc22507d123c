/-
  The walk of page.Room.
-/
import Derived.Test.YtnghgkaoopcglaaGreatP0
import Derived.Test.YtnghgkaoopcglaaGreatR0
import Derived.Test.YtnghgkaoopcglaaGreatS0
namespace Go.Proofs.YtnghgkaoopcglaaGreat
open Go.RowKit
attribute [local go_sem ↓] Go.wp_at_zero Go.wp_at_succ

/-- a page as an argument: sv its slots -/
def ShV (x : Sh) (sv : Value) : Value := .agg #[.int .u32 (x.num : Int), .int .u64 (x.lsn : Int), .int .i64 x.kind, .string x.head, sv]
def ShC (x : Sh) (sv : Value) : Array Value := #[.int .u32 (x.num : Int), .int .u64 (x.lsn : Int), .int .i64 x.kind, .string x.head, sv]
/-- what every page in memory keeps to -/
structure Sh.mild (x : Sh) : Prop where
  num : x.num < 4294967296
  lsn : x.lsn < 18446744073709551616
  kind1 : -9223372036854775808 ≤ x.kind
  kind2 : x.kind ≤ 9223372036854775807
  head : x.head.size ≤ 1000000
  count : x.slots.length ≤ 1000000
  slots : slotsLen x.slots ≤ 100000000
theorem slotsLen_get : ∀ {l : List ByteArray} {i : Nat} {s : ByteArray}, l[i]? = some s → s.size + 2 ≤ slotsLen l
  | [], _, _, h => by simp at h
  | x :: l, 0, s, h => by
    simp at h
    subst h
    rw [slotsLen]; omega
  | x :: l, i + 1, s, h => by
    have := slotsLen_get (l := l) (i := i) (s := s) (by simpa using h)
    rw [slotsLen]; omega
theorem slotsLen_snoc (s : ByteArray) : ∀ l : List ByteArray, slotsLen (l ++ [s]) = slotsLen l + s.size + 2
  | [] => by simp [slotsLen]
  | x :: l => by
    rw [List.cons_append, slotsLen, slotsLen, slotsLen_snoc s l]; omega
theorem slotsLen_take_le : ∀ (l : List ByteArray) (k : Nat), slotsLen (l.take k) ≤ slotsLen l
  | [], k => by simp
  | x :: l, 0 => by simp [slotsLen]
  | x :: l, k + 1 => by
    have := slotsLen_take_le l k
    rw [List.take_succ_cons, slotsLen, slotsLen]; omega
theorem take_snoc_get {l : List ByteArray} {k : Nat} {s : ByteArray} (h : l[k]? = some s) : l.take (k + 1) = l.take k ++ [s] := by
  rw [List.take_add_one, h]; rfl

section
variable {w : World} {x : Sh} {sv : Value}
set_option maxRecDepth 100000 in
set_option maxHeartbeats 1000000 in
theorem proom_c (hr : Reads w sv x.slots) (hm : x.mild) : Calls Tryz.prog 125 #[ShV x sv] w fun e w' => e = .returned (.int .i64 x.room) ∧ Below w.heap.size w w' := by
  obtain ⟨sa, sc, rfl⟩ := hr.form
  obtain ⟨hcap1, hcap2⟩ := hr.cap
  have hh := hm.head
  have hcn := hm.count
  have hsl := hm.slots
  have HR := Lib.hid hr
  have HM := Lib.hid hm
  unfold ShV Sh.room
  clear hr hm
  go_enter Tryz.func125, Tryz.ntmps125
  go_wp2_with (fail)
  go_loop [3, 13] (fun n i => ∃ k : Nat, k ≤ x.slots.length ∧ i = .int .i64 (k : Int) ∧ n = .int .i64 (485 - (x.head.size : Int) - (slotsLen (x.slots.take k) : Int))) (fun _ i => x.slots.length - (intOf i).toNat)
  case atStart => exact ⟨0, Nat.zero_le _, rfl, by simp [slotsLen]⟩
  case round =>
    obtain ⟨k, hk, rfl, rfl⟩ := hrel
    have ht := slotsLen_take_le x.slots k
    by_cases hlt : k < x.slots.length
    · obtain ⟨s, hs⟩ : ∃ s, x.slots[k]? = some s := ⟨_, List.getElem?_eq_getElem hlt⟩
      have hsz := slotsLen_get hs
      obtain ⟨bb, rfl, _, _, _, hbb, hc⟩ := HR.out.at_ hs
      have hc2 : (w.alloc (.cells #[.int .u32 (x.num : Int), .int .u64 (x.lsn : Int), .int .i64 x.kind, .string x.head, .slice (some ⟨bb, 0, none⟩) x.slots.length sc] 84)).cell? ⟨bb, k, none⟩ = some (.string s) := (World.cell?_alloc_lt _ _ _ hbb).trans hc
      have HE : Hid (slotsLen (x.slots.take (k + 1)) = slotsLen (x.slots.take k) + s.size + 2) := by show _ = _; rw [take_snoc_get hs, slotsLen_snoc]
      clear hs hc
      generalize slotsLen (x.slots.take k) = y at *
      go_wp2
      go_round
      case rel => exact ⟨k + 1, by omega, by go_num, by rw [HE.out]; congr 1; omega⟩
      case measure => simp [intOf]; omega
    · obtain rfl : k = x.slots.length := by omega
      go_wp2
      go_ret
      exact ⟨rfl, (Below.refl _ _).alloc (Nat.le_refl _) _⟩
end
end Go.Proofs.YtnghgkaoopcglaaGreat
