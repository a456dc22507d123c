/-
  The walk of page.Encode.
-/
import Derived.Test.YtnghgkaoopcglaaGreatQ1
namespace Go.Proofs.YtnghgkaoopcglaaGreat
open Go.RowKit
attribute [local go_sem ↓] Go.wp_at_zero Go.wp_at_succ

/-- while a page is put into bytes -/
def EncSt (w1 : World) (wb : Nat) (acc : ByteArray) (W : World) : Prop := WrAt W w1.heap.size wb acc ∧ Below w1.heap.size w1 W
section
variable {w w1 W : World} {wb : Nat} {acc : ByteArray}
theorem EncSt.below (h : EncSt w1 wb acc W) {W' : World} (hb : Below W.heap.size W W') : EncSt w1 wb acc W' := ⟨h.1.below hb, h.2.trans (hb.mono h.2.size)⟩
theorem EncSt.number (h : EncSt w1 wb acc W) (n k : Nat) (hk : k ≤ 8) (hz : acc.size ≤ 900000) :
    Calls Tryz.prog 59 #[.pointer (some ⟨wb, 0, none⟩), .int .u64 (n : Int), .int .i64 (k : Int)] W fun e w' => e = .returned (.tuple #[]) ∧ EncSt w1 wb (acc ++ leB n k) w' :=
  (wnumber_c h.1 n k hk hz).mono fun _ _ ⟨he, h1, h2⟩ => ⟨he, h1, h.2.trans h2⟩
theorem EncSt.bytes (h : EncSt w1 wb acc W) (s : ByteArray) (hz : acc.size + s.size ≤ 1000000) :
    Calls Tryz.prog 118 #[.pointer (some ⟨wb, 0, none⟩), .string s] W fun e w' => e = .returned (.tuple #[]) ∧ EncSt w1 wb (acc ++ s) w' :=
  (wbytes_c h.1 s hz).mono fun _ _ ⟨he, h1, h2⟩ => ⟨he, h1, h.2.trans h2⟩
theorem EncSt.len (h : EncSt w1 wb acc W) : Calls Tryz.prog 127 #[.pointer (some ⟨wb, 0, none⟩)] W fun e w' => e = .returned (.int .i64 (acc.size : Int)) ∧ W = w' := wlen_c h.1
theorem EncSt.all (h : EncSt w1 wb acc W) : Calls Tryz.prog 61 #[.pointer (some ⟨wb, 0, none⟩)] W fun e w' => e = .returned (.string acc) ∧ W = w' := wall_c h.1
theorem repeat_zeros (n : Nat) (hn : n ≤ 1000000) (W : World) : Calls Tryz.prog 126 #[.string ⟨#[0]⟩, .int .i64 (n : Int)] W fun e w' => e = .returned (.string (zerosB n)) ∧ Below W.heap.size W w' := by
  have := Tryz.strings_Repeat ⟨#[0]⟩ n W (by omega) (by simp [ByteArray.size]; omega)
  have e2 : (⟨(Lib.repeatL (⟨#[0]⟩ : ByteArray).data.toList n).toArray⟩ : ByteArray) = zerosB n := by
    unfold zerosB
    congr 2
    have : ∀ k : Nat, Lib.repeatL [(0 : UInt8)] k = List.replicate k 0 := by
      intro k
      induction k with
      | zero => rfl
      | succ k ih => rw [List.replicate_succ, ← ih]; rfl
    exact this n
  rw [e2] at this
  exact this
theorem lensB_snoc (s : ByteArray) : ∀ l : List ByteArray, lensB (l ++ [s]) = lensB l ++ leB s.size 2
  | [] => by simp [lensB, bytes_nil, bytes_nil']
  | x :: l => by
    have e : lensB (x :: l ++ [s]) = leB x.size 2 ++ lensB (l ++ [s]) := rfl
    rw [e, lensB_snoc s l, ← ByteArray.append_assoc]
    rfl
theorem catB_snoc (s : ByteArray) : ∀ l : List ByteArray, catB (l ++ [s]) = catB l ++ s
  | [] => by simp [catB, bytes_nil, bytes_nil']
  | x :: l => by
    have e : catB (x :: l ++ [s]) = x ++ catB (l ++ [s]) := rfl
    rw [e, catB_snoc s l, ← ByteArray.append_assoc]
    rfl
theorem catB_size_le (l : List ByteArray) : (catB l).size ≤ slotsLen l := by rw [lens_cat]; omega
end
section
variable {w : World} {x : Sh} {sv : Value}
set_option maxRecDepth 100000 in
set_option maxHeartbeats 4000000 in
theorem pencode_c (hr : Reads w sv x.slots) (hm : x.mild) : Calls Tryz.prog 69 #[ShV x sv] w fun e w' => e = .returned (.tuple #[.string x.encE.1, .int .i64 x.encE.2]) ∧ Below w.heap.size w w' := by
  obtain ⟨sa, sc, rfl⟩ := hr.form
  obtain ⟨hcap1, hcap2⟩ := hr.cap
  have HRO : Hid (Calls Tryz.prog 125 #[ShV x (.slice sa x.slots.length sc)] (w.alloc (.cells (ShC x (.slice sa x.slots.length sc)) 84)) fun e w' => e = .returned (.int .i64 x.room) ∧ Below (w.alloc (.cells (ShC x (.slice sa x.slots.length sc)) 84)).heap.size (w.alloc (.cells (ShC x (.slice sa x.slots.length sc)) 84)) w') := proom_c (hr.below ((Below.refl _ _).alloc (Nat.le_refl _) _)) hm
  have hh := hm.head
  have hcn := hm.count
  have hnum := hm.num
  have hlsn := hm.lsn
  have HR := Lib.hid hr
  unfold ShV at HRO ⊢
  unfold ShC at HRO
  clear hr hm
  by_cases harg : x.argOk
  · have ha1 := harg.kind1
    have ha2 := harg.kind2
    have ha3 := harg.head
    have ha4 := harg.slots
    by_cases hroom : x.room < 0
    · have he : x.encE = (⟨#[]⟩, 30) := by unfold Sh.encE; rw [if_pos harg, if_pos hroom]
      rw [he]
      clear he harg
      generalize x.room = rm at *
      go_enter Tryz.func69, Tryz.ntmps69
      go_wp2_with (fail)
      refine HRO.out.mono ?_
      rintro e w2 ⟨rfl, hb⟩
      have HB : Hid (Below w.heap.size w w2) := ((Below.refl _ _).alloc (Nat.le_refl _) _).trans (hb.mono (by simp))
      clear hb
      go_wp2
      go_ret2
      exact ⟨rfl, HB.out⟩
    · have he : x.encE = (x.enc, 0) := by unfold Sh.encE; rw [if_pos harg, if_neg hroom]
      have hsl : x.head.size + slotsLen x.slots ≤ 485 := by unfold Sh.room at hroom; omega
      rw [he]
      clear he harg
      obtain ⟨num, lsn, kind, head, slots⟩ := x
      simp only at *
      obtain ⟨kn, rfl⟩ : ∃ kn : Nat, kind = (kn : Int) := ⟨kind.toNat, by omega⟩
      have hkn2 : kn ≤ 255 := by omega
      have HFS := Lib.hid (Sh.front_size ⟨num, lsn, (kn : Int), head, slots⟩)
      have HFR : Hid ((⟨num, lsn, (kn : Int), head, slots⟩ : Sh).front = (⟨#[]⟩ : ByteArray) ++ leB lsn 8 ++ leB num 4 ++ leB kn 1 ++ leB head.size 1 ++ head ++ leB slots.length 1 ++ lensB slots ++ catB slots) := by
        show Sh.front _ = _
        rw [bytes_nil']
        unfold Sh.front
        simp only [ByteArray.append_assoc, Int.toNat_natCast]
      have HEN : Hid ((⟨num, lsn, (kn : Int), head, slots⟩ : Sh).enc = leB (crcMore 0 (⟨num, lsn, (kn : Int), head, slots⟩ : Sh).mid) 4 ++ (⟨num, lsn, (kn : Int), head, slots⟩ : Sh).mid) := rfl
      have HMD : Hid ((⟨num, lsn, (kn : Int), head, slots⟩ : Sh).mid = (⟨num, lsn, (kn : Int), head, slots⟩ : Sh).front ++ zerosB (500 - (⟨num, lsn, (kn : Int), head, slots⟩ : Sh).front.size) ++ leB lsn 8) := rfl
      generalize (⟨num, lsn, (kn : Int), head, slots⟩ : Sh).room = rm at *
      generalize (⟨num, lsn, (kn : Int), head, slots⟩ : Sh).enc = enc at *
      generalize (⟨num, lsn, (kn : Int), head, slots⟩ : Sh).mid = mid at *
      generalize (⟨num, lsn, (kn : Int), head, slots⟩ : Sh).front = front at *
      have hfs : front.size = 15 + head.size + slotsLen slots := HFS.out
      have hlc := lens_cat slots
      have hls := lensB_size slots
      clear HFS
      go_enter Tryz.func69, Tryz.ntmps69
      go_wp2_with (fail)
      refine HRO.out.mono ?_
      rintro e w2 ⟨rfl, hb2⟩
      have hB6 := Blk.new w 84 #[.int .u32 (num : Int), .int .u64 (lsn : Int), .int .i64 (kn : Int), .string head, .slice sa slots.length sc]
      obtain ⟨w1, hw1⟩ : ∃ w1, w.alloc (.cells #[.int .u32 (num : Int), .int .u64 (lsn : Int), .int .i64 (kn : Int), .string head, .slice sa slots.length sc] 84) = w1 := ⟨_, rfl⟩
      have hsz1 : w1.heap.size = w.heap.size + 1 := by rw [← hw1]; simp
      have hbw1 : Below w.heap.size w w1 := by rw [← hw1]; exact (Below.refl _ _).alloc (Nat.le_refl _) _
      rw [hw1] at hb2 hB6
      have HBW : ∀ W, Below w1.heap.size w1 W → Hid (Below w.heap.size w W) := fun W hW => hbw1.trans (hW.mono hbw1.size)
      have HR1 := Lib.hid (HR.out.below hbw1)
      have HCE : ∀ W, Below w1.heap.size w1 W → Hid (W.cell? ⟨w.heap.size, 0, none⟩ = some (.int .u32 (num : Int)) ∧ W.cell? ⟨w.heap.size, 1, none⟩ = some (.int .u64 (lsn : Int)) ∧ W.cell? ⟨w.heap.size, 2, none⟩ = some (.int .i64 (kn : Int)) ∧ W.cell? ⟨w.heap.size, 3, none⟩ = some (.string head) ∧ W.cell? ⟨w.heap.size, 4, none⟩ = some (.slice sa slots.length sc)) := fun W hW => by
        have hB := hB6.same (hW.block w.heap.size (by omega))
        exact ⟨hB.cell 0, hB.cell 1, hB.cell 2, hB.cell 3, hB.cell 4⟩
      have hNW := newWriter_c w2 w1.heap.size hb2.size
      have HNW := Lib.hid hNW
      have HB2 := Lib.hid hb2
      clear hNW hb2 hB6 hw1 hbw1 HRO HR hsz1
      generalize hhs : w.heap.size = hs at *
      have HHS := Lib.hid hhs
      clear hhs
      go_wp2_with (fail)
      refine HNW.out.mono ?_
      rintro e w3 ⟨wb, rfl, hw3, hb3⟩
      have H3 : Hid (EncSt w1 wb ⟨#[]⟩ w3) := ⟨hw3, HB2.out.trans (hb3.mono HB2.out.size)⟩
      clear HNW hw3 hb3 HB2
      have c0 : w3.cell? ⟨hs, 0, none⟩ = some (.int .u32 (num : Int)) := (HCE _ H3.out.2).out.1
      have c1 : w3.cell? ⟨hs, 1, none⟩ = some (.int .u64 (lsn : Int)) := (HCE _ H3.out.2).out.2.1
      have c2 : w3.cell? ⟨hs, 2, none⟩ = some (.int .i64 (kn : Int)) := (HCE _ H3.out.2).out.2.2.1
      have c3 : w3.cell? ⟨hs, 3, none⟩ = some (.string head) := (HCE _ H3.out.2).out.2.2.2.1
      have c4 : w3.cell? ⟨hs, 4, none⟩ = some (.slice sa slots.length sc) := (HCE _ H3.out.2).out.2.2.2.2
      have hz0 : (⟨#[]⟩ : ByteArray).size = 0 := rfl
      have HC := Lib.hid (H3.out.number lsn 8 (by omega) (by omega))
      go_wp2_with (fail)
      refine HC.out.mono ?_
      rintro e w4 ⟨rfl, hq⟩
      clear HC H3 c0 c1 c2 c3 c4
      have H4 := Lib.hid hq
      clear hq
      have c0 : w4.cell? ⟨hs, 0, none⟩ = some (.int .u32 (num : Int)) := (HCE _ H4.out.2).out.1
      have c1 : w4.cell? ⟨hs, 1, none⟩ = some (.int .u64 (lsn : Int)) := (HCE _ H4.out.2).out.2.1
      have c2 : w4.cell? ⟨hs, 2, none⟩ = some (.int .i64 (kn : Int)) := (HCE _ H4.out.2).out.2.2.1
      have c3 : w4.cell? ⟨hs, 3, none⟩ = some (.string head) := (HCE _ H4.out.2).out.2.2.2.1
      have c4 : w4.cell? ⟨hs, 4, none⟩ = some (.slice sa slots.length sc) := (HCE _ H4.out.2).out.2.2.2.2
      obtain ⟨a4, ha4⟩ : ∃ a, a = (⟨#[]⟩ : ByteArray) ++ leB lsn 8 := ⟨_, rfl⟩
      rw [← ha4] at H4
      have za4 : a4.size = 8 := by rw [ha4]; simp only [ByteArray.size_append, leB_size]; omega
      have Ea4 := Lib.hid ha4
      clear ha4
      have HC := Lib.hid (H4.out.number num 4 (by omega) (by omega))
      go_wp2_with (fail)
      refine HC.out.mono ?_
      rintro e w5 ⟨rfl, hq⟩
      clear HC H4 c0 c1 c2 c3 c4
      have H5 := Lib.hid hq
      clear hq
      have c0 : w5.cell? ⟨hs, 0, none⟩ = some (.int .u32 (num : Int)) := (HCE _ H5.out.2).out.1
      have c1 : w5.cell? ⟨hs, 1, none⟩ = some (.int .u64 (lsn : Int)) := (HCE _ H5.out.2).out.2.1
      have c2 : w5.cell? ⟨hs, 2, none⟩ = some (.int .i64 (kn : Int)) := (HCE _ H5.out.2).out.2.2.1
      have c3 : w5.cell? ⟨hs, 3, none⟩ = some (.string head) := (HCE _ H5.out.2).out.2.2.2.1
      have c4 : w5.cell? ⟨hs, 4, none⟩ = some (.slice sa slots.length sc) := (HCE _ H5.out.2).out.2.2.2.2
      obtain ⟨a5, ha5⟩ : ∃ a, a = a4 ++ leB num 4 := ⟨_, rfl⟩
      rw [← ha5] at H5
      have za5 : a5.size = 12 := by rw [ha5]; simp only [ByteArray.size_append, leB_size]; omega
      have Ea5 := Lib.hid ha5
      clear ha5
      have HC := Lib.hid (H5.out.number kn 1 (by omega) (by omega))
      go_wp2_with (fail)
      refine HC.out.mono ?_
      rintro e w6 ⟨rfl, hq⟩
      clear HC H5 c0 c1 c2 c3 c4
      have H6 := Lib.hid hq
      clear hq
      have c0 : w6.cell? ⟨hs, 0, none⟩ = some (.int .u32 (num : Int)) := (HCE _ H6.out.2).out.1
      have c1 : w6.cell? ⟨hs, 1, none⟩ = some (.int .u64 (lsn : Int)) := (HCE _ H6.out.2).out.2.1
      have c2 : w6.cell? ⟨hs, 2, none⟩ = some (.int .i64 (kn : Int)) := (HCE _ H6.out.2).out.2.2.1
      have c3 : w6.cell? ⟨hs, 3, none⟩ = some (.string head) := (HCE _ H6.out.2).out.2.2.2.1
      have c4 : w6.cell? ⟨hs, 4, none⟩ = some (.slice sa slots.length sc) := (HCE _ H6.out.2).out.2.2.2.2
      obtain ⟨a6, ha6⟩ : ∃ a, a = a5 ++ leB kn 1 := ⟨_, rfl⟩
      rw [← ha6] at H6
      have za6 : a6.size = 13 := by rw [ha6]; simp only [ByteArray.size_append, leB_size]; omega
      have Ea6 := Lib.hid ha6
      clear ha6
      have HC := Lib.hid (H6.out.number head.size 1 (by omega) (by omega))
      go_wp2_with (fail)
      refine HC.out.mono ?_
      rintro e w7 ⟨rfl, hq⟩
      clear HC H6 c0 c1 c2 c3 c4
      have H7 := Lib.hid hq
      clear hq
      have c0 : w7.cell? ⟨hs, 0, none⟩ = some (.int .u32 (num : Int)) := (HCE _ H7.out.2).out.1
      have c1 : w7.cell? ⟨hs, 1, none⟩ = some (.int .u64 (lsn : Int)) := (HCE _ H7.out.2).out.2.1
      have c2 : w7.cell? ⟨hs, 2, none⟩ = some (.int .i64 (kn : Int)) := (HCE _ H7.out.2).out.2.2.1
      have c3 : w7.cell? ⟨hs, 3, none⟩ = some (.string head) := (HCE _ H7.out.2).out.2.2.2.1
      have c4 : w7.cell? ⟨hs, 4, none⟩ = some (.slice sa slots.length sc) := (HCE _ H7.out.2).out.2.2.2.2
      obtain ⟨a7, ha7⟩ : ∃ a, a = a6 ++ leB head.size 1 := ⟨_, rfl⟩
      rw [← ha7] at H7
      have za7 : a7.size = 14 := by rw [ha7]; simp only [ByteArray.size_append, leB_size]; omega
      have Ea7 := Lib.hid ha7
      clear ha7
      have HC := Lib.hid (H7.out.bytes head (by omega))
      go_wp2_with (fail)
      refine HC.out.mono ?_
      rintro e w8 ⟨rfl, hq⟩
      clear HC H7 c0 c1 c2 c3 c4
      have H8 := Lib.hid hq
      clear hq
      have c0 : w8.cell? ⟨hs, 0, none⟩ = some (.int .u32 (num : Int)) := (HCE _ H8.out.2).out.1
      have c1 : w8.cell? ⟨hs, 1, none⟩ = some (.int .u64 (lsn : Int)) := (HCE _ H8.out.2).out.2.1
      have c2 : w8.cell? ⟨hs, 2, none⟩ = some (.int .i64 (kn : Int)) := (HCE _ H8.out.2).out.2.2.1
      have c3 : w8.cell? ⟨hs, 3, none⟩ = some (.string head) := (HCE _ H8.out.2).out.2.2.2.1
      have c4 : w8.cell? ⟨hs, 4, none⟩ = some (.slice sa slots.length sc) := (HCE _ H8.out.2).out.2.2.2.2
      obtain ⟨a8, ha8⟩ : ∃ a, a = a7 ++ head := ⟨_, rfl⟩
      rw [← ha8] at H8
      have za8 : a8.size = 14 + head.size := by rw [ha8]; simp only [ByteArray.size_append]; omega
      have Ea8 := Lib.hid ha8
      clear ha8
      have HC := Lib.hid (H8.out.number slots.length 1 (by omega) (by omega))
      go_wp2_with (fail)
      refine HC.out.mono ?_
      rintro e w9 ⟨rfl, hq⟩
      clear HC H8 c0 c1 c2 c3 c4
      have H9 := Lib.hid hq
      clear hq
      have c0 : w9.cell? ⟨hs, 0, none⟩ = some (.int .u32 (num : Int)) := (HCE _ H9.out.2).out.1
      have c1 : w9.cell? ⟨hs, 1, none⟩ = some (.int .u64 (lsn : Int)) := (HCE _ H9.out.2).out.2.1
      have c2 : w9.cell? ⟨hs, 2, none⟩ = some (.int .i64 (kn : Int)) := (HCE _ H9.out.2).out.2.2.1
      have c3 : w9.cell? ⟨hs, 3, none⟩ = some (.string head) := (HCE _ H9.out.2).out.2.2.2.1
      have c4 : w9.cell? ⟨hs, 4, none⟩ = some (.slice sa slots.length sc) := (HCE _ H9.out.2).out.2.2.2.2
      obtain ⟨a9, ha9⟩ : ∃ a, a = a8 ++ leB slots.length 1 := ⟨_, rfl⟩
      rw [← ha9] at H9
      have za9 : a9.size = 15 + head.size := by rw [ha9]; simp only [ByteArray.size_append, leB_size]; omega
      have Ea9 := Lib.hid ha9
      clear ha9
      go_wp2_with (fail)
      clear c0 c1 c2 c3 c4
      go_loopw [68] (fun i wr => ∃ k : Nat, k ≤ slots.length ∧ i = .int .i64 (k : Int) ∧ Hid (EncSt w1 wb (a9 ++ lensB (slots.take k)) wr)) (fun i _ => slots.length - (intOf i).toNat)
      case atStart => exact ⟨0, Nat.zero_le _, rfl, by rw [List.take_zero]; rw [show lensB [] = ⟨#[]⟩ from rfl, bytes_nil]; exact H9.out⟩
      case round =>
        obtain ⟨k, hk, rfl, hq⟩ := hrel
        by_cases hlt : k < slots.length
        · obtain ⟨s, hs2⟩ : ∃ s, slots[k]? = some s := ⟨_, List.getElem?_eq_getElem hlt⟩
          have hsz := slotsLen_get hs2
          obtain ⟨bb, rfl, _, _, _, hbb, hc⟩ := (HR1.out.below hq.out.2).at_ hs2
          have HE : Hid (a9 ++ lensB (slots.take (k + 1)) = a9 ++ lensB (slots.take k) ++ leB s.size 2) := by show _ = _; rw [take_snoc_get hs2, lensB_snoc, ByteArray.append_assoc]
          have hls2 := lensB_size (slots.take k)
          rw [List.length_take] at hls2
          have HC := Lib.hid (hq.out.number s.size 2 (by omega) (by rw [ByteArray.size_append]; omega))
          clear hs2 hls2
          go_wp2_with (fail)
          refine HC.out.mono ?_
          rintro e w10 ⟨rfl, hq2⟩
          have HQ2 : Hid (EncSt w1 wb (a9 ++ lensB (slots.take (k + 1))) w10) := by rw [HE.out]; exact hq2
          clear hq2 hq HC hc
          go_wp2
          go_roundw
          case rel => exact ⟨k + 1, by omega, by go_num, HQ2.out⟩
          case measure => simp [intOf]; omega
        · obtain rfl : k = slots.length := by omega
          rw [List.take_length] at hq
          rename World => w10
          have H10 := hq
          clear hq H9
          obtain ⟨a10, ha10⟩ : ∃ a, a = a9 ++ lensB slots := ⟨_, rfl⟩
          rw [← ha10] at H10
          have za10 : a10.size = 15 + head.size + 2 * slots.length := by rw [ha10]; simp only [ByteArray.size_append]; omega
          have Ea10 := Lib.hid ha10
          clear ha10
          have c0 : w10.cell? ⟨hs, 0, none⟩ = some (.int .u32 (num : Int)) := (HCE _ H10.out.2).out.1
          have c1 : w10.cell? ⟨hs, 1, none⟩ = some (.int .u64 (lsn : Int)) := (HCE _ H10.out.2).out.2.1
          have c2 : w10.cell? ⟨hs, 2, none⟩ = some (.int .i64 (kn : Int)) := (HCE _ H10.out.2).out.2.2.1
          have c3 : w10.cell? ⟨hs, 3, none⟩ = some (.string head) := (HCE _ H10.out.2).out.2.2.2.1
          have c4 : w10.cell? ⟨hs, 4, none⟩ = some (.slice sa slots.length sc) := (HCE _ H10.out.2).out.2.2.2.2
          go_wp2_with (fail)
          clear c0 c1 c2 c3 c4
          go_loopw [81] (fun i wr => ∃ k : Nat, k ≤ slots.length ∧ i = .int .i64 (k : Int) ∧ Hid (EncSt w1 wb (a10 ++ catB (slots.take k)) wr)) (fun i _ => slots.length - (intOf i).toNat)
          case atStart => exact ⟨0, Nat.zero_le _, rfl, by rw [List.take_zero]; rw [show catB [] = ⟨#[]⟩ from rfl, bytes_nil]; exact H10.out⟩
          case round =>
            obtain ⟨k, hk, rfl, hq⟩ := hrel
            by_cases hlt : k < slots.length
            · obtain ⟨s, hs2⟩ : ∃ s, slots[k]? = some s := ⟨_, List.getElem?_eq_getElem hlt⟩
              have hsz := slotsLen_get hs2
              obtain ⟨bb, rfl, _, _, _, hbb, hc⟩ := (HR1.out.below hq.out.2).at_ hs2
              have HE : Hid (a10 ++ catB (slots.take (k + 1)) = a10 ++ catB (slots.take k) ++ s) := by show _ = _; rw [take_snoc_get hs2, catB_snoc, ByteArray.append_assoc]
              have hls2 := catB_size_le (slots.take k)
              have hls3 := slotsLen_take_le slots k
              have HC := Lib.hid (hq.out.bytes s (by rw [ByteArray.size_append]; omega))
              clear hs2 hls2 hls3
              go_wp2_with (fail)
              refine HC.out.mono ?_
              rintro e w11 ⟨rfl, hq2⟩
              have HQ2 : Hid (EncSt w1 wb (a10 ++ catB (slots.take (k + 1))) w11) := by rw [HE.out]; exact hq2
              clear hq2 hq HC hc
              go_wp2
              go_roundw
              case rel => exact ⟨k + 1, by omega, by go_num, HQ2.out⟩
              case measure => simp [intOf]; omega
            · obtain rfl : k = slots.length := by omega
              rw [List.take_length] at hq
              rename World => w11
              have H11 := hq
              clear hq H10
              have hfront : a10 ++ catB slots = front := by
                rw [HFR.out, Ea10.out, Ea9.out, Ea8.out, Ea7.out, Ea6.out, Ea5.out, Ea4.out]
              rw [hfront] at H11
              clear hfront
              have c0 : w11.cell? ⟨hs, 0, none⟩ = some (.int .u32 (num : Int)) := (HCE _ H11.out.2).out.1
              have c1 : w11.cell? ⟨hs, 1, none⟩ = some (.int .u64 (lsn : Int)) := (HCE _ H11.out.2).out.2.1
              have c2 : w11.cell? ⟨hs, 2, none⟩ = some (.int .i64 (kn : Int)) := (HCE _ H11.out.2).out.2.2.1
              have c3 : w11.cell? ⟨hs, 3, none⟩ = some (.string head) := (HCE _ H11.out.2).out.2.2.2.1
              have c4 : w11.cell? ⟨hs, 4, none⟩ = some (.slice sa slots.length sc) := (HCE _ H11.out.2).out.2.2.2.2
              obtain ⟨pad, hpad⟩ : ∃ pad, pad = 500 - front.size := ⟨_, rfl⟩
              have hf5 : front.size ≤ 500 := by omega
              have e5 : (500 : Int) - (front.size : Int) = (pad : Int) := by omega
              have hp5 : pad ≤ 500 := by omega
              have HPD := Lib.hid hpad
              have HRZ := fun W => Lib.hid (repeat_zeros pad (by omega) W)
              have HL := Lib.hid H11.out.len
              clear hpad hfs hlc hls za4 za5 za6 za7 za8 za9 za10 hz0
              go_wp2_with (fail)
              refine HL.out.mono ?_
              rintro e w12 ⟨rfl, rfl⟩
              clear HL
              go_wp2_with (fail)
              refine (HRZ _).out.mono ?_
              rintro e w12 ⟨rfl, hb12⟩
              have H12 := Lib.hid (H11.out.below hb12)
              clear hb12 H11 c0 c1 c2 c3 c4 HRZ e5
              have hzp : (zerosB pad).size ≤ 500 := by rw [zerosB_size]; omega
              have c0 : w12.cell? ⟨hs, 0, none⟩ = some (.int .u32 (num : Int)) := (HCE _ H12.out.2).out.1
              have c1 : w12.cell? ⟨hs, 1, none⟩ = some (.int .u64 (lsn : Int)) := (HCE _ H12.out.2).out.2.1
              have c2 : w12.cell? ⟨hs, 2, none⟩ = some (.int .i64 (kn : Int)) := (HCE _ H12.out.2).out.2.2.1
              have c3 : w12.cell? ⟨hs, 3, none⟩ = some (.string head) := (HCE _ H12.out.2).out.2.2.2.1
              have c4 : w12.cell? ⟨hs, 4, none⟩ = some (.slice sa slots.length sc) := (HCE _ H12.out.2).out.2.2.2.2
              have HC := Lib.hid (H12.out.bytes (zerosB pad) (by omega))
              go_wp2_with (fail)
              refine HC.out.mono ?_
              rintro e w13 ⟨rfl, hq⟩
              clear HC H12 c0 c1 c2 c3 c4
              have H13 := Lib.hid hq
              clear hq
              have c0 : w13.cell? ⟨hs, 0, none⟩ = some (.int .u32 (num : Int)) := (HCE _ H13.out.2).out.1
              have c1 : w13.cell? ⟨hs, 1, none⟩ = some (.int .u64 (lsn : Int)) := (HCE _ H13.out.2).out.2.1
              have c2 : w13.cell? ⟨hs, 2, none⟩ = some (.int .i64 (kn : Int)) := (HCE _ H13.out.2).out.2.2.1
              have c3 : w13.cell? ⟨hs, 3, none⟩ = some (.string head) := (HCE _ H13.out.2).out.2.2.2.1
              have c4 : w13.cell? ⟨hs, 4, none⟩ = some (.slice sa slots.length sc) := (HCE _ H13.out.2).out.2.2.2.2
              obtain ⟨a13, ha13⟩ : ∃ a, a = front ++ zerosB pad := ⟨_, rfl⟩
              rw [← ha13] at H13
              have za13 : a13.size ≤ 500 := by rw [ha13, ByteArray.size_append, zerosB_size, HPD.out]; omega
              have za14 : 500 ≤ a13.size := by rw [ha13, ByteArray.size_append, zerosB_size, HPD.out]; omega
              have Ea13 := Lib.hid ha13
              clear ha13
              have HC := Lib.hid (H13.out.number lsn 8 (by omega) (by omega))
              go_wp2_with (fail)
              refine HC.out.mono ?_
              rintro e w14 ⟨rfl, hq⟩
              clear HC H13 c0 c1 c2 c3 c4
              have H14 := Lib.hid hq
              clear hq
              have c0 : w14.cell? ⟨hs, 0, none⟩ = some (.int .u32 (num : Int)) := (HCE _ H14.out.2).out.1
              have c1 : w14.cell? ⟨hs, 1, none⟩ = some (.int .u64 (lsn : Int)) := (HCE _ H14.out.2).out.2.1
              have c2 : w14.cell? ⟨hs, 2, none⟩ = some (.int .i64 (kn : Int)) := (HCE _ H14.out.2).out.2.2.1
              have c3 : w14.cell? ⟨hs, 3, none⟩ = some (.string head) := (HCE _ H14.out.2).out.2.2.2.1
              have c4 : w14.cell? ⟨hs, 4, none⟩ = some (.slice sa slots.length sc) := (HCE _ H14.out.2).out.2.2.2.2
              have hmid : a13 ++ leB lsn 8 = mid := by rw [HMD.out, Ea13.out, HPD.out]
              rw [hmid] at H14
              have hmz : mid.size ≤ 508 := by rw [← hmid, ByteArray.size_append, leB_size]; omega
              clear hmid
              have HA := Lib.hid H14.out.all
              have HS := fun W => Lib.hid (rawSum_c mid (by omega) W)
              have HP := fun W => Lib.hid (rawPutN_c (crcMore 0 mid) 4 (by omega) W)
              have hcl : crcMore 0 mid < 4294967296 := crcMore_lt (by decide) _
              go_wp2_with (fail)
              refine HA.out.mono ?_
              rintro e w15 ⟨rfl, rfl⟩
              clear HA
              go_wp2_with (fail)
              refine (HS _).out.mono ?_
              rintro e w15 ⟨rfl, rfl⟩
              have H15 := H14
              clear HS H14 c0 c1 c2 c3 c4
              generalize crcMore 0 mid = cr at *
              go_wp2_with (fail)
              refine (HP _).out.mono ?_
              rintro e w16 ⟨rfl, hb16⟩
              have H16 := Lib.hid (H15.out.below hb16)
              clear hb16 HP H15
              have HA := Lib.hid H16.out.all
              have EAD := sizes_add (leB cr 4) mid (by rw [leB_size]; omega)
              go_wp2_with (fail)
              refine HA.out.mono ?_
              rintro e w17 ⟨rfl, rfl⟩
              have HB17 := HBW _ H16.out.2
              clear HA
              go_wp2
              go_ret2
              exact ⟨by rw [HEN.out]; rfl, by rw [HHS.out]; exact HB17.out⟩
  · have he : x.encE = (⟨#[]⟩, 1) := by unfold Sh.encE; rw [if_neg harg]
    rw [he]
    have hx : x.kind < 0 ∨ (0 ≤ x.kind ∧ 255 < x.kind) ∨ (0 ≤ x.kind ∧ x.kind ≤ 255 ∧ 32 < x.head.size) ∨ (0 ≤ x.kind ∧ x.kind ≤ 255 ∧ x.head.size ≤ 32 ∧ 64 < x.slots.length) := by
      have : ¬ (0 ≤ x.kind ∧ x.kind ≤ 255 ∧ x.head.size ≤ 32 ∧ x.slots.length ≤ 64) := fun ⟨a, b, c, d⟩ => harg ⟨a, b, c, d⟩
      omega
    clear he harg HRO
    rcases hx with hx | ⟨hx1, hx2⟩ | ⟨hx1, hx2, hx3⟩ | ⟨hx1, hx2, hx3, hx4⟩
    all_goals
      go_enter Tryz.func69, Tryz.ntmps69
      go_wp2
      go_ret2
      exact ⟨rfl, (Below.refl _ _).alloc (Nat.le_refl _) _⟩
end
end Go.Proofs.YtnghgkaoopcglaaGreat
