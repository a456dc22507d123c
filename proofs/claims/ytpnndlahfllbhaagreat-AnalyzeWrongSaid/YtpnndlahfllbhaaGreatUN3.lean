/-
  The walks of rec.putChange and rec.Encode. Printed by n3.py.
-/
import Derived.Test.YtpnndlahfllbhaaGreatUN5
import Derived.Test.YtpnndlahfllbhaaGreatUN2
namespace Go.Proofs.YtpnndlahfllbhaaGreat
open Go.RowKit Go.Lib
attribute [local go_sem ↓] Go.wp_at_zero Go.wp_at_succ

/-- blocks stay that are no writer's -/
structure KeepW (w w' : World) : Prop where
  size : w.heap.size ≤ w'.heap.size
  blk : ∀ (g : Nat) (cs : Array Value) (t : TypeId) (m : Nat × Nat), w.heap[g]? = some (.cells cs t m) → t ≠ 304 → t ≠ 5 → w'.heap[g]? = w.heap[g]?
theorem KeepW.trans {a b c : World} (h : KeepW a b) (k : KeepW b c) : KeepW a c := by
  refine ⟨Nat.le_trans h.size k.size, fun g cs t m hg h1 h2 => ?_⟩
  have e := h.blk g cs t m hg h1 h2
  exact (k.blk g cs t m (e.trans hg) h1 h2).trans e
theorem KeepW.below {w w' : World} (h : Below w.heap.size w w') : KeepW w w' := ⟨h.size, fun g _ _ _ hg _ _ => h.block g (Array.getElem?_eq_some_iff.1 hg).1⟩
theorem KeepW.blk_ {w w' : World} (h : KeepW w w') {g : Nat} {t : TypeId} {cs : Array Value} (hb : Blk w g t cs) (h1 : t ≠ 304) (h2 : t ≠ 5) : Blk w' g t cs := hb.same (h.blk g _ t _ hb h1 h2)
section
variable {w w' w1 : World} {B wb : Nat} {bs s : ByteArray}
theorem wr_keep {sv v1 : Value} (h1 : Blk w wb 304 #[sv]) (h2 : w.ownsRow B 5 1 sv bs.size (strCells bs)) (q2 : w.grownBy w1 sv.ownBlock) : KeepW w (w1.setCell ⟨wb, 0, none⟩ v1) := by
  refine ⟨by rw [World.size_setCell]; exact q2.size, fun g cs t m hg n1 n2 => ?_⟩
  have hlt := (Array.getElem?_eq_some_iff.1 hg).1
  have hne : g ≠ wb := by
    intro e
    subst e
    have h1' : w.heap[g]? = some (.cells #[sv] 304 (0, 0)) := h1
    rw [h1'] at hg
    cases hg
    exact n1 rfl
  have hne2 : some g ≠ sv.ownBlock := by
    intro e
    rcases h2.2 with ⟨rfl, _⟩ | ⟨gg, cap, cur, e2, _, hh, _⟩
    · simp [Value.ownBlock] at e
    · subst e2
      simp [Value.ownBlock] at e
      subst e
      rw [hh] at hg
      cases hg
      exact n2 rfl
  exact (Below.heap_setCell _ _ _ g hne).trans (q2.block g hlt hne2)
set_option maxRecDepth 100000 in
set_option maxHeartbeats 1000000 in
theorem wbytes_k (h : WrAt w B wb bs) (s : ByteArray) (hz : bs.size + s.size ≤ 1000000) :
    Calls Tryz.prog 174 #[.pointer (some ⟨wb, 0, none⟩), .string s] w fun e w' => e = .returned (.tuple #[]) ∧ WrAt w' B wb (bs ++ s) ∧ Below B w w' ∧ KeepW w w' := by
  obtain ⟨i0, hi, hz0, hz1, hz2⟩ := info_parts infoByte
  obtain ⟨sv, h0, h1, h2⟩ := h
  obtain ⟨sa, sc, rfl⟩ := own_form h2
  have c0 : w.cell? ⟨wb, 0, none⟩ = some (.slice sa bs.size sc) := h1.cell 0
  have hlt := h1.lt
  have H0 := Lib.hid h0
  have H1 := Lib.hid h1
  have H2 := Lib.hid h2
  have N1 : Hid (bs.size + s.size ≤ maxLen) := by show _ ≤ maxLen; simp only [maxLen]; omega
  have N2 : Hid (bs.size + s.size ≤ 140737488355328) := by show _ ≤ 140737488355328; omega
  have N3 : Hid (B ≤ w.heap.size) := by show _ ≤ _; omega
  clear h0 h1 h2 hz
  go_enter Tryz.func174, Tryz.ntmps174
  go_wp2_with (at_builtin; refine Lib.wpList_append_own_string _ (by rfl) _ _ 122 9 (by rfl) B 5 i0 Tryz.underlying122 Tryz.underlying9 hi hz0 hz1 hz2 (.slice sa bs.size sc) bs.size (strCells bs) (by rfl) H2.out s (by rfl) N1.out N2.out N3.out ?_; intro v1 w1 q1 q2 _; obtain ⟨va, vc, rfl⟩ := own_form q1; have P := Lib.hid (wr_store H0.out H1.out H2.out q1 rfl q2); have K := Lib.hid (wr_keep (v1 := .slice va (bs.size + s.size) vc) H1.out H2.out q2); have d0 := P.out.1; have z0 := P.out.2.1; clear q1 q2)
  go_end0
  exact ⟨rfl, P.out.2.2.1, P.out.2.2.2, K.out⟩
theorem wnumber_k (h : WrAt w B wb bs) (n k : Nat) (hk : k ≤ 8) (hz : bs.size ≤ 900000) :
    Calls Tryz.prog 93 #[.pointer (some ⟨wb, 0, none⟩), .int .u64 (n : Int), .int .i64 (k : Int)] w fun e w' => e = .returned (.tuple #[]) ∧ WrAt w' B wb (bs ++ leB n k) ∧ Below B w w' ∧ KeepW w w' := by
  have hlt := h.lt
  have HP := Lib.hid (rawPutN_c n k hk w)
  have HB : ∀ W, Below w.heap.size w W → Hid (Calls Tryz.prog 174 #[.pointer (some ⟨wb, 0, none⟩), .string (leB n k)] W fun e w' => e = .returned (.tuple #[]) ∧ WrAt w' B wb (bs ++ leB n k) ∧ Below B W w' ∧ KeepW W w') := fun W hW => wbytes_k (h.below hW) _ (by rw [leB_size]; omega)
  clear h
  go_enter Tryz.func93, Tryz.ntmps93
  go_wp2_with (fail)
  refine HP.out.mono ?_
  rintro e w1 ⟨rfl, hb1⟩
  have HB1 := HB _ hb1
  have HBB : Hid (Below B w w1) := hb1.mono (by omega)
  have HKK := Lib.hid (KeepW.below hb1)
  clear hb1 HB
  go_wp2_with (fail)
  refine HB1.out.mono ?_
  rintro e w2 ⟨rfl, hw2, hb2, hk2⟩
  have HW := Lib.hid (And.intro hw2 (And.intro (HBB.out.trans hb2) (HKK.out.trans hk2)))
  clear hw2 hb2 hk2
  go_wp2
  go_end0
  exact ⟨rfl, HW.out⟩
set_option maxRecDepth 100000 in
theorem wtext_k (h : WrAt w B wb bs) (s : ByteArray) (hs : s.size ≤ 65535) (hz : bs.size ≤ 900000) :
    Calls Tryz.prog 176 #[.pointer (some ⟨wb, 0, none⟩), .string s] w fun e w' => e = .returned (.int .i64 0) ∧ WrAt w' B wb (bs ++ textB s) ∧ Below B w w' ∧ KeepW w w' := by
  have hlt := h.lt
  have HT := Lib.hid (rawText_c s hs w)
  have HTZ : (textB s).size ≤ 65537 := by rw [textB_size]; omega
  have HB : ∀ W, Below w.heap.size w W → Hid (Calls Tryz.prog 174 #[.pointer (some ⟨wb, 0, none⟩), .string (textB s)] W fun e w' => e = .returned (.tuple #[]) ∧ WrAt w' B wb (bs ++ textB s) ∧ Below B W w' ∧ KeepW W w') := fun W hW => wbytes_k (h.below hW) _ (by omega)
  clear h
  generalize textB s = t at *
  go_enter Tryz.func176, Tryz.ntmps176
  go_wp2_with (fail)
  refine HT.out.mono ?_
  rintro e w1 ⟨rfl, hb1⟩
  have HB1 := HB _ hb1
  have HBB : Hid (Below B w w1) := hb1.mono (by omega)
  have HKK := Lib.hid (KeepW.below hb1)
  clear hb1 HB
  go_wp2_with (fail)
  refine HB1.out.mono ?_
  rintro e w2 ⟨rfl, hw2, hb2, hk2⟩
  have HW := Lib.hid (And.intro hw2 (And.intro (HBB.out.trans hb2) (HKK.out.trans hk2)))
  clear hw2 hb2 hk2
  go_wp2
  go_ret
  exact ⟨rfl, HW.out⟩
set_option maxRecDepth 100000 in
theorem wbool_k (h : WrAt w B wb bs) (b : Bool) (hz : bs.size ≤ 900000) :
    Calls Tryz.prog 177 #[.pointer (some ⟨wb, 0, none⟩), .bool b] w fun e w' => e = .returned (.tuple #[]) ∧ WrAt w' B wb (bs ++ leB (if b then 1 else 0) 1) ∧ Below B w w' ∧ KeepW w w' := by
  cases b with
  | true =>
    have HN := Lib.hid (wnumber_k h 1 1 (by decide) hz)
    simp only [if_true]
    clear h
    go_enter Tryz.func177, Tryz.ntmps177
    go_wp2_with (fail)
    refine HN.out.mono ?_
    rintro e w1 ⟨rfl, hw⟩
    have HW := Lib.hid hw
    clear hw
    go_wp2
    go_end0
    exact ⟨rfl, HW.out⟩
  | false =>
    have HN := Lib.hid (wnumber_k h 0 1 (by decide) hz)
    have e0 : (if false = true then 1 else 0) = 0 := rfl
    rw [e0]
    clear h e0
    go_enter Tryz.func177, Tryz.ntmps177
    go_wp2_with (fail)
    refine HN.out.mono ?_
    rintro e w1 ⟨rfl, hw⟩
    have HW := Lib.hid hw
    clear hw
    go_wp2
    go_end0
    exact ⟨rfl, HW.out⟩
end

/-- while something is put: the writer, and a block beside it -/
structure PutSt (w : World) (B wb g : Nat) (t : TypeId) (cs : Array Value) (acc : ByteArray) (W : World) : Prop where
  wr : WrAt W B wb acc
  base : Below B w W
  box : Blk W g t cs
section
variable {w W W' : World} {B wb g : Nat} {t : TypeId} {cs : Array Value} {acc : ByteArray}
theorem PutSt.below (h : PutSt w B wb g t cs acc W) (hb : Below W.heap.size W W') : PutSt w B wb g t cs acc W' := ⟨h.wr.below hb, h.base.trans (hb.mono (Nat.le_of_lt h.wr.lt)), h.box.same (hb.block _ h.box.lt)⟩
theorem PutSt.number (h : PutSt w B wb g t cs acc W) (h1 : t ≠ 304) (h2 : t ≠ 5) (n k : Nat) (hk : k ≤ 8) (hz : acc.size ≤ 900000) :
    Calls Tryz.prog 93 #[.pointer (some ⟨wb, 0, none⟩), .int .u64 (n : Int), .int .i64 (k : Int)] W fun e w' => e = .returned (.tuple #[]) ∧ PutSt w B wb g t cs (acc ++ leB n k) w' ∧ KeepW W w' :=
  (wnumber_k h.wr n k hk hz).mono fun _ _ ⟨he, q1, q2, q3⟩ => ⟨he, ⟨q1, h.base.trans q2, q3.blk_ h.box h1 h2⟩, q3⟩
theorem PutSt.text (h : PutSt w B wb g t cs acc W) (h1 : t ≠ 304) (h2 : t ≠ 5) (s : ByteArray) (hs : s.size ≤ 65535) (hz : acc.size ≤ 900000) :
    Calls Tryz.prog 176 #[.pointer (some ⟨wb, 0, none⟩), .string s] W fun e w' => e = .returned (.int .i64 0) ∧ PutSt w B wb g t cs (acc ++ textB s) w' ∧ KeepW W w' :=
  (wtext_k h.wr s hs hz).mono fun _ _ ⟨he, q1, q2, q3⟩ => ⟨he, ⟨q1, h.base.trans q2, q3.blk_ h.box h1 h2⟩, q3⟩
theorem PutSt.bool (h : PutSt w B wb g t cs acc W) (h1 : t ≠ 304) (h2 : t ≠ 5) (b : Bool) (hz : acc.size ≤ 900000) :
    Calls Tryz.prog 177 #[.pointer (some ⟨wb, 0, none⟩), .bool b] W fun e w' => e = .returned (.tuple #[]) ∧ PutSt w B wb g t cs (acc ++ leB (if b then 1 else 0) 1) w' ∧ KeepW W w' :=
  (wbool_k h.wr b hz).mono fun _ _ ⟨he, q1, q2, q3⟩ => ⟨he, ⟨q1, h.base.trans q2, q3.blk_ h.box h1 h2⟩, q3⟩
end
section
variable {w : World} {B wb : Nat} {bs : ByteArray} {kind tx prev next page k a undo index rp rs : Nat} {s d key : ByteArray} {live : Bool}
set_option maxRecDepth 100000 in
set_option maxHeartbeats 4000000 in
theorem recPut_w (h : WrAt w B wb bs) (ta da : Option Addr) (tn tc dn dc : Nat) (hpg : page < 4294967296) (hrp : rp < 4294967296) (hk : k ≤ 7) (ha : a ≤ 511) (hs : s.size ≤ 512) (hd : d.size ≤ 512) (hu : undo ≤ 2) (hi : undo = 2 → index ≤ 65535 ∧ key.size ≤ 64 ∧ rs ≤ 65535) (hz : bs.size ≤ 500000) :
    Calls Tryz.prog 94 #[.pointer (some ⟨wb, 0, none⟩), .agg #[.int .i64 (kind : Int), .int .i64 (tx : Int), .int .u64 (prev : Int), .int .u64 (next : Int), .int .u32 (page : Int), .int .i64 (k : Int), .int .i64 (a : Int), .string s, .string d, .int .i64 (undo : Int), .int .i64 (index : Int), .string key, .int .u32 (rp : Int), .int .i64 (rs : Int), .bool live, .slice ta tn tc, .slice da dn dc]] w fun e w' => e = .returned (.tuple #[]) ∧ WrAt w' B wb (bs ++ leB page 4 ++ leB k 1 ++ leB a 2 ++ textB s ++ textB d ++ leB undo 1 ++ (if undo = 2 then leB index 2 ++ textB key ++ leB rp 4 ++ leB rs 2 ++ leB (if live then 1 else 0) 1 else ⟨#[]⟩)) ∧ Below B w w' := by
  have hlt := h.lt
  generalize hR : bs ++ leB page 4 ++ leB k 1 ++ leB a 2 ++ textB s ++ textB d ++ leB undo 1 ++ (if undo = 2 then leB index 2 ++ textB key ++ leB rp 4 ++ leB rs 2 ++ leB (if live then 1 else 0) 1 else ⟨#[]⟩) = R
  have HR := Lib.hid hR
  clear hR
  have H : Hid (PutSt w B wb w.heap.size 63 #[.int .i64 (kind : Int), .int .i64 (tx : Int), .int .u64 (prev : Int), .int .u64 (next : Int), .int .u32 (page : Int), .int .i64 (k : Int), .int .i64 (a : Int), .string s, .string d, .int .i64 (undo : Int), .int .i64 (index : Int), .string key, .int .u32 (rp : Int), .int .i64 (rs : Int), .bool live, .slice ta tn tc, .slice da dn dc] bs (w.alloc (.cells #[.int .i64 (kind : Int), .int .i64 (tx : Int), .int .u64 (prev : Int), .int .u64 (next : Int), .int .u32 (page : Int), .int .i64 (k : Int), .int .i64 (a : Int), .string s, .string d, .int .i64 (undo : Int), .int .i64 (index : Int), .string key, .int .u32 (rp : Int), .int .i64 (rs : Int), .bool live, .slice ta tn tc, .slice da dn dc] 63))) := ⟨h.below ((Below.refl _ _).alloc (Nat.le_refl _) _), (Below.refl _ _).alloc (by omega) _, Blk.new w _ _⟩
  have ep : IntKind.u64.wrap (page : Int) = (page : Int) := IntWalk.u64_in _ (by omega)
  have ek : IntKind.u64.wrap (k : Int) = (k : Int) := IntWalk.u64_in _ (by omega)
  have ea : IntKind.u64.wrap (a : Int) = (a : Int) := IntWalk.u64_in _ (by omega)
  have eu : IntKind.u64.wrap (undo : Int) = (undo : Int) := IntWalk.u64_in _ (by omega)
  have erp : IntKind.u64.wrap (rp : Int) = (rp : Int) := IntWalk.u64_in _ (by omega)
  have hts := textB_size s
  have htd := textB_size d
  have HTS : (textB s).size ≤ 514 := by omega
  have HTD : (textB d).size ≤ 514 := by omega
  clear h hts htd
  go_enter Tryz.func94, Tryz.ntmps94
  have c4 : (w.alloc (.cells #[.int .i64 (kind : Int), .int .i64 (tx : Int), .int .u64 (prev : Int), .int .u64 (next : Int), .int .u32 (page : Int), .int .i64 (k : Int), .int .i64 (a : Int), .string s, .string d, .int .i64 (undo : Int), .int .i64 (index : Int), .string key, .int .u32 (rp : Int), .int .i64 (rs : Int), .bool live, .slice ta tn tc, .slice da dn dc] 63)).cell? ⟨w.heap.size, 4, none⟩ = some (.int .u32 (page : Int)) := H.out.box.cell 4
  have HC := Lib.hid (H.out.number (by decide) (by decide) page 4 (by decide) (by first | omega | (simp only [ByteArray.size_append, leB_size]; omega)))
  go_wp2_with (fail)
  refine HC.out.mono ?_
  rintro e w1 ⟨rfl, hp, _⟩
  have H1 := Lib.hid hp
  clear hp HC c4
  have c5 : w1.cell? ⟨w.heap.size, 5, none⟩ = some (.int .i64 (k : Int)) := H1.out.box.cell 5
  have HC := Lib.hid (H1.out.number (by decide) (by decide) k 1 (by decide) (by first | omega | (simp only [ByteArray.size_append, leB_size]; omega)))
  go_wp2_with (fail)
  refine HC.out.mono ?_
  rintro e w2 ⟨rfl, hp, _⟩
  have H2 := Lib.hid hp
  clear hp HC c5
  have c6 : w2.cell? ⟨w.heap.size, 6, none⟩ = some (.int .i64 (a : Int)) := H2.out.box.cell 6
  have HC := Lib.hid (H2.out.number (by decide) (by decide) a 2 (by decide) (by first | omega | (simp only [ByteArray.size_append, leB_size]; omega)))
  go_wp2_with (fail)
  refine HC.out.mono ?_
  rintro e w3 ⟨rfl, hp, _⟩
  have H3 := Lib.hid hp
  clear hp HC c6
  have c7 : w3.cell? ⟨w.heap.size, 7, none⟩ = some (.string s) := H3.out.box.cell 7
  have HC := Lib.hid (H3.out.text (by decide) (by decide) s (by omega) (by first | omega | (simp only [ByteArray.size_append, leB_size]; omega)))
  go_wp2_with (fail)
  refine HC.out.mono ?_
  rintro e w4 ⟨rfl, hp, _⟩
  have H4 := Lib.hid hp
  clear hp HC c7
  have c8 : w4.cell? ⟨w.heap.size, 8, none⟩ = some (.string d) := H4.out.box.cell 8
  have HC := Lib.hid (H4.out.text (by decide) (by decide) d (by omega) (by first | omega | (simp only [ByteArray.size_append, leB_size]; omega)))
  go_wp2_with (fail)
  refine HC.out.mono ?_
  rintro e w5 ⟨rfl, hp, _⟩
  have H5 := Lib.hid hp
  clear hp HC c8
  have c9 : w5.cell? ⟨w.heap.size, 9, none⟩ = some (.int .i64 (undo : Int)) := H5.out.box.cell 9
  have HC := Lib.hid (H5.out.number (by decide) (by decide) undo 1 (by decide) (by first | omega | (simp only [ByteArray.size_append, leB_size]; omega)))
  go_wp2_with (fail)
  refine HC.out.mono ?_
  rintro e w6 ⟨rfl, hp, _⟩
  have H6 := Lib.hid hp
  clear hp HC c9
  by_cases hu2 : undo = 2
  · obtain ⟨hi1, hi2, hi3⟩ := hi hu2
    subst hu2
    have hx1 : IntKind.u64.wrap (index : Int) = (index : Int) := IntWalk.u64_in _ (by omega)
    have hx2 : IntKind.u64.wrap (rs : Int) = (rs : Int) := IntWalk.u64_in _ (by omega)
    have htk := textB_size key
    have HTK : (textB key).size ≤ 66 := by omega
    clear htk hi
    have c9 : w6.cell? ⟨w.heap.size, 9, none⟩ = some (.int .i64 2) := H6.out.box.cell 9
    have c10 : w6.cell? ⟨w.heap.size, 10, none⟩ = some (.int .i64 (index : Int)) := H6.out.box.cell 10
    have HC := Lib.hid (H6.out.number (by decide) (by decide) index 2 (by decide) (by first | omega | (simp only [ByteArray.size_append, leB_size]; omega)))
    go_wp2_with (fail)
    refine HC.out.mono ?_
    rintro e w7 ⟨rfl, hp, _⟩
    have H7 := Lib.hid hp
    clear hp HC c10
    have c11 : w7.cell? ⟨w.heap.size, 11, none⟩ = some (.string key) := H7.out.box.cell 11
    have HC := Lib.hid (H7.out.text (by decide) (by decide) key (by omega) (by first | omega | (simp only [ByteArray.size_append, leB_size]; omega)))
    go_wp2_with (fail)
    refine HC.out.mono ?_
    rintro e w8 ⟨rfl, hp, _⟩
    have H8 := Lib.hid hp
    clear hp HC c11
    have c12 : w8.cell? ⟨w.heap.size, 12, none⟩ = some (.int .u32 (rp : Int)) := H8.out.box.cell 12
    have HC := Lib.hid (H8.out.number (by decide) (by decide) rp 4 (by decide) (by first | omega | (simp only [ByteArray.size_append, leB_size]; omega)))
    go_wp2_with (fail)
    refine HC.out.mono ?_
    rintro e w9 ⟨rfl, hp, _⟩
    have H9 := Lib.hid hp
    clear hp HC c12
    have c13 : w9.cell? ⟨w.heap.size, 13, none⟩ = some (.int .i64 (rs : Int)) := H9.out.box.cell 13
    have HC := Lib.hid (H9.out.number (by decide) (by decide) rs 2 (by decide) (by first | omega | (simp only [ByteArray.size_append, leB_size]; omega)))
    go_wp2_with (fail)
    refine HC.out.mono ?_
    rintro e w10 ⟨rfl, hp, _⟩
    have H10 := Lib.hid hp
    clear hp HC c13
    have c14 : w10.cell? ⟨w.heap.size, 14, none⟩ = some (.bool live) := H10.out.box.cell 14
    have HC := Lib.hid (H10.out.bool (by decide) (by decide) live (by first | omega | (simp only [ByteArray.size_append, leB_size]; omega)))
    go_wp2_with (fail)
    refine HC.out.mono ?_
    rintro e w11 ⟨rfl, hp, _⟩
    have H11 := Lib.hid hp
    clear hp HC c14
    go_wp2_with (fail)
    go_end0
    refine ⟨rfl, ?_, H11.out.base⟩
    have := H11.out.wr
    rw [← HR.out, if_pos (by trivial)]
    simp only [ByteArray.append_assoc] at this ⊢
    exact this
  · have c9 : w6.cell? ⟨w.heap.size, 9, none⟩ = some (.int .i64 (undo : Int)) := H6.out.box.cell 9
    have hu2' : ((undo : Int) == 2) = false := by simp; omega
    clear hi
    go_wp2_with (fail)
    go_end0
    exact ⟨rfl, by rw [← HR.out, if_neg hu2, bytes_nil]; exact H6.out.wr, H6.out.base⟩
end
end Go.Proofs.YtpnndlahfllbhaaGreat
