/-
  The disk in memory, and the small functions on it.
-/
import Derived.Test.YtnobiekgifjaeaaShelf
import Derived.Test.YtnobiekgifjaeaaM0
import Derived.Test.YtnobiekgifjaeaaM1
import Derived.WalkSpells
import Derived.WalkLawsBesides
import Derived.BigQuiet
import Derived.Deep.QuietTactic
namespace Go.Proofs.Ytnobiekgifjaeaa
open Go.RowKit

def wrCells (x : Wr) : List Value := [.int .u32 x.page, .string x.s, .int .u64 x.mark]
def wrsCells (l : List Wr) : List Value := l.flatMap wrCells
def flCells (f : Fl) : List Value := [.int .i64 f.at_, .int .u64 f.keep, .int .i64 f.torn, .int .i64 f.bytes, .int .i64 f.log]
def flsCells (l : List Fl) : List Value := l.flatMap flCells

theorem wrsCells_length (l : List Wr) : (wrsCells l).length = l.length * 3 := by
  induction l with
  | nil => rfl
  | cons x l ih => simp only [wrsCells, List.flatMap_cons, List.length_append, List.length_cons] at ih ⊢; rw [ih]; simp [wrCells]; omega

/-- the disk m lies at block b, in the blocks of F -/
structure DiskIn (w : World) (F : Nat → Prop) (b mb : Nat) (lv pv : Value) (m : Dk) : Prop where
  blk : Blk w b 106 #[.int .i64 m.room, .map (some mb), .int .u64 m.mark, lv, .string m.log, .string m.tail, .int .i64 m.calls, pv, .bool m.dead]
  map : MapI .u32 w mb (fun p => (m.pages p).map Value.string)
  loose : w.ownsRow 0 109 3 lv m.loose.length (wrsCells m.loose)
  plan : w.ownsRow 0 39 5 pv m.plan.length (flsCells m.plan)
  fb : F b
  fm : F mb
  fl : ∀ g, lv.ownBlock = some g → F g
  fp : ∀ g, pv.ownBlock = some g → F g
  ok : m.ok
  lt : ∀ r, F r → r < w.heap.size

def DiskAt (w : World) (F : Nat → Prop) (b : Nat) (m : Dk) : Prop := ∃ mb lv pv, DiskIn w F b mb lv pv m

section
variable {w w' : World} {F : Nat → Prop} {b mb : Nat} {lv pv : Value} {m : Dk}

theorem DiskIn.keep (h : DiskIn w F b mb lv pv m) (hk : ∀ r, F r → w'.heap[r]? = w.heap[r]?) (hs : w.heap.size ≤ w'.heap.size) : DiskIn w' F b mb lv pv m :=
  ⟨h.blk.same (hk _ h.fb), h.map.same (hk _ h.fm), own_same h.loose (fun g hg => hk _ (h.fl g hg)), own_same h.plan (fun g hg => hk _ (h.fp g hg)), h.fb, h.fm, h.fl, h.fp, h.ok, fun r hr => Nat.lt_of_lt_of_le (h.lt r hr) hs⟩
theorem DiskAt.keep (h : DiskAt w F b m) (hk : ∀ r, F r → w'.heap[r]? = w.heap[r]?) (hs : w.heap.size ≤ w'.heap.size) : DiskAt w' F b m := by
  obtain ⟨mb, lv, pv, h⟩ := h
  exact ⟨mb, lv, pv, h.keep hk hs⟩
theorem DiskAt.below (h : DiskAt w F b m) (hb : Below w.heap.size w w') : DiskAt w' F b m := h.keep (fun r hr => hb.block r (by obtain ⟨_, _, _, h⟩ := h; exact h.lt r hr)) hb.size
theorem DiskAt.ok (h : DiskAt w F b m) : m.ok := by obtain ⟨_, _, _, h⟩ := h; exact h.ok
theorem DiskAt.lt (h : DiskAt w F b m) : ∀ r, F r → r < w.heap.size := by obtain ⟨_, _, _, h⟩ := h; exact h.lt

/-- all that a walk reads of the disk's own block -/
theorem DiskIn.cells (h : DiskIn w F b mb lv pv m) :
    w.cell? ⟨b, 0, none⟩ = some (.int .i64 m.room) ∧ w.cell? ⟨b, 1, none⟩ = some (.map (some mb)) ∧ w.cell? ⟨b, 2, none⟩ = some (.int .u64 m.mark) ∧ w.cell? ⟨b, 3, none⟩ = some lv ∧
    w.cell? ⟨b, 4, none⟩ = some (.string m.log) ∧ w.cell? ⟨b, 5, none⟩ = some (.string m.tail) ∧ w.cell? ⟨b, 6, none⟩ = some (.int .i64 m.calls) ∧ w.cell? ⟨b, 7, none⟩ = some pv ∧ w.cell? ⟨b, 8, none⟩ = some (.bool m.dead) ∧
    ∀ i, w.frozen? ⟨b, i, none⟩ = false :=
  ⟨h.blk.cell 0, h.blk.cell 1, h.blk.cell 2, h.blk.cell 3, h.blk.cell 4, h.blk.cell 5, h.blk.cell 6, h.blk.cell 7, h.blk.cell 8, h.blk.frozen⟩
end

section
variable {w w' : World} {F : Nat → Prop} {b mb : Nat} {lv pv : Value} {m : Dk}
def dkCells (mb : Nat) (lv pv : Value) (m : Dk) : Array Value := #[.int .i64 m.room, .map (some mb), .int .u64 m.mark, lv, .string m.log, .string m.tail, .int .i64 m.calls, pv, .bool m.dead]

/-- a store into one of the disk's own cells -/
theorem DiskIn.set (h : DiskIn w F b mb lv pv m) (i : Nat) (u : Value) (m' : Dk) (hcs : (dkCells mb lv pv m).setIfInBounds i u = dkCells mb lv pv m') (hp : m'.pages = m.pages) (hl : m'.loose = m.loose) (hpl : m'.plan = m.plan) (hok : m'.ok) :
    DiskIn (w.setCell ⟨b, i, none⟩ u) F b mb lv pv m' := by
  have hm : mb ≠ b := by
    rintro rfl
    obtain ⟨es, c, h1, _⟩ := h.map
    have h2 := h.blk
    unfold Blk at h2
    rw [h1] at h2
    cases h2
  have ho : ∀ r, r ≠ b → (w.setCell ⟨b, i, none⟩ u).heap[r]? = w.heap[r]? := fun r hr => Below.heap_setCell w _ u r hr
  refine ⟨?_, ?_, ?_, ?_, h.fb, h.fm, h.fl, h.fp, hok, fun r hr => by have := h.lt r hr; simpa [World.setCell] using this⟩
  · have := h.blk.set_ i u
    have e : (#[.int .i64 m.room, .map (some mb), .int .u64 m.mark, lv, .string m.log, .string m.tail, .int .i64 m.calls, pv, .bool m.dead] : Array Value).setIfInBounds i u = dkCells mb lv pv m' := hcs
    rw [e] at this
    exact this
  · rw [hp]; exact h.map.same (ho _ hm)
  · rw [hl]; exact own_same h.loose (fun g hg => ho g (fun e => own_blk_ne h.loose h.blk (by decide) (by rw [hg, e])))
  · rw [hpl]; exact own_same h.plan (fun g hg => ho g (fun e => own_blk_ne h.plan h.blk (by decide) (by rw [hg, e])))

theorem DiskIn.drewN (h : DiskIn w F b mb lv pv m) (n : Nat) : DiskIn (w.drewN n) F b mb lv pv m := h.keep (fun _ _ => rfl) (Nat.le_refl _)
theorem DiskIn.below (h : DiskIn w F b mb lv pv m) (hb : Below w.heap.size w w') : DiskIn w' F b mb lv pv m := h.keep (fun r hr => hb.block r (h.lt r hr)) hb.size
end

/-- what a call that works on the disk leaves -/
def DPost (w : World) (F : Nat → Prop) (b : Nat) (m : Dk) (w' : World) : Prop := ∃ F', DiskAt w' F' b m ∧ Step F w w' ∧ More F F' w

theorem DPost.mk' {w w' : World} {F : Nat → Prop} {b mb : Nat} {lv pv : Value} {m : Dk} (h : DiskIn w' F b mb lv pv m) (hs : Step F w w') : DPost w F b m w' := ⟨F, ⟨mb, lv, pv, h⟩, hs, More.refl F w⟩

theorem dead_nil (w : World) : Calls Try.prog 20 #[.pointer none] w fun e w' => e = .returned (.bool true) ∧ w = w' := by
  go_enter Try.func20, Try.ntmps20
  go_wp2
  go_ret
  exact ⟨rfl, rfl⟩

section
variable {w : World} {F : Nat → Prop} {b : Nat} {m : Dk}
theorem dead_c (h : DiskAt w F b m) : Calls Try.prog 20 #[.pointer (some ⟨b, 0, none⟩)] w fun e w' => e = .returned (.bool m.dead) ∧ w = w' := by
  obtain ⟨mb, lv, pv, h⟩ := h
  have c8 := h.cells.2.2.2.2.2.2.2.2.1
  clear h
  go_enter Try.func20, Try.ntmps20
  go_wp2
  go_ret
  exact ⟨rfl, rfl⟩

theorem calls_c (h : DiskAt w F b m) : Calls Try.prog 32 #[.pointer (some ⟨b, 0, none⟩)] w fun e w' => e = .returned (.int .i64 m.calls) ∧ w = w' := by
  obtain ⟨mb, lv, pv, h⟩ := h
  have c8 := h.cells.2.2.2.2.2.2.1
  clear h
  go_enter Try.func32, Try.ntmps32
  go_wp2
  go_ret
  exact ⟨rfl, rfl⟩

theorem room_c (h : DiskAt w F b m) : Calls Try.prog 33 #[.pointer (some ⟨b, 0, none⟩)] w fun e w' => e = .returned (.int .i64 m.room) ∧ w = w' := by
  obtain ⟨mb, lv, pv, h⟩ := h
  have c8 := h.cells.1
  clear h
  go_enter Try.func33, Try.ntmps33
  go_wp2
  go_ret
  exact ⟨rfl, rfl⟩

theorem may_c (h : DiskAt w F b m) (p : Int) (h0 : 0 ≤ p) (h1 : p ≤ 4294967295) : Calls Try.prog 59 #[.pointer (some ⟨b, 0, none⟩), .int .u32 p] w fun e w' => e = .returned (.int .i64 (m.may p)) ∧ w = w' := by
  obtain ⟨mb, lv, pv, h⟩ := h
  have c8 := h.cells.1
  clear h
  by_cases a1 : p < 1
  · have e1 : m.may p = 1 := by simp [Dk.may, a1]
    rw [e1]
    clear e1
    go_enter Try.func59, Try.ntmps59
    go_wp2
    go_ret
    exact ⟨rfl, rfl⟩
  · by_cases a2 : 4096 < p
    · have e1 : m.may p = 1 := by simp [Dk.may, a2]
      rw [e1]
      clear e1
      go_enter Try.func59, Try.ntmps59
      go_wp2
      go_ret
      exact ⟨rfl, rfl⟩
    · by_cases a3 : m.room ≤ (p - 1) % 2048
      · have e1 : m.may p = 20 := by simp [Dk.may, a1, a2, a3]
        rw [e1]
        clear e1
        go_enter Try.func59, Try.ntmps59
        go_wp2
        go_ret
        exact ⟨rfl, rfl⟩
      · have e1 : m.may p = 0 := by simp [Dk.may, a1, a2, a3]
        rw [e1]
        clear e1
        go_enter Try.func59, Try.ntmps59
        go_wp2
        go_ret
        exact ⟨rfl, rfl⟩

theorem readLog_dead (h : DiskAt w F b m) (hd : m.dead = true) : Calls Try.prog 26 #[.pointer (some ⟨b, 0, none⟩)] w fun e w' => e = .returned (.tuple #[.string ⟨#[]⟩, .int .i64 7]) ∧ w = w' := by
  have hc := dead_c h
  rw [hd] at hc
  have HC := Lib.hid hc
  clear h hd hc
  go_enter Try.func26, Try.ntmps26
  go_wp2_with (go_at_call 20; refine (HC.out).mono ?_; rintro e w' ⟨rfl, rfl⟩)
  go_ret2
  exact ⟨rfl, rfl⟩

theorem readLog_c (h : DiskAt w F b m) (hd : m.dead = false) : Calls Try.prog 26 #[.pointer (some ⟨b, 0, none⟩)] w fun e w' => e = .returned (.tuple #[.string (m.log ++ m.tail), .int .i64 0]) ∧ Below w.heap.size w w' := by
  have hc := dead_c h
  rw [hd] at hc
  have HC := Lib.hid hc
  obtain ⟨mb, lv, pv, h⟩ := h
  have c4 := h.cells.2.2.2.2.1
  have c5 := h.cells.2.2.2.2.2.1
  have hs := h.ok.logs
  clear h hd hc
  go_enter Try.func26, Try.ntmps26
  go_wp2_with (go_at_call 20; refine (HC.out).mono ?_; rintro e w' ⟨rfl, rfl⟩)
  go_quiet (fail)
  go_wp2
  go_ret2
  exact ⟨rfl, ⟨rfl, rfl, rfl, Nat.le_refl _, fun _ _ => rfl⟩⟩

theorem up_c (h : DiskAt w F b m) : Calls Try.prog 21 #[.pointer (some ⟨b, 0, none⟩)] w fun e w' => e = .returned (.bool m.dead) ∧ DPost w F b { m with dead := false } w' := by
  obtain ⟨mb, lv, pv, h⟩ := h
  have c8 := h.cells.2.2.2.2.2.2.2.2.1
  have f8 := h.cells.2.2.2.2.2.2.2.2.2 8
  have hn := h.set 8 (.bool false) { m with dead := false } rfl rfl rfl rfl ⟨h.ok.room1, h.ok.room2, h.ok.calls1, h.ok.calls2, h.ok.logs, h.ok.loose, h.ok.pages⟩
  have HN := Lib.hid hn
  have HF := Lib.hid h.fb
  cases hd : m.dead with
  | true =>
    rw [hd] at c8
    clear h hn hd
    go_enter Try.func21, Try.ntmps21
    go_wp2
    go_ret
    exact ⟨rfl, DPost.mk' HN.out ((Step.refl F w).setCell (.inl HF.out) _)⟩
  | false =>
    rw [hd] at c8
    have e : m = { m with dead := false } := by rw [← hd]
    have H := Lib.hid h
    have E := Lib.hid e
    clear h hn hd e
    go_enter Try.func21, Try.ntmps21
    go_wp2
    go_ret
    exact ⟨rfl, E.out ▸ DPost.mk' H.out (Step.refl F w)⟩

theorem zero_string (w : World) : (zeroValue 9).run Try.prog w = .ok (.string ⟨#[]⟩) w := by kernel_rfl

theorem repeatL_one (c : UInt8) : ∀ n, Lib.repeatL [c] n = List.replicate n c
  | 0 => rfl
  | n + 1 => by simp [Lib.repeatL, repeatL_one c n, List.replicate_succ]

theorem repeat_blank : (⟨(Lib.repeatL [0] 512).toArray⟩ : ByteArray) = blank := by
  rw [repeatL_one]
  rfl

theorem sure_c (h : DiskAt w F b m) (p : Int) : Calls Try.prog 61 #[.pointer (some ⟨b, 0, none⟩), .int .u32 p] w fun e w' => e = .returned (.string (m.sure p)) ∧ Below w.heap.size w w' := by
  obtain ⟨mb, lv, pv, h⟩ := h
  have c1 := h.cells.2.1
  have hl := h.map.look (P := Try.prog) Try.underlying103 Try.underlying34 p (zero_string w) true
  cases hp : m.pages p with
  | none =>
    have e1 : m.sure p = blank := by simp [Dk.sure, hp]
    rw [e1]
    simp only [hp, Option.map_none, Option.getD_none, Option.isSome_none, if_true] at hl
    have HR : ∀ W, Hid (Calls Try.prog 81 #[.string ⟨#[0]⟩, .int .i64 512] W fun e w' => e = .returned (.string blank) ∧ Below W.heap.size W w') := fun W => by
      have := Try.strings_Repeat ⟨#[0]⟩ 512 W (by omega) (by simp [ByteArray.size])
      have e2 : (⟨(Lib.repeatL (⟨#[0]⟩ : ByteArray).data.toList 512).toArray⟩ : ByteArray) = blank := repeat_blank
      rw [e2] at this
      exact this
    clear h hp e1
    go_enter Try.func61, Try.ntmps61
    go_wp2_with (go_at_call 81; refine ((HR _).out).mono ?_; rintro e w' ⟨rfl, hb⟩)
    go_ret
    exact ⟨rfl, by assumption⟩
  | some s =>
    have e1 : m.sure p = s := by simp [Dk.sure, hp]
    rw [e1]
    simp only [hp, Option.map_some, Option.getD_some, Option.isSome_some, if_true] at hl
    clear h hp e1
    go_enter Try.func61, Try.ntmps61
    go_wp2
    go_ret
    exact ⟨rfl, Below.refl _ _⟩
end
end Go.Proofs.Ytnobiekgifjaeaa
