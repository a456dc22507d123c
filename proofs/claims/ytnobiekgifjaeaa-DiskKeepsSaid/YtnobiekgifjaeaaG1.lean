/-
  DiskKeeps: the walk.
-/
import Derived.Test.YtnobiekgifjaeaaC2
import Derived.Test.YtnobiekgifjaeaaB3
import Derived.Deep.DeepCutAuto
import Derived.OpenShut
namespace Go.Proofs.Ytnobiekgifjaeaa
open Go.RowKit

theorem Dk.lands_pages (q : Int) (hq : q ≠ 0) : ∀ (L : List Wr) (m : Dk), (m.lands L).pages q = ((lastOf q L).map (·.s)).or (m.pages q)
  | [], _ => rfl
  | x :: L, m => by
    simp only [Dk.lands]
    rw [Dk.lands_pages q hq L, lastOf]
    have e : (m.land x).pages q = if x.page = q then some x.s else m.pages q := by
      unfold Dk.land
      by_cases h0 : x.page = 0
      · rw [if_pos h0, if_neg (by omega)]
      · rw [if_neg h0]
        show putAt m.pages x.page x.s q = _
        unfold putAt
        by_cases h1 : x.page = q
        · rw [if_pos h1, if_pos h1.symm]
        · rw [if_neg h1, if_neg (fun e => h1 e.symm)]
    rw [e]
    cases lastOf q L with
    | some y => simp
    | none => by_cases h1 : x.page = q <;> simp [h1]

theorem lastOf_snoc (q : Int) (x : Wr) : ∀ L : List Wr, lastOf q (L ++ [x]) = if x.page = q then some x else lastOf q L
  | [] => by simp [lastOf]
  | y :: L => by
    simp only [List.cons_append, lastOf]
    rw [lastOf_snoc q x L]
    by_cases h : x.page = q <;> simp [h]

theorem page_k {b : Nat} {S : Dk → World → Prop} {m : Dk} {w : World} (H : Host b S) (h : S m w) (k : Nat) (hk : k < 256) : Calls Try.prog 18 #[.int .u8 (k : Int)] w fun e w' => e = .returned (.string (pageOf (UInt8.ofNat k))) ∧ S m w' := by
  have e : ((UInt8.ofNat k).toNat : Int) = (k : Int) := by
    rw [UInt8.toNat_ofNat']
    omega
  have := page_H H h (UInt8.ofNat k)
  rw [e] at this
  exact this

def byteOf (J : Int → Option Nat) : Int → Option Value := fun q => (J q).map fun (j : Nat) => Value.int .u8 (j : Int)

/-- the statement's own map J tells of each page which write was the last -/
structure KeepRel (W0 : World) (b g : Nat) (J : Int → Option Nat) (L : List Wr) (c : Int) (k : Nat) (wr : World) : Prop where
  len : L.length = k
  pages : ∀ x ∈ L, 1 ≤ x.page ∧ x.page ≤ 64
  live : ∃ o, LiveK W0 b g o { Dk.fresh 64 with calls := c, loose := L } wr
  map : MapI .i64 wr g (byteOf J)
  some_ : ∀ q j, J q = some j → j < 100 ∧ ∃ x, lastOf q L = some x ∧ x.s = pageOf (UInt8.ofNat j)
  none_ : ∀ q, J q = none → lastOf q L = none

theorem KeepRel.start {W0 wr : World} {b g : Nat} (hl : LiveK W0 b g (.map #[] 0) (Dk.fresh 64) wr) : KeepRel W0 b g (fun _ => none) [] 0 0 wr :=
  ⟨rfl, by simp, ⟨_, hl⟩, ⟨#[], 0, hl.blk, by simp, fun _ => rfl⟩, by simp, fun _ _ => rfl⟩

theorem KeepRel.next {W0 wr w4 w5 : World} {b g : Nat} {J : Int → Option Nat} {L : List Wr} {c c' : Int} {k : Nat} (h : KeepRel W0 b g J L c k wr) (hk : k < 100) (hg0 : W0.heap.size ≤ g) {p : Int} (hp : 1 ≤ p ∧ p ≤ 64) {o : Obj}
    (h4 : LiveK W0 b g o { Dk.fresh 64 with calls := c', loose := L ++ [⟨p, pageOf (UInt8.ofNat k), 0⟩] } w4)
    (h5 : MapI .i64 w5 g (fun y => if y = p then some (.int .u8 (k : Int)) else byteOf J y)) (hg : w4.grownBy w5 (some g)) : KeepRel W0 b g (fun y => if y = p then some k else J y) (L ++ [⟨p, pageOf (UInt8.ofNat k), 0⟩]) c' (k + 1) w5 := by
  obtain ⟨es, cl, hes, _⟩ := id h5
  refine ⟨by simp [h.len], fun x hx => ?_, ⟨_, h4.grown hg hes hg0⟩, ?_, fun q j hj => ?_, fun q hq => ?_⟩
  · rcases List.mem_append.1 hx with h1 | h1
    · exact h.pages x h1
    · simp at h1; subst h1; exact hp
  · have e : byteOf (fun y => if y = p then some k else J y) = fun y => if y = p then some (.int .u8 (k : Int)) else byteOf J y := by
      funext y
      unfold byteOf
      by_cases h1 : y = p <;> simp [h1]
    rw [e]
    exact h5
  · rw [lastOf_snoc]
    by_cases h1 : q = p
    · subst h1
      simp at hj
      subst hj
      exact ⟨hk, ⟨q, pageOf (UInt8.ofNat k), 0⟩, by simp, rfl⟩
    · simp [h1] at hj
      have h2 : ¬ p = q := fun e => h1 e.symm
      simp [h2]
      exact h.some_ q j hj
  · rw [lastOf_snoc]
    by_cases h1 : q = p
    · simp [h1] at hq
    · simp [h1] at hq
      have h2 : ¬ p = q := fun e => h1 e.symm
      simp [h2]
      exact h.none_ q hq


/-- how the disk stands: what is loose, what is sure of each page, the log -/
structure KeepM (L : List Wr) (Pg : Int → Option ByteArray) (log tail : ByteArray) (m : Dk) : Prop where
  dead : m.dead = false
  plan : m.plan = []
  room : m.room = 64
  loose : m.loose = L
  log : m.log = log
  tail : m.tail = tail
  pages : ∀ q, q ≠ 0 → m.pages q = Pg q

section
variable {b : Nat} {S : Dk → World → Prop} {w : World} {m : Dk} {L : List Wr} {Pg : Int → Option ByteArray} {log tail : ByteArray}

theorem keep_append (H : Host b S) (h : S m w) (hk : KeepM L Pg log tail m) (s : ByteArray) (hs : log.size + tail.size + s.size ≤ 4194304) :
    Calls Try.prog 23 #[.pointer (some ⟨b, 0, none⟩), .string s] w fun e w' => e = .returned (.int .i64 0) ∧ ∃ m', S m' w' ∧ KeepM L Pg log (tail ++ s) m' :=
  (appendLog_H H h s hk.dead hk.plan (by rw [hk.log, hk.tail]; exact hs)).mono fun _ _ ⟨he, hl⟩ => ⟨he, _, hl, hk.dead, hk.plan, hk.room, hk.loose, hk.log, by show m.tail ++ s = _; rw [hk.tail], hk.pages⟩

theorem keep_syncLog (H : Host b S) (h : S m w) (hk : KeepM L Pg log tail m) :
    Calls Try.prog 24 #[.pointer (some ⟨b, 0, none⟩)] w fun e w' => e = .returned (.int .i64 0) ∧ ∃ m', S m' w' ∧ KeepM L Pg (log ++ tail) ⟨#[]⟩ m' :=
  (syncLog_H H h hk.dead hk.plan).mono fun _ _ ⟨he, hl⟩ => ⟨he, _, hl, hk.dead, hk.plan, hk.room, hk.loose, by show m.log ++ m.tail = _; rw [hk.log, hk.tail], rfl, hk.pages⟩

theorem keep_sync (H : Host b S) (h : S m w) (hk : KeepM L Pg log tail m) (hl : L.length ≤ 1000000000) :
    Calls Try.prog 25 #[.pointer (some ⟨b, 0, none⟩)] w fun e w' => e = .returned (.int .i64 0) ∧ ∃ m', S m' w' ∧ KeepM [] (fun q => ((lastOf q L).map (·.s)).or (Pg q)) log tail m' := by
  refine (sync_H H h hk.dead hk.plan (by rw [hk.loose]; exact hl)).mono fun _ _ ⟨he, hl⟩ => ⟨he, _, hl, ?_⟩
  have e := Dk.lands_loose m.loose { m with calls := wrapI (m.calls + 1) }
  refine ⟨e.2.2.2.2.2.2.trans hk.dead, e.2.2.2.2.2.1.trans hk.plan, e.2.2.2.1.trans hk.room, rfl, e.2.1.trans hk.log, e.2.2.1.trans hk.tail, fun q hq => ?_⟩
  show (Dk.lands { m with calls := wrapI (m.calls + 1) } m.loose).pages q = _
  rw [Dk.lands_pages q hq, hk.loose]
  show _ = ((lastOf q L).map (·.s)).or (Pg q)
  rw [← hk.pages q hq]

theorem keep_fall (H : Host b S) (h : S m w) (hk : KeepM [] Pg log tail m) (f : Fl) (hf : f.ok) :
    Calls Try.prog 19 #[.pointer (some ⟨b, 0, none⟩), .agg #[.int .i64 f.at_, .int .u64 f.keep, .int .i64 f.torn, .int .i64 f.bytes, .int .i64 f.log]] w fun e w' => e = .returned (.tuple #[]) ∧
      ∃ m', S m' w' ∧ m'.dead = true ∧ ∃ n, n ≤ tail.size ∧ KeepM [] Pg (log ++ tail.extract 0 n) ⟨#[]⟩ { m' with dead := false } := by
  refine (crash_H H h f hf (by rw [hk.loose]; simp)).mono fun _ _ ⟨he, hl⟩ => ⟨he, _, hl, ?_⟩
  have ec : m.crash f = m.fell f := by unfold Dk.crash; rw [if_neg (by rw [hk.dead]; decide), hk.loose]; rfl
  rw [ec]
  have h3 := cutN_bd (lo := 0) (hi := m.tail.size) (n := f.log) (by omega)
  refine ⟨rfl, (cutN 0 m.tail.size f.log).toNat, by rw [← hk.tail]; omega, rfl, hk.plan, hk.room, rfl, ?_, rfl, hk.pages⟩
  show m.log ++ m.tail.extract 0 _ = _
  rw [hk.log, hk.tail]

theorem keep_up (H : Host b S) (h : S m w) (hd : m.dead = true) {Q : Dk → Prop} (hq : Q { m with dead := false }) :
    Calls Try.prog 21 #[.pointer (some ⟨b, 0, none⟩)] w fun e w' => e = .returned (.bool true) ∧ ∃ m', S m' w' ∧ Q m' := by
  have := up_H H h
  rw [hd] at this
  exact this.mono fun _ _ ⟨he, hl⟩ => ⟨he, _, hl, hq⟩

theorem keep_readLog (H : Host b S) (h : S m w) (hk : KeepM L Pg log ⟨#[]⟩ m) :
    Calls Try.prog 26 #[.pointer (some ⟨b, 0, none⟩)] w fun e w' => e = .returned (.tuple #[.string log, .int .i64 0]) ∧ S m w' := by
  have := readLog_H H h hk.dead
  rw [hk.log, hk.tail, append_nil] at this
  exact this

theorem keep_read (H : Host b S) (h : S m w) (hk : KeepM [] Pg log tail m) (q : Int) (h1 : 1 ≤ q) (h2 : q ≤ 64) :
    Calls Try.prog 22 #[.pointer (some ⟨b, 0, none⟩), .int .u32 q] w fun e w' => e = .returned (.tuple #[.string ((Pg q).getD blank), .int .i64 0]) ∧ S m w' := by
  have hmay : m.may q = 0 := by
    unfold Dk.may
    rw [hk.room, if_neg (by omega), if_neg (by omega)]
  have := read_H H h q hk.dead hmay (by rw [hk.loose]; simp)
  have e : m.read q = (Pg q).getD blank := by
    unfold Dk.read Dk.sure
    rw [hk.loose, hk.pages q (by omega)]
    rfl
  rw [e] at this
  exact this
end

theorem zero_u8 (w : World) : (zeroValue 5).run Try.prog w = .ok (.int .u8 0) w := by kernel_rfl

theorem KeepRel.keepM {W0 wr : World} {b g : Nat} {J : Int → Option Nat} {L : List Wr} {c : Int} {k : Nat} (_h : KeepRel W0 b g J L c k wr) : KeepM L (fun _ => none) ⟨#[]⟩ ⟨#[]⟩ { Dk.fresh 64 with calls := c, loose := L } :=
  ⟨rfl, rfl, rfl, rfl, rfl, rfl, fun _ _ => rfl⟩

/-- what the statement reads of a page -/
theorem KeepRel.page {W0 wr : World} {b g : Nat} {J : Int → Option Nat} {L : List Wr} {c : Int} {k : Nat} (h : KeepRel W0 b g J L c k wr) (q : Int) :
    ((lastOf q L).map (·.s)).or none = (J q).map fun j => pageOf (UInt8.ofNat j) := by
  cases e : J q with
  | none => simp [h.none_ q e]
  | some j =>
    obtain ⟨_, x, h1, h2⟩ := h.some_ q j e
    simp [h1, h2]

theorem nil_append (a : ByteArray) : (⟨#[]⟩ : ByteArray) ++ a = a := by
  apply ByteArray.ext
  simp [ByteArray.data_append]

def PJ (J : Int → Option Nat) : Int → Option ByteArray := fun q => (J q).map fun j => pageOf (UInt8.ofNat j)

def moreB : ByteArray := ⟨#[109, 111, 114, 101]⟩
theorem more_cut (lg : ByteArray) (n : Nat) (hn : n ≤ 4) : (lg ++ moreB).extract 0 (lg ++ moreB.extract 0 n).size = lg ++ moreB.extract 0 n := by
  have h0 : moreB.size = 4 := rfl
  have h1 : (moreB.extract 0 n).size = n := by rw [ByteArray.size_extract]; omega
  rw [ByteArray.size_append, h1]
  apply ByteArray.ext
  simp only [ByteArray.data_extract, ByteArray.data_append, Array.extract_append]
  have e : lg.data.extract 0 (lg.size + n) = lg.data := Array.extract_eq_self_of_le (Nat.le_add_right _ _)
  simp [e]
end Go.Proofs.Ytnobiekgifjaeaa
