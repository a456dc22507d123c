/-
  The walk of 'Open'.
-/
import Derived.Test.YtnobiekgifjaeaaX5
import Derived.Deep.LoopGhost
namespace Go.Proofs.Ytnobiekgifjaeaa
open Go.RowKit
attribute [local go_sem ↓] Go.wp_at_zero Go.wp_at_succ

/-- a log opened anew on the disk -/
def OPost (w : World) (F : Nat → Prop) (b lb : Nat) (m : Dk) (g : Lg) (w' : World) : Prop := ∃ F' G', BothIn w' F' G' b lb m g ∧ Step F w w' ∧ More F F' w ∧ (∀ r, G' r → w.heap.size ≤ r)

section
variable {w w1 w' : World} {F : Nat → Prop} {b lb : Nat} {m m' : Dk} {g g' : Lg}
theorem OPost.bpost {F1 G1 : Nat → Prop} {w1 : World} (h : BothIn w1 F1 G1 b lb m g ∧ Step F w w1 ∧ More F F1 w ∧ (∀ r, G1 r → w.heap.size ≤ r)) (k : BPost w1 F1 G1 b lb m' g' w') : OPost w F b lb m' g' w' := by
  obtain ⟨h1, h2, h3, h4⟩ := h
  obtain ⟨F2, G2, k1, k2, k3, k4⟩ := k
  refine ⟨F2, G2, k1, ⟨k2.os.trans h2.os, k2.tape.trans h2.tape, k2.output.trans h2.output, Nat.le_trans h2.size k2.size, fun r hr hn => ?_⟩, h3.trans h2.size k3, fun r hr => ?_⟩
  · refine (k2.block r (Nat.lt_of_lt_of_le hr h2.size) ?_).trans (h2.block r hr hn)
    rintro (hf | hg)
    · rcases h3 r hf with h5 | h5
      · exact hn h5
      · omega
    · have := h4 r hg
      omega
  · rcases k4 r hr with h5 | h5
    · exact h4 r h5
    · exact Nat.le_trans h2.size h5
theorem OPost.then (h : OPost w F b lb m g w1) (k : ∀ F1 G1, BothIn w1 F1 G1 b lb m g → BPost w1 F1 G1 b lb m' g' w') : OPost w F b lb m' g' w' := by
  obtain ⟨F1, G1, h1, h2, h3, h4⟩ := h
  exact OPost.bpost ⟨h1, h2, h3, h4⟩ (k F1 G1 h1)
theorem OPost.below (h : OPost w F b lb m g w1) (hb : Below w1.heap.size w1 w') : OPost w F b lb m g w' := h.then fun F1 G1 h1 => BPost.below h1 hb
theorem OPost.both (h : OPost w F b lb m g w1) : ∃ F1 G1, BothIn w1 F1 G1 b lb m g := by
  obtain ⟨F1, G1, h1, _⟩ := h
  exact ⟨F1, G1, h1⟩
theorem OPost.cells (h : OPost w F b lb m g w1) : ∃ lv av, w1.cell? ⟨lb, 0, none⟩ = some (.pointer (some ⟨b, 0, none⟩)) ∧ w1.cell? ⟨lb, 1, none⟩ = some lv ∧ w1.cell? ⟨lb, 2, none⟩ = some av ∧ w1.cell? ⟨lb, 3, none⟩ = some (.int .u64 (g.end_ : Int)) ∧
    w1.cell? ⟨lb, 4, none⟩ = some (.int .i64 (g.sure : Int)) ∧ w1.cell? ⟨lb, 7, none⟩ = some (.int .u64 (g.marks : Int)) ∧ (∀ i, w1.frozen? ⟨lb, i, none⟩ = false) ∧ ∃ la lc, lv = .slice la g.recs.length lc := by
  obtain ⟨F1, G1, h1⟩ := h.both
  obtain ⟨lv, av, hw⟩ := h1.wal
  have c := hw.cells
  exact ⟨lv, av, c.1, c.2.1, c.2.2.1, c.2.2.2.1, c.2.2.2.2.1, c.2.2.2.2.2.2.2.1, c.2.2.2.2.2.2.2.2, own_form hw.recs⟩

def cutD (m : Dk) (n : Int) : Dk := (m.cutLog n).2.syncLog.2
def openK (l : List ByteArray) : Lg := { recs := l, sure := 0, kept := 0, tail := ⟨#[]⟩, marks := 0 }
/-- a new log -/
theorem OPost.new (h : DiskAt w F b m) (hb : Below w.heap.size w w1) : OPost w F b w1.heap.size m (openK []) (w1.alloc (.cells #[.pointer (some ⟨b, 0, none⟩), .slice none 0 0, .slice none 0 0, .int .u64 1, .int .i64 0, .int .i64 0, .string ⟨#[]⟩, .int .u64 0] 119)) := by
  have hb1 : Below w.heap.size w (w1.alloc (.cells #[.pointer (some ⟨b, 0, none⟩), .slice none 0 0, .slice none 0 0, .int .u64 1, .int .i64 0, .int .i64 0, .string ⟨#[]⟩, .int .u64 0] 119)) := hb.alloc hb.size _
  refine ⟨F, fun r => r = w1.heap.size, ⟨h.below hb1, ⟨.slice none 0 0, .slice none 0 0, ?_⟩, fun r hf hg => ?_⟩, Step.below hb1, More.refl _ _, fun r hr => ?_⟩
  · refine ⟨Blk.new _ _ _, World.ownsRow_nil _ _ _ _, World.ownsRow_nil _ _ _ _, rfl, by simp [Value.ownBlock], by simp [Value.ownBlock], ?_, fun r hr => by simp; omega⟩
    exact ⟨by decide, by simp [openK], Nat.le_refl _, by decide, by decide, by decide, by decide⟩
  · have := h.lt r hf
    have := hb.size
    omega
  · have := hb.size
    omega

def openG (l : List ByteArray) (mk : Int) : Lg := { recs := l, sure := l.length, kept := 0, tail := ⟨#[]⟩, marks := if ((openK l).has mk) then mk.toNat else 0 }

theorem strikes_plan {b : Nat} {m : Dk} (h : m.plan = []) : StrikesOk b m := strikes_no b m (by rw [h]; rfl) (by rw [h]; simp)
theorem Dk.strikes_plan {m : Dk} (h : m.plan = []) : m.strikes = (false, { m with calls := wrapI (m.calls + 1) }) := by
  unfold Dk.strikes
  rw [h]
  rfl
theorem bytes_nil (a : ByteArray) : a ++ (⟨#[]⟩ : ByteArray) = a := by
  apply ByteArray.ext
  simp [ByteArray.data_append]
theorem Dk.cutLog_plan {m : Dk} (hd : m.dead = false) (h : m.plan = []) {n : Int} (h0 : 0 ≤ n) (h1 : n ≤ (m.log.size : Int) + m.tail.size) : m.cutLog n = (0, { m with calls := wrapI (m.calls + 1), log := (m.log ++ m.tail).extract 0 n.toNat, tail := ⟨#[]⟩ }) := by
  unfold Dk.cutLog
  rw [hd, Dk.strikes_plan h, if_neg Bool.false_ne_true, if_neg (by omega), if_neg Bool.false_ne_true]
  rw [← hd]
theorem Dk.syncLog_plan {m : Dk} (hd : m.dead = false) (h : m.plan = []) : m.syncLog = (0, { m with calls := wrapI (m.calls + 1), log := m.log ++ m.tail, tail := ⟨#[]⟩ }) := by
  unfold Dk.syncLog
  rw [hd, Dk.strikes_plan h, if_neg Bool.false_ne_true, if_neg Bool.false_ne_true]
  rw [← hd]
theorem cutD_plan {m : Dk} (hd : m.dead = false) (h : m.plan = []) {n : Int} (h0 : 0 ≤ n) (h1 : n ≤ (m.log.size : Int) + m.tail.size) :
    cutD m n = { m with calls := wrapI (wrapI (m.calls + 1) + 1), log := (m.log ++ m.tail).extract 0 n.toNat, tail := ⟨#[]⟩ } := by
  unfold cutD
  rw [Dk.cutLog_plan hd h h0 h1]
  dsimp only
  rw [Dk.syncLog_plan (by exact hd) (by exact h)]
  simp only [bytes_nil]
theorem OPost.put {W : World} {l : List ByteArray} {k : Nat} {x : ByteArray} (h : OPost w F b lb m (openK (l.take k)) W) (hx : l[k]? = some x) (h1 : 1 ≤ x.size ∧ x.size ≤ 8192) (h2 : endFrom 1 (l.take k) + x.size + 12 ≤ 4194305) :
    Calls Try.prog 72 #[.pointer (some ⟨lb, 0, none⟩), .string x] W fun e w' => e = .returned (.int .u64 (endFrom 1 (l.take k) : Int)) ∧ OPost w F b lb m (openK (l.take (k + 1))) w' := by
  obtain ⟨F1, G1, hb⟩ := h.both
  have e : (openK (l.take k)).put x = openK (l.take (k + 1)) := by
    unfold openK Lg.put
    rw [List.take_add_one, hx]
    rfl
  obtain ⟨F1, G1, hb, s1, s2, s3⟩ := id h
  refine (lput_c hb.wal x h1 h2).mono ?_
  rintro e' w' ⟨rfl, hp⟩
  refine ⟨rfl, ?_⟩
  rw [e] at hp
  exact OPost.bpost ⟨hb, s1, s2, s3⟩ (hb.log hp)

theorem wrap_u64_of {x : Int} (h0 : 0 ≤ x) (h1 : x < 18446744073709551616) : IntKind.u64.wrap x = x := by rw [IntKind.wrap_u64]; omega
theorem OPost.mark {W : World} (h : OPost w F b lb m g W) (hd : m.dead = false) (hl : m.loose.length ≤ 1000000000) : Calls Try.prog 28 #[.pointer (some ⟨b, 0, none⟩)] W fun e w' => e = .returned (.tuple #[.int .u64 m.markNow, .int .i64 0]) ∧ OPost w F b lb m g w' := by
  obtain ⟨F1, G1, hb⟩ := h.both
  refine (mark_c hb.dsk hd hl).mono ?_
  rintro e w' ⟨rfl, hq⟩
  exact ⟨rfl, h.below hq⟩
theorem OPost.find {W : World} (h : OPost w F b lb m g W) (x : Int) : Calls Try.prog 73 #[.pointer (some ⟨lb, 0, none⟩), .int .u64 x] W fun e w' => e = .returned (.tuple #[.int .i64 (g.idx x : Int), .bool (g.has x)]) ∧ OPost w F b lb m g w' := by
  obtain ⟨F1, G1, hb⟩ := h.both
  refine (lfind_c hb.wal x).mono ?_
  rintro e w' ⟨rfl, q, rfl⟩
  exact ⟨rfl, h.below (below_drewN _ _)⟩
theorem OPost.cut {W : World} (h : OPost w F b lb m g W) (hd : m.dead = false) (hp : m.plan = []) {n : Int} (h0 : 0 ≤ n) (h1 : n ≤ (m.log.size : Int) + m.tail.size) :
    Calls Try.prog 31 #[.pointer (some ⟨b, 0, none⟩), .int .i64 n] W fun e w' => e = .returned (.int .i64 0) ∧ OPost w F b lb (m.cutLog n).2 g w' := by
  obtain ⟨F1, G1, hb⟩ := h.both
  have hlog := hb.dsk.ok.logs
  have e := Dk.cutLog_plan hd hp h0 h1
  have HC := cutLog_c hb.dsk (strikes_plan hp) n (by omega) (by omega)
  obtain ⟨F1, G1, hb, s1, s2, s3⟩ := id h
  refine (cutLog_c hb.dsk (strikes_plan hp) n (by omega) (by omega)).mono ?_
  rintro e' w' ⟨rfl, hq⟩
  refine ⟨by rw [e], ?_⟩
  exact OPost.bpost ⟨hb, s1, s2, s3⟩ (hb.disk hq)
theorem OPost.sync {W : World} (h : OPost w F b lb m g W) (hd : m.dead = false) (hp : m.plan = []) :
    Calls Try.prog 24 #[.pointer (some ⟨b, 0, none⟩)] W fun e w' => e = .returned (.int .i64 0) ∧ OPost w F b lb m.syncLog.2 g w' := by
  have e := Dk.syncLog_plan hd hp
  obtain ⟨F1, G1, hb, s1, s2, s3⟩ := id h
  refine (syncLog_c hb.dsk (strikes_plan hp)).mono ?_
  rintro e' w' ⟨rfl, hq⟩
  refine ⟨by rw [e], ?_⟩
  exact OPost.bpost ⟨hb, s1, s2, s3⟩ (hb.disk hq)

set_option maxRecDepth 100000 in
set_option maxHeartbeats 1000000 in
theorem open_c (h : DiskAt w F b m) (hd : m.dead = false) (hplan : m.plan = []) (hloose : m.loose.length ≤ 1000000000) (hmk : 0 ≤ m.markNow ∧ m.markNow < 18446744073709551616)
    (l : List ByteArray) (rest : ByteArray) (hs : m.log ++ m.tail = frames 1 l ++ rest) (hl : ∀ x ∈ l, 1 ≤ x.size ∧ x.size ≤ 8192) (hr : takenOk rest (endFrom 1 l) = false) :
    Calls Try.prog 38 #[.pointer (some ⟨b, 0, none⟩)] w fun e w' => ∃ lb, e = .returned (.tuple #[.pointer (some ⟨lb, 0, none⟩), .int .i64 (rest.size : Int), .int .i64 0]) ∧ OPost w F b lb (if rest.size = 0 then m else cutD m ((endFrom 1 l : Int) - 1)) (openG l m.markNow) w' := by
  have H := Lib.hid h
  have hsz : (frames 1 l ++ rest).size ≤ 4194304 := by
    rw [← hs, ByteArray.size_append]
    exact h.ok.logs
  have HR := Lib.hid (readLog_c h hd)
  rw [hs] at HR
  have hfs := frames_size l 1
  have hfz : (frames 1 l ++ rest).size = (frames 1 l).size + rest.size := ByteArray.size_append
  have hpe := endFrom_le l 1
  have FA : Hid (∀ k, (frames 1 l ++ rest).extract (endFrom 1 (l.take k) - 1) (frames 1 l ++ rest).size = frames (endFrom 1 (l.take k)) (l.drop k) ++ rest) := frames_at l rest
  have HL := Lib.hid hl
  have HRE := Lib.hid hr
  have HSE := Lib.hid hs
  generalize hS : frames 1 l ++ rest = S at *
  have HSS := Lib.hid hS
  have hs1a : S.size ≤ endFrom 1 l - 1 + rest.size := by omega
  have hs1b : endFrom 1 l - 1 + rest.size ≤ S.size := by omega
  generalize hmf : (if rest.size = 0 then m else cutD m ((endFrom 1 l : Int) - 1)) = mf
  have HMF := Lib.hid hmf
  generalize hgf : openG l m.markNow = gf
  have HGF := Lib.hid hgf
  generalize hmm : m.markNow = mk at *
  have HMM := Lib.hid hmm
  have HD := Lib.hid hd
  have HPL := Lib.hid hplan
  have HLO := Lib.hid hloose
  obtain ⟨hmk1, hmk2⟩ := hmk
  have hw := wrap_u64_of hmk1 hmk2
  clear h hs hl hr hS hfs hfz hmf hgf hmm hd hplan hloose
  go_enter Try.func38, Try.ntmps38
  go_wp2_with (fail)
  refine HR.out.mono ?_
  rintro e w1 ⟨rfl, hb⟩
  have HN := Lib.hid (OPost.new H.out hb)
  generalize hlb : w1.heap.size = lb at *
  go_wp2_with (fail)
  go_loopg [8] l.length (fun gh s8 wr => ∃ k : Nat, k ≤ l.length ∧ l.length - k ≤ gh ∧ OPost w F b lb m (openK (l.take k)) wr)
  case atStart => exact ⟨0, Nat.zero_le _, by omega, HN.out⟩
  case round =>
    obtain ⟨k, hk, hg, hR⟩ := hrel
    obtain ⟨lv, av, c0, c1, c2, c3, c4, c7, fz, la, lc, rfl⟩ := hR.cells
    have c3' : wr.cell? ⟨lb, 3, none⟩ = some (.int .u64 (endFrom 1 (l.take k) : Int)) := c3
    have htk := endFrom_take_le l k 1
    have hp1 := endFrom_le (l.take k) 1
    have HT := taken_c S (endFrom 1 (l.take k)) hp1 (by omega) (by omega) (by omega)
    rw [FA.out k] at HT
    have HRR := Lib.hid hR
    by_cases hlt : k < l.length
    · obtain ⟨x, hx⟩ : ∃ x, l[k]? = some x := ⟨_, List.getElem?_eq_getElem hlt⟩
      have hxs := HL.out x (List.mem_of_getElem? hx)
      rw [frames_next l rest hx, frame_body _ hxs.1 hxs.2, frame_ok _ hxs.1 hxs.2] at HT
      have hend := endFrom_take l hx 1
      have htk1 := endFrom_take_le l (k + 1) 1
      have HP : ∀ W, Below wr.heap.size wr W → Hid (Calls Try.prog 72 #[.pointer (some ⟨lb, 0, none⟩), .string x] W fun e w' => e = .returned (.int .u64 (endFrom 1 (l.take k) : Int)) ∧ OPost w F b lb m (openK (l.take (k + 1))) w') := fun W hW => (HRR.out.below hW).put hx hxs (by omega)
      have HTT := fun W => Lib.hid (HT W)
      clear HT hR c0 c1 c2 c3 c4 c7 fz hx
      go_wp2_with (fail)
      refine (HTT _).out.mono ?_
      rintro e w2 ⟨rfl, hl2⟩
      go_wp2_with (fail)
      refine (HP _ hl2).out.mono ?_
      rintro e w3 ⟨rfl, hq⟩
      have HQ := Lib.hid hq
      clear hq
      go_wp2
      go_roundg (l.length - (k + 1))
      case measure => omega
      case rel => exact ⟨k + 1, by omega, Nat.le_refl _, HQ.out⟩
    · obtain rfl : k = l.length := by omega
      rw [List.drop_length, List.take_length] at HT
      have e0 : frames (endFrom 1 l) [] ++ rest = rest := by
        apply ByteArray.ext
        simp [frames, ByteArray.data_append]
      rw [e0, HRE.out] at HT
      have HTT := fun W => Lib.hid (HT W)
      rw [List.take_length] at HRR c3'
      generalize takenBody rest = tb at *
      clear HT hR c0 c1 c2 c3 c4 c7 fz e0
      go_wp2_with (fail)
      refine (HTT _).out.mono ?_
      rintro e w2 ⟨rfl, hl2⟩
      have h2 := HRR.out.below hl2
      obtain ⟨lv, av, c0, c1, c2, c3, c4, c7, fz, la, lc, rfl⟩ := h2.cells
      replace c1 : w2.cell? ⟨lb, 1, none⟩ = some (.slice la l.length lc) := c1
      replace c3 : w2.cell? ⟨lb, 3, none⟩ = some (.int .u64 (endFrom 1 l : Int)) := c3
      have f4 := fz 4
      have ht : (S.size : Int) - ((endFrom 1 l : Int) - 1) = (rest.size : Int) := by omega
      have H3 : OPost w F b lb m { openK l with sure := l.length } (w2.setCell ⟨lb, 4, none⟩ (.int .i64 (l.length : Int))) := h2.then fun F1 G1 hb1 => by
        obtain ⟨lv, av, hw⟩ := id hb1.wal
        exact hb1.log (hw.setSure 0)
      have H3' := Lib.hid H3
      clear h2 c2 fz c0 c7 H3 HRR hl2 HN hb HR
      by_cases hz : rest.size = 0
      · have HX : Hid (mf = m) := by show mf = m; rw [← HMF.out, if_pos hz]
        have hz' : ¬ (0 < (rest.size : Int)) := by omega
        have HM := Lib.hid (H3'.out.mark HD.out HLO.out)
        rw [HMM.out] at HM
        go_wp2_with (fail)
        refine HM.out.mono ?_
        rintro e w3 ⟨rfl, hq⟩
        have HF : Hid (Calls Try.prog 73 #[.pointer (some ⟨lb, 0, none⟩), .int .u64 mk] w3 fun e w' => e = .returned (.tuple #[.int .i64 ((openK l).idx mk : Int), .bool ((openK l).has mk)]) ∧ OPost w F b lb mf { openK l with sure := l.length } w') := by rw [HX.out]; exact hq.find mk
        clear hq
        cases hh : (openK l).has mk
        · rw [hh] at HF
          have HE : Hid (gf = { openK l with sure := l.length }) := by
            show gf = _
            rw [← HGF.out]
            unfold openG
            rw [hh]
            rfl
          clear hh
          go_wp2_with (fail)
          refine HF.out.mono ?_
          rintro e w4 ⟨rfl, hq⟩
          have HQ := Lib.hid hq
          clear hq
          go_wp2
          go_ret3
          refine ⟨lb, by first | rfl | (rw [hz]; rfl), ?_⟩
          rw [HE.out]
          exact HQ.out
        · rw [hh] at HF
          have HE : Hid (gf = { openK l with sure := l.length, marks := mk.toNat }) := by
            show gf = _
            rw [← HGF.out]
            unfold openG
            rw [hh]
            rfl
          clear hh
          go_wp2_with (fail)
          refine HF.out.mono ?_
          rintro e w4 ⟨rfl, hq⟩
          obtain ⟨lv, av, d0, d1, d2, d3, d4, d7, dz, la', lc', rfl⟩ := hq.cells
          have f7 := dz 7
          have HQ : Hid (OPost w F b lb mf { openK l with sure := l.length, marks := mk.toNat } (w4.setCell ⟨lb, 7, none⟩ (.int .u64 mk))) := hq.then fun F1 G1 hb1 => by
            obtain ⟨lv, av, hw⟩ := id hb1.wal
            have := hb1.log (hw.setMarks mk.toNat (by omega))
            rw [Int.toNat_of_nonneg hmk1] at this
            exact this
          clear hq d0 d1 d2 d3 d4 dz
          go_wp2
          go_ret3
          refine ⟨lb, by first | rfl | (rw [hz]; rfl), ?_⟩
          rw [HE.out]
          exact HQ.out
      · have HX : Hid (mf = cutD m ((endFrom 1 l : Int) - 1)) := by show mf = _; rw [← HMF.out, if_neg hz]
        have hz' : 0 < (rest.size : Int) := by omega
        have hlt : (endFrom 1 l : Int) - 1 ≤ (m.log.size : Int) + m.tail.size := by
          have e : (m.log ++ m.tail).size = S.size := by rw [HSE.out]
          rw [ByteArray.size_append] at e
          omega
        have ek := Dk.cutLog_plan HD.out HPL.out (n := (endFrom 1 l : Int) - 1) (by omega) hlt
        have HC := Lib.hid (H3'.out.cut HD.out HPL.out (n := (endFrom 1 l : Int) - 1) (by omega) hlt)
        have hcd : cutD m ((endFrom 1 l : Int) - 1) = (m.cutLog ((endFrom 1 l : Int) - 1)).2.syncLog.2 := rfl
        have hcm := cutD_plan HD.out HPL.out (n := (endFrom 1 l : Int) - 1) (by omega) hlt
        have HCM : Hid ((cutD m ((endFrom 1 l : Int) - 1)).markNow = mk ∧ (cutD m ((endFrom 1 l : Int) - 1)).dead = false ∧ (cutD m ((endFrom 1 l : Int) - 1)).loose.length ≤ 1000000000) := by
          rw [hcm]
          exact ⟨HMM.out, HD.out, HLO.out⟩
        have HK : Hid ((m.cutLog ((endFrom 1 l : Int) - 1)).2.dead = false ∧ (m.cutLog ((endFrom 1 l : Int) - 1)).2.plan = []) := by
          rw [ek]
          exact ⟨HD.out, HPL.out⟩
        rw [hcd] at HX HCM
        generalize (m.cutLog ((endFrom 1 l : Int) - 1)).2 = m1 at *
        have HS1 : ∀ W, OPost w F b lb m1 { openK l with sure := l.length } W → Hid (Calls Try.prog 24 #[.pointer (some ⟨b, 0, none⟩)] W fun e w' => e = .returned (.int .i64 0) ∧ OPost w F b lb m1.syncLog.2 { openK l with sure := l.length } w') := fun W hW => hW.sync HK.out.1 HK.out.2
        generalize m1.syncLog.2 = m2 at *
        have hnn : (S.size : Int) - (rest.size : Int) = (endFrom 1 l : Int) - 1 := by omega
        clear ek hcd hcm hlt
        go_wp2_with (fail)
        refine HC.out.mono ?_
        rintro e w3 ⟨rfl, hq⟩
        have HS2 := HS1 _ hq
        clear hq HS1
        go_wp2_with (fail)
        refine HS2.out.mono ?_
        rintro e w3 ⟨rfl, hq⟩
        have HM := Lib.hid (hq.mark HCM.out.2.1 HCM.out.2.2)
        clear hq
        rw [HCM.out.1] at HM
        go_wp2_with (fail)
        refine HM.out.mono ?_
        rintro e w3 ⟨rfl, hq⟩
        have HF : Hid (Calls Try.prog 73 #[.pointer (some ⟨lb, 0, none⟩), .int .u64 mk] w3 fun e w' => e = .returned (.tuple #[.int .i64 ((openK l).idx mk : Int), .bool ((openK l).has mk)]) ∧ OPost w F b lb mf { openK l with sure := l.length } w') := by rw [HX.out]; exact hq.find mk
        clear hq
        cases hh : (openK l).has mk
        · rw [hh] at HF
          have HE : Hid (gf = { openK l with sure := l.length }) := by
            show gf = _
            rw [← HGF.out]
            unfold openG
            rw [hh]
            rfl
          clear hh
          go_wp2_with (fail)
          refine HF.out.mono ?_
          rintro e w4 ⟨rfl, hq⟩
          have HQ := Lib.hid hq
          clear hq
          go_wp2
          go_ret3
          refine ⟨lb, by first | rfl | (rw [hz]; rfl), ?_⟩
          rw [HE.out]
          exact HQ.out
        · rw [hh] at HF
          have HE : Hid (gf = { openK l with sure := l.length, marks := mk.toNat }) := by
            show gf = _
            rw [← HGF.out]
            unfold openG
            rw [hh]
            rfl
          clear hh
          go_wp2_with (fail)
          refine HF.out.mono ?_
          rintro e w4 ⟨rfl, hq⟩
          obtain ⟨lv, av, d0, d1, d2, d3, d4, d7, dz, la', lc', rfl⟩ := hq.cells
          have f7 := dz 7
          have HQ : Hid (OPost w F b lb mf { openK l with sure := l.length, marks := mk.toNat } (w4.setCell ⟨lb, 7, none⟩ (.int .u64 mk))) := hq.then fun F1 G1 hb1 => by
            obtain ⟨lv, av, hw⟩ := id hb1.wal
            have := hb1.log (hw.setMarks mk.toNat (by omega))
            rw [Int.toNat_of_nonneg hmk1] at this
            exact this
          clear hq d0 d1 d2 d3 d4 dz
          go_wp2
          go_ret3
          refine ⟨lb, by first | rfl | (rw [hz]; rfl), ?_⟩
          rw [HE.out]
          exact HQ.out
end
end Go.Proofs.Ytnobiekgifjaeaa
