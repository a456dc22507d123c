/-
  The walk of 'WalFalls'.
-/
import Derived.Test.YtnobiekgifjaeaaZ2
import Derived.Test.YtnobiekgifjaeaaD2
import Derived.Test.YtnobiekgifjaeaaY3
import Derived.Test.YtnobiekgifjaeaaC0
import Derived.Deep.AppendLies
namespace Go.Proofs.Ytnobiekgifjaeaa
open Go.RowKit
attribute [local go_sem ↓] Go.wp_at_zero Go.wp_at_succ

section
variable {w wr w' : World} {P : World → Prop} {b lb : Nat} {m : Dk} {g : Lg}
/-- the base is moved below a block that was made just ahead -/
theorem LX.rebase (o : Obj) (h : LX (w.alloc o) (fun _ => False) (fun _ => True) b lb m g wr) : LX w (fun r => r = w.heap.size) (fun W => W.heap[w.heap.size]? = some o) b lb m g wr := by
  obtain ⟨F, G, h1, h2, h3, h4, h5⟩ := h
  have hs : (w.alloc o).heap.size = w.heap.size + 1 := by simp
  have hsz := h5.size
  refine ⟨F, G, h1, fun r hr => ?_, fun r hr => ?_, ?_, ((Below.refl _ _).alloc (Nat.le_refl _) o).trans (h5.mono (by omega))⟩
  · have := (h2 r hr).1
    exact ⟨by omega, by omega⟩
  · subst hr
    exact ⟨Nat.le_refl _, by omega⟩
  · show wr.heap[w.heap.size]? = some o
    rw [h5.block w.heap.size (by omega)]
    exact heap_alloc_new w o
end

def fK (fb : Nat) (uv : Value) : Nat → Prop := fun r => r = fb ∨ uv.ownBlock = some r
def fP (fb : Nat) (f : Fl) (uv : Value) (recs : List ByteArray) : World → Prop := fun W => Blk W fb 39 (fallCells f).toArray ∧ W.ownsRow 0 9 1 uv recs.length (recs.map Value.string)
theorem f_stable (fb : Nat) (f : Fl) (uv : Value) (recs : List ByteArray) : Stable (fK fb uv) (fP fb f uv recs) := fun _ _ h hk => ⟨h.1.same (hk fb (.inl rfl)), own_same h.2 (fun k hg => hk k (.inr hg))⟩

theorem fall_box {w w3 W4 : World} {b lb fb : Nat} {m : Dk} {g : Lg} {o : Obj} {f1 : Fl} (h : LX w (fun r => r = fb) (fun W => W.heap[fb]? = some o) b lb m g w3) (hs : Step (fun r => r = fb) w3 W4) (hB : Blk W4 fb 39 (fallCells f1).toArray) :
    LX w (fun r => r = fb) (fun W => Blk W fb 39 (fallCells f1).toArray) b lb m g (W4.alloc (.cells (fallCells f1).toArray 39)) ∧ FlsAt (W4.alloc (.cells (fallCells f1).toArray 39)) (.slice (some ⟨W4.heap.size, 0, none⟩) 1 1) [f1] := by
  have h1 : LX w (fun r => r = fb) (fun W => Blk W fb 39 (fallCells f1).toArray) b lb m g W4 := h.turn hs (fun r hr => by subst hr; exact ⟨.inl rfl, hB.lt⟩) hB
  refine ⟨h1.below (fun _ _ hh hk => hh.same (hk fb rfl)) ((Below.refl _ _).alloc (Nat.le_refl _) _), ⟨_, 1, rfl, Nat.le_refl _⟩, fun k f hk => ?_⟩
  have hB2 := Blk.new W4 39 (fallCells f1).toArray
  cases k with
  | zero =>
    cases hk
    refine ⟨W4.heap.size, 0, 1, rfl, hB2.lt, fun j hj => ?_⟩
    rw [hB2.cell, List.getElem?_toArray, show 0 + 0 * 5 + j = j by omega]
    rfl
  | succ k => simp at hk

structure FallRel (w : World) (fb b lb : Nat) (f : Fl) (recs : List ByteArray) (sn : Nat) (uv : Value) (k : Nat) (m : Dk) (g : Lg) (wr : World) : Prop where
  lx : LX w (fK fb uv) (fP fb f uv recs) b lb m g wr
  len : recs.length ≤ k
  sizes : ∀ x ∈ recs, 1 ≤ x.size ∧ x.size ≤ 500
  sn : sn ≤ recs.length

def recB : ByteArray := ⟨#[114, 101, 99, 111, 114, 100]⟩
theorem recB_size : recB.size = 6 := rfl
def fRec (s : ByteArray) : ByteArray := if s.size < 1 ∨ 500 < s.size then recB else s
theorem fRec_size (s : ByteArray) : 1 ≤ (fRec s).size ∧ (fRec s).size ≤ 500 := by
  unfold fRec
  split
  · rw [recB_size]; omega
  · omega
theorem fall_try {recs : List ByteArray} {sn : Nat} {s : ByteArray} (hl : ∀ x ∈ recs, 1 ≤ x.size ∧ x.size ≤ 500) (hn : recs.length ≤ 40) (hsn : sn ≤ recs.length) (hs : 1 ≤ s.size ∧ s.size ≤ 500) :
    (falG recs sn).tryAdd s (falG recs sn).kept = falG (recs ++ [s]) sn ∧ addV (falG recs sn) s (falG recs sn).kept = .tuple #[.int .u64 (endFrom 1 recs : Int), .int .i64 0] := by
  have h1 := endFrom_max recs 1 (fun x hx => by have := hl x hx; omega)
  have hb : ¬ badRec s := by unfold badRec; omega
  have hf : ¬ addFull (falG recs sn) s (falG recs sn).kept := by
    unfold addFull
    show ¬ 4194305 - (endFrom 1 recs : Int) < _ + _ + (0 : Int)
    omega
  unfold Lg.tryAdd addV
  rw [if_neg hb, if_neg hf, if_neg hb, if_neg hf]
  exact ⟨falG_add hsn s, rfl⟩

set_option maxRecDepth 100000 in
set_option maxHeartbeats 4000000 in
theorem walFalls_w (a : Option Addr) (len cap : Nat) (l : List Ac) (f : Fl) (hf : f.ok) (w : World) (h : IsActs w a len cap l) :
    Calls Try.prog 10 #[.slice a len cap, .agg #[.int .i64 f.at_, .int .u64 f.keep, .int .i64 f.torn, .int .i64 f.bytes, .int .i64 f.log]] w fun e w' => e = .returned (.bool true) ∧ Below w.heap.size w w' := by
  have hlen := h.len
  have HH := Lib.hid h
  have HFO := Lib.hid hf
  have HN := fun W => Lib.hid (new_c W 8 (by omega) (by omega))
  have HO1 : ∀ w0 b W, DW w0 (fun _ => False) (fun _ => True) b ⟨#[]⟩ 0 W → Hid (Calls Try.prog 38 #[.pointer (some ⟨b, 0, none⟩)] W fun e w' => ∃ lb, e = .returned (.tuple #[.pointer (some ⟨lb, 0, none⟩), .int .i64 0, .int .i64 0]) ∧ LW w0 (fun _ => False) (fun _ => True) b lb ⟨#[]⟩ 0 (falG [] 0) w') := fun w0 b W h =>
    h.open_ stable_none (by omega) [] ⟨#[]⟩ (bytes_nil _).symm (by simp) (takenOk_short (by decide) _)
  have HW : ∀ W, Hid (Calls Try.prog 36 #[] W fun e w' => e = .returned (.bool true) ∧ Below W.heap.size W w') := fun W => awake5_c W
  obtain ⟨fat, fke, fto, fby, flo⟩ := f
  have hat1 := hf.at1
  have hat2 := hf.at2
  simp only at hat1 hat2 ⊢
  clear h hf
  go_enter Try.func10, Try.ntmps10
  go_wp2_with (fail)
  generalize hfb : w.heap.size = fb at *
  have HN0 := HN (w.alloc (.cells #[.int .i64 fat, .int .u64 fke, .int .i64 fto, .int .i64 fby, .int .i64 flo] 39))
  refine HN0.out.mono ?_; rintro e w1 ⟨rfl, l1⟩
  generalize hbb : (w.alloc (.cells #[.int .i64 fat, .int .u64 fke, .int .i64 fto, .int .i64 fby, .int .i64 flo] 39)).heap.size + 1 = b at *
  have L1 := HO1 _ b _ (DW.of_live l1)
  clear l1 HN0
  go_wp2_with (fail)
  refine L1.out.mono ?_; rintro e w2 ⟨lb, rfl, l2⟩
  have L2 := Lib.hid l2
  clear l2 L1
  go_wp2_with (fail)
  refine (HW _).out.mono ?_; rintro e w3 ⟨rfl, l3⟩
  have L3 := L2.out.below stable_none l3
  obtain ⟨c0, L3⟩ := L3
  have L4 := L3.rebase
  rw [hfb] at L4
  have k0 : Blk w3 fb 39 #[.int .i64 fat, .int .u64 fke, .int .i64 fto, .int .i64 fby, .int .i64 flo] := L4.own
  have q0 : w3.cell? ⟨fb, 0, none⟩ = some (.int .i64 fat) := k0.cell 0
  have q1 : w3.cell? ⟨fb, 1, none⟩ = some (.int .u64 fke) := k0.cell 1
  have q2 : w3.cell? ⟨fb, 2, none⟩ = some (.int .i64 fto) := k0.cell 2
  have q3 : w3.cell? ⟨fb, 3, none⟩ = some (.int .i64 fby) := k0.cell 3
  have q4 : w3.cell? ⟨fb, 4, none⟩ = some (.int .i64 flo) := k0.cell 4
  have z0 := k0.frozen 0
  have LL4 := Lib.hid L4
  clear l3 L3 L2 L4 HW HN HO1 k0
  have K0 := Lib.hid (show Blk w3 fb 39 #[.int .i64 fat, .int .u64 fke, .int .i64 fto, .int .i64 fby, .int .i64 flo] from LL4.out.own)
  by_cases hneg : fat < 0
  obtain ⟨f1, hf1e, hf1o⟩ : ∃ f1 : Fl, f1 = ⟨0, fke, fto, fby, flo⟩ ∧ f1.ok := ⟨_, rfl, ⟨by show (-9223372036854775808 : Int) ≤ 0; decide, by show (0 : Int) ≤ 9223372036854775807; decide, HFO.out.keep1, HFO.out.keep2, HFO.out.torn1, HFO.out.torn2, HFO.out.bytes1, HFO.out.bytes2, HFO.out.log1, HFO.out.log2⟩⟩
  have hbx := fall_box (f1 := f1) LL4.out (((Step.refl (fun r => r = fb) w3).setCell (p := ⟨fb, 0, none⟩) (.inl rfl) (.int .i64 0)).setCell (p := ⟨fb, 0, none⟩) (.inl rfl) (.int .i64 0)) (by rw [hf1e]; exact (K0.out.set_ 0 (.int .i64 0)).set_ 0 (.int .i64 0))
  have hez : (fallCells f1).toArray = #[.int .i64 0, .int .u64 fke, .int .i64 fto, .int .i64 fby, .int .i64 flo] := by rw [hf1e]; rfl
  have HLO : Hid (f1.log = flo) := by show f1.log = flo; rw [hf1e]
  rw [hez] at hbx
  have HBX := Lib.hid hbx
  have HF1 := Lib.hid hf1o
  have HEZ := Lib.hid hez
  clear hbx hez hf1e hf1o
  go_wp2_with (fail)
  have hbx := HBX.out
  have hw3s : ((w3.setCell ⟨fb, 0, none⟩ (.int .i64 0)).setCell ⟨fb, 0, none⟩ (.int .i64 0)).heap.size = w3.heap.size := by simp [World.setCell]
  rw [hw3s] at hbx
  clear HBX hw3s
  generalize ((w3.setCell ⟨fb, 0, none⟩ (.int .i64 0)).setCell ⟨fb, 0, none⟩ (.int .i64 0)).alloc (.cells #[.int .i64 0, .int .u64 fke, .int .i64 fto, .int .i64 fby, .int .i64 flo] 39) = w5 at *
  rw [← HEZ.out] at hbx
  clear hneg hat1 hat2
  rotate_left
  have hpos : 0 ≤ fat := by omega
  obtain ⟨f1, hf1e, hf1o⟩ : ∃ f1 : Fl, f1 = ⟨fat % 30, fke, fto, fby, flo⟩ ∧ f1.ok := ⟨_, rfl, ⟨by show _ ≤ fat % 30; omega, by show fat % 30 ≤ _; omega, HFO.out.keep1, HFO.out.keep2, HFO.out.torn1, HFO.out.torn2, HFO.out.bytes1, HFO.out.bytes2, HFO.out.log1, HFO.out.log2⟩⟩
  have hbx := fall_box (f1 := f1) LL4.out ((Step.refl (fun r => r = fb) w3).setCell (p := ⟨fb, 0, none⟩) (.inl rfl) (.int .i64 (fat % 30))) (by rw [hf1e]; exact K0.out.set_ 0 (.int .i64 (fat % 30)))
  have hez : (fallCells f1).toArray = #[.int .i64 (fat % 30), .int .u64 fke, .int .i64 fto, .int .i64 fby, .int .i64 flo] := by rw [hf1e]; rfl
  have HLO : Hid (f1.log = flo) := by show f1.log = flo; rw [hf1e]
  rw [hez] at hbx
  have HBX := Lib.hid hbx
  have HF1 := Lib.hid hf1o
  have HEZ := Lib.hid hez
  clear hbx hez hf1e hf1o
  go_wp2_with (fail)
  have hbx := HBX.out
  have hw3s : (w3.setCell ⟨fb, 0, none⟩ (.int .i64 (fat % 30))).heap.size = w3.heap.size := by simp [World.setCell]
  rw [hw3s] at hbx
  clear HBX hw3s
  generalize (w3.setCell ⟨fb, 0, none⟩ (.int .i64 (fat % 30))).alloc (.cells #[.int .i64 (fat % 30), .int .u64 fke, .int .i64 fto, .int .i64 fby, .int .i64 flo] 39) = w5 at *
  rw [← HEZ.out] at hbx
  clear hneg hpos hat1 hat2
  all_goals
    clear q0 q1 q2 q3 q4 z0 LL4 K0
    generalize w3.heap.size = pg at *
    obtain ⟨h5, hfl⟩ := hbx
    have hpg : pg < w5.heap.size := by
      obtain ⟨g', off, cap', e1, e2, _⟩ := hfl.2 0 f1 rfl
      cases e1
      exact e2
    have HPl : Hid (Calls Try.prog 27 #[.pointer (some ⟨b, 0, none⟩), .slice (some ⟨pg, 0, none⟩) 1 1] w5 fun e w' => e = .returned (.tuple #[]) ∧ LX w (fun r => r = fb) (fun W => Blk W fb 39 (fallCells f1).toArray) b lb (dkp c0 (frames 1 (([] : List ByteArray).take 0)) [f1]) (falG [] 0) w') :=
      h5.calls (fun _ _ hh hk => hh.same (hk fb rfl)) (fun F G hB => (plan_c hB.dsk [f1] (some ⟨pg, 0, none⟩) 1 1 (cloneFall_some w5 pg 0 1 1 [f1] hfl hpg (Nat.le_of_lt (by decide : (1 : Nat) < 1000000000000)))).mono fun e w' ⟨he, hp⟩ => ⟨he, hB.disk hp⟩)
    clear h5 hfl hpg HEZ
    refine HPl.out.mono ?_
    rintro e w6 ⟨rfl, h6⟩
    have HS : Hid (FallRel w fb b lb f1 [] 0 (.slice (some ⟨w6.heap.size, 0, none⟩) 0 0) 0 (dkp c0 (frames 1 (([] : List ByteArray).take 0)) [f1]) (falG [] 0) (w6.alloc (.cells #[] 9))) := by
      have h2 := World.ownsRow_lit (base := 0) (e := 9) (size := 1) w6 #[] 0 (Nat.zero_le _) (Nat.zero_le _) rfl
      refine ⟨h6.turn ((Step.refl _ _).alloc _) (fun r hr => ?_) ⟨(show Blk w6 fb _ _ from h6.own).alloc _, h2⟩, Nat.le_refl _, by simp, Nat.le_refl _⟩
      rcases hr with rfl | hr
      · have := (show Blk w6 r _ _ from h6.own).lt
        exact ⟨.inl rfl, by simp; omega⟩
      · have : r = w6.heap.size := by simpa [Value.ownBlock, eq_comm] using hr
        subst this
        exact ⟨.inr (Nat.le_refl _), by simp⟩
    have HS2 : Hid (∃ m g recs, (Alive f1 m g recs 0 ∨ Gone m recs 0) ∧ FallRel w fb b lb f1 recs 0 (.slice (some ⟨w6.heap.size, 0, none⟩) 0 0) 0 m g (w6.alloc (.cells #[] 9))) := ⟨_, _, [], .inl ⟨c0, [f1], rfl, .inr rfl, rfl, Nat.le_refl _⟩, HS.out⟩
    clear h6 HPl HS
    go_wp2_with (fail)
    go_loopw [10, 11, 12] (fun s10 s11 s12 wr => ∃ (k sn : Nat) (uv : Value), k ≤ len ∧ k ≤ 40 ∧ uv = s10 ∧ s11 = .int .i64 sn ∧ s12 = .int .i64 k ∧ Hid (∃ m g recs, (Alive f1 m g recs sn ∨ Gone m recs sn) ∧ FallRel w fb b lb f1 recs sn uv k m g wr)) (fun _ _ i _ => 40 - (intOf i).toNat)
    case atStart => exact ⟨0, 0, _, Nat.zero_le _, Nat.zero_le _, rfl, rfl, rfl, HS2.out⟩
    case round =>
      obtain ⟨k, sn, uv, hk1, hk2, rfl, rfl, rfl, hR⟩ := hrel
      obtain ⟨m, g, recs, hst, hF⟩ := hR.out
      have HDd := Lib.hid (hF.lx.calls (m' := m) (g' := g) (f_stable _ _ _ _) (fun F G hB => (dead_c hB.dsk).mono fun e w' ⟨he, hw⟩ => ⟨he, hw ▸ BPost.refl hB⟩))
      by_cases hgo : k < len ∧ k < 40
      · obtain ⟨hg1, hg2⟩ := hgo
        rcases hst with hst | hst
        · have hdd : m.dead = false := by obtain ⟨c, p, rfl, _⟩ := hst; rfl
          rw [hdd] at HDd
          have HA := Lib.hid hst
          have HFF : Hid (recs.length ≤ k ∧ (∀ x ∈ recs, 1 ≤ x.size ∧ x.size ≤ 500) ∧ sn ≤ recs.length) := ⟨hF.len, hF.sizes, hF.sn⟩
          clear hR hst hF hdd
          go_wp2_with (fail)
          refine HDd.out.mono ?_
          rintro e w7 ⟨rfl, h7⟩
          obtain ⟨c, hck⟩ : ∃ c, l[k]? = some c := ⟨_, List.getElem?_eq_getElem (by rw [HH.out.len_eq]; exact hg1)⟩
          obtain ⟨ab, off, rfl, hc1, hc2, hco, hab, hcell⟩ := HH.out.at_ h7.base hck
          have r0 : w7.cell? ⟨ab, off + k * 9, none⟩ = some (.int .i64 c.kind) := hcell 0 _ rfl
          have r2 : w7.cell? ⟨ab, off + k * 9 + 2, none⟩ = some (.string c.s) := hcell 2 _ rfl
          have hcs := hco.s
          obtain ⟨ua, uc, hue⟩ := own_form (show fP fb f1 uv recs w7 from h7.own).2
          subst hue
          clear hcell hck hco
          by_cases hk4 : c.kind = 4
          · obtain ⟨s1, s2, ho⟩ := alive_flush (b := b) HF1.out HA.out (fun x hx => by have := HFF.out.2.1 x hx; omega) (by have := HFF.out.1; omega)
            have HE := Lib.hid (h7.gets0 (f_stable _ _ _ _) (fun G h1 => lend_c h1))
            have HFl : ∀ W, LX w (fK fb (.slice ua recs.length uc)) (fP fb f1 (.slice ua recs.length uc) recs) b lb m g W → Hid (Calls Try.prog 47 #[.pointer (some ⟨lb, 0, none⟩), .int .u64 (g.end_ : Int)] W fun e w' => e = .returned (.int .i64 (flushE m g (g.end_ : Int)).1) ∧ LX w (fK fb (.slice ua recs.length uc)) (fP fb f1 (.slice ua recs.length uc) recs) b lb (flushE m g (g.end_ : Int)).2.1 (flushE m g (g.end_ : Int)).2.2 w') := fun W hW =>
              hW.calls (f_stable _ _ _ _) (fun F G hB => lflush_c hB s1 s2 (g.end_ : Int))
            rcases ho with ⟨m', g', e1, e2⟩ | ⟨m', g', e1, e2⟩
            · rw [e1] at HFl
              simp only at HFl
              have HA2 := Lib.hid e2
              clear s1 s2 e1 e2 h7
              go_wp2_with (fail)
              refine HE.out.mono ?_
              rintro e w8 ⟨rfl, h8⟩
              have HF8 := HFl _ h8
              clear h8
              go_wp2_with (fail)
              refine HF8.out.mono ?_
              rintro e w9 ⟨rfl, h9⟩
              have H9 : Hid (∃ m g recs', (Alive f1 m g recs' recs.length ∨ Gone m recs' recs.length) ∧ FallRel w fb b lb f1 recs' recs.length (.slice ua recs.length uc) (k + 1) m g w9) := ⟨m', g', recs, .inl HA2.out, h9, by have := HFF.out.1; omega, HFF.out.2.1, Nat.le_refl _⟩
              clear h9 HFl HF8 HE
              go_wp2
              go_roundw
              case rel => exact ⟨k + 1, recs.length, _, by omega, by omega, rfl, rfl, by go_num, H9.out⟩
              case measure => simp [intOf]; omega
            · rw [e1] at HFl
              simp only at HFl
              have HA2 := Lib.hid e2
              clear s1 s2 e1 e2 h7
              go_wp2_with (fail)
              refine HE.out.mono ?_
              rintro e w8 ⟨rfl, h8⟩
              have HF8 := HFl _ h8
              clear h8
              go_wp2_with (fail)
              refine HF8.out.mono ?_
              rintro e w9 ⟨rfl, h9⟩
              have H9 : Hid (∃ m g recs', (Alive f1 m g recs' sn ∨ Gone m recs' sn) ∧ FallRel w fb b lb f1 recs' sn (.slice ua recs.length uc) (k + 1) m g w9) := ⟨m', g', recs, .inr HA2.out, h9, by have := HFF.out.1; omega, HFF.out.2.1, HFF.out.2.2⟩
              clear h9 HFl HF8 HE
              go_wp2
              go_roundw
              case rel => exact ⟨k + 1, sn, _, by omega, by omega, rfl, rfl, by go_num, H9.out⟩
              case measure => simp [intOf]; omega
          · have hrk := HFF.out.1
            have N1 : Hid (recs.length + 1 ≤ maxLen) := by show _ ≤ maxLen; simp only [maxLen]; omega
            have N2 : Hid ((recs.length + 1) * 16 ≤ 140737488355328) := by show _ ≤ 140737488355328; omega
            have HAP : ∀ s : ByteArray, 1 ≤ s.size ∧ s.size ≤ 500 → Hid (Calls Try.prog 39 #[.pointer (some ⟨lb, 0, none⟩), .string s] w7 fun e w' => e = .returned (.tuple #[.int .u64 (endFrom 1 recs : Int), .int .i64 0]) ∧ LX w (fK fb (.slice ua recs.length uc)) (fP fb f1 (.slice ua recs.length uc) recs) b lb m (falG (recs ++ [s]) sn) w' ∧ Alive f1 m (falG (recs ++ [s]) sn) (recs ++ [s]) sn) := fun s hs => by
              obtain ⟨c', p, hm', hp', hg', hsn⟩ := HA.out
              obtain ⟨e1, e2⟩ := fall_try (sn := sn) HFF.out.2.1 (by omega) hsn hs
              have := h7.logs (f_stable _ _ _ _) (fun G h1 => lappend_c h1 (by rw [hg']; exact falG_tight recs sn) s (by omega))
              rw [hg', e1, e2] at this
              refine this.mono ?_
              rintro e w' ⟨he, hp⟩
              refine ⟨he, hp, c', p, ?_, hp', rfl, by rw [List.length_append]; omega⟩
              rw [hm', List.take_append_of_le_length hsn]
            have HR7 := Lib.hid h7.ranges
            clear h7
            obtain ⟨is, his, hsz0, hsz1, hsz2⟩ := info_parts infoString
            by_cases hb1 : c.s.size < 1
            · skip
              have HA1 := HAP (⟨#[114, 101, 99, 111, 114, 100]⟩ : ByteArray) ((⟨by show 1 ≤ recB.size; rw [recB_size]; omega, by show recB.size ≤ 500; rw [recB_size]; omega⟩ : 1 ≤ (⟨#[114, 101, 99, 111, 114, 100]⟩ : ByteArray).size ∧ (⟨#[114, 101, 99, 111, 114, 100]⟩ : ByteArray).size ≤ 500))
              clear HAP
              go_wp2_with (fail)
              refine HA1.out.mono ?_
              rintro e w8 ⟨rfl, h8, hal⟩
              have HOW : Hid ((w8.alloc (.cells #[.string (⟨#[114, 101, 99, 111, 114, 100]⟩ : ByteArray)] 9)).ownsRow 0 9 1 (.slice ua recs.length uc) recs.length (recs.map Value.string)) := own_same (show fP fb f1 _ recs w8 from h8.own).2 (fun k hk => Below.heap_alloc _ _ k ((h8.ranges k (.inr hk)).2))
              have O1 : Hid (∀ u ∈ [Value.string (⟨#[114, 101, 99, 111, 114, 100]⟩ : ByteArray)], u.oneCell' = true) := fun u hu => by simp at hu; subst hu; rfl
              have H8 := Lib.hid h8
              have HAL := Lib.hid hal
              clear h8 hal HA1
              go_wp2_with (at_builtin; refine wpList_append_lies _ (by rfl) _ _ 51 (by rfl) 0 9 is _ 1 16 Try.underlying51 his hsz0 hsz1 hsz2 rfl (by omega) (.slice ua recs.length uc) recs.length (recs.map Value.string) (by rfl) HOW.out ⟨w8.heap.size, 0, none⟩ 1 1 [.string (⟨#[114, 101, 99, 111, 114, 100]⟩ : ByteArray)] (by rfl) (by rfl) (World.news_of_block (cs := #[.string (⟨#[114, 101, 99, 111, 114, 100]⟩ : ByteArray)]) (t := 9) (fr := (0, 0)) (heap_alloc_new w8 _)) O1.out (by omega) N1.out N2.out (Nat.zero_le _) _ rfl ?_; intro pxg pxc pxw px_own px_grow px_at px_lt)
              have e1 : (recs ++ [(⟨#[114, 101, 99, 111, 114, 100]⟩ : ByteArray)]).length = recs.length + 1 := by simp
              have H9 : Hid (∃ m g recs', (Alive f1 m g recs' sn ∨ Gone m recs' sn) ∧ FallRel w fb b lb f1 recs' sn (.slice (some ⟨pxg, 0, none⟩) (recs.length + 1) pxc) (k + 1) m g pxw) := by
                refine ⟨m, _, recs ++ [(⟨#[114, 101, 99, 111, 114, 100]⟩ : ByteArray)], .inl HAL.out, ⟨?_, by rw [e1]; omega, fun x hx => ?_, by rw [e1]; have := HFF.out.2.2; omega⟩⟩
                · have hfb8 := (show Blk w8 fb _ _ from H8.out.own.1)
                  have hne : (Value.slice ua recs.length uc).ownBlock ≠ some fb := own_blk_ne (show fP fb f1 _ recs w8 from H8.out.own).2 hfb8 (by decide)
                  refine H8.out.turn (((Step.refl _ w8).alloc _).grown px_grow (fun k hk => .inl (.inr hk))) (fun r hr => ?_) ⟨?_, ?_⟩
                  · rcases hr with rfl | hr
                    · have := hfb8.lt
                      have := px_grow.size
                      exact ⟨.inl (.inl rfl), by simp at this; omega⟩
                    · have hr' : r = pxg := by simpa [Value.ownBlock, eq_comm] using hr
                      subst hr'
                      refine ⟨?_, px_lt⟩
                      rcases px_at with e | e
                      · exact .inl (.inr e)
                      · right; simp at e; omega
                  · exact hfb8.same ((px_grow.block fb (by have := hfb8.lt; simp; omega) (fun e => hne e.symm)).trans (Below.heap_alloc _ _ fb hfb8.lt))
                  · rw [e1]
                    simpa using px_own
                · rcases List.mem_append.1 hx with hx | hx
                  · exact HFF.out.2.1 x hx
                  · rw [List.mem_singleton.1 hx]; exact (⟨by show 1 ≤ recB.size; rw [recB_size]; omega, by show recB.size ≤ 500; rw [recB_size]; omega⟩ : 1 ≤ (⟨#[114, 101, 99, 111, 114, 100]⟩ : ByteArray).size ∧ (⟨#[114, 101, 99, 111, 114, 100]⟩ : ByteArray).size ≤ 500)
              clear px_own px_grow px_at px_lt e1
              go_wp2
              go_roundw
              case rel => exact ⟨k + 1, sn, _, by omega, by omega, rfl, rfl, by go_num, H9.out⟩
              case measure => simp [intOf]; omega
            · by_cases hb2 : 500 < c.s.size
              · skip
                have HA1 := HAP (⟨#[114, 101, 99, 111, 114, 100]⟩ : ByteArray) ((⟨by show 1 ≤ recB.size; rw [recB_size]; omega, by show recB.size ≤ 500; rw [recB_size]; omega⟩ : 1 ≤ (⟨#[114, 101, 99, 111, 114, 100]⟩ : ByteArray).size ∧ (⟨#[114, 101, 99, 111, 114, 100]⟩ : ByteArray).size ≤ 500))
                clear HAP
                go_wp2_with (fail)
                refine HA1.out.mono ?_
                rintro e w8 ⟨rfl, h8, hal⟩
                have HOW : Hid ((w8.alloc (.cells #[.string (⟨#[114, 101, 99, 111, 114, 100]⟩ : ByteArray)] 9)).ownsRow 0 9 1 (.slice ua recs.length uc) recs.length (recs.map Value.string)) := own_same (show fP fb f1 _ recs w8 from h8.own).2 (fun k hk => Below.heap_alloc _ _ k ((h8.ranges k (.inr hk)).2))
                have O1 : Hid (∀ u ∈ [Value.string (⟨#[114, 101, 99, 111, 114, 100]⟩ : ByteArray)], u.oneCell' = true) := fun u hu => by simp at hu; subst hu; rfl
                have H8 := Lib.hid h8
                have HAL := Lib.hid hal
                clear h8 hal HA1
                go_wp2_with (at_builtin; refine wpList_append_lies _ (by rfl) _ _ 51 (by rfl) 0 9 is _ 1 16 Try.underlying51 his hsz0 hsz1 hsz2 rfl (by omega) (.slice ua recs.length uc) recs.length (recs.map Value.string) (by rfl) HOW.out ⟨w8.heap.size, 0, none⟩ 1 1 [.string (⟨#[114, 101, 99, 111, 114, 100]⟩ : ByteArray)] (by rfl) (by rfl) (World.news_of_block (cs := #[.string (⟨#[114, 101, 99, 111, 114, 100]⟩ : ByteArray)]) (t := 9) (fr := (0, 0)) (heap_alloc_new w8 _)) O1.out (by omega) N1.out N2.out (Nat.zero_le _) _ rfl ?_; intro pxg pxc pxw px_own px_grow px_at px_lt)
                have e1 : (recs ++ [(⟨#[114, 101, 99, 111, 114, 100]⟩ : ByteArray)]).length = recs.length + 1 := by simp
                have H9 : Hid (∃ m g recs', (Alive f1 m g recs' sn ∨ Gone m recs' sn) ∧ FallRel w fb b lb f1 recs' sn (.slice (some ⟨pxg, 0, none⟩) (recs.length + 1) pxc) (k + 1) m g pxw) := by
                  refine ⟨m, _, recs ++ [(⟨#[114, 101, 99, 111, 114, 100]⟩ : ByteArray)], .inl HAL.out, ⟨?_, by rw [e1]; omega, fun x hx => ?_, by rw [e1]; have := HFF.out.2.2; omega⟩⟩
                  · have hfb8 := (show Blk w8 fb _ _ from H8.out.own.1)
                    have hne : (Value.slice ua recs.length uc).ownBlock ≠ some fb := own_blk_ne (show fP fb f1 _ recs w8 from H8.out.own).2 hfb8 (by decide)
                    refine H8.out.turn (((Step.refl _ w8).alloc _).grown px_grow (fun k hk => .inl (.inr hk))) (fun r hr => ?_) ⟨?_, ?_⟩
                    · rcases hr with rfl | hr
                      · have := hfb8.lt
                        have := px_grow.size
                        exact ⟨.inl (.inl rfl), by simp at this; omega⟩
                      · have hr' : r = pxg := by simpa [Value.ownBlock, eq_comm] using hr
                        subst hr'
                        refine ⟨?_, px_lt⟩
                        rcases px_at with e | e
                        · exact .inl (.inr e)
                        · right; simp at e; omega
                    · exact hfb8.same ((px_grow.block fb (by have := hfb8.lt; simp; omega) (fun e => hne e.symm)).trans (Below.heap_alloc _ _ fb hfb8.lt))
                    · rw [e1]
                      simpa using px_own
                  · rcases List.mem_append.1 hx with hx | hx
                    · exact HFF.out.2.1 x hx
                    · rw [List.mem_singleton.1 hx]; exact (⟨by show 1 ≤ recB.size; rw [recB_size]; omega, by show recB.size ≤ 500; rw [recB_size]; omega⟩ : 1 ≤ (⟨#[114, 101, 99, 111, 114, 100]⟩ : ByteArray).size ∧ (⟨#[114, 101, 99, 111, 114, 100]⟩ : ByteArray).size ≤ 500)
                clear px_own px_grow px_at px_lt e1
                go_wp2
                go_roundw
                case rel => exact ⟨k + 1, sn, _, by omega, by omega, rfl, rfl, by go_num, H9.out⟩
                case measure => simp [intOf]; omega
              · have hss : 1 ≤ c.s.size ∧ c.s.size ≤ 500 := by omega
                have HA1 := HAP c.s (hss)
                clear HAP
                go_wp2_with (fail)
                refine HA1.out.mono ?_
                rintro e w8 ⟨rfl, h8, hal⟩
                have HOW : Hid ((w8.alloc (.cells #[.string c.s] 9)).ownsRow 0 9 1 (.slice ua recs.length uc) recs.length (recs.map Value.string)) := own_same (show fP fb f1 _ recs w8 from h8.own).2 (fun k hk => Below.heap_alloc _ _ k ((h8.ranges k (.inr hk)).2))
                have O1 : Hid (∀ u ∈ [Value.string c.s], u.oneCell' = true) := fun u hu => by simp at hu; subst hu; rfl
                have H8 := Lib.hid h8
                have HAL := Lib.hid hal
                clear h8 hal HA1
                go_wp2_with (at_builtin; refine wpList_append_lies _ (by rfl) _ _ 51 (by rfl) 0 9 is _ 1 16 Try.underlying51 his hsz0 hsz1 hsz2 rfl (by omega) (.slice ua recs.length uc) recs.length (recs.map Value.string) (by rfl) HOW.out ⟨w8.heap.size, 0, none⟩ 1 1 [.string c.s] (by rfl) (by rfl) (World.news_of_block (cs := #[.string c.s]) (t := 9) (fr := (0, 0)) (heap_alloc_new w8 _)) O1.out (by omega) N1.out N2.out (Nat.zero_le _) _ rfl ?_; intro pxg pxc pxw px_own px_grow px_at px_lt)
                have e1 : (recs ++ [c.s]).length = recs.length + 1 := by simp
                have H9 : Hid (∃ m g recs', (Alive f1 m g recs' sn ∨ Gone m recs' sn) ∧ FallRel w fb b lb f1 recs' sn (.slice (some ⟨pxg, 0, none⟩) (recs.length + 1) pxc) (k + 1) m g pxw) := by
                  refine ⟨m, _, recs ++ [c.s], .inl HAL.out, ⟨?_, by rw [e1]; omega, fun x hx => ?_, by rw [e1]; have := HFF.out.2.2; omega⟩⟩
                  · have hfb8 := (show Blk w8 fb _ _ from H8.out.own.1)
                    have hne : (Value.slice ua recs.length uc).ownBlock ≠ some fb := own_blk_ne (show fP fb f1 _ recs w8 from H8.out.own).2 hfb8 (by decide)
                    refine H8.out.turn (((Step.refl _ w8).alloc _).grown px_grow (fun k hk => .inl (.inr hk))) (fun r hr => ?_) ⟨?_, ?_⟩
                    · rcases hr with rfl | hr
                      · have := hfb8.lt
                        have := px_grow.size
                        exact ⟨.inl (.inl rfl), by simp at this; omega⟩
                      · have hr' : r = pxg := by simpa [Value.ownBlock, eq_comm] using hr
                        subst hr'
                        refine ⟨?_, px_lt⟩
                        rcases px_at with e | e
                        · exact .inl (.inr e)
                        · right; simp at e; omega
                    · exact hfb8.same ((px_grow.block fb (by have := hfb8.lt; simp; omega) (fun e => hne e.symm)).trans (Below.heap_alloc _ _ fb hfb8.lt))
                    · rw [e1]
                      simpa using px_own
                  · rcases List.mem_append.1 hx with hx | hx
                    · exact HFF.out.2.1 x hx
                    · rw [List.mem_singleton.1 hx]; exact hss
                clear px_own px_grow px_at px_lt e1
                go_wp2
                go_roundw
                case rel => exact ⟨k + 1, sn, _, by omega, by omega, rfl, rfl, by go_num, H9.out⟩
                case measure => simp [intOf]; omega
        · have hdd : m.dead = true := by obtain ⟨c, p, j, rest, rfl, _⟩ := hst; rfl
          have HDx : Hid (Calls Try.prog 20 #[.pointer (some ⟨b, 0, none⟩)] wr fun e w' => e = .returned (.bool true) ∧ wr = w') := by
            obtain ⟨F, G, hB, _⟩ := hF.lx
            have := dead_c hB.dsk
            rw [hdd] at this
            exact this
          have hst' : Alive f1 m g recs sn ∨ Gone m recs sn := .inr hst
          clear hdd hst HDd
          have hml : m.loose.length ≤ 1000000000 := by
            rcases hst' with ⟨c, p, rfl, _⟩ | ⟨c, p, j, rest, rfl, _⟩
            · exact Nat.zero_le _
            · exact Nat.zero_le _
          have q4 : wr.cell? ⟨fb, 4, none⟩ = some (.int .i64 f1.log) := (show Blk wr fb _ _ from hF.lx.own.1).cell 4
          obtain ⟨ua, uc, hue⟩ := own_form (show fP fb f1 uv recs wr from hF.lx.own).2
          subst hue
          have HCr : Hid (Calls Try.prog 19 #[.pointer (some ⟨b, 0, none⟩), .agg #[.int .i64 0, .int .u64 0, .int .i64 0, .int .i64 0, .int .i64 f1.log]] wr fun e w' => e = .returned (.tuple #[]) ∧ LX w (fK fb (.slice ua recs.length uc)) (fP fb f1 (.slice ua recs.length uc) recs) b lb (m.crash ⟨0, 0, 0, 0, f1.log⟩) g w') :=
            hF.lx.calls (f_stable _ _ _ _) (fun F G hB => (crash_c hB.dsk ⟨0, 0, 0, 0, f1.log⟩ (logFall_ok HF1.out.log1 HF1.out.log2) hml).mono fun e w' ⟨he, hp⟩ => ⟨he, hB.disk hp⟩)
          obtain ⟨c, p, j, rest, hcr, hj1, hj2, hj3⟩ := alive_crash (f0 := ⟨0, 0, 0, 0, f1.log⟩) hst'
          rw [hcr] at HCr
          have hsz := hF.sizes
          have hrl := hF.len
          have HSZ : Hid (∀ x ∈ recs.take j, 1 ≤ x.size ∧ x.size ≤ 8192) := fun x hx => by have := hsz x (List.mem_of_mem_take hx); omega
          have HTL : Hid ((recs.take j).length = j) := by show (recs.take j).length = j; rw [List.length_take]; omega
          have HJ3 := Lib.hid hj3
          have HTG : ∀ i, i < j → Hid ((recs.take j)[i]? = recs[i]?) := fun i hi => by show (recs.take j)[i]? = recs[i]?; rw [List.getElem?_take, if_pos hi]
          clear hst' hml hcr hsz hj3 hR hF
          go_wp2_with (fail)
          refine HDx.out.mono ?_
          rintro e w7 ⟨rfl, rfl⟩
          clear HDx
          go_wp2_with (fail)
          refine HCr.out.mono ?_
          rintro e w8 ⟨rfl, h8⟩
          have HUp : Hid (Calls Try.prog 21 #[.pointer (some ⟨b, 0, none⟩)] w8 fun e w' => e = .returned (.bool true) ∧ LX w (fK fb (.slice ua recs.length uc)) (fP fb f1 (.slice ua recs.length uc) recs) b lb (dkp c (frames 1 (recs.take j) ++ rest) p) g w') :=
            h8.calls (f_stable _ _ _ _) (fun F G hB => (up_c hB.dsk).mono fun e w' ⟨he, hp⟩ => ⟨he, hB.disk hp⟩)
          clear h8 HCr
          go_wp2_with (fail)
          refine HUp.out.mono ?_
          rintro e w9 ⟨rfl, h9⟩
          have HPn : Hid (Calls Try.prog 27 #[.pointer (some ⟨b, 0, none⟩), .slice none 0 0] w9 fun e w' => e = .returned (.tuple #[]) ∧ DW w (fK fb (.slice ua recs.length uc)) (fP fb f1 (.slice ua recs.length uc) recs) b (frames 1 (recs.take j) ++ rest) 0 w') :=
            (h9.calls (m' := dk c (frames 1 (recs.take j) ++ rest) 0) (g' := g) (f_stable _ _ _ _) (fun F G hB => (plan_c hB.dsk [] none 0 0 (copy_nil w9)).mono fun e w' ⟨he, hp⟩ => ⟨he, hB.disk hp⟩)).mono fun e w' ⟨he, hp⟩ => ⟨he, c, hp.disk⟩
          clear h9 HUp
          go_wp2_with (fail)
          refine HPn.out.mono ?_
          rintro e w10 ⟨rfl, h10⟩
          have HOp := Lib.hid (h10.open_ (f_stable _ _ _ _) (by omega) (recs.take j) rest rfl HSZ.out HJ3.out)
          clear h10 HPn
          generalize recs.take j = tk at *
          go_wp2_with (fail)
          refine HOp.out.mono ?_
          rintro e w11 ⟨lb2, rfl, h11⟩
          have HLn : ∀ W, LW w (fK fb (.slice ua recs.length uc)) (fP fb f1 (.slice ua recs.length uc) recs) b lb2 (frames 1 tk) 0 (openG tk 0) W → Hid (Calls Try.prog 48 #[.pointer (some ⟨lb2, 0, none⟩)] W fun e w' => e = .returned (.int .i64 (j : Int)) ∧ LW w (fK fb (.slice ua recs.length uc)) (fP fb f1 (.slice ua recs.length uc) recs) b lb2 (frames 1 tk) 0 (openG tk 0) w') := fun W hW => by
            have := hW.gets0 (f_stable _ _ _ _) (fun G h1 => llen_c h1)
            rw [show (((openG tk 0).recs.length : Nat) : Int) = (j : Int) by show (tk.length : Int) = _; rw [HTL.out]] at this
            exact this
          have hln := HLn _ h11
          clear h11 HOp
          have hjs : decide ((j : Int) < (sn : Int)) = false := decide_eq_false (by omega)
          have hjr : decide ((recs.length : Int) < (j : Int)) = false := decide_eq_false (by omega)
          go_wp2_with (fail)
          refine hln.out.mono ?_
          rintro e w12 ⟨rfl, h12⟩
          have hln2 := HLn _ h12
          clear h12 hln
          go_wp2_with (fail)
          refine hln2.out.mono ?_
          rintro e w13 ⟨rfl, h13⟩
          have H13 := Lib.hid h13
          clear h13 hln2
          go_wp2_with (fail)
          have hjs2 : decide (j < sn) = false := decide_eq_false (by omega)
          have hjr2 : decide (recs.length < j) = false := decide_eq_false (by omega)
          try simp only [hjs, hjr, hjs2, hjr2, Bool.or_false, Bool.or_self]
          go_loopw [19, 20] (fun s19 s20 wq => ∃ i : Nat, i ≤ j ∧ s19 = .int .u64 (pl tk i : Int) ∧ s20 = .int .i64 (i : Int) ∧ Hid (LW w (fK fb (.slice ua recs.length uc)) (fP fb f1 (.slice ua recs.length uc) recs) b lb2 (frames 1 tk) 0 (openG tk 0) wq)) (fun _ i _ => j - (intOf i).toNat)
          case atStart => exact ⟨0, Nat.zero_le _, rfl, rfl, H13.out⟩
          case round =>
            obtain ⟨i, hi, rfl, rfl, hQ⟩ := hrel
            have hlni := HLn _ hQ.out
            clear hQ
            by_cases hij : i < j
            · obtain ⟨x, hx3⟩ : ∃ x, recs[i]? = some x := ⟨_, List.getElem?_eq_getElem (by omega)⟩
              have HX := Lib.hid hx3
              have HG : ∀ W, LW w (fK fb (.slice ua recs.length uc)) (fP fb f1 (.slice ua recs.length uc) recs) b lb2 (frames 1 tk) 0 (openG tk 0) W → Hid (Calls Try.prog 42 #[.pointer (some ⟨lb2, 0, none⟩), .int .u64 (pl tk i : Int)] W fun e w' => e = .returned (.tuple #[.string x, .int .u64 (pl tk (i + 1) : Int), .bool true]) ∧ LW w (fK fb (.slice ua recs.length uc)) (fP fb f1 (.slice ua recs.length uc) recs) b lb2 (frames 1 tk) 0 (openG tk 0) w') := fun W hW =>
                hW.gets (f_stable _ _ _ _) (fun G h1 => get_at h1 (show (openG tk 0).recs[i]? = some x from (HTG i hij).out.trans HX.out))
              have hxx : (x.toList == x.toList) = true := by simp
              clear hx3
              generalize hpi : pl tk i = pi at *
              generalize hpi1 : pl tk (i + 1) = pi1 at *
              have HP1 := Lib.hid hpi1
              clear hpi hpi1
              go_wp2_with (fail)
              refine hlni.out.mono ?_
              rintro e w14 ⟨rfl, h14⟩
              have HG14 := HG _ h14
              clear h14 HG hlni
              go_wp2_with (fail)
              refine HG14.out.mono ?_
              rintro e w15 ⟨rfl, h15⟩
              obtain ⟨g2, c2, ev2, q5, q6, q7, d2⟩ := row_cell (show fP fb f1 _ recs w15 from h15.own).2 (i := i) (u := .string x) (by rw [List.getElem?_map, HX.out]; rfl)
              simp only [Value.slice.injEq, true_and] at ev2
              obtain ⟨rfl, rfl⟩ := ev2
              have H15 := Lib.hid h15
              clear h15 HG14 q4
              go_wp2
              go_roundw
              case rel => exact ⟨i + 1, by omega, by rw [HP1.out], by go_num, H15.out⟩
              case measure => simp [intOf]; omega
            · obtain rfl : i = j := by omega
              have hpe : (pl tk i : Int) = ((openG tk 0).end_ : Int) := by rw [← pl_end]; show (pl tk i : Int) = (pl tk tk.length : Int); rw [HTL.out]
              have hfe : ((openG tk 0).flushed : Int) = ((openG tk 0).end_ : Int) := by
                unfold Lg.flushed
                rw [show (openG tk 0).sure = (openG tk 0).recs.length from rfl, List.getElem?_eq_none (by rw [places_length]; exact Nat.le_refl _)]
                rfl
              have HE : ∀ W, LW w (fK fb (.slice ua recs.length uc)) (fP fb f1 (.slice ua recs.length uc) recs) b lb2 (frames 1 tk) 0 (openG tk 0) W → Hid (Calls Try.prog 40 #[.pointer (some ⟨lb2, 0, none⟩)] W fun e w' => e = .returned (.int .u64 ((openG tk 0).end_ : Int)) ∧ LW w (fK fb (.slice ua recs.length uc)) (fP fb f1 (.slice ua recs.length uc) recs) b lb2 (frames 1 tk) 0 (openG tk 0) w') := fun W hW => hW.gets0 (f_stable _ _ _ _) (fun G h1 => lend_c h1)
              have HFd : ∀ W, LW w (fK fb (.slice ua recs.length uc)) (fP fb f1 (.slice ua recs.length uc) recs) b lb2 (frames 1 tk) 0 (openG tk 0) W → Hid (Calls Try.prog 49 #[.pointer (some ⟨lb2, 0, none⟩)] W fun e w' => e = .returned (.int .u64 ((openG tk 0).end_ : Int)) ∧ LW w (fK fb (.slice ua recs.length uc)) (fP fb f1 (.slice ua recs.length uc) recs) b lb2 (frames 1 tk) 0 (openG tk 0) w') := fun W hW => by
                have := hW.gets (f_stable _ _ _ _) (fun G h1 => lflushed_c h1)
                rw [hfe] at this
                exact this
              rw [hpe]
              clear hpe hfe
              generalize (openG tk 0).end_ = ed at *
              go_wp2_with (fail)
              refine hlni.out.mono ?_
              rintro e w14 ⟨rfl, h14⟩
              have HE14 := HE _ h14
              clear h14 HE hlni
              go_wp2_with (fail)
              refine HE14.out.mono ?_
              rintro e w15 ⟨rfl, h15⟩
              have HF15 := HFd _ h15
              clear h15 HFd HE14
              go_wp2_with (fail)
              refine HF15.out.mono ?_
              rintro e w16 ⟨rfl, h16⟩
              have H16 := Lib.hid h16.base
              clear h16 HF15
              go_wp2
              go_ret
              exact ⟨rfl, H16.out⟩
      · have hst' := hst
        have hx : ¬ k < len ∨ (k < len ∧ ¬ k < 40) := by omega
        clear hst hgo HDd
        have hml : m.loose.length ≤ 1000000000 := by
          rcases hst' with ⟨c, p, rfl, _⟩ | ⟨c, p, j, rest, rfl, _⟩
          · exact Nat.zero_le _
          · exact Nat.zero_le _
        have q4 : wr.cell? ⟨fb, 4, none⟩ = some (.int .i64 f1.log) := (show Blk wr fb _ _ from hF.lx.own.1).cell 4
        obtain ⟨ua, uc, hue⟩ := own_form (show fP fb f1 uv recs wr from hF.lx.own).2
        subst hue
        have HCr : Hid (Calls Try.prog 19 #[.pointer (some ⟨b, 0, none⟩), .agg #[.int .i64 0, .int .u64 0, .int .i64 0, .int .i64 0, .int .i64 f1.log]] wr fun e w' => e = .returned (.tuple #[]) ∧ LX w (fK fb (.slice ua recs.length uc)) (fP fb f1 (.slice ua recs.length uc) recs) b lb (m.crash ⟨0, 0, 0, 0, f1.log⟩) g w') :=
          hF.lx.calls (f_stable _ _ _ _) (fun F G hB => (crash_c hB.dsk ⟨0, 0, 0, 0, f1.log⟩ (logFall_ok HF1.out.log1 HF1.out.log2) hml).mono fun e w' ⟨he, hp⟩ => ⟨he, hB.disk hp⟩)
        obtain ⟨c, p, j, rest, hcr, hj1, hj2, hj3⟩ := alive_crash (f0 := ⟨0, 0, 0, 0, f1.log⟩) hst'
        rw [hcr] at HCr
        have hsz := hF.sizes
        have hrl := hF.len
        have HSZ : Hid (∀ x ∈ recs.take j, 1 ≤ x.size ∧ x.size ≤ 8192) := fun x hx => by have := hsz x (List.mem_of_mem_take hx); omega
        have HTL : Hid ((recs.take j).length = j) := by show (recs.take j).length = j; rw [List.length_take]; omega
        have HJ3 := Lib.hid hj3
        have HTG : ∀ i, i < j → Hid ((recs.take j)[i]? = recs[i]?) := fun i hi => by show (recs.take j)[i]? = recs[i]?; rw [List.getElem?_take, if_pos hi]
        clear hst' hml hcr hsz hj3 hR hF
        rcases hx with hx | ⟨hx, hx2⟩
        · skip
          go_wp2_with (fail)
          refine HCr.out.mono ?_
          rintro e w8 ⟨rfl, h8⟩
          have HUp : Hid (Calls Try.prog 21 #[.pointer (some ⟨b, 0, none⟩)] w8 fun e w' => e = .returned (.bool true) ∧ LX w (fK fb (.slice ua recs.length uc)) (fP fb f1 (.slice ua recs.length uc) recs) b lb (dkp c (frames 1 (recs.take j) ++ rest) p) g w') :=
            h8.calls (f_stable _ _ _ _) (fun F G hB => (up_c hB.dsk).mono fun e w' ⟨he, hp⟩ => ⟨he, hB.disk hp⟩)
          clear h8 HCr
          go_wp2_with (fail)
          refine HUp.out.mono ?_
          rintro e w9 ⟨rfl, h9⟩
          have HPn : Hid (Calls Try.prog 27 #[.pointer (some ⟨b, 0, none⟩), .slice none 0 0] w9 fun e w' => e = .returned (.tuple #[]) ∧ DW w (fK fb (.slice ua recs.length uc)) (fP fb f1 (.slice ua recs.length uc) recs) b (frames 1 (recs.take j) ++ rest) 0 w') :=
            (h9.calls (m' := dk c (frames 1 (recs.take j) ++ rest) 0) (g' := g) (f_stable _ _ _ _) (fun F G hB => (plan_c hB.dsk [] none 0 0 (copy_nil w9)).mono fun e w' ⟨he, hp⟩ => ⟨he, hB.disk hp⟩)).mono fun e w' ⟨he, hp⟩ => ⟨he, c, hp.disk⟩
          clear h9 HUp
          go_wp2_with (fail)
          refine HPn.out.mono ?_
          rintro e w10 ⟨rfl, h10⟩
          have HOp := Lib.hid (h10.open_ (f_stable _ _ _ _) (by omega) (recs.take j) rest rfl HSZ.out HJ3.out)
          clear h10 HPn
          generalize recs.take j = tk at *
          go_wp2_with (fail)
          refine HOp.out.mono ?_
          rintro e w11 ⟨lb2, rfl, h11⟩
          have HLn : ∀ W, LW w (fK fb (.slice ua recs.length uc)) (fP fb f1 (.slice ua recs.length uc) recs) b lb2 (frames 1 tk) 0 (openG tk 0) W → Hid (Calls Try.prog 48 #[.pointer (some ⟨lb2, 0, none⟩)] W fun e w' => e = .returned (.int .i64 (j : Int)) ∧ LW w (fK fb (.slice ua recs.length uc)) (fP fb f1 (.slice ua recs.length uc) recs) b lb2 (frames 1 tk) 0 (openG tk 0) w') := fun W hW => by
            have := hW.gets0 (f_stable _ _ _ _) (fun G h1 => llen_c h1)
            rw [show (((openG tk 0).recs.length : Nat) : Int) = (j : Int) by show (tk.length : Int) = _; rw [HTL.out]] at this
            exact this
          have hln := HLn _ h11
          clear h11 HOp
          have hjs : decide ((j : Int) < (sn : Int)) = false := decide_eq_false (by omega)
          have hjr : decide ((recs.length : Int) < (j : Int)) = false := decide_eq_false (by omega)
          go_wp2_with (fail)
          refine hln.out.mono ?_
          rintro e w12 ⟨rfl, h12⟩
          have hln2 := HLn _ h12
          clear h12 hln
          go_wp2_with (fail)
          refine hln2.out.mono ?_
          rintro e w13 ⟨rfl, h13⟩
          have H13 := Lib.hid h13
          clear h13 hln2
          go_wp2_with (fail)
          have hjs2 : decide (j < sn) = false := decide_eq_false (by omega)
          have hjr2 : decide (recs.length < j) = false := decide_eq_false (by omega)
          try simp only [hjs, hjr, hjs2, hjr2, Bool.or_false, Bool.or_self]
          go_loopw [19, 20] (fun s19 s20 wq => ∃ i : Nat, i ≤ j ∧ s19 = .int .u64 (pl tk i : Int) ∧ s20 = .int .i64 (i : Int) ∧ Hid (LW w (fK fb (.slice ua recs.length uc)) (fP fb f1 (.slice ua recs.length uc) recs) b lb2 (frames 1 tk) 0 (openG tk 0) wq)) (fun _ i _ => j - (intOf i).toNat)
          case atStart => exact ⟨0, Nat.zero_le _, rfl, rfl, H13.out⟩
          case round =>
            obtain ⟨i, hi, rfl, rfl, hQ⟩ := hrel
            have hlni := HLn _ hQ.out
            clear hQ
            by_cases hij : i < j
            · obtain ⟨x, hx3⟩ : ∃ x, recs[i]? = some x := ⟨_, List.getElem?_eq_getElem (by omega)⟩
              have HX := Lib.hid hx3
              have HG : ∀ W, LW w (fK fb (.slice ua recs.length uc)) (fP fb f1 (.slice ua recs.length uc) recs) b lb2 (frames 1 tk) 0 (openG tk 0) W → Hid (Calls Try.prog 42 #[.pointer (some ⟨lb2, 0, none⟩), .int .u64 (pl tk i : Int)] W fun e w' => e = .returned (.tuple #[.string x, .int .u64 (pl tk (i + 1) : Int), .bool true]) ∧ LW w (fK fb (.slice ua recs.length uc)) (fP fb f1 (.slice ua recs.length uc) recs) b lb2 (frames 1 tk) 0 (openG tk 0) w') := fun W hW =>
                hW.gets (f_stable _ _ _ _) (fun G h1 => get_at h1 (show (openG tk 0).recs[i]? = some x from (HTG i hij).out.trans HX.out))
              have hxx : (x.toList == x.toList) = true := by simp
              clear hx3
              generalize hpi : pl tk i = pi at *
              generalize hpi1 : pl tk (i + 1) = pi1 at *
              have HP1 := Lib.hid hpi1
              clear hpi hpi1
              go_wp2_with (fail)
              refine hlni.out.mono ?_
              rintro e w14 ⟨rfl, h14⟩
              have HG14 := HG _ h14
              clear h14 HG hlni
              go_wp2_with (fail)
              refine HG14.out.mono ?_
              rintro e w15 ⟨rfl, h15⟩
              obtain ⟨g2, c2, ev2, q5, q6, q7, d2⟩ := row_cell (show fP fb f1 _ recs w15 from h15.own).2 (i := i) (u := .string x) (by rw [List.getElem?_map, HX.out]; rfl)
              simp only [Value.slice.injEq, true_and] at ev2
              obtain ⟨rfl, rfl⟩ := ev2
              have H15 := Lib.hid h15
              clear h15 HG14 q4
              go_wp2
              go_roundw
              case rel => exact ⟨i + 1, by omega, by rw [HP1.out], by go_num, H15.out⟩
              case measure => simp [intOf]; omega
            · obtain rfl : i = j := by omega
              have hpe : (pl tk i : Int) = ((openG tk 0).end_ : Int) := by rw [← pl_end]; show (pl tk i : Int) = (pl tk tk.length : Int); rw [HTL.out]
              have hfe : ((openG tk 0).flushed : Int) = ((openG tk 0).end_ : Int) := by
                unfold Lg.flushed
                rw [show (openG tk 0).sure = (openG tk 0).recs.length from rfl, List.getElem?_eq_none (by rw [places_length]; exact Nat.le_refl _)]
                rfl
              have HE : ∀ W, LW w (fK fb (.slice ua recs.length uc)) (fP fb f1 (.slice ua recs.length uc) recs) b lb2 (frames 1 tk) 0 (openG tk 0) W → Hid (Calls Try.prog 40 #[.pointer (some ⟨lb2, 0, none⟩)] W fun e w' => e = .returned (.int .u64 ((openG tk 0).end_ : Int)) ∧ LW w (fK fb (.slice ua recs.length uc)) (fP fb f1 (.slice ua recs.length uc) recs) b lb2 (frames 1 tk) 0 (openG tk 0) w') := fun W hW => hW.gets0 (f_stable _ _ _ _) (fun G h1 => lend_c h1)
              have HFd : ∀ W, LW w (fK fb (.slice ua recs.length uc)) (fP fb f1 (.slice ua recs.length uc) recs) b lb2 (frames 1 tk) 0 (openG tk 0) W → Hid (Calls Try.prog 49 #[.pointer (some ⟨lb2, 0, none⟩)] W fun e w' => e = .returned (.int .u64 ((openG tk 0).end_ : Int)) ∧ LW w (fK fb (.slice ua recs.length uc)) (fP fb f1 (.slice ua recs.length uc) recs) b lb2 (frames 1 tk) 0 (openG tk 0) w') := fun W hW => by
                have := hW.gets (f_stable _ _ _ _) (fun G h1 => lflushed_c h1)
                rw [hfe] at this
                exact this
              rw [hpe]
              clear hpe hfe
              generalize (openG tk 0).end_ = ed at *
              go_wp2_with (fail)
              refine hlni.out.mono ?_
              rintro e w14 ⟨rfl, h14⟩
              have HE14 := HE _ h14
              clear h14 HE hlni
              go_wp2_with (fail)
              refine HE14.out.mono ?_
              rintro e w15 ⟨rfl, h15⟩
              have HF15 := HFd _ h15
              clear h15 HFd HE14
              go_wp2_with (fail)
              refine HF15.out.mono ?_
              rintro e w16 ⟨rfl, h16⟩
              have H16 := Lib.hid h16.base
              clear h16 HF15
              go_wp2
              go_ret
              exact ⟨rfl, H16.out⟩
        · skip
          go_wp2_with (fail)
          refine HCr.out.mono ?_
          rintro e w8 ⟨rfl, h8⟩
          have HUp : Hid (Calls Try.prog 21 #[.pointer (some ⟨b, 0, none⟩)] w8 fun e w' => e = .returned (.bool true) ∧ LX w (fK fb (.slice ua recs.length uc)) (fP fb f1 (.slice ua recs.length uc) recs) b lb (dkp c (frames 1 (recs.take j) ++ rest) p) g w') :=
            h8.calls (f_stable _ _ _ _) (fun F G hB => (up_c hB.dsk).mono fun e w' ⟨he, hp⟩ => ⟨he, hB.disk hp⟩)
          clear h8 HCr
          go_wp2_with (fail)
          refine HUp.out.mono ?_
          rintro e w9 ⟨rfl, h9⟩
          have HPn : Hid (Calls Try.prog 27 #[.pointer (some ⟨b, 0, none⟩), .slice none 0 0] w9 fun e w' => e = .returned (.tuple #[]) ∧ DW w (fK fb (.slice ua recs.length uc)) (fP fb f1 (.slice ua recs.length uc) recs) b (frames 1 (recs.take j) ++ rest) 0 w') :=
            (h9.calls (m' := dk c (frames 1 (recs.take j) ++ rest) 0) (g' := g) (f_stable _ _ _ _) (fun F G hB => (plan_c hB.dsk [] none 0 0 (copy_nil w9)).mono fun e w' ⟨he, hp⟩ => ⟨he, hB.disk hp⟩)).mono fun e w' ⟨he, hp⟩ => ⟨he, c, hp.disk⟩
          clear h9 HUp
          go_wp2_with (fail)
          refine HPn.out.mono ?_
          rintro e w10 ⟨rfl, h10⟩
          have HOp := Lib.hid (h10.open_ (f_stable _ _ _ _) (by omega) (recs.take j) rest rfl HSZ.out HJ3.out)
          clear h10 HPn
          generalize recs.take j = tk at *
          go_wp2_with (fail)
          refine HOp.out.mono ?_
          rintro e w11 ⟨lb2, rfl, h11⟩
          have HLn : ∀ W, LW w (fK fb (.slice ua recs.length uc)) (fP fb f1 (.slice ua recs.length uc) recs) b lb2 (frames 1 tk) 0 (openG tk 0) W → Hid (Calls Try.prog 48 #[.pointer (some ⟨lb2, 0, none⟩)] W fun e w' => e = .returned (.int .i64 (j : Int)) ∧ LW w (fK fb (.slice ua recs.length uc)) (fP fb f1 (.slice ua recs.length uc) recs) b lb2 (frames 1 tk) 0 (openG tk 0) w') := fun W hW => by
            have := hW.gets0 (f_stable _ _ _ _) (fun G h1 => llen_c h1)
            rw [show (((openG tk 0).recs.length : Nat) : Int) = (j : Int) by show (tk.length : Int) = _; rw [HTL.out]] at this
            exact this
          have hln := HLn _ h11
          clear h11 HOp
          have hjs : decide ((j : Int) < (sn : Int)) = false := decide_eq_false (by omega)
          have hjr : decide ((recs.length : Int) < (j : Int)) = false := decide_eq_false (by omega)
          go_wp2_with (fail)
          refine hln.out.mono ?_
          rintro e w12 ⟨rfl, h12⟩
          have hln2 := HLn _ h12
          clear h12 hln
          go_wp2_with (fail)
          refine hln2.out.mono ?_
          rintro e w13 ⟨rfl, h13⟩
          have H13 := Lib.hid h13
          clear h13 hln2
          go_wp2_with (fail)
          have hjs2 : decide (j < sn) = false := decide_eq_false (by omega)
          have hjr2 : decide (recs.length < j) = false := decide_eq_false (by omega)
          try simp only [hjs, hjr, hjs2, hjr2, Bool.or_false, Bool.or_self]
          go_loopw [19, 20] (fun s19 s20 wq => ∃ i : Nat, i ≤ j ∧ s19 = .int .u64 (pl tk i : Int) ∧ s20 = .int .i64 (i : Int) ∧ Hid (LW w (fK fb (.slice ua recs.length uc)) (fP fb f1 (.slice ua recs.length uc) recs) b lb2 (frames 1 tk) 0 (openG tk 0) wq)) (fun _ i _ => j - (intOf i).toNat)
          case atStart => exact ⟨0, Nat.zero_le _, rfl, rfl, H13.out⟩
          case round =>
            obtain ⟨i, hi, rfl, rfl, hQ⟩ := hrel
            have hlni := HLn _ hQ.out
            clear hQ
            by_cases hij : i < j
            · obtain ⟨x, hx3⟩ : ∃ x, recs[i]? = some x := ⟨_, List.getElem?_eq_getElem (by omega)⟩
              have HX := Lib.hid hx3
              have HG : ∀ W, LW w (fK fb (.slice ua recs.length uc)) (fP fb f1 (.slice ua recs.length uc) recs) b lb2 (frames 1 tk) 0 (openG tk 0) W → Hid (Calls Try.prog 42 #[.pointer (some ⟨lb2, 0, none⟩), .int .u64 (pl tk i : Int)] W fun e w' => e = .returned (.tuple #[.string x, .int .u64 (pl tk (i + 1) : Int), .bool true]) ∧ LW w (fK fb (.slice ua recs.length uc)) (fP fb f1 (.slice ua recs.length uc) recs) b lb2 (frames 1 tk) 0 (openG tk 0) w') := fun W hW =>
                hW.gets (f_stable _ _ _ _) (fun G h1 => get_at h1 (show (openG tk 0).recs[i]? = some x from (HTG i hij).out.trans HX.out))
              have hxx : (x.toList == x.toList) = true := by simp
              clear hx3
              generalize hpi : pl tk i = pi at *
              generalize hpi1 : pl tk (i + 1) = pi1 at *
              have HP1 := Lib.hid hpi1
              clear hpi hpi1
              go_wp2_with (fail)
              refine hlni.out.mono ?_
              rintro e w14 ⟨rfl, h14⟩
              have HG14 := HG _ h14
              clear h14 HG hlni
              go_wp2_with (fail)
              refine HG14.out.mono ?_
              rintro e w15 ⟨rfl, h15⟩
              obtain ⟨g2, c2, ev2, q5, q6, q7, d2⟩ := row_cell (show fP fb f1 _ recs w15 from h15.own).2 (i := i) (u := .string x) (by rw [List.getElem?_map, HX.out]; rfl)
              simp only [Value.slice.injEq, true_and] at ev2
              obtain ⟨rfl, rfl⟩ := ev2
              have H15 := Lib.hid h15
              clear h15 HG14 q4
              go_wp2
              go_roundw
              case rel => exact ⟨i + 1, by omega, by rw [HP1.out], by go_num, H15.out⟩
              case measure => simp [intOf]; omega
            · obtain rfl : i = j := by omega
              have hpe : (pl tk i : Int) = ((openG tk 0).end_ : Int) := by rw [← pl_end]; show (pl tk i : Int) = (pl tk tk.length : Int); rw [HTL.out]
              have hfe : ((openG tk 0).flushed : Int) = ((openG tk 0).end_ : Int) := by
                unfold Lg.flushed
                rw [show (openG tk 0).sure = (openG tk 0).recs.length from rfl, List.getElem?_eq_none (by rw [places_length]; exact Nat.le_refl _)]
                rfl
              have HE : ∀ W, LW w (fK fb (.slice ua recs.length uc)) (fP fb f1 (.slice ua recs.length uc) recs) b lb2 (frames 1 tk) 0 (openG tk 0) W → Hid (Calls Try.prog 40 #[.pointer (some ⟨lb2, 0, none⟩)] W fun e w' => e = .returned (.int .u64 ((openG tk 0).end_ : Int)) ∧ LW w (fK fb (.slice ua recs.length uc)) (fP fb f1 (.slice ua recs.length uc) recs) b lb2 (frames 1 tk) 0 (openG tk 0) w') := fun W hW => hW.gets0 (f_stable _ _ _ _) (fun G h1 => lend_c h1)
              have HFd : ∀ W, LW w (fK fb (.slice ua recs.length uc)) (fP fb f1 (.slice ua recs.length uc) recs) b lb2 (frames 1 tk) 0 (openG tk 0) W → Hid (Calls Try.prog 49 #[.pointer (some ⟨lb2, 0, none⟩)] W fun e w' => e = .returned (.int .u64 ((openG tk 0).end_ : Int)) ∧ LW w (fK fb (.slice ua recs.length uc)) (fP fb f1 (.slice ua recs.length uc) recs) b lb2 (frames 1 tk) 0 (openG tk 0) w') := fun W hW => by
                have := hW.gets (f_stable _ _ _ _) (fun G h1 => lflushed_c h1)
                rw [hfe] at this
                exact this
              rw [hpe]
              clear hpe hfe
              generalize (openG tk 0).end_ = ed at *
              go_wp2_with (fail)
              refine hlni.out.mono ?_
              rintro e w14 ⟨rfl, h14⟩
              have HE14 := HE _ h14
              clear h14 HE hlni
              go_wp2_with (fail)
              refine HE14.out.mono ?_
              rintro e w15 ⟨rfl, h15⟩
              have HF15 := HFd _ h15
              clear h15 HFd HE14
              go_wp2_with (fail)
              refine HF15.out.mono ?_
              rintro e w16 ⟨rfl, h16⟩
              have H16 := Lib.hid h16.base
              clear h16 HF15
              go_wp2
              go_ret
              exact ⟨rfl, H16.out⟩
end Go.Proofs.Ytnobiekgifjaeaa
