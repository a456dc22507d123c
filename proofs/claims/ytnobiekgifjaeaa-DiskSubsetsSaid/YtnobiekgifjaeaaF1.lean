/-
  DiskSubsets: the walk.
-/
import Derived.Test.YtnobiekgifjaeaaC2
import Derived.Test.YtnobiekgifjaeaaB3
import Derived.Deep.DeepCutAuto
import Derived.OpenShut
namespace Go.Proofs.Ytnobiekgifjaeaa
open Go.RowKit

/-- the nine texts that the statement keeps: what is sure of the pages 0 to 8 -/
def wantRow (m : Dk) : Array Value := #[.string (m.sure 0), .string (m.sure 1), .string (m.sure 2), .string (m.sure 3), .string (m.sure 4), .string (m.sure 5), .string (m.sure 6), .string (m.sure 7), .string (m.sure 8)]

def initRow (k : Nat) : Array Value := (List.replicate k (Value.string blank) ++ List.replicate (9 - k) (Value.string ⟨#[]⟩)).toArray

theorem initRow_set (k : Nat) (h : k < 9) : (initRow k).setIfInBounds k (.string blank) = initRow (k + 1) := by
  unfold initRow
  generalize Value.string blank = v
  rcases (by omega : k = 0 ∨ k = 1 ∨ k = 2 ∨ k = 3 ∨ k = 4 ∨ k = 5 ∨ k = 6 ∨ k = 7 ∨ k = 8) with rfl | rfl | rfl | rfl | rfl | rfl | rfl | rfl | rfl <;> rfl

theorem initRow_get (k j : Nat) (hk : k ≤ 9) (hj : j < 9) : ∃ s, (initRow k)[j]? = some (.string s) := by
  unfold initRow
  simp only [List.getElem?_toArray, List.getElem?_append, List.length_replicate, List.getElem?_replicate]
  by_cases h : j < k
  · exact ⟨blank, by simp only [h, if_true]⟩
  · have h1 : j - k < 9 - k := by omega
    exact ⟨⟨#[]⟩, by simp only [h, h1, if_true, if_false]⟩

theorem initRow_nine : initRow 9 = wantRow (Dk.fresh 8) := rfl

theorem wantRow_set {m m' : Dk} {p : Nat} {s : ByteArray} (hp : p ≤ 8) (h : ∀ q, m'.sure q = if q = (p : Int) then s else m.sure q) : (wantRow m).setIfInBounds p (.string s) = wantRow m' := by
  unfold wantRow
  simp only [h]
  rcases (by omega : p = 0 ∨ p = 1 ∨ p = 2 ∨ p = 3 ∨ p = 4 ∨ p = 5 ∨ p = 6 ∨ p = 7 ∨ p = 8) with rfl | rfl | rfl | rfl | rfl | rfl | rfl | rfl | rfl <;> simp

theorem wantRow_get (m : Dk) {p : Nat} (hp : p ≤ 8) : (wantRow m)[p]? = some (.string (m.sure p)) := by
  unfold wantRow
  rcases (by omega : p = 0 ∨ p = 1 ∨ p = 2 ∨ p = 3 ∨ p = 4 ∨ p = 5 ∨ p = 6 ∨ p = 7 ∨ p = 8) with rfl | rfl | rfl | rfl | rfl | rfl | rfl | rfl | rfl <;> rfl

theorem sure_put (m : Dk) (p : Int) (s : ByteArray) (q : Int) : Dk.sure { m with pages := putAt m.pages p s } q = if q = p then s else m.sure q := by
  unfold Dk.sure putAt
  simp only
  split <;> simp

theorem page_u8 {b : Nat} {S : Dk → World → Prop} {m : Dk} {w : World} (H : Host b S) (h : S m w) (k : Nat) (hk : k < 255) : Calls Try.prog 18 #[.int .u8 ((k : Int) + 1)] w fun e w' => e = .returned (.string (pageOf (UInt8.ofNat (k + 1)))) ∧ S m w' := by
  have e : ((UInt8.ofNat (k + 1)).toNat : Int) = (k : Int) + 1 := by
    rw [UInt8.toNat_ofNat']
    omega
  have := page_H H h (UInt8.ofNat (k + 1))
  rw [e] at this
  exact this

theorem strike_pages (f : Fl) (i : Nat) (x : Wr) {m m' : Dk} (h : m.pages = m'.pages) : (m.strike f i x).pages = (m'.strike f i x).pages := by
  unfold Dk.strike Dk.land Dk.sure
  rw [h]
  split
  · split
    · first | exact h | rfl
    · first | exact h | rfl
  · split
    · split
      · first | exact h | rfl
      · first | exact h | rfl
    · first | exact h | rfl

theorem strikesFrom_pages (f : Fl) : ∀ (L : List Wr) (i : Nat) (m m' : Dk), m.pages = m'.pages → (m.strikesFrom f i L).pages = (m'.strikesFrom f i L).pages
  | [], _, _, _, h => h
  | x :: L, i, m, m', h => strikesFrom_pages f L (i + 1) _ _ (strike_pages f i x h)

/-- what the statement keeps while it writes: the loose writes so far, and what they would leave -/
structure SubRel (W0 : World) (b g : Nat) (f : Fl) (k : Nat) (L : List Wr) (c : Int) (wr : World) : Prop where
  len : L.length = k
  pages : ∀ x ∈ L, 1 ≤ x.page ∧ x.page ≤ 8
  live : LiveK W0 b g (.cells (wantRow ((Dk.fresh 8).strikesFrom f 0 L)) 30) { Dk.fresh 8 with calls := c, loose := L } wr

theorem SubRel.next {W0 wr w' : World} {b g : Nat} {f : Fl} {k : Nat} {L : List Wr} {c c' : Int} {x : Wr} (h : SubRel W0 b g f k L c wr) (hx : 1 ≤ x.page ∧ x.page ≤ 8) {o : Obj}
    (hl : LiveK W0 b g o { Dk.fresh 8 with calls := c', loose := L ++ [x] } w') (ho : o = .cells (wantRow (((Dk.fresh 8).strikesFrom f 0 L).strike f k x)) 30) : ∃ L c, SubRel W0 b g f (k + 1) L c w' := by
  subst ho
  refine ⟨L ++ [x], c', by simp [h.len], fun y hy => ?_, ?_⟩
  · rcases List.mem_append.1 hy with h1 | h1
    · exact h.pages y h1
    · simp at h1; subst h1; exact hx
  · rw [Dk.strikesFrom_snoc, h.len, Nat.zero_add]
    exact hl

/-- how the disk stands behind the fall -/
structure SubEnd (M m : Dk) : Prop where
  dead : m.dead = false
  plan : m.plan = []
  loose : m.loose = []
  room : m.room = 8
  pages : m.pages = M.pages

theorem live_pack {w X wx : World} {m : Dk} (h : Live X (X.heap.size + 1) m wx) (hs : X.heap.size = w.heap.size + 1) (hb : Below w.heap.size w X) : ∃ W0, Below w.heap.size w W0 ∧ Live W0 (w.heap.size + 1 + 1) m wx :=
  ⟨X, hb, by rw [← hs]; exact h⟩

set_option maxRecDepth 100000 in
set_option maxHeartbeats 4000000 in
theorem diskSubsets_w (a0 : Option Addr) (n0 c0 : Nat) (zs : List Int) (keep torn bytes : Int) (w : World) (h0 : IsInts .u8 w a0 n0 c0 zs) (hk1 : 0 ≤ keep) (hk2 : keep ≤ 18446744073709551615)
    (ht1 : -9223372036854775808 ≤ torn) (ht2 : torn ≤ 9223372036854775807) (hb1 : -9223372036854775808 ≤ bytes) (hb2 : bytes ≤ 9223372036854775807) :
    Calls Try.prog 3 #[.slice a0 n0 c0, .int .u64 keep, .agg #[.int .i64 torn, .int .i64 bytes]] w fun e w' => e = .returned (.bool true) ∧ Below w.heap.size w w' := by
  have HN : ∀ W, Hid (Calls Try.prog 14 #[.int .i64 8] W fun e w' => e = .returned (.tuple #[.pointer (some ⟨W.heap.size + 1, 0, none⟩), .int .i64 0]) ∧ Live W (W.heap.size + 1) (Dk.fresh 8) w') := fun W => new_c W 8 (by omega) (by omega)
  have HA : ∀ W, Hid (Calls Try.prog 15 #[] W fun e w' => e = .returned (.bool true) ∧ Below W.heap.size W w') := fun W => awake_c W
  have hlen := h0.len
  obtain ⟨hl0, hlc, hl1⟩ := hlen
  unfold maxLen at hl0 hl1
  have H0 := Lib.hid h0
  clear h0
  go_enter Try.func3, Try.ntmps3
  go_wp2
  go_quiet (fail)
  go_upto_if 39 with (first | (go_at_call 14; refine (HN _).out.mono ?_; rintro e w1 ⟨rfl, l1⟩; have L1 := Lib.hid l1; clear l1) | (go_at_call 15; refine (HA _).out.mono ?_; rintro e w2 ⟨rfl, hb2⟩; have L2 := Lib.hid (L1.out.below hb2); clear L1 hb2))
  go_cut [0] (fun s0 wx => (∃ nn : Nat, s0 = .slice a0 nn c0 ∧ nn ≤ 40 ∧ nn ≤ n0) ∧ Hid (∃ W0, Below w.heap.size w W0 ∧ Live W0 (w.heap.size + 1 + 1) (Dk.fresh 8) wx))
  case first =>
    have HL : Hid (∃ W0, Below w.heap.size w W0 ∧ Live W0 (w.heap.size + 1 + 1) (Dk.fresh 8) w2) := live_pack L2.out (by simp) (((Below.refl _ _).alloc (Nat.le_refl _) _).trans ⟨rfl, rfl, rfl, Nat.le_refl _, fun _ _ => rfl⟩)
    clear L2
    by_cases hbig : 40 < n0
    · go_wp2
      go_meet
      exact ⟨⟨40, rfl, by omega, by omega⟩, HL⟩
    · go_wp2
      go_meet
      exact ⟨⟨n0, rfl, by omega, by omega⟩, HL⟩
  case rest =>
    obtain ⟨⟨nn, rfl, hn1, hn2⟩, HLv⟩ := hcut
    obtain ⟨W0, hW0, hL⟩ := HLv.out
    generalize hb : w.heap.size + 1 + 1 = b at *
    have hg0 : W0.heap.size ≤ wc.heap.size := hL.base.size
    have HK := Lib.hid (LiveK.start hL (.cells (initRow 0) 30))
    have HW0 := Lib.hid hW0
    generalize hg : wc.heap.size = g at *
    clear HLv hL hb hW0 HN HA
    go_wp2_with (fail)
    go_loopw [12] (fun i wr => ∃ k : Nat, k ≤ 9 ∧ i = .int .i64 k ∧ Hid (LiveK W0 b g (.cells (initRow k) 30) (Dk.fresh 8) wr)) (fun i _ => 9 - (intOf i).toNat)
    case atStart => exact ⟨0, Nat.zero_le _, rfl, HK.out⟩
    case round =>
      obtain ⟨k, hk, rfl, hK⟩ := hrel
      by_cases hlt : k < 9
      · obtain ⟨s0, hs0⟩ := initRow_get k k hk hlt
        have HZ : Hid (Calls Try.prog 16 #[] wr fun e w' => e = .returned (.string blank) ∧ LiveK W0 b g (.cells (initRow k) 30) (Dk.fresh 8) w') := zeros_H (LiveK.host W0 b g _) hK.out
        have HS0 := Lib.hid hs0
        clear hs0
        generalize hbl : blank = bl at *
        have HBL := Lib.hid hbl
        clear hbl
        go_wp2_with (go_at_call 16; refine HZ.out.mono ?_; rintro e w3 ⟨rfl, l3⟩; have d3 : w3.cell? ⟨g, k, none⟩ = some (.string s0) := (Blk.cell (show Blk w3 g 30 (initRow k) from l3.blk) k).trans HS0.out; have f3 : w3.frozen? ⟨g, k, none⟩ = false := Blk.frozen (show Blk w3 g 30 (initRow k) from l3.blk) k; have L3 := Lib.hid l3; clear l3)
        go_roundw
        case rel => exact ⟨k + 1, by omega, by go_num, by have := L3.out.store hg0 k (.string blank); rw [initRow_set k hlt] at this; rw [← HBL.out]; exact this⟩
        case measure => simp [intOf]; omega
      · obtain rfl : k = 9 := by omega
        have HK9 := Lib.hid hK.out
        rw [initRow_nine] at HK9
        clear hK HK
        rw [show ((9 : Nat) : Int) = 9 from rfl]
        go_wp2_with (fail)
        go_loopg [13] nn (fun gg i wr => ∃ k : Nat, k ≤ nn ∧ nn - k ≤ gg ∧ i = .int .i64 k ∧ Hid (∃ L c, SubRel W0 b g ⟨0, keep, torn, bytes, 0⟩ k L c wr))
        case atStart => exact ⟨0, Nat.zero_le _, by omega, rfl, [], 0, ⟨rfl, by simp, HK9.out⟩⟩
        case round =>
          obtain ⟨k, hk, hgg, rfl, hS⟩ := hrel
          by_cases hlt : k < nn
          · obtain ⟨L, c, hS⟩ := hS.out
            obtain ⟨zb, zo, z, rfl, -, wz, hcell⟩ := H0.out.at_ (HW0.out.trans (hS.live.base.mono HW0.out.size)) (Nat.lt_of_lt_of_le hlt hn2)
            have hz := bounds_u8 wz
            obtain ⟨hz0, hz1⟩ := hz
            obtain ⟨p, hp, hp1, hp8⟩ : ∃ p : Nat, z % 8 + 1 = (p : Int) ∧ 1 ≤ p ∧ p ≤ 8 := ⟨(z % 8 + 1).toNat, by omega, by omega, by omega⟩
            have HP := Lib.hid hp
            have HSL := Lib.hid hS
            have HPg : ∀ W m o, LiveK W0 b g o m W → Hid (Calls Try.prog 18 #[.int .u8 ((k : Int) + 1)] W fun e w' => e = .returned (.string (pageOf (UInt8.ofNat (k + 1)))) ∧ LiveK W0 b g o m w') := fun W m o h => page_u8 (LiveK.host W0 b g o) h k (by omega)
            generalize hpg : pageOf (UInt8.ofNat (k + 1)) = pg at *
            have hps : pg.size = 512 := by rw [← hpg]; exact pageOf_size _
            have hmay : Dk.may { Dk.fresh 8 with calls := c, loose := L } (p : Int) = 0 := by
              unfold Dk.may
              have e1 : ¬ ((p : Int) < 1 ∨ 4096 < (p : Int)) := by omega
              have e2 : ¬ ((8 : Int) ≤ ((p : Int) - 1) % 2048) := by omega
              rw [if_neg e1]
              show (if (8 : Int) ≤ ((p : Int) - 1) % 2048 then (20 : Int) else 0) = 0
              rw [if_neg e2]
            have HWr : ∀ W o, LiveK W0 b g o { Dk.fresh 8 with calls := c, loose := L } W → Hid (Calls Try.prog 17 #[.pointer (some ⟨b, 0, none⟩), .int .u32 (p : Int), .string pg] W fun e w' => e = .returned (.int .i64 0) ∧ LiveK W0 b g o { Dk.fresh 8 with calls := wrapI (c + 1), loose := L ++ [⟨p, pg, 0⟩] } w') := fun W o h =>
              write_H (LiveK.host W0 b g o) h p pg rfl hps hmay rfl (by show L.length ≤ _; rw [hS.len]; omega)
            have HPs := Lib.hid hps
            clear hS hp hpg hps hmay wz
            go_wp2_with (fail)
            rw [HP.out]
            refine (HPg _ _ _ HSL.out.live).out.mono ?_; rintro e w3 ⟨rfl, l3⟩
            go_wp2_with (fail)
            refine (HWr _ _ l3).out.mono ?_; rintro e w4 ⟨rfl, l4⟩
            have L4 := Lib.hid l4
            clear l3 l4 HWr
            have HB := Lib.hid (bit_of keep (k % 64) hk1 hk2)
            by_cases t : 0 < torn ∧ (k : Int) = torn - 1
            · obtain ⟨t1, t2⟩ := t
              have t2' : ((k : Int) == torn - 1) = true := by simpa using t2
              have TT : Hid (0 < torn ∧ (k : Int) = torn - 1) := ⟨t1, t2⟩
              obtain ⟨nb, hnb, hnb5⟩ : ∃ n : Nat, cutN 0 512 bytes = (n : Int) ∧ n ≤ 512 := ⟨(cutN 0 512 bytes).toNat, by unfold cutN; omega, by unfold cutN; omega⟩
              have hsz := Dk.sure_size ((Dk.fresh 8).strikesFrom ⟨0, keep, torn, bytes, 0⟩ 0 L) (Dk.strikesFrom_ok _ L _ 0 (Dk.fresh_ok 8 (by omega) (by omega)) (fun x hx => by have := L4.out; exact ((LiveK.host W0 b g _).ok this).loose x (List.mem_append_left _ hx))).pages p
              have HS' : Hid (∀ q, (((Dk.fresh 8).strikesFrom ⟨0, keep, torn, bytes, 0⟩ 0 L).strike ⟨0, keep, torn, bytes, 0⟩ k ⟨p, pg, 0⟩).sure q = if q = (p : Int) then (pg.extract 0 nb ++ (((Dk.fresh 8).strikesFrom ⟨0, keep, torn, bytes, 0⟩ 0 L).sure p).extract nb (((Dk.fresh 8).strikesFrom ⟨0, keep, torn, bytes, 0⟩ 0 L).sure p).size) else ((Dk.fresh 8).strikesFrom ⟨0, keep, torn, bytes, 0⟩ 0 L).sure q) := fun q => by
                unfold Dk.strike
                rw [if_pos TT.out, if_neg (by show ¬ (p : Int) = 0; omega)]
                have e : (cutN 0 512 bytes).toNat = nb := by rw [hnb]; rfl
                simp only [e]
                exact sure_put _ _ _ _
              have HG := Lib.hid (wantRow_get ((Dk.fresh 8).strikesFrom ⟨0, keep, torn, bytes, 0⟩ 0 L) hp8)
              generalize hsu : ((Dk.fresh 8).strikesFrom ⟨0, keep, torn, bytes, 0⟩ 0 L).sure p = su at *
              have hs1 : 512 ≤ pg.size := by have := HPs.out; omega
              have hs2 : pg.size ≤ 512 := by have := HPs.out; omega
              have hs3 : 512 ≤ su.size := by omega
              have hs4 : su.size ≤ 512 := by omega
              have q1 : nb ≤ pg.size := by omega
              have q2 : nb ≤ su.size := by omega
              have q3 : (nb : Int) ≤ (pg.size : Int) := by omega
              have q4 : (nb : Int) ≤ (su.size : Int) := by omega
              have q5 : (0 : Int) ≤ (nb : Int) := by omega
              have q6 : ∀ W : World, (Op.stringOp .add (pg.extract 0 nb) (su.extract nb su.size)).run Try.prog W = .ok (.string (pg.extract 0 nb ++ su.extract nb su.size)) W := fun W => run_string_add_sum W _ _ (by simp only [ByteArray.size_extract]; omega)
              have d4 : w4.cell? ⟨g, p, none⟩ = some (.string su) := (Blk.cell (show Blk w4 g 30 (wantRow _) from L4.out.blk) p).trans HG.out
              have f4 : w4.frozen? ⟨g, p, none⟩ = false := Blk.frozen (show Blk w4 g 30 (wantRow _) from L4.out.blk) p
              have hgw : g < w4.heap.size := Blk.lt (show Blk w4 g 30 (wantRow _) from L4.out.blk)
              have HN5 := Lib.hid hnb
              have l4d : LiveK W0 b g (.cells (wantRow ((Dk.fresh 8).strikesFrom ⟨0, keep, torn, bytes, 0⟩ 0 L)) 30) { Dk.fresh 8 with calls := wrapI (c + 1), loose := L ++ [⟨p, pg, 0⟩] } w4.drew := L4.out.below ⟨rfl, rfl, rfl, Nat.le_refl _, fun _ _ => rfl⟩
              have HPd := HPg _ _ _ l4d
              clear l4d HPg
              clear hsu hsz t2 hnb
              go_upto_if 82 with (fail)
              go_cut [15] (fun s15 wx => (∃ kk : Int, s15 = .int .i64 kk ∧ 0 ≤ kk ∧ Hid (kk = max bytes 0)) ∧ wx = w4)
              case first =>
                by_cases hy1 : bytes < 0
                · have HE : Hid (0 = max bytes 0) := by show 0 = max bytes 0; omega
                  go_wp2_with (fail)
                  go_meet
                  exact ⟨⟨0, rfl, by omega, HE⟩, rfl⟩
                · have HE : Hid (bytes = max bytes 0) := by show bytes = max bytes 0; omega
                  go_wp2_with (fail)
                  go_meet
                  exact ⟨⟨bytes, rfl, by omega, HE⟩, rfl⟩
              case rest =>
              obtain ⟨⟨kk, rfl, hkk0, hkk⟩, rfl⟩ := hcut
              go_upto_if 84 with (fail)
              go_cut [15] (fun s15 wx => s15 = .int .i64 nb ∧ wx = wc)
              case first =>
                by_cases hy2 : 512 < kk
                · obtain rfl : nb = 512 := by have h1 := HN5.out; have h2 := hkk.out; unfold cutN at h1; omega
                  go_wp2_with (fail)
                  go_meet
                  exact ⟨rfl, rfl⟩
                · obtain rfl : kk = (nb : Int) := by have h1 := HN5.out; have h2 := hkk.out; unfold cutN at h1; omega
                  go_wp2_with (fail)
                  go_meet
                  exact ⟨rfl, rfl⟩
              case rest =>
                obtain ⟨rfl, rfl⟩ := hcut
                go_wp2_with (fail)
                have hw1 : IntKind.i64.wrap ((k : Int) + 1) = (k : Int) + 1 := IntWalk.i64_in _ (by omega)
                have hw2 : IntKind.u8.wrap ((k : Int) + 1) = (k : Int) + 1 := IntWalk.u8_in _ (by omega)
                go_region_with (go_at_call 18; refine HPd.out.mono ?_; rintro e w5 ⟨rfl, l5⟩; have d5 : w5.cell? ⟨g, p, none⟩ = some (.string su) := (Blk.cell (show Blk w5 g 30 (wantRow _) from l5.blk) p).trans HG.out; have f5 : w5.frozen? ⟨g, p, none⟩ = false := Blk.frozen (show Blk w5 g 30 (wantRow _) from l5.blk) p; have L5 := Lib.hid l5; clear l5)
                all_goals
                  clear hw1 hw2
                  go_wp2_with (fail)
                  go_roundg (nn - (k + 1))
                  case rel => exact ⟨k + 1, by omega, by omega, by go_num, HSL.out.next ⟨by show (1 : Int) ≤ (p : Int); omega, by show (p : Int) ≤ 8; omega⟩ (L5.out.store hg0 p _) (by rw [wantRow_set hp8 HS'.out])⟩
                  case measure => omega
            · by_cases hb : bitAt keep (k % 64) = true
              · have HS' : Hid (∀ q, (((Dk.fresh 8).strikesFrom ⟨0, keep, torn, bytes, 0⟩ 0 L).strike ⟨0, keep, torn, bytes, 0⟩ k ⟨p, pg, 0⟩).sure q = if q = (p : Int) then pg else ((Dk.fresh 8).strikesFrom ⟨0, keep, torn, bytes, 0⟩ 0 L).sure q) := fun q => by
                  unfold Dk.strike
                  rw [if_neg t, if_pos hb]
                  unfold Dk.land
                  rw [if_neg (by show ¬ (p : Int) = 0; omega)]
                  exact sure_put _ _ _ _
                have hb' : (bits BinOp.and IntKind.u64 (keep / 2 ^ (k % 64)) 1 == 1) = true := by rw [HB.out]; exact hb
                have HPg4 := HPg _ _ _ L4.out
                clear hb HPg
                by_cases t1 : 0 < torn
                · have t2' : ((k : Int) == torn - 1) = false := by simpa [t1] using t
                  clear t
                  go_wp2_with (go_at_call 18; refine HPg4.out.mono ?_; rintro e w5 ⟨rfl, l5⟩; have d5 : w5.cell? ⟨g, p, none⟩ = some (.string _) := (Blk.cell (show Blk w5 g 30 (wantRow _) from l5.blk) p).trans (wantRow_get _ hp8); have f5 : w5.frozen? ⟨g, p, none⟩ = false := Blk.frozen (show Blk w5 g 30 (wantRow _) from l5.blk) p; have L5 := Lib.hid l5; clear l5)
                  go_roundg (nn - (k + 1))
                  case rel => exact ⟨k + 1, by omega, by omega, by go_num, HSL.out.next ⟨by show (1 : Int) ≤ (p : Int); omega, by show (p : Int) ≤ 8; omega⟩ (L5.out.store hg0 p (.string pg)) (by rw [wantRow_set hp8 HS'.out])⟩
                  case measure => omega
                · clear t
                  go_wp2_with (go_at_call 18; refine HPg4.out.mono ?_; rintro e w5 ⟨rfl, l5⟩; have d5 : w5.cell? ⟨g, p, none⟩ = some (.string _) := (Blk.cell (show Blk w5 g 30 (wantRow _) from l5.blk) p).trans (wantRow_get _ hp8); have f5 : w5.frozen? ⟨g, p, none⟩ = false := Blk.frozen (show Blk w5 g 30 (wantRow _) from l5.blk) p; have L5 := Lib.hid l5; clear l5)
                  go_roundg (nn - (k + 1))
                  case rel => exact ⟨k + 1, by omega, by omega, by go_num, HSL.out.next ⟨by show (1 : Int) ≤ (p : Int); omega, by show (p : Int) ≤ 8; omega⟩ (L5.out.store hg0 p (.string pg)) (by rw [wantRow_set hp8 HS'.out])⟩
                  case measure => omega
              · have HS' : Hid (((Dk.fresh 8).strikesFrom ⟨0, keep, torn, bytes, 0⟩ 0 L).strike ⟨0, keep, torn, bytes, 0⟩ k ⟨p, pg, 0⟩ = (Dk.fresh 8).strikesFrom ⟨0, keep, torn, bytes, 0⟩ 0 L) := by
                  show Dk.strike _ _ _ _ = _
                  unfold Dk.strike
                  rw [if_neg t, if_neg hb]
                have hb' : (bits BinOp.and IntKind.u64 (keep / 2 ^ (k % 64)) 1 == 1) = false := by rw [HB.out]; simpa using hb
                clear hb HPg
                by_cases t1 : 0 < torn
                · have t2' : ((k : Int) == torn - 1) = false := by simpa [t1] using t
                  clear t
                  go_wp2_with (fail)
                  go_roundg (nn - (k + 1))
                  case rel => exact ⟨k + 1, by omega, by omega, by go_num, HSL.out.next ⟨by show (1 : Int) ≤ (p : Int); omega, by show (p : Int) ≤ 8; omega⟩ L4.out (by rw [HS'.out])⟩
                  case measure => omega
                · clear t
                  go_wp2_with (fail)
                  go_roundg (nn - (k + 1))
                  case rel => exact ⟨k + 1, by omega, by omega, by go_num, HSL.out.next ⟨by show (1 : Int) ≤ (p : Int); omega, by show (p : Int) ≤ 8; omega⟩ L4.out (by rw [HS'.out])⟩
                  case measure => omega
          · obtain rfl : k = nn := by omega
            obtain ⟨L, c, hS⟩ := hS.out
            have hll : L.length ≤ 1000000000 := by rw [hS.len]; omega
            have HC : Hid (Calls Try.prog 19 #[.pointer (some ⟨b, 0, none⟩), .agg #[.int .i64 0, .int .u64 keep, .int .i64 torn, .int .i64 bytes, .int .i64 0]] wr fun e w' => e = .returned (.tuple #[]) ∧ ∃ m, LiveK W0 b g (.cells (wantRow ((Dk.fresh 8).strikesFrom ⟨0, keep, torn, bytes, 0⟩ 0 L)) 30) m w' ∧ m.dead = true ∧ SubEnd ((Dk.fresh 8).strikesFrom ⟨0, keep, torn, bytes, 0⟩ 0 L) { m with dead := false }) := by
              have := crash_H (LiveK.host W0 b g _) hS.live ⟨0, keep, torn, bytes, 0⟩ ⟨by dsimp only; omega, by dsimp only; omega, hk1, hk2, ht1, ht2, hb1, hb2, by dsimp only; omega, by dsimp only; omega⟩ hll
              refine this.mono fun e w' ⟨he, hl⟩ => ⟨he, _, hl, ?_⟩
              have ec : Dk.crash { Dk.fresh 8 with calls := c, loose := L } ⟨0, keep, torn, bytes, 0⟩ = (Dk.strikesFrom ⟨0, keep, torn, bytes, 0⟩ { Dk.fresh 8 with calls := c, loose := L } 0 L).fell ⟨0, keep, torn, bytes, 0⟩ := by unfold Dk.crash; rw [if_neg (by show ¬ false = true; decide)]
              have e1 := strikesFrom_pages ⟨0, keep, torn, bytes, 0⟩ L 0 { Dk.fresh 8 with calls := c, loose := L } (Dk.fresh 8) rfl
              have e2 := Dk.strikesFrom_loose ⟨0, keep, torn, bytes, 0⟩ L { Dk.fresh 8 with calls := c, loose := L } 0
              rw [ec]
              exact ⟨rfl, rfl, e2.2.2.2.2.2.1, rfl, e2.2.2.2.1, e1⟩
            generalize (Dk.fresh 8).strikesFrom ⟨0, keep, torn, bytes, 0⟩ 0 L = M at *
            have HU : ∀ W m o, LiveK W0 b g o m W → m.dead = true → SubEnd M { m with dead := false } → Hid (Calls Try.prog 21 #[.pointer (some ⟨b, 0, none⟩)] W fun e w' => e = .returned (.bool true) ∧ ∃ m, LiveK W0 b g o m w' ∧ SubEnd M m) := fun W m o hm hd hlo => by
              have := up_H (LiveK.host W0 b g o) hm
              rw [hd] at this
              exact this.mono fun e w' ⟨he, hl⟩ => ⟨he, _, hl, hlo⟩
            have HD : ∀ W m o, LiveK W0 b g o m W → m.dead = true → Hid (Calls Try.prog 20 #[.pointer (some ⟨b, 0, none⟩)] W fun e w' => e = .returned (.bool true) ∧ W = w') := fun W m o hm hd => by
              have := dead_H (LiveK.host W0 b g o) hm
              rw [hd] at this
              exact this
            clear hS hll hgg HK9
            go_wp2_with (fail)
            refine HC.out.mono ?_; rintro e w4 ⟨rfl, m4, l4, d4, o4⟩
            have HU4 := HU _ m4 _ l4 d4 o4
            have HD4 := HD _ m4 _ l4 d4
            clear l4 d4 o4 HU HD
            go_wp2_with (go_at_call 20; refine HD4.out.mono ?_; rintro e w' ⟨rfl, rfl⟩)
            refine HU4.out.mono ?_; rintro e w5 ⟨rfl, m5, l5, o5⟩
            have L5 : Hid (∃ m, LiveK W0 b g (.cells (wantRow M) 30) m w5 ∧ SubEnd M m) := ⟨m5, l5, o5⟩
            clear l5 o5
            go_wp2_with (fail)
            go_loopw [16] (fun i wr => ∃ j : Nat, 1 ≤ j ∧ j ≤ 9 ∧ i = .int .i64 j ∧ Hid (∃ m, LiveK W0 b g (.cells (wantRow M) 30) m wr ∧ SubEnd M m)) (fun i _ => 9 - (intOf i).toNat)
            case atStart => exact ⟨1, by omega, by omega, rfl, L5.out⟩
            case round =>
              obtain ⟨j, hj1, hj9, rfl, hE⟩ := hrel
              by_cases hlt : j < 9
              · obtain ⟨m, hm, ho⟩ := hE.out
                have hmay : m.may (j : Int) = 0 := by
                  unfold Dk.may
                  rw [ho.room]
                  have e1 : ¬ ((j : Int) < 1 ∨ 4096 < (j : Int)) := by omega
                  have e2 : ¬ ((8 : Int) ≤ ((j : Int) - 1) % 2048) := by omega
                  rw [if_neg e1]
                  show (if (8 : Int) ≤ ((j : Int) - 1) % 2048 then (20 : Int) else 0) = 0
                  rw [if_neg e2]
                have HR : Hid (Calls Try.prog 22 #[.pointer (some ⟨b, 0, none⟩), .int .u32 (j : Int)] wr fun e w' => e = .returned (.tuple #[.string (M.sure j), .int .i64 0]) ∧ LiveK W0 b g (.cells (wantRow M) 30) m w') := by
                  have := read_H (LiveK.host W0 b g _) hm j ho.dead hmay (by rw [ho.loose]; decide)
                  have e3 : m.read (j : Int) = M.sure j := by
                    unfold Dk.read
                    rw [ho.loose]
                    show m.sure j = M.sure j
                    unfold Dk.sure
                    rw [ho.pages]
                  rw [e3] at this
                  exact this
                have HO := Lib.hid ho
                have HG := Lib.hid (wantRow_get M (show j ≤ 8 by omega))
                have heq := beq_toList (M.sure j)
                generalize M.sure j = sj at *
                clear hE hm ho hmay
                go_wp2_with (go_at_call 22; refine HR.out.mono ?_; rintro e w6 ⟨rfl, l6⟩; have d6 : w6.cell? ⟨g, j, none⟩ = some (.string sj) := (Blk.cell (show Blk w6 g 30 (wantRow M) from l6.blk) j).trans HG.out; have L6 := Lib.hid l6; clear l6)
                go_roundw
                case rel => exact ⟨j + 1, by omega, by omega, by go_num, m, L6.out, HO.out⟩
                case measure => simp [intOf]; omega
              · obtain rfl : j = 9 := by omega
                have HB : Hid (Below w.heap.size w wr) := by
                  obtain ⟨m, hm, _⟩ := hE.out
                  exact HW0.out.trans (hm.base.mono HW0.out.size)
                clear hE
                go_wp2_with (fail)
                go_ret
                exact ⟨rfl, HB.out⟩
end Go.Proofs.Ytnobiekgifjaeaa
