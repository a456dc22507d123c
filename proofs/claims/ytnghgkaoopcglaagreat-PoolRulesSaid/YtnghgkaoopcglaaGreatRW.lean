/-
  The walk of 'PoolRules'.
-/
import Derived.Test.YtnghgkaoopcglaaGreatAW
import Derived.Test.YtnghgkaoopcglaaGreatD6
namespace Go.Proofs.YtnghgkaoopcglaaGreat
open Go.RowKit
attribute [local go_sem ↓] Go.wp_at_zero Go.wp_at_succ

section
variable {w0 W W' : World} {b lb pb : Nat} {m m' : Dk} {g g' : Lg} {q q' : Po}
theorem PL.read (h : PL w0 b lb pb m g q W) (p : Int) (hp0 : 0 ≤ p) (hp1 : p ≤ 4294967295) (hl : m.loose.length ≤ 1000000000) :
    Calls Tryz.prog 25 #[.pointer (some ⟨b, 0, none⟩), .int .u32 p] W fun e w' => e = .returned (.tuple #[.string (m.readE p).1, .int .i64 (m.readE p).2]) ∧ Below W.heap.size W w' := by
  obtain ⟨F, G, H, mb, pk, vs, h1, _⟩ := h.parts
  exact read_c h1.dsk p hp0 hp1 hl
theorem PL.flushed (h : PL w0 b lb pb m g q W) : Calls Tryz.prog 27 #[.pointer (some ⟨lb, 0, none⟩)] W fun e w' => e = .returned (.int .u64 (g.flushed : Int)) ∧ ∃ q, w' = W.drewN q := by
  obtain ⟨F, G, H, mb, pk, vs, h1, _⟩ := h.parts
  exact lflushed_c h1.wal
end
theorem flush_recs {m m' : Dk} {g g' : Lg} {u c : Int} (h : flushE m g u = (c, m', g')) : g'.recs = g.recs := by
  unfold flushE at h
  split at h
  · cases h; rfl
  · split at h
    · cases h; rfl
    · unfold flushD at h
      split at h
      · cases h; rfl
      · split at h
        · cases h; rfl
        · cases h; rfl
theorem writeQ_recs (m : Dk) (g : Lg) (q : Po) (n : Nat) : (Go.Proofs.YtnghgkaoopcglaaGreat.writeQ m g q n).2.2.1.recs = g.recs := by
  unfold Go.Proofs.YtnghgkaoopcglaaGreat.writeQ
  cases getL n q.frames with
  | none => rfl
  | some f =>
    simp only
    split
    · rfl
    · have hfl := flush_recs (m := m) (g := g) (u := f.p.lsn) (c := (flushE m g f.p.lsn).1) (m' := (flushE m g f.p.lsn).2.1) (g' := (flushE m g f.p.lsn).2.2) rfl
      unfold Go.Proofs.YtnghgkaoopcglaaGreat.writeF
      simp only
      split
      · exact hfl
      · split
        · exact hfl
        · split
          · exact hfl
          · exact hfl
theorem roomQ_recs (m : Dk) (g : Lg) (q : Po) : (roomQ m g q).2.2.1.recs = g.recs := by
  unfold roomQ
  split
  · rfl
  · simp only
    split
    · exact writeQ_recs _ _ _ _
    · exact writeQ_recs _ _ _ _
theorem getQ_recs (m : Dk) (g : Lg) (q : Po) (n : Nat) : (Go.Proofs.YtnghgkaoopcglaaGreat.getQ m g q n).2.2.2.1.recs = g.recs := by
  unfold Go.Proofs.YtnghgkaoopcglaaGreat.getQ
  split
  · rfl
  · split
    · rfl
    · split
      · rfl
      · simp only
        split
        · exact roomQ_recs _ _ _
        · exact roomQ_recs _ _ _
theorem putQ_recs (m : Dk) (g : Lg) (q : Po) (x : Sh) : (Go.Proofs.YtnghgkaoopcglaaGreat.putQ m g q x).2.2.1.recs = g.recs := by
  unfold Go.Proofs.YtnghgkaoopcglaaGreat.putQ
  split
  · rfl
  · split
    · rfl
    · split
      · rfl
      · simp only
        split
        · exact roomQ_recs _ _ _
        · exact roomQ_recs _ _ _
/-- a law's pool that keeps the rule of the log -/
structure RP (w0 : World) (b lb pb k : Nat) (m : Dk) (g : Lg) (q : Po) (W : World) : Prop where
  pl : PL w0 b lb pb m g q W
  inv : RInv m g q
  recs : g.recs.length ≤ k
section
variable {w0 W W' : World} {b lb pb k : Nat} {m : Dk} {g : Lg} {q : Po}
theorem RP.below (h : RP w0 b lb pb k m g q W) (hb : Below W.heap.size W W') : RP w0 b lb pb k m g q W' := ⟨h.pl.below hb, h.inv, h.recs⟩
theorem RP.more (h : RP w0 b lb pb k m g q W) : RP w0 b lb pb (k + 1) m g q W := ⟨h.pl, h.inv, Nat.le_succ_of_le h.recs⟩
theorem RP.plan (h : RP w0 b lb pb k m g q W) : PlanOk m := .inl h.inv.plan
theorem RP.loose (h : RP w0 b lb pb k m g q W) : m.loose.length ≤ 1000000 := by rw [h.inv.loose]; exact Nat.zero_le _
theorem RP.get (h : RP w0 b lb pb k m g q W) (n : Nat) (hn : 1 ≤ n ∧ n ≤ 20) :
    Calls Tryz.prog 24 #[.pointer (some ⟨pb, 0, none⟩), .int .u32 (n : Int)] W fun e w' => (∃ v, e = .returned v) ∧ ∃ m g q, RP w0 b lb pb (k + 1) m g q w' := by
  obtain ⟨x, c, m', g', q', e, i⟩ := h.inv.getQ n hn
  refine (h.pl.get h.plan h.loose h.inv.picks (Nat.le_trans h.inv.len (by omega)) n (by omega)).mono ?_
  rintro _ w' ⟨sv, rfl, _, hp⟩
  have he := getQ_recs m g q n
  rw [e] at hp he
  exact ⟨⟨_, rfl⟩, _, _, _, hp, i, by simp only at he; rw [he]; exact Nat.le_succ_of_le h.recs⟩
theorem RP.write (h : RP w0 b lb pb k m g q W) (n : Nat) (hn : 1 ≤ n ∧ n ≤ 20) :
    Calls Tryz.prog 23 #[.pointer (some ⟨pb, 0, none⟩), .int .u32 (n : Int)] W fun e w' => (∃ v, e = .returned v) ∧ ∃ m g q, RP w0 b lb pb (k + 1) m g q w' := by
  obtain ⟨m', g', q', e, i⟩ := h.inv.writeQ n
  refine (h.pl.write h.plan h.loose n (by omega)).mono ?_
  rintro _ w' ⟨rfl, hp⟩
  have he := writeQ_recs m g q n
  rw [e] at hp he
  exact ⟨⟨_, rfl⟩, _, _, _, hp, i, by simp only at he; rw [he]; exact Nat.le_succ_of_le h.recs⟩
theorem RP.append (h : RP w0 b lb pb k m g q W) (hk : k < 60) :
    Calls Tryz.prog 15 #[.pointer (some ⟨lb, 0, none⟩), .string ⟨#[114, 101, 99, 111, 114, 100]⟩] W fun e w' => ∃ at_ : Nat, e = .returned (.tuple #[.int .u64 (at_ : Int), .int .i64 0]) ∧ ∃ g, RP w0 b lb pb (k + 1) m g q w' ∧ 1 ≤ at_ ∧ at_ ≤ 1081 ∧ at_ < g.end_ := by
  obtain ⟨h1, h2, h3, h4, h5, h6, h7⟩ := h.inv.append (Nat.lt_of_le_of_lt h.recs hk)
  refine (h.pl.append h1 rec6 (by rw [rec6_size]; omega)).mono ?_
  rintro _ w' ⟨rfl, hp⟩
  refine ⟨g.end_, by rw [h2], _, ⟨hp, h3, by rw [h5]; have := h.recs; omega⟩, h6, h7, h4⟩
theorem RP.put (h : RP w0 b lb pb k m g q W) (n at_ : Nat) (hn : 1 ≤ n ∧ n ≤ 20) (ha : 1 ≤ at_ ∧ at_ ≤ 1081) (hg : at_ < g.end_) :
    Calls Tryz.prog 22 #[.pointer (some ⟨pb, 0, none⟩), .agg #[.int .u32 (n : Int), .int .u64 (at_ : Int), .int .i64 2, .string ⟨#[]⟩, .slice none 0 0]] W fun e w' => e = .returned (.int .i64 0) ∧ ∃ m g q, RP w0 b lb pb k m g q w' := by
  have hf := fit6 n at_ hn.2 ha.2
  obtain ⟨m', g', q', e, i⟩ := h.inv.putQ hf ha.1 hg hn
  refine (h.pl.put (Below.refl _ _) h.plan h.loose h.inv.picks (Nat.le_trans h.inv.len (by omega)) ⟨n, at_, 2, ⟨#[]⟩, []⟩ (.slice none 0 0) (.inl ⟨rfl, rfl⟩) (fun k hk => by simp [Value.ownBlock] at hk) (Sh.mild_of hf.encE (by show n < _; omega) (by show at_ < _; omega))).mono ?_
  rintro _ w' ⟨rfl, hp⟩
  have he := putQ_recs m g q ⟨n, at_, 2, ⟨#[]⟩, []⟩
  rw [e] at hp he ⊢
  exact ⟨rfl, _, _, _, hp, i, by simp only at he; rw [he]; exact h.recs⟩
theorem RP.read (h : RP w0 b lb pb k m g q W) (p : Nat) (hp : 1 ≤ p ∧ p ≤ 20) :
    Calls Tryz.prog 25 #[.pointer (some ⟨b, 0, none⟩), .int .u32 (p : Int)] W fun e w' => ∃ s, e = .returned (.tuple #[.string s, .int .i64 0]) ∧ Below W.heap.size W w' ∧ s.size = 512 ∧ ∃ x, decE s = (x, 0) ∧ x.lsn < g.flushed := by
  obtain ⟨s, x, e, hs, hd, hx⟩ := h.inv.read p hp
  refine (h.pl.read (p : Int) (by omega) (by omega) (by rw [h.inv.loose]; exact Nat.zero_le _)).mono ?_
  rintro _ w' ⟨rfl, hb⟩
  rw [e]
  refine ⟨s, rfl, hb, hs, x, hd, ?_⟩
  rcases hx with hx | hx
  · rw [hx, h.inv.flushed]; omega
  · exact hx
end
theorem and31 (c : Int) : ∃ z : Nat, z ≤ 31 ∧ bits .and .i64 c 31 = (z : Int) := by
  have h2 : (BitVec.ofInt 64 (31 : Int)).toNat = 31 := rfl
  refine ⟨(BitVec.ofInt 64 c).toNat &&& 31, Nat.and_le_right, ?_⟩
  show IntKind.i64.wrap ((BitVec.ofInt 64 c &&& BitVec.ofInt 64 (31 : Int)).toNat : Int) = _
  rw [BitVec.toNat_and, h2]
  have h3 : (BitVec.ofInt 64 c).toNat &&& 31 ≤ 31 := Nat.and_le_right
  generalize (BitVec.ofInt 64 c).toNat &&& 31 = z at h3
  have e2 : ∀ z : Int, IntKind.i64.wrap z = if (true && decide (z % 18446744073709551616 ≥ 9223372036854775808)) then z % 18446744073709551616 - 18446744073709551616 else z % 18446744073709551616 := fun _ => rfl
  rw [e2]
  have e3 : decide (((z : Int) % 18446744073709551616) ≥ 9223372036854775808) = false := decide_eq_false (by omega)
  rw [e3]
  simp
  omega
theorem page6 (c : Int) : ∃ n : Nat, 1 ≤ n ∧ n ≤ 20 ∧ wrap64 ((bits .and .i64 c 31).tmod 20 + 1) % 4294967296 = (n : Int) := by
  obtain ⟨z, hz, e⟩ := and31 c
  rw [e, Int.tmod_eq_emod_of_nonneg (by omega)]
  refine ⟨z % 20 + 1, by omega, by omega, ?_⟩
  rw [wrap64_I]
  unfold wrapI
  omega
set_option maxRecDepth 100000 in
set_option maxHeartbeats 4000000 in
theorem poolRules_w (a : Option Addr) (len cap : Nat) (l : List (Int × Int)) (w : World) (h : IsActs6 w a len cap l) :
    Calls Tryz.prog 6 #[.slice a len cap] w fun e w' => e = .returned (.bool true) ∧ Below w.heap.size w w' := by
  have hlen := h.len
  have HH := Lib.hid h
  have HN := Lib.hid (begun6_c w 64 4 (by omega) (by omega) (by omega) (by omega))
  have HW : ∀ W, Hid (Calls Tryz.prog 21 #[] W fun e w' => e = .returned (.bool true) ∧ Below W.heap.size W w') := fun W => awake6_c W
  clear h
  go_enter Tryz.func6, Tryz.ntmps6
  go_wp2_with (fail)
  refine HN.out.mono ?_; rintro e w1 ⟨b, lb, pb, rfl, l1⟩
  have L1 := Lib.hid l1
  clear l1 HN
  go_wp2_with (fail)
  refine (HW _).out.mono ?_; rintro e w2 ⟨rfl, hb2⟩
  have H2 : Hid (RP w b lb pb 0 (Dk.fresh 64) (openG [] 0) (Po.new 4) w2) := ⟨L1.out.below hb2, RInv.begin_, Nat.le_refl _⟩
  clear L1 HW hb2
  go_wp2_with (fail)
  go_loopw [6] (fun s6 wr => ∃ k : Nat, k ≤ len ∧ k ≤ 60 ∧ s6 = .int .i64 (k : Int) ∧ Hid (∃ m g q, RP w b lb pb k m g q wr)) (fun i _ => 60 - (intOf i).toNat)
  case atStart => exact ⟨0, Nat.zero_le _, Nat.zero_le _, rfl, _, _, _, H2.out⟩
  case round =>
    obtain ⟨k, hk1, hk2, rfl, hR⟩ := hrel
    clear H2
    by_cases hgo : k < len ∧ k < 60
    · obtain ⟨hg1, hg2⟩ := hgo
      obtain ⟨m, g, q, hP⟩ := hR.out
      obtain ⟨c, hck⟩ : ∃ c, l[k]? = some c := ⟨_, List.getElem?_eq_getElem (by rw [HH.out.len_eq]; exact hg1)⟩
      obtain ⟨ab, off, rfl, hc1, hc2, hco, a0, a1⟩ := HH.out.at_ hP.pl.base hck
      have HP := Lib.hid hP
      obtain ⟨c0, c1⟩ := c
      simp only at a0 a1
      obtain ⟨n, hn1, hn2, HNE⟩ := page6 c1
      clear hP hR hck hco
      by_cases hk0 : c0 = 0
      · subst hk0
        go_wp2_with (fail)
        rw [HNE]
        have HA := Lib.hid (HP.out.append hg2)
        refine HA.out.mono ?_
        rintro e w4 ⟨at_, rfl, g4, l4, ha1, ha2, ha3⟩
        have HPU := Lib.hid (l4.put n at_ ⟨hn1, hn2⟩ ⟨ha1, ha2⟩ ha3)
        clear HA l4 HP
        go_wp2_with (fail)
        refine HPU.out.mono ?_
        rintro e w5 ⟨rfl, hq⟩
        have HI := Lib.hid hq
        clear HPU hq
        go_wp2_with (fail)
        go_loopw [10] (fun i wr => ∃ j : Nat, 1 ≤ j ∧ j ≤ 21 ∧ i = .int .u32 j ∧ Hid (∃ m g q, RP w b lb pb (k + 1) m g q wr)) (fun i _ => 21 - (intOf i).toNat)
        case atStart => exact ⟨1, by omega, by omega, rfl, HI.out⟩
        case round =>
          obtain ⟨j, hj1, hj2, rfl, hE⟩ := hrel
          clear HI
          by_cases hlt : j ≤ 20
          · obtain ⟨m1, g1, q1, hR⟩ := hE.out
            have HR := Lib.hid hR
            have HRD := Lib.hid (hR.read j ⟨hj1, hlt⟩)
            clear hE hR
            go_wp2_with (fail)
            refine HRD.out.mono ?_; rintro e w6 ⟨s, rfl, hb6, hs, x, hd, hx⟩
            have HB6 := Lib.hid hb6
            have HDC := Lib.hid (pdecode_c w6 s (by rw [hs]; omega))
            have HD := Lib.hid hd
            clear HRD hb6 hs hd
            go_wp2_with (fail)
            refine HDC.out.mono ?_; rintro e w7 ⟨sv, rfl, hrd, _, hb7⟩
            obtain ⟨sa, sc, rfl⟩ := hrd.form
            clear hrd
            rw [HD.out]
            obtain ⟨xn, xl, xk, xh, xs⟩ := x
            unfold ShV
            simp only at hx ⊢
            have HB7 : Hid (Below wr.heap.size wr (w7.alloc (.cells #[.int .u32 (xn : Int), .int .u64 (xl : Int), .int .i64 xk,   .string xh, .slice sa xs.length sc] 84))) := (HB6.out.trans (hb7.mono HB6.out.size)).alloc (Nat.le_trans HB6.out.size hb7.size) _
            have HS := Lib.hid (HR.out.below HB7.out)
            have HF := fun q => Lib.hid (HS.out.pl.below (below_drewN _ q)).flushed
            have hfl : ¬ ((g1.flushed : Int) ≤ (xl : Int)) := by omega
            have hfd : decide (g1.flushed ≤ xl) = false := decide_eq_false (by omega)
            clear HDC HD hb7 HB6 HB7
            go_wp2_with (fail)
            go_quiet (first | (go_at_call 27; exact Calls.quiet_of (HF _).out))
            have HE := fun z => Lib.hid (HS.out.below (below_drewN _ z))
            clear HF HS HR hfl hfd
            go_wp2_with (fail)
            go_roundw
            case rel => exact ⟨j + 1, by omega, by omega, by go_num, m1, g1, q1, (HE _).out⟩
            case measure => simp [intOf]; omega
          · have HI := hE
            clear hE
            go_wp2_with (fail)
            go_roundw
            case rel => exact ⟨k + 1, by omega, by omega, by go_num, HI.out⟩
            case measure => simp [intOf]; omega
      · by_cases hk1 : c0 = 1
        · subst hk1
          go_wp2_with (fail)
          rw [HNE]
          have HA := Lib.hid (HP.out.append hg2)
          refine HA.out.mono ?_
          rintro e w4 ⟨at_, rfl, g4, l4, ha1, ha2, ha3⟩
          have HPU := Lib.hid (l4.put n at_ ⟨hn1, hn2⟩ ⟨ha1, ha2⟩ ha3)
          clear HA l4 HP
          go_wp2_with (fail)
          refine HPU.out.mono ?_
          rintro e w5 ⟨rfl, hq⟩
          have HI := Lib.hid hq
          clear HPU hq
          go_wp2_with (fail)
          go_loopw [10] (fun i wr => ∃ j : Nat, 1 ≤ j ∧ j ≤ 21 ∧ i = .int .u32 j ∧ Hid (∃ m g q, RP w b lb pb (k + 1) m g q wr)) (fun i _ => 21 - (intOf i).toNat)
          case atStart => exact ⟨1, by omega, by omega, rfl, HI.out⟩
          case round =>
            obtain ⟨j, hj1, hj2, rfl, hE⟩ := hrel
            clear HI
            by_cases hlt : j ≤ 20
            · obtain ⟨m1, g1, q1, hR⟩ := hE.out
              have HR := Lib.hid hR
              have HRD := Lib.hid (hR.read j ⟨hj1, hlt⟩)
              clear hE hR
              go_wp2_with (fail)
              refine HRD.out.mono ?_; rintro e w6 ⟨s, rfl, hb6, hs, x, hd, hx⟩
              have HB6 := Lib.hid hb6
              have HDC := Lib.hid (pdecode_c w6 s (by rw [hs]; omega))
              have HD := Lib.hid hd
              clear HRD hb6 hs hd
              go_wp2_with (fail)
              refine HDC.out.mono ?_; rintro e w7 ⟨sv, rfl, hrd, _, hb7⟩
              obtain ⟨sa, sc, rfl⟩ := hrd.form
              clear hrd
              rw [HD.out]
              obtain ⟨xn, xl, xk, xh, xs⟩ := x
              unfold ShV
              simp only at hx ⊢
              have HB7 : Hid (Below wr.heap.size wr (w7.alloc (.cells #[.int .u32 (xn : Int), .int .u64 (xl : Int), .int .i64 xk,   .string xh, .slice sa xs.length sc] 84))) := (HB6.out.trans (hb7.mono HB6.out.size)).alloc (Nat.le_trans HB6.out.size hb7.size) _
              have HS := Lib.hid (HR.out.below HB7.out)
              have HF := fun q => Lib.hid (HS.out.pl.below (below_drewN _ q)).flushed
              have hfl : ¬ ((g1.flushed : Int) ≤ (xl : Int)) := by omega
              have hfd : decide (g1.flushed ≤ xl) = false := decide_eq_false (by omega)
              clear HDC HD hb7 HB6 HB7
              go_wp2_with (fail)
              go_quiet (first | (go_at_call 27; exact Calls.quiet_of (HF _).out))
              have HE := fun z => Lib.hid (HS.out.below (below_drewN _ z))
              clear HF HS HR hfl hfd
              go_wp2_with (fail)
              go_roundw
              case rel => exact ⟨j + 1, by omega, by omega, by go_num, m1, g1, q1, (HE _).out⟩
              case measure => simp [intOf]; omega
            · have HI := hE
              clear hE
              go_wp2_with (fail)
              go_roundw
              case rel => exact ⟨k + 1, by omega, by omega, by go_num, HI.out⟩
              case measure => simp [intOf]; omega
        · by_cases hk2 : c0 = 2
          · subst hk2
            go_wp2_with (fail)
            rw [HNE]
            have HA := Lib.hid (HP.out.append hg2)
            refine HA.out.mono ?_
            rintro e w4 ⟨at_, rfl, g4, l4, ha1, ha2, ha3⟩
            have HPU := Lib.hid (l4.put n at_ ⟨hn1, hn2⟩ ⟨ha1, ha2⟩ ha3)
            clear HA l4 HP
            go_wp2_with (fail)
            refine HPU.out.mono ?_
            rintro e w5 ⟨rfl, hq⟩
            have HI := Lib.hid hq
            clear HPU hq
            go_wp2_with (fail)
            go_loopw [10] (fun i wr => ∃ j : Nat, 1 ≤ j ∧ j ≤ 21 ∧ i = .int .u32 j ∧ Hid (∃ m g q, RP w b lb pb (k + 1) m g q wr)) (fun i _ => 21 - (intOf i).toNat)
            case atStart => exact ⟨1, by omega, by omega, rfl, HI.out⟩
            case round =>
              obtain ⟨j, hj1, hj2, rfl, hE⟩ := hrel
              clear HI
              by_cases hlt : j ≤ 20
              · obtain ⟨m1, g1, q1, hR⟩ := hE.out
                have HR := Lib.hid hR
                have HRD := Lib.hid (hR.read j ⟨hj1, hlt⟩)
                clear hE hR
                go_wp2_with (fail)
                refine HRD.out.mono ?_; rintro e w6 ⟨s, rfl, hb6, hs, x, hd, hx⟩
                have HB6 := Lib.hid hb6
                have HDC := Lib.hid (pdecode_c w6 s (by rw [hs]; omega))
                have HD := Lib.hid hd
                clear HRD hb6 hs hd
                go_wp2_with (fail)
                refine HDC.out.mono ?_; rintro e w7 ⟨sv, rfl, hrd, _, hb7⟩
                obtain ⟨sa, sc, rfl⟩ := hrd.form
                clear hrd
                rw [HD.out]
                obtain ⟨xn, xl, xk, xh, xs⟩ := x
                unfold ShV
                simp only at hx ⊢
                have HB7 : Hid (Below wr.heap.size wr (w7.alloc (.cells #[.int .u32 (xn : Int), .int .u64 (xl : Int), .int .i64 xk,   .string xh, .slice sa xs.length sc] 84))) := (HB6.out.trans (hb7.mono HB6.out.size)).alloc (Nat.le_trans HB6.out.size hb7.size) _
                have HS := Lib.hid (HR.out.below HB7.out)
                have HF := fun q => Lib.hid (HS.out.pl.below (below_drewN _ q)).flushed
                have hfl : ¬ ((g1.flushed : Int) ≤ (xl : Int)) := by omega
                have hfd : decide (g1.flushed ≤ xl) = false := decide_eq_false (by omega)
                clear HDC HD hb7 HB6 HB7
                go_wp2_with (fail)
                go_quiet (first | (go_at_call 27; exact Calls.quiet_of (HF _).out))
                have HE := fun z => Lib.hid (HS.out.below (below_drewN _ z))
                clear HF HS HR hfl hfd
                go_wp2_with (fail)
                go_roundw
                case rel => exact ⟨j + 1, by omega, by omega, by go_num, m1, g1, q1, (HE _).out⟩
                case measure => simp [intOf]; omega
              · have HI := hE
                clear hE
                go_wp2_with (fail)
                go_roundw
                case rel => exact ⟨k + 1, by omega, by omega, by go_num, HI.out⟩
                case measure => simp [intOf]; omega
          · by_cases hk3 : c0 = 3
            · subst hk3
              go_wp2_with (fail)
              rw [HNE]
              have HC := Lib.hid (HP.out.write n ⟨hn1, hn2⟩)
              clear HP
              refine HC.out.mono ?_
              rintro e w5 ⟨⟨v, rfl⟩, hq⟩
              have HI := Lib.hid hq
              clear HC hq
              go_wp2_with (fail)
              go_loopw [10] (fun i wr => ∃ j : Nat, 1 ≤ j ∧ j ≤ 21 ∧ i = .int .u32 j ∧ Hid (∃ m g q, RP w b lb pb (k + 1) m g q wr)) (fun i _ => 21 - (intOf i).toNat)
              case atStart => exact ⟨1, by omega, by omega, rfl, HI.out⟩
              case round =>
                obtain ⟨j, hj1, hj2, rfl, hE⟩ := hrel
                clear HI
                by_cases hlt : j ≤ 20
                · obtain ⟨m1, g1, q1, hR⟩ := hE.out
                  have HR := Lib.hid hR
                  have HRD := Lib.hid (hR.read j ⟨hj1, hlt⟩)
                  clear hE hR
                  go_wp2_with (fail)
                  refine HRD.out.mono ?_; rintro e w6 ⟨s, rfl, hb6, hs, x, hd, hx⟩
                  have HB6 := Lib.hid hb6
                  have HDC := Lib.hid (pdecode_c w6 s (by rw [hs]; omega))
                  have HD := Lib.hid hd
                  clear HRD hb6 hs hd
                  go_wp2_with (fail)
                  refine HDC.out.mono ?_; rintro e w7 ⟨sv, rfl, hrd, _, hb7⟩
                  obtain ⟨sa, sc, rfl⟩ := hrd.form
                  clear hrd
                  rw [HD.out]
                  obtain ⟨xn, xl, xk, xh, xs⟩ := x
                  unfold ShV
                  simp only at hx ⊢
                  have HB7 : Hid (Below wr.heap.size wr (w7.alloc (.cells #[.int .u32 (xn : Int), .int .u64 (xl : Int), .int .i64 xk,   .string xh, .slice sa xs.length sc] 84))) := (HB6.out.trans (hb7.mono HB6.out.size)).alloc (Nat.le_trans HB6.out.size hb7.size) _
                  have HS := Lib.hid (HR.out.below HB7.out)
                  have HF := fun q => Lib.hid (HS.out.pl.below (below_drewN _ q)).flushed
                  have hfl : ¬ ((g1.flushed : Int) ≤ (xl : Int)) := by omega
                  have hfd : decide (g1.flushed ≤ xl) = false := decide_eq_false (by omega)
                  clear HDC HD hb7 HB6 HB7
                  go_wp2_with (fail)
                  go_quiet (first | (go_at_call 27; exact Calls.quiet_of (HF _).out))
                  have HE := fun z => Lib.hid (HS.out.below (below_drewN _ z))
                  clear HF HS HR hfl hfd
                  go_wp2_with (fail)
                  go_roundw
                  case rel => exact ⟨j + 1, by omega, by omega, by go_num, m1, g1, q1, (HE _).out⟩
                  case measure => simp [intOf]; omega
                · have HI := hE
                  clear hE
                  go_wp2_with (fail)
                  go_roundw
                  case rel => exact ⟨k + 1, by omega, by omega, by go_num, HI.out⟩
                  case measure => simp [intOf]; omega
            · go_wp2_with (fail)
              rw [HNE]
              have HC := Lib.hid (HP.out.get n ⟨hn1, hn2⟩)
              clear HP
              refine HC.out.mono ?_
              rintro e w5 ⟨⟨v, rfl⟩, hq⟩
              have HI := Lib.hid hq
              clear HC hq
              go_wp2_with (fail)
              go_loopw [10] (fun i wr => ∃ j : Nat, 1 ≤ j ∧ j ≤ 21 ∧ i = .int .u32 j ∧ Hid (∃ m g q, RP w b lb pb (k + 1) m g q wr)) (fun i _ => 21 - (intOf i).toNat)
              case atStart => exact ⟨1, by omega, by omega, rfl, HI.out⟩
              case round =>
                obtain ⟨j, hj1, hj2, rfl, hE⟩ := hrel
                clear HI
                by_cases hlt : j ≤ 20
                · obtain ⟨m1, g1, q1, hR⟩ := hE.out
                  have HR := Lib.hid hR
                  have HRD := Lib.hid (hR.read j ⟨hj1, hlt⟩)
                  clear hE hR
                  go_wp2_with (fail)
                  refine HRD.out.mono ?_; rintro e w6 ⟨s, rfl, hb6, hs, x, hd, hx⟩
                  have HB6 := Lib.hid hb6
                  have HDC := Lib.hid (pdecode_c w6 s (by rw [hs]; omega))
                  have HD := Lib.hid hd
                  clear HRD hb6 hs hd
                  go_wp2_with (fail)
                  refine HDC.out.mono ?_; rintro e w7 ⟨sv, rfl, hrd, _, hb7⟩
                  obtain ⟨sa, sc, rfl⟩ := hrd.form
                  clear hrd
                  rw [HD.out]
                  obtain ⟨xn, xl, xk, xh, xs⟩ := x
                  unfold ShV
                  simp only at hx ⊢
                  have HB7 : Hid (Below wr.heap.size wr (w7.alloc (.cells #[.int .u32 (xn : Int), .int .u64 (xl : Int), .int .i64 xk,   .string xh, .slice sa xs.length sc] 84))) := (HB6.out.trans (hb7.mono HB6.out.size)).alloc (Nat.le_trans HB6.out.size hb7.size) _
                  have HS := Lib.hid (HR.out.below HB7.out)
                  have HF := fun q => Lib.hid (HS.out.pl.below (below_drewN _ q)).flushed
                  have hfl : ¬ ((g1.flushed : Int) ≤ (xl : Int)) := by omega
                  have hfd : decide (g1.flushed ≤ xl) = false := decide_eq_false (by omega)
                  clear HDC HD hb7 HB6 HB7
                  go_wp2_with (fail)
                  go_quiet (first | (go_at_call 27; exact Calls.quiet_of (HF _).out))
                  have HE := fun z => Lib.hid (HS.out.below (below_drewN _ z))
                  clear HF HS HR hfl hfd
                  go_wp2_with (fail)
                  go_roundw
                  case rel => exact ⟨j + 1, by omega, by omega, by go_num, m1, g1, q1, (HE _).out⟩
                  case measure => simp [intOf]; omega
                · have HI := hE
                  clear hE
                  go_wp2_with (fail)
                  go_roundw
                  case rel => exact ⟨k + 1, by omega, by omega, by go_num, HI.out⟩
                  case measure => simp [intOf]; omega
    · have HB : Hid (Below w.heap.size w wr) := by
        obtain ⟨m, g, q, hP⟩ := hR.out
        exact hP.pl.base
      have hng : k < len → ¬ k < 60 := fun h1 h2 => hgo ⟨h1, h2⟩
      clear hR
      by_cases hl : k < len
      · have h60 : k = 60 := by have := hng hl; omega
        clear hng
        subst h60
        go_wp2_with (fail)
        go_ret
        exact ⟨rfl, HB.out⟩
      · clear hng
        go_wp2_with (fail)
        go_ret
        exact ⟨rfl, HB.out⟩
end Go.Proofs.YtnghgkaoopcglaaGreat
