/-
  The disk: the power fails.
-/
import Derived.Test.YtnobiekgifjaeaaA1
namespace Go.Proofs.Ytnobiekgifjaeaa
open Go.RowKit

theorem addr_add (g n : Nat) : (⟨g, 0, none⟩ : Addr).add n = ⟨g, n, none⟩ := by unfold Addr.add; split <;> simp_all

/-- element k of a row of loose writes -/
theorem wrsCells_at : ∀ (l : List Wr) (k : Nat) (x : Wr), l[k]? = some x → (wrsCells l)[k * 3]? = some (.int .u32 x.page) ∧ (wrsCells l)[k * 3 + 1]? = some (.string x.s) ∧ (wrsCells l)[k * 3 + 2]? = some (.int .u64 x.mark)
  | [], _, _, h => by simp at h
  | y :: l, 0, x, h => by
    simp at h
    subst h
    simp [wrsCells, wrCells]
  | y :: l, k + 1, x, h => by
    have ih := wrsCells_at l k x (by simpa using h)
    have e1 : (k + 1) * 3 = k * 3 + 3 := by omega
    have e0 : wrsCells (y :: l) = .int .u32 y.page :: .string y.s :: .int .u64 y.mark :: wrsCells l := by simp [wrsCells, wrCells]
    rw [e1, e0]
    exact ih

theorem DiskIn.loose_at {w : World} {F : Nat → Prop} {b mb : Nat} {lv pv : Value} {m : Dk} (h : DiskIn w F b mb lv pv m) {k : Nat} {x : Wr} (hx : m.loose[k]? = some x) :
    ∃ g cap, lv = .slice (some ⟨g, 0, none⟩) m.loose.length cap ∧ F g ∧ m.loose.length ≤ cap ∧ cap ≤ maxLen ∧ w.cell? ⟨g, k * 3, none⟩ = some (.int .u32 x.page) ∧ w.cell? ⟨g, k * 3 + 1, none⟩ = some (.string x.s) ∧ w.cell? ⟨g, k * 3 + 2, none⟩ = some (.int .u64 x.mark) := by
  have hk : k < m.loose.length := (List.getElem?_eq_some_iff.1 hx).1
  have hc := wrsCells_at _ _ _ hx
  rcases h.loose.2 with ⟨_, h0⟩ | ⟨g, cap, cur, e, _, hh, h1, h2, _⟩
  · omega
  · have hcells := h.loose.cells (g := g) (by rw [e]; rfl)
    refine ⟨g, cap, e, h.fl g (by rw [e]; rfl), h1, h2, ?_, ?_, ?_⟩
    · have := hcells _ _ hc.1; rwa [addr_add] at this
    · have := hcells _ _ hc.2.1; rwa [addr_add] at this
    · have := hcells _ _ hc.2.2; rwa [addr_add] at this

theorem own_form {w : World} {base : Nat} {e : TypeId} {size n : Nat} {v : Value} {xs : List Value} (h : w.ownsRow base e size v n xs) : ∃ a cap, v = .slice a n cap := by
  rcases h.2 with ⟨rfl, rfl⟩ | ⟨g, cap, cur, rfl, _⟩
  · exact ⟨_, _, rfl⟩
  · exact ⟨_, _, rfl⟩

/-- how the world stands before loose write k is looked at -/
def CrashRel (w0 : World) (F : Nat → Prop) (b mb : Nat) (lv pv : Value) (m : Dk) (f : Fl) (k : Nat) (wr : World) : Prop := DiskIn wr F b mb lv pv (m.strikesFrom f 0 (m.loose.take k)) ∧ Step F w0 wr

section
variable {w0 wr w' : World} {F : Nat → Prop} {b mb : Nat} {lv pv : Value} {m : Dk} {f : Fl} {k : Nat} {x : Wr}
theorem CrashRel.stays (h : CrashRel w0 F b mb lv pv m f k wr) (hx : m.loose[k]? = some x) (hs : (m.strikesFrom f 0 (m.loose.take k)).strike f k x = m.strikesFrom f 0 (m.loose.take k)) (hb : Below wr.heap.size wr w') : CrashRel w0 F b mb lv pv m f (k + 1) w' := by
  refine ⟨?_, h.2.trans (More.refl _ _) (Step.below hb)⟩
  rw [Dk.strikesFrom_next m f hx, hs]
  exact h.1.below hb
theorem CrashRel.goes (h : CrashRel w0 F b mb lv pv m f k wr) (hx : m.loose[k]? = some x) (hd : DiskIn w' F b mb lv pv ((m.strikesFrom f 0 (m.loose.take k)).strike f k x)) (hs : Step F wr w') : CrashRel w0 F b mb lv pv m f (k + 1) w' := by
  refine ⟨?_, h.2.trans (More.refl _ _) hs⟩
  rw [Dk.strikesFrom_next m f hx]
  exact hd
theorem wrap_pred {n : Int} (h : 0 < n) (h1 : n ≤ 9223372036854775807) : wrap64 (n - 1) = n - 1 := by
  unfold wrap64
  omega
theorem bit_of (n : Int) (i : Nat) (h0 : 0 ≤ n) (h1 : n ≤ 18446744073709551615) : (bits BinOp.and IntKind.u64 (n / 2 ^ i) 1 == 1) = bitAt n i := by
  have h2 : n / 2 ^ i ≤ n := Int.ediv_le_self _ h0
  have h3 : 0 ≤ n / 2 ^ i := Int.ediv_nonneg h0 (by have := Int.pow_pos (n := 2) (m := i) (by decide); omega)
  rw [and_one_u64 _ h3 (by omega)]
  rfl
end

section
variable {w : World} {F : Nat → Prop} {b mb : Nat} {lv pv : Value} {m : Dk}
set_option maxRecDepth 100000 in
set_option maxHeartbeats 1000000 in
theorem crash_live (h : DiskIn w F b mb lv pv m) (f : Fl) (hf : f.ok) (hd : m.dead = false) (hn : m.loose.length ≤ 1000000000) : Calls Try.prog 19 #[.pointer (some ⟨b, 0, none⟩), .agg (flCells f).toArray] w
    fun e w' => e = .returned (.tuple #[]) ∧ DPost w F b (m.crash f) w' := by
  have hc : ∀ W, DiskIn W F b mb lv pv m → Hid (Calls Try.prog 20 #[.pointer (some ⟨b, 0, none⟩)] W fun e w' => e = .returned (.bool false) ∧ W = w') := fun W hW => by
    have := dead_c (⟨mb, lv, pv, hW⟩ : DiskAt W F b m)
    rw [hd] at this
    exact this
  obtain ⟨fa, fk, ft, fb, fl⟩ := f
  simp only [flCells]
  have c3 := h.cells.2.2.2.1
  obtain ⟨la, lc, rfl⟩ := own_form h.loose
  have H := Lib.hid h
  have HD := Lib.hid hd
  have HF : Hid (∀ r, F r → r < w.heap.size) := h.lt
  have hbw := h.lt b h.fb
  clear h hd
  go_enter Try.func19, Try.ntmps19
  go_wp2_with (go_at_call 20; refine (hc _ (H.out.below ((Below.refl _ _).alloc (Nat.le_refl _) _))).mono ?_; rintro e w' ⟨rfl, rfl⟩)
  go_loopw [14] (fun i wr => ∃ k : Nat, k ≤ m.loose.length ∧ i = .int .i64 k ∧ CrashRel (w.alloc (.cells #[.int .i64 fa, .int .u64 fk, .int .i64 ft, .int .i64 fb, .int .i64 fl] 39)) F b mb (.slice la m.loose.length lc) pv m ⟨fa, fk, ft, fb, fl⟩ k wr) (fun i _ => m.loose.length - (intOf i).toNat)
  case atStart => exact ⟨0, Nat.zero_le _, rfl, H.out.below ((Below.refl _ _).alloc (Nat.le_refl _) _), Step.refl _ _⟩
  case round =>
    obtain ⟨k, hk, rfl, hR⟩ := hrel
    by_cases hlt : k < m.loose.length
    · obtain ⟨x, hx⟩ : ∃ x, m.loose[k]? = some x := ⟨_, List.getElem?_eq_getElem hlt⟩
      have hml := Dk.strikesFrom_loose ⟨fa, fk, ft, fb, fl⟩ (m.loose.take k) m 0
      obtain ⟨g, cap, e, hFg, hcap, hmx, x0, x1, x2⟩ := hR.1.loose_at (k := k) (x := x) (by rw [hml.1]; exact hx)
      rw [hml.1] at e
      simp only [Value.slice.injEq] at e
      obtain ⟨rfl, -, rfl⟩ := e
      have hbox : ∀ i v, (#[.int .i64 fa, .int .u64 fk, .int .i64 ft, .int .i64 fb, .int .i64 fl] : Array Value)[i]? = some v → wr.cell? ⟨w.heap.size, i, none⟩ = some v := fun i v hv =>
        hR.2.cell (p := ⟨w.heap.size, i, none⟩) (by rw [(Blk.new w _ _).cell, hv]) (fun hf => by have := HF.out _ hf; simp at this)
      have b1 : wr.cell? ⟨w.heap.size, 1, none⟩ = some (.int .u64 fk) := hbox 1 _ rfl
      have b2 : wr.cell? ⟨w.heap.size, 2, none⟩ = some (.int .i64 ft) := hbox 2 _ rfl
      have b3 : wr.cell? ⟨w.heap.size, 3, none⟩ = some (.int .i64 fb) := hbox 3 _ rfl
      have hgw : g < wr.heap.size := hR.1.lt g hFg
      have hwb : w.heap.size < wr.heap.size := by have := hR.2.size; simp at this; omega
      have HH := Lib.hid hR
      have hR1 := hR
      clear hbox hml hR hcap hmx
      have HX := Lib.hid hx
      have hR0 := Lib.hid hR1
      clear hR1
      have hxo : x.ok := H.out.ok.loose x (List.mem_of_getElem? hx)
      have HO : Hid x.ok := hxo
      have HB := Lib.hid (bit_of fk (k % 64) hf.keep1 hf.keep2)
      have hft : ft ≤ 9223372036854775807 := hf.torn2
      have hfb1 : -9223372036854775808 ≤ fb := hf.bytes1
      have hfb2 : fb ≤ 9223372036854775807 := hf.bytes2
      by_cases t : 0 < ft ∧ (k : Int) = ft - 1
      · obtain ⟨t1, t2⟩ := t
        have t2' : ((k : Int) == ft - 1) = true := by simpa using t2
        have TT : Hid (0 < ft ∧ (k : Int) = ft - 1) := ⟨t1, t2⟩
        by_cases hp : x.page = 0
        · have hp' : (x.page != 0) = false := by simpa using hp
          have HS : Hid ((m.strikesFrom ⟨fa, fk, ft, fb, fl⟩ 0 (m.loose.take k)).strike ⟨fa, fk, ft, fb, fl⟩ k x = m.strikesFrom ⟨fa, fk, ft, fb, fl⟩ 0 (m.loose.take k)) := by
            show Dk.strike _ _ _ _ = _
            unfold Dk.strike
            rw [if_pos TT.out, if_pos hp]
          clear hx hxo t2 hp hf
          go_wp2_with (fail)
          go_roundw
          case rel => exact ⟨k + 1, by omega, by go_num, HH.out.stays HX.out HS.out ((Below.refl _ _).alloc (Nat.le_refl _) _)⟩
          case measure => simp [intOf]; omega
        · have hp' : (x.page != 0) = true := by simpa using hp
          have hs1 : 512 ≤ x.s.size := by have := hxo.2.2 hp; omega
          have hs2 : x.s.size ≤ 512 := by have := hxo.2.2 hp; omega
          have hS1 := Dk.sure_size (m.strikesFrom ⟨fa, fk, ft, fb, fl⟩ 0 (m.loose.take k)) hR0.out.1.ok.pages x.page
          have hS2 : 512 ≤ ((m.strikesFrom ⟨fa, fk, ft, fb, fl⟩ 0 (m.loose.take k)).sure x.page).size := by omega
          have hS3 : ((m.strikesFrom ⟨fa, fk, ft, fb, fl⟩ 0 (m.loose.take k)).sure x.page).size ≤ 512 := by omega
          have a1 := HH.out.1.cells.2.1
          have hbr := HH.out.1.lt b HH.out.1.fb
          have HSu : ∀ W, Hid (Below wr.heap.size wr W → Calls Try.prog 61 #[.pointer (some ⟨b, 0, none⟩), .int .u32 x.page] W fun e w' => e = .returned (.string ((m.strikesFrom ⟨fa, fk, ft, fb, fl⟩ 0 (m.loose.take k)).sure x.page)) ∧ Below W.heap.size W w') := fun W hW => sure_c ⟨_, _, _, HH.out.1.below hW⟩ x.page
          have HP := Lib.hid hp
          clear hx t2 hf hxo hS1 hp
          generalize hSu : (m.strikesFrom ⟨fa, fk, ft, fb, fl⟩ 0 (m.loose.take k)).sure x.page = su at *
          have HSS := Lib.hid hSu
          clear hSu
          have HM : ∀ W W', Below wr.heap.size wr W → Below W.heap.size W W' → Hid (MapI .u32 W' mb (fun q => ((m.strikesFrom ⟨fa, fk, ft, fb, fl⟩ 0 (m.loose.take k)).pages q).map Value.string)) := fun W W' h1 h2 => (HH.out.1.below (h1.trans (h2.mono h1.size))).map
          obtain ⟨nn, hnn, hn5⟩ : ∃ n : Nat, min (max fb 0) 512 = (n : Int) ∧ n ≤ 512 := ⟨(min (max fb 0) 512).toNat, by omega, by omega⟩
          have HN := Lib.hid hnn
          have hbm : b ≠ mb := fun e => HH.out.1.b_ne e.symm
          have hmw : mb < wr.heap.size := HH.out.1.map.lt
          have q6 : ∀ W : World, (Op.stringOp .add (x.s.extract 0 nn) (su.extract nn su.size)).run Try.prog W = .ok (.string (x.s.extract 0 nn ++ su.extract nn su.size)) W := fun W => run_string_add_sum W _ _ (by simp only [ByteArray.size_extract]; omega)
          have q1 : nn ≤ x.s.size := by omega
          have q2 : nn ≤ su.size := by omega
          have q3 : (nn : Int) ≤ (x.s.size : Int) := by omega
          have q4 : (nn : Int) ≤ (su.size : Int) := by omega
          have q5 : (0 : Int) ≤ (nn : Int) := by omega
          clear hnn
          go_wp2_with (fail)
          rw [HN.out]
          go_region_held3 (fun w' => w'.cell? ⟨b, 1, none⟩ = some (.map (some mb)) ∧ w'.cell? ⟨wr.heap.size, 0, none⟩ = some (.int .u32 x.page) ∧ w'.cell? ⟨wr.heap.size, 1, none⟩ = some (.string x.s)) (first
              | go_keep
              | exact ⟨(hb9.cell (by simp; omega)).trans (by go_simp), (hb9.cell (by simp)).trans (by go_simp), (hb9.cell (by simp)).trans (by go_simp)⟩)
            ((go_at_call 61; refine ((HSu _).out (Below.drew ((Below.refl _ _).alloc (Nat.le_refl _) _))).mono ?_; rintro e w9 ⟨rfl, hb9⟩; obtain ⟨w2, hrun2, hm2, hg2⟩ := ((HM _ _ (Below.drew ((Below.refl _ _).alloc (Nat.le_refl _) _)) hb9).out).store (P := Try.prog) Try.underlying103 Try.underlying34 x.page (.string (x.s.extract 0 nn ++ su.extract nn su.size)); have k1 : w2.cell? ⟨b, 1, none⟩ = some (.map (some mb)) := hg2.cell ((hb9.cell (by simp; omega)).trans (by go_simp)) (by simp; omega); have k2 : w2.cell? ⟨wr.heap.size, 0, none⟩ = some (.int .u32 x.page) := hg2.cell ((hb9.cell (by simp)).trans (by go_simp)) (by simp; omega); have k3 : w2.cell? ⟨wr.heap.size, 1, none⟩ = some (.string x.s) := hg2.cell ((hb9.cell (by simp)).trans (by go_simp)) (by simp; omega)))
          go_wp2_with (fail)
          go_roundw
          case rel =>
            have hd9 := HH.out.1.below ((Below.drew ((Below.refl _ _).alloc (Nat.le_refl _) _)).trans (hb9.mono (by simp)))
            have hd2 := hd9.stored x.page _ (by simp only [ByteArray.size_append, ByteArray.size_extract]; omega) hm2 hg2
            refine ⟨k + 1, by omega, by go_num, HH.out.goes HX.out ?_ ?_⟩
            · have e1 : Dk.strike ⟨fa, fk, ft, fb, fl⟩ (m.strikesFrom ⟨fa, fk, ft, fb, fl⟩ 0 (m.loose.take k)) k x = { m.strikesFrom ⟨fa, fk, ft, fb, fl⟩ 0 (m.loose.take k) with pages := putAt (m.strikesFrom ⟨fa, fk, ft, fb, fl⟩ 0 (m.loose.take k)).pages x.page (x.s.extract 0 nn ++ su.extract nn su.size) } := by
                unfold Dk.strike
                rw [if_pos TT.out, if_neg HP.out, HSS.out]
                have e2 : (cutN 0 512 fb).toNat = nn := by have := HN.out; unfold cutN; omega
                simp only [e2]
              rw [e1]
              exact hd2
            · exact (Step.below ((Below.drew ((Below.refl _ _).alloc (Nat.le_refl _) _)).trans (hb9.mono (by simp)))).grown hg2 (fun q hq => .inl (by cases hq; exact HH.out.1.fm))
          case measure => simp [intOf]; omega
      · by_cases hb : bitAt fk (k % 64) = true
        · have HS : Hid ((m.strikesFrom ⟨fa, fk, ft, fb, fl⟩ 0 (m.loose.take k)).strike ⟨fa, fk, ft, fb, fl⟩ k x = (m.strikesFrom ⟨fa, fk, ft, fb, fl⟩ 0 (m.loose.take k)).land x) := by
            show Dk.strike _ _ _ _ = _
            unfold Dk.strike
            rw [if_neg t, if_pos hb]
          have hb' : (bits BinOp.and IntKind.u64 (fk / 2 ^ (k % 64)) 1 == 1) = true := by rw [HB.out]; exact hb
          clear hx hxo hf hb
          have HL : ∀ W, DiskIn W F b mb (.slice (some ⟨g, 0, none⟩) m.loose.length lc) pv (m.strikesFrom ⟨fa, fk, ft, fb, fl⟩ 0 (m.loose.take k)) → Hid (Calls Try.prog 62 #[.pointer (some ⟨b, 0, none⟩), .agg #[.int .u32 x.page, .string x.s, .int .u64 x.mark]] W
              fun e w' => e = .returned (.tuple #[]) ∧ LandPost W F b mb (.slice (some ⟨g, 0, none⟩) m.loose.length lc) pv ((m.strikesFrom ⟨fa, fk, ft, fb, fl⟩ 0 (m.loose.take k)).land x) w') := fun W hW => land_c hW x HO.out
          by_cases t1 : 0 < ft
          · have t2' : ((k : Int) == ft - 1) = false := by simpa [t1] using t
            clear t
            go_wp2_with (go_at_call 62; refine ((HL _ (HH.out.1.below ((Below.refl _ _).alloc (Nat.le_refl _) _))).out).mono ?_; rintro e w' ⟨rfl, hL⟩)
            go_roundw
            case rel => exact ⟨k + 1, by omega, by go_num, HH.out.goes HX.out (HS.out ▸ hL.1) ((Step.below ((Below.refl _ _).alloc (Nat.le_refl _) _)).trans (More.refl _ _) hL.2)⟩
            case measure => simp [intOf]; omega
          · clear t
            go_wp2_with (go_at_call 62; refine ((HL _ (HH.out.1.below ((Below.refl _ _).alloc (Nat.le_refl _) _))).out).mono ?_; rintro e w' ⟨rfl, hL⟩)
            go_roundw
            case rel => exact ⟨k + 1, by omega, by go_num, HH.out.goes HX.out (HS.out ▸ hL.1) ((Step.below ((Below.refl _ _).alloc (Nat.le_refl _) _)).trans (More.refl _ _) hL.2)⟩
            case measure => simp [intOf]; omega
        · have HS : Hid ((m.strikesFrom ⟨fa, fk, ft, fb, fl⟩ 0 (m.loose.take k)).strike ⟨fa, fk, ft, fb, fl⟩ k x = m.strikesFrom ⟨fa, fk, ft, fb, fl⟩ 0 (m.loose.take k)) := by
            show Dk.strike _ _ _ _ = _
            unfold Dk.strike
            rw [if_neg t, if_neg hb]
          have hb' : (bits BinOp.and IntKind.u64 (fk / 2 ^ (k % 64)) 1 == 1) = false := by rw [HB.out]; simpa using hb
          clear hx hxo hf hb
          by_cases t1 : 0 < ft
          · have t2' : ((k : Int) == ft - 1) = false := by simpa [t1] using t
            clear t
            go_wp2_with (fail)
            go_roundw
            case rel => exact ⟨k + 1, by omega, by go_num, HH.out.stays HX.out HS.out ((Below.refl _ _).alloc (Nat.le_refl _) _)⟩
            case measure => simp [intOf]; omega
          · clear t
            go_wp2_with (fail)
            go_roundw
            case rel => exact ⟨k + 1, by omega, by go_num, HH.out.stays HX.out HS.out ((Below.refl _ _).alloc (Nat.le_refl _) _)⟩
            case measure => simp [intOf]; omega
    · obtain rfl : k = m.loose.length := by omega
      unfold CrashRel at hR
      rw [List.take_length] at hR
      have hbox : wr.cell? ⟨w.heap.size, 4, none⟩ = some (.int .i64 fl) := hR.2.cell (p := ⟨w.heap.size, 4, none⟩) (by rw [(Blk.new w _ _).cell]; rfl) (fun hf => by have := HF.out _ hf; simp at this)
      have hml := Dk.strikesFrom_loose ⟨fa, fk, ft, fb, fl⟩ m.loose m 0
      have b4 := hR.1.cells.2.2.2.2.1
      have b5 := hR.1.cells.2.2.2.2.2.1
      have b3 := hR.1.cells.2.2.2.1
      have b8 := hR.1.cells.2.2.2.2.2.2.2.2.1
      have bf := hR.1.cells.2.2.2.2.2.2.2.2.2
      rw [hml.2.1] at b4
      rw [hml.2.2.1] at b5
      have hwb : w.heap.size < wr.heap.size := by have := hR.2.size; simp at this; omega
      have hbr := hR.1.lt b hR.1.fb
      have hlg : m.log.size + m.tail.size ≤ 4194304 := H.out.ok.logs
      obtain ⟨nn, hnn, hn5⟩ : ∃ n : Nat, min (max fl 0) (m.tail.size : Int) = (n : Int) ∧ n ≤ m.tail.size := ⟨(min (max fl 0) (m.tail.size : Int)).toNat, by omega, by omega⟩
      have q6 : ∀ W : World, (Op.stringOp .add m.log (m.tail.extract 0 nn)).run Try.prog W = .ok (.string (m.log ++ m.tail.extract 0 nn)) W := fun W => run_string_add_sum W _ _ (by simp only [ByteArray.size_extract]; omega)
      have HH := Lib.hid hR
      have hfl1 : -9223372036854775808 ≤ fl := hf.log1
      have hfl2 : fl ≤ 9223372036854775807 := hf.log2
      clear hR hml hf hc c3
      go_wp2_with (fail)
      go_region
      all_goals
        go_wp2
        go_end0
        refine ⟨rfl, ?_⟩
        have hM := HH.out.1
        have hml := Dk.strikesFrom_loose ⟨fa, fk, ft, fb, fl⟩ m.loose m 0
        have hbk := ((((hM.blk.set_ 4 (.string (m.log ++ m.tail.extract 0 nn))).set_ 3 (.slice none 0 0)).set_ 5 (.string ⟨#[]⟩)).set_ 8 (.bool true))
        have ho : ∀ r, r ≠ b → ((((wr.setCell ⟨b, 4, none⟩ (.string (m.log ++ m.tail.extract 0 nn))).setCell ⟨b, 3, none⟩ (.slice none 0 0)).setCell ⟨b, 5, none⟩ (.string ⟨#[]⟩)).setCell ⟨b, 8, none⟩ (.bool true)).drew.heap[r]? = wr.heap[r]? := fun r hr =>
          (Below.heap_setCell _ _ _ r hr).trans ((Below.heap_setCell _ _ _ r hr).trans ((Below.heap_setCell _ _ _ r hr).trans (Below.heap_setCell _ _ _ r hr)))
        have e1 : m.crash ⟨fa, fk, ft, fb, fl⟩ = { m.strikesFrom ⟨fa, fk, ft, fb, fl⟩ 0 m.loose with log := m.log ++ m.tail.extract 0 nn, loose := [], tail := ⟨#[]⟩, dead := true } := by
          have e2 : (cutN 0 m.tail.size fl).toNat = nn := by unfold cutN; omega
          simp only [Dk.crash, HD.out, Dk.fell, hml, e2]
          rfl
        have hok := Dk.crash_ok H.out.ok ⟨fa, fk, ft, fb, fl⟩
        rw [e1] at hok ⊢
        refine ⟨F, ⟨mb, .slice none 0 0, pv, hM.anew (fun r hr _ => ho r hr) (by simp [World.drew, World.setCell]) hbk rfl (World.ownsRow_nil _ _ _ _) (own_same hM.plan (fun g hg => ho g (hM.plan_ne g hg))) (fun _ h => h) (by simp [Value.ownBlock]) hM.fp hok (fun r hr => by have := hM.lt r hr; simpa [World.drew, World.setCell] using this)⟩, ?_, More.refl _ _⟩
        exact ((Step.below ((Below.refl _ _).alloc (Nat.le_refl _) _)).trans (More.refl _ _) HH.out.2).trans (More.refl _ _) ((((((Step.refl F wr).setCell (.inl hM.fb) _).setCell (.inl hM.fb) _).setCell (.inl hM.fb) _).setCell (.inl hM.fb) _).drewN 1)
end
end Go.Proofs.Ytnobiekgifjaeaa
