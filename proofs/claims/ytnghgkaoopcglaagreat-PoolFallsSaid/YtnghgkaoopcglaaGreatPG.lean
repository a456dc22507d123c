/-
  The walk of a pool's Get.
-/
import Derived.Test.YtnghgkaoopcglaaGreatPM
import Derived.Test.YtnghgkaoopcglaaGreatPF
import Derived.Test.YtnghgkaoopcglaaGreatK2
namespace Go.Proofs.YtnghgkaoopcglaaGreat
open Go.RowKit
attribute [local go_sem ↓] Go.wp_at_zero Go.wp_at_succ

/-- a frame is stored -/
theorem PoolIn.add {w w' : World} {H : Nat → Prop} {pb b lb mb : Nat} {pk : Value} {vs : List (Nat × Value)} {q : Po} {n : Nat} {f : Fr} {sv : Value} (h : PoolIn w H pb b lb mb pk vs q) (hrd : Reads w sv f.p.slots) (hso : ∀ k, sv.ownBlock = some k → k ≠ pb ∧ k ≠ mb)
    (hg : w.grownBy w' (some mb)) (hm : MapL w' mb (putL n (FrV f sv) vs)) (hl : (putL n f q.frames).length ≤ q.most) (hn : 1 ≤ n ∧ n ≤ 2048) (hmi : f.p.mild) (hd : f.dirty < 18446744073709551616) :
    PoolIn w' (fun r => H r ∨ sv.ownBlock = some r) pb b lb mb pk (putL n (FrV f sv) vs) { q with frames := putL n f q.frames } := by
  have h' : PoolIn w (fun r => H r ∨ sv.ownBlock = some r) pb b lb mb pk vs q := h.wider (fun r hr => .inl hr) (fun r hr => by
    rcases hr with hr | hr
    · exact h.lt r hr
    · exact hrd.lt r hr)
  refine h'.mapped hg hm (h'.frs.put ⟨rfl, ⟨sv, rfl, hrd, fun k hk => ⟨.inr hk, hso k hk⟩⟩, hmi, hd⟩) hl (fun p hp => ?_)
  rcases mem_putL hp with rfl | hp
  · exact hn
  · exact h.keys p hp
/-- the function's own boxes are written -/
theorem PPost.own {w w1 W W' : World} {U : Nat → Prop} {b lb pb : Nat} {m : Dk} {g : Lg} {q : Po} (h : PPost w1 U b lb pb m g q W) (hb : Below w.heap.size w w1) (hs : Step (fun r => w.heap.size ≤ r ∧ r < w1.heap.size) W W') (hlt : ∀ r, U r → r < w.heap.size) : PPost w U b lb pb m g q W' := by
  obtain ⟨U', h1, h2, h3⟩ := h
  obtain ⟨U2, k1, k2, k3⟩ := h1.fit
  refine ⟨U2, k1.keep (fun r hr => hs.block r (k3 r hr) (fun hh => ?_)) hs.size, ⟨hs.os.trans (h2.os.trans hb.os), hs.tape.trans (h2.tape.trans hb.tape), hs.output.trans (h2.output.trans hb.output), Nat.le_trans hb.size (Nat.le_trans h2.size hs.size), fun r hr hn => ?_⟩, fun r hr => ?_⟩
  · rcases h3 r (k2 r hr) with h | h
    · have := hlt r h; omega
    · omega
  · have a1 := hb.size
    have a2 := h2.size
    exact (hs.block r (by omega) (fun hh => by omega)).trans ((h2.block r (by omega) hn).trans (hb.block r hr))
  · rcases h3 r (k2 r hr) with h | h
    · exact .inl h
    · have := hb.size; exact .inr (by omega)
theorem PPost.own2 {w w1 W W' : World} {U0 U4 K : Nat → Prop} {b lb pb : Nat} {m : Dk} {g : Lg} {q : Po} (h : PPost w1 U4 b lb pb m g q W) (hb : Below w.heap.size w w1) (hs : Step K W W') (hK : ∀ r, K r → w.heap.size ≤ r ∧ r < w1.heap.size ∧ ¬ U4 r) (hU : ∀ r, U4 r → U0 r ∨ w.heap.size ≤ r) : PPost w U0 b lb pb m g q W' := by
  obtain ⟨U', h1, h2, h3⟩ := h
  obtain ⟨U2, k1, k2, k3⟩ := h1.fit
  refine ⟨U2, k1.keep (fun r hr => hs.block r (k3 r hr) (fun hh => ?_)) hs.size, ⟨hs.os.trans (h2.os.trans hb.os), hs.tape.trans (h2.tape.trans hb.tape), hs.output.trans (h2.output.trans hb.output), Nat.le_trans hb.size (Nat.le_trans h2.size hs.size), fun r hr hn => ?_⟩, fun r hr => ?_⟩
  · obtain ⟨a1, a2, a3⟩ := hK r hh
    rcases h3 r (k2 r hr) with h | h
    · exact a3 h
    · omega
  · have a1 := hb.size
    have a2 := h2.size
    have a3 : ¬ U4 r := fun hu => by rcases hU r hu with h | h; exact hn h; omega
    exact (hs.block r (by omega) (fun hh => by have := (hK r hh).1; omega)).trans ((h2.block r (by omega) a3).trans (hb.block r hr))
  · rcases h3 r (k2 r hr) with h | h
    · exact hU r h
    · have := hb.size; exact .inr (by omega)
/-- the pool takes a row of the function's own -/
theorem PX.addP {w4 w5 w7 : World} {U0 U5 F G H H' : Nat → Prop} {b lb pb mb : Nat} {m : Dk} {g : Lg} {q' q : Po} {mb0 : Nat} {pk pk0 : Value} {vs vs0 : List (Nat × Value)} {row : Option Nat} (hs5 : Step U0 w4 w5) (hm5 : More U0 U5 w4) (hB : BothIn w5 F G b lb m g) (_hQ : PoolIn w5 H pb b lb mb0 pk0 vs0 q) (hD : ∀ r, H r → ¬ (F r ∨ G r)) (hU : ∀ r, (F r ∨ G r) ∨ H r → U5 r)
    (hP : PoolIn w7 H' pb b lb mb pk vs q') (hs : Step H w5 w7) (hH : ∀ r, H' r → H r ∨ row = some r) (hr : ∀ r, row = some r → ¬ U5 r) : PPost w4 (fun r => U0 r ∨ row = some r) b lb pb m g q' w7 := by
  have hl : ∀ r, F r ∨ G r → r < w5.heap.size := fun r hr => by
    rcases hr with hr | hr
    · exact hB.dsk.lt r hr
    · exact hB.wal.lt r hr
  refine ⟨fun r => (F r ∨ G r) ∨ H' r, ⟨F, G, H', mb, pk, vs, hB.keep (fun r hf => hs.block r (hl r hf) (fun hh => hD r hh hf)) hs.size, hP, fun r hh hf => ?_, fun _ h => h⟩, ⟨hs.os.trans hs5.os, hs.tape.trans hs5.tape, hs.output.trans hs5.output, Nat.le_trans hs5.size hs.size, fun r hrs hn => ?_⟩, fun r hh => ?_⟩
  · rcases hH r hh with h | h
    · exact hD r h hf
    · exact hr r h (hU r (.inl hf))
  · have hn0 : ¬ U0 r := fun h => hn (.inl h)
    refine (hs.block r (Nat.lt_of_lt_of_le hrs hs5.size) (fun hh => ?_)).trans (hs5.block r hrs hn0)
    rcases hm5 r (hU r (.inr hh)) with h | h
    · exact hn0 h
    · omega
  · have : U5 r ∨ row = some r := by
      rcases hh with hh | hh
      · exact .inl (hU r (.inl hh))
      · rcases hH r hh with h | h
        · exact .inl (hU r (.inr h))
        · exact .inr h
    rcases this with h | h
    · rcases hm5 r h with h | h
      · exact .inl (.inl h)
      · exact .inr h
    · exact .inl (.inr h)
/-- one's own boxes stay -/
theorem PPost.box {w1 W : World} {U : Nat → Prop} {b lb pb : Nat} {m : Dk} {g : Lg} {q : Po} (h : PPost w1 U b lb pb m g q W) {r : Nat} (hr : r < w1.heap.size) (hn : ¬ U r) : W.heap[r]? = w1.heap[r]? := by
  obtain ⟨U', h1, h2, h3⟩ := h
  exact h2.block r hr hn
theorem step_set5 {W : World} {R : Nat} {K : Nat → Prop} (hk : K R) (v0 v1 v2 v3 v4 : Value) :
    Step K W (((((W.setCell ⟨R, 0, none⟩ v0).setCell ⟨R, 1, none⟩ v1).setCell ⟨R, 2, none⟩ v2).setCell ⟨R, 3, none⟩ v3).setCell ⟨R, 4, none⟩ v4) :=
  (((((Step.refl K W).setCell (.inl hk) _).setCell (.inl hk) _).setCell (.inl hk) _).setCell (.inl hk) _).setCell (.inl hk) _
theorem reads_set5 {W : World} {R : Nat} {v : Value} {l : List ByteArray} (h : Reads W v l) (ho : ∀ k, v.ownBlock = some k → k ≠ R) {v0 v1 v2 v3 v4 : Value} :
    Reads (((((W.setCell ⟨R, 0, none⟩ v0).setCell ⟨R, 1, none⟩ v1).setCell ⟨R, 2, none⟩ v2).setCell ⟨R, 3, none⟩ v3).setCell ⟨R, 4, none⟩ v4) v l :=
  h.same fun k hk => by
    have h2 := ho k hk
    rw [Below.heap_setCell _ _ _ _ h2, Below.heap_setCell _ _ _ _ h2, Below.heap_setCell _ _ _ _ h2, Below.heap_setCell _ _ _ _ h2, Below.heap_setCell _ _ _ _ h2]
def GetPost (w : World) (U : Nat → Prop) (b lb pb : Nat) (r : Sh × Int × Dk × Lg × Po) (e : Ending) (w' : World) : Prop :=
  ∃ sv, e = .returned (.tuple #[ShV r.1 sv, .int .i64 r.2.1]) ∧ Reads w' sv r.1.slots ∧ (∀ k, sv.ownBlock = some k → w.heap.size ≤ k) ∧ PPost w U b lb pb r.2.2.1 r.2.2.2.1 r.2.2.2.2 w'
theorem get_none {w w' : World} {U : Nat → Prop} {b lb pb : Nat} {r : Sh × Int × Dk × Lg × Po} {c : Int} {m : Dk} {g : Lg} {q : Po} {e : Ending} (h : r = (Sh.none, c, m, g, q)) (he : e = .returned (.tuple #[.agg #[.int .u32 0, .int .u64 0, .int .i64 0, .string ⟨#[]⟩, .slice none 0 0], .int .i64 c])) (hp : PPost w U b lb pb m g q w') : GetPost w U b lb pb r e w' := by
  refine ⟨.slice none 0 0, ?_, ?_, fun k hk => by simp [Value.ownBlock] at hk, ?_⟩
  · rw [he, h]; rfl
  · rw [h]; exact .inl ⟨rfl, rfl⟩
  · rw [h]; exact hp
section
variable {w : World} {U : Nat → Prop} {b lb pb : Nat} {m : Dk} {g : Lg} {q : Po}
set_option maxRecDepth 100000 in
set_option maxHeartbeats 8000000 in
theorem pget_c (h : PX w U b lb pb m g q) (hp : PlanOk m) (hl : m.loose.length ≤ 1000000) (hpk : q.picks = []) (h12 : q.frames.length ≤ 12) (n : Nat) (hn : n ≤ 4294967295) :
    Calls Tryz.prog 24 #[.pointer (some ⟨pb, 0, none⟩), .int .u32 (n : Int)] w (GetPost w U b lb pb (getQ m g q n)) := by
  obtain ⟨U0, hx0, hU0, hlt0⟩ := h.fit
  have HX := Lib.hid hx0
  have HU0 := Lib.hid hU0
  have HLT := Lib.hid hlt0
  clear h hU0 hlt0
  obtain ⟨F, G, H, mb, pk, vs, h1, h2, h3, h4⟩ := hx0
  obtain ⟨r, hr⟩ : ∃ r, getQ m g q n = r := ⟨_, rfl⟩
  rw [hr]
  unfold getQ at hr
  have hbw : Below w.heap.size w (w.alloc (.cells #[.int .u32 0, .int .u64 0, .int .i64 0, .string ⟨#[]⟩, .slice none 0 0] 84)) := (Below.refl _ _).alloc (Nat.le_refl _) _
  have hB0 := Blk.new w 84 #[.int .u32 0, .int .u64 0, .int .i64 0, .string ⟨#[]⟩, .slice none 0 0]
  by_cases k0 : n < 1 ∨ 2048 < n
  · rw [if_pos k0] at hr
    have HD := Lib.hid hr.symm
    have HB0 := Lib.hid hB0
    have hk : ((n : Int) < 1) ∨ (¬ ((n : Int) < 1) ∧ (2048 : Int) < (n : Int)) := by omega
    clear h1 h2 h3 h4 hr hbw hB0 k0
    rcases hk with k1 | ⟨k1, k2⟩
    · go_enter Tryz.func24, Tryz.ntmps24
      go_wp2_with (fail)
      (try simp only [Exit.inBlock, Exit.then])
      refine bodyPost_ret (v := .tuple #[.agg #[.int .u32 0, .int .u64 0, .int .i64 0, .string ⟨#[]⟩, .slice none 0 0], .int .i64 1]) (by simp [results, Tryz.results24, go_sem]) rfl ?_
      exact get_none HD.out rfl ((HX.out.belowP ((Below.refl _ _).alloc (Nat.le_refl _) _)).widen HU0.out)
    · go_enter Tryz.func24, Tryz.ntmps24
      go_wp2_with (fail)
      (try simp only [Exit.inBlock, Exit.then])
      refine bodyPost_ret (v := .tuple #[.agg #[.int .u32 0, .int .u64 0, .int .i64 0, .string ⟨#[]⟩, .slice none 0 0], .int .i64 1]) (by simp [results, Tryz.results24, go_sem]) rfl ?_
      exact get_none HD.out rfl ((HX.out.belowP ((Below.refl _ _).alloc (Nat.le_refl _) _)).widen HU0.out)
  · rw [if_neg k0] at hr
    have hn1 : 1 ≤ n ∧ n ≤ 2048 := by omega
    have hk1 : ¬ ((n : Int) < 1) := by omega
    have hk2 : ¬ ((2048 : Int) < (n : Int)) := by omega
    clear k0 hn
    have c3 : (w.alloc (.cells #[.int .u32 0, .int .u64 0, .int .i64 0, .string ⟨#[]⟩, .slice none 0 0] 84)).cell? ⟨pb, 3, none⟩ = some (.map (some mb)) := (h2.below hbw).cells.2.2.2.1
    have HLK : (Instr.lookup 158 (.map (some mb)) (.int .u32 (n : Int)) true).run Tryz.prog (w.alloc (.cells #[.int .u32 0, .int .u64 0, .int .i64 0, .string ⟨#[]⟩, .slice none 0 0] 84)) = .ok (.tuple #[(getL n vs).getD _, .bool (getL n vs).isSome]) (w.alloc (.cells #[.int .u32 0, .int .u64 0, .int .i64 0, .string ⟨#[]⟩, .slice none 0 0] 84)) := (h2.below hbw).map.look n (by omega) (zero_frame _)
    rcases h2.frs.get n with ⟨hv, hf⟩ | ⟨v, f, hv, hf, hfr⟩
    · -- the page is not in a frame
      rw [hf] at hr
      rw [hv] at HLK
      simp only [Option.getD_none, Option.isSome_none] at HLK hr
      obtain ⟨⟨xn, xl, xk, xh, xs⟩, xc, hx⟩ : ∃ x xc, fetchE m n = (x, xc) := ⟨_, _, rfl⟩
      have hxm : (⟨xn, xl, xk, xh, xs⟩ : Sh).mild := by have := fetchE_mild m (n := n) (by omega); rw [hx] at this; exact this
      obtain ⟨w2, hw2⟩ : ∃ w2, (w.alloc (.cells #[.int .u32 0, .int .u64 0, .int .i64 0, .string ⟨#[]⟩, .slice none 0 0] 84)).alloc (.cells #[.int .u32 0, .int .u64 0, .int .i64 0, .string ⟨#[]⟩, .slice none 0 0, .int .u64 0] 156) = w2 := ⟨_, rfl⟩
      have hb2 : Below w.heap.size w w2 := by rw [← hw2]; exact hbw.alloc (by simp) _
      have hB2 := hB0.alloc (.cells #[.int .u32 0, .int .u64 0, .int .i64 0, .string ⟨#[]⟩, .slice none 0 0, .int .u64 0] 156)
      rw [hw2] at hB2
      have HFE := Lib.hid (pfetched_c (HX.out.below hb2) hl n hn1.1 hn1.2)
      rw [hx] at HFE hr
      unfold FetPost ShV at HFE
      simp only at HFE
      have HMI := Lib.hid hxm
      have HB2 := Lib.hid hB2
      have HBW2 := Lib.hid hb2
      have HPL := Lib.hid hp
      have HLO := Lib.hid hl
      have HPK := Lib.hid hpk
      have H12 := Lib.hid h12
      have HRQ := Lib.hid (roomQ_keep m g q h2.rising hpk h2.le h2.most1)
      have HN1 := Lib.hid hn1
      clear h1 h2 h3 h4 hv hf hx hxm hb2 hB2 hbw hB0 hp hl hpk h12
      have HR := Lib.hid hr
      clear hr
      have HW2 := Lib.hid hw2
      clear hw2
      go_enter Tryz.func24, Tryz.ntmps24
      go_wp2_with (fail)
      rw [HW2.out]
      clear HLK c3 HW2
      refine HFE.out.mono ?_
      rintro e w3 ⟨xv, rfl, hxr, hxo, hb3⟩
      obtain ⟨xa, xcp, rfl⟩ := hxr.form
      obtain ⟨w4, hw4⟩ : ∃ w4, w3.alloc (.cells #[.int .u32 (xn : Int), .int .u64 (xl : Int), .int .i64 xk, .string xh, .slice xa xs.length xcp] 84) = w4 := ⟨_, rfl⟩
      have hb4 : Below w3.heap.size w3 w4 := by rw [← hw4]; exact (Below.refl _ _).alloc (Nat.le_refl _) _
      have hX4 := Blk.new w3 84 #[.int .u32 (xn : Int), .int .u64 (xl : Int), .int .i64 xk, .string xh, .slice xa xs.length xcp]
      rw [hw4] at hX4
      have HX4 := Lib.hid hX4
      have HBW4 : Hid (Below w.heap.size w w4) := HBW2.out.trans ((hb3.trans (hb4.mono hb3.size)).mono HBW2.out.size)
      have HB4 := Lib.hid ((HB2.out.same (hb3.block _ HB2.out.lt)).same (hb4.block _ (Nat.lt_of_lt_of_le HB2.out.lt hb3.size)))
      have HXR := Lib.hid (hxr.below hb4)
      have HXO : Hid (∀ k, (Value.slice xa xs.length xcp).ownBlock = some k → w.heap.size < k ∧ k < w3.heap.size) := fun k hk => ⟨Nat.lt_of_lt_of_le HB2.out.lt (hxo k hk), hxr.lt k hk⟩
      have hsz3 : w.heap.size < w3.heap.size := Nat.lt_of_lt_of_le HB2.out.lt hb3.size
      have HSZ : Hid (w.heap.size < w3.heap.size ∧ w3.heap.size < w4.heap.size) := ⟨hsz3, hX4.lt⟩
      clear HFE hb4 hX4 hxr hxo hb3 hsz3
      by_cases kx : xc = 0
      · subst kx
        have hr := HR.out
        simp only [ne_eq, not_true_eq_false, if_false] at hr
        clear HR
        obtain ⟨a1, m1, g1, q1, ha⟩ : ∃ a1 m1 g1 q1, roomQ m g q = (a1, m1, g1, q1) := ⟨_, _, _, _, rfl⟩
        have HRO := Lib.hid (proom_c' (HX.out.below HBW4.out) HPL.out HLO.out HPK.out H12.out)
        rw [ha] at HRO hr
        have hrq := HRQ.out
        rw [ha] at hrq
        simp only at hr hrq
        have HR := Lib.hid hr
        have HRK := Lib.hid hrq
        clear hr hrq HRQ ha
        go_wp2_with (fail)
        refine HRO.out.mono ?_
        rintro e w5 ⟨rfl, hp5⟩
        have HP5 := Lib.hid hp5
        have hnU : ∀ k, w.heap.size ≤ k → ¬ U0 k := fun k hk hu => by have := HLT.out k hu; omega
        have HNU := Lib.hid hnU
        have HB5 := Lib.hid (HB4.out.same (hp5.box (by have := HSZ.out; omega) (hnU _ (Nat.le_refl _))))
        have HX5 := Lib.hid (HX4.out.same (hp5.box HX4.out.lt (hnU _ (Nat.le_of_lt HSZ.out.1))))
        clear hp5 HRO hw4 hnU
        by_cases ka : a1 = 0
        · subst ka
          have hr := HR.out
          simp only [not_true_eq_false, if_false] at hr
          clear HR
          have HD := Lib.hid hr.symm
          clear hr
          obtain ⟨U5, ⟨F5, G5, H5, mb5, pk5, vs5, hb5, hq5, hd5, hu5⟩, hs5, hm5⟩ := HP5.out
          have e5 : w5.cell? ⟨pb, 5, none⟩ = some (.int .i64 q1.reads) := hq5.cells.2.2.2.2.2.1
          have y5 : w5.frozen? ⟨pb, 5, none⟩ = false := hq5.blk.frozen 5
          have hpne : ∀ k, w.heap.size ≤ k → k < w4.heap.size → ¬ H5 k := fun k hk hk4 hh => by
            rcases hm5 k (hu5 k (.inr hh)) with h | h
            · exact HNU.out k hk h
            · omega
          have HPN := Lib.hid hpne
          have hq6 : PoolIn (w5.setCell ⟨pb, 5, none⟩ (.int .i64 (wrap64 (q1.reads + 1)))) H5 pb b lb mb5 pk5 vs5 { q1 with reads := wrapI (q1.reads + 1) } := hq5.set 5 _ pk5 _ (by rw [wrap64_I]; rfl) rfl rfl hq5.picks
          have hs6 : Step H5 w5 (w5.setCell ⟨pb, 5, none⟩ (.int .i64 (wrap64 (q1.reads + 1)))) := (Step.refl _ _).setCell (.inl hq5.hpb) _
          have hn3 : pb ≠ w3.heap.size := fun e => hpne _ (Nat.le_of_lt HSZ.out.1) HSZ.out.2 (e ▸ hq5.hpb)
          have hX6 := HX5.out.far (p := ⟨pb, 5, none⟩) (fun e => hn3 e.symm) (.int .i64 (wrap64 (q1.reads + 1)))
          have hr5 : Reads w5 (.slice xa xs.length xcp) xs := HXR.out.same (fun k hk => HP5.out.box (by have := HXO.out k hk; have := HSZ.out; omega) (HNU.out k (Nat.le_of_lt (HXO.out k hk).1)))
          have hkpb : ∀ k, (Value.slice xa xs.length xcp).ownBlock = some k → k ≠ pb ∧ k ≠ mb5 := fun k hk => by
            have h1 := HXO.out k hk
            have h2 := HSZ.out
            have h3 := hpne k (Nat.le_of_lt h1.1) (by omega)
            exact ⟨fun e => h3 (e ▸ hq5.hpb), fun e => h3 (e ▸ hq5.hmb)⟩
          have hr6 : Reads (w5.setCell ⟨pb, 5, none⟩ (.int .i64 (wrap64 (q1.reads + 1)))) (.slice xa xs.length xcp) xs := hr5.same (fun k hk => Below.heap_setCell _ _ _ _ (hkpb k hk).1)
          have hR5 : w.heap.size ≠ pb ∧ w.heap.size ≠ mb5 := by
            have h3 := hpne w.heap.size (Nat.le_refl _) (by have := HSZ.out; omega)
            exact ⟨fun e => h3 (e ▸ hq5.hpb), fun e => h3 (e ▸ hq5.hmb)⟩
          have hX5m : w3.heap.size ≠ mb5 := fun e => hpne _ (Nat.le_of_lt HSZ.out.1) HSZ.out.2 (e ▸ hq5.hmb)
          have hB6 := HB5.out.far (p := ⟨pb, 5, none⟩) (fun e => hR5.1 e) (.int .i64 (wrap64 (q1.reads + 1)))
          have HKP := Lib.hid hkpb
          have HR5N := Lib.hid hR5
          have HX5M := Lib.hid hX5m
          have hU5n : ∀ k, (Value.slice xa xs.length xcp).ownBlock = some k → ¬ U5 k := fun k hk hu => by
            have h1 := HXO.out k hk
            have h2 := HSZ.out
            rcases hm5 k hu with h | h
            · exact HNU.out k (Nat.le_of_lt h1.1) h
            · omega
          have HU5N := Lib.hid hU5n
          clear hr5 hkpb hR5 hX5m hU5n
          have HB5' := Lib.hid hb5
          have HQ5 := Lib.hid hq5
          have HD5 := Lib.hid hd5
          have HU5 := Lib.hid hu5
          have HS5 := Lib.hid hs5
          have HM5 := Lib.hid hm5
          clear hb5 hd5 hu5 hs5 hm5 hpne hn3 hq5
          go_wp2_with (fail)
          generalize w5.setCell ⟨pb, 5, none⟩ (.int .i64 (wrap64 (q1.reads + 1))) = w6 at *
          have HQ6 := Lib.hid hq6
          have HS6 := Lib.hid hs6
          have HML : Hid (MapL w6 mb5 vs5) := hq6.map
          have HVL : Hid (vs5.length < 1000000000000) := by show _ < _; have h1 := hq6.frs.length; have h2 := hq6.le; have h3 := hq6.most; have h4 : vs5.length = q1.frames.length := h1; have h5 : q1.frames.length ≤ q1.most := h2; have h6 : q1.most ≤ 65536 := h3; omega
          have CS : Hid (OneC ⟨pb, 3, none⟩ (.map (some mb5)) w6 ∧ OneC ⟨w3.heap.size, 0, none⟩ (.int .u32 (xn : Int)) w6 ∧ OneC ⟨w3.heap.size, 1, none⟩ (.int .u64 (xl : Int)) w6 ∧ OneC ⟨w3.heap.size, 2, none⟩ (.int .i64 xk) w6 ∧ OneC ⟨w3.heap.size, 3, none⟩ (.string xh) w6 ∧ OneC ⟨w3.heap.size, 4, none⟩ (.slice xa xs.length xcp) w6) :=
            ⟨hq6.cells.2.2.2.1, hX6.cell 0, hX6.cell 1, hX6.cell 2, hX6.cell 3, hX6.cell 4⟩
          have HX6 := Lib.hid hX6
          have HR6 := Lib.hid hr6
          have HBB6 := Lib.hid hB6
          clear hr6 hB6
          have hn5 := HN1.out
          clear hq6 hs6 e5 y5 hX6
          refine wp_region_late (S := fun W => OneC ⟨pb, 3, none⟩ (.map (some mb5)) W ∧ OneC ⟨w3.heap.size, 0, none⟩ (.int .u32 (xn : Int)) W ∧ OneC ⟨w3.heap.size, 1, none⟩ (.int .u64 (xl : Int)) W ∧ OneC ⟨w3.heap.size, 2, none⟩ (.int .i64 xk) W ∧ OneC ⟨w3.heap.size, 3, none⟩ (.string xh) W ∧ OneC ⟨w3.heap.size, 4, none⟩ (.slice xa xs.length xcp) W) (late := [7]) (by kernel_rfl) CS.out (fun hHeld => ?_)
          refine wpAnyL_move (i := 0) (v := ?_) (by rfl) (by kernel_rfl) (by kernel_rfl) (by kernel_rfl) (by rfl) (by exact fun _ _ _ h => h) (Or.inl ⟨by rfl, ?_⟩) (by assumption) ?_; rotate_left; · (intro w0; go_simp; try with_reducible rfl)
          try simp only [Act.put, List.setIfInBounds_toArray, List.set_cons_zero, List.set_cons_succ]
          refine wpAnyL_move (i := 1) (v := ?_) (by rfl) (by kernel_rfl) (by kernel_rfl) (by kernel_rfl) (by rfl) (by exact fun _ _ _ h => h) (Or.inl ⟨by rfl, ?_⟩) (by assumption) ?_; rotate_left; · (intro w0; go_simp; try with_reducible rfl)
          try simp only [Act.put, List.setIfInBounds_toArray, List.set_cons_zero, List.set_cons_succ]
          refine wpAnyL_move (i := 2) (v := ?_) (by rfl) (by kernel_rfl) (by kernel_rfl) (by kernel_rfl) (by rfl) (by exact fun _ _ _ h => h) (Or.inl ⟨by rfl, ?_⟩) (by assumption) ?_; rotate_left; · (intro w0; go_simp; try with_reducible rfl)
          try simp only [Act.put, List.setIfInBounds_toArray, List.set_cons_zero, List.set_cons_succ]
          refine wpAnyL_load (i := 3) (v := ?_) (by rfl) (by kernel_rfl) (by kernel_rfl) (by kernel_rfl) (by rfl) (by kernel_rfl) (by exact fun _ _ _ h => h) (Or.inl ⟨by rfl, ?_⟩) (by assumption) ?_; rotate_left; · (intro w0 hS0; obtain ⟨hS1, hS2, hS3, hS4, hS5, hS6⟩ := hS0; unfold OneC at hS1 hS2 hS3 hS4 hS5 hS6; go_simp; try with_reducible rfl)
          try simp only [Act.put, List.setIfInBounds_toArray, List.set_cons_zero, List.set_cons_succ]
          refine wpAnyL_move (i := 4) (v := ?_) (by rfl) (by kernel_rfl) (by kernel_rfl) (by kernel_rfl) (by rfl) (by exact fun _ _ _ h => h) (Or.inl ⟨by rfl, ?_⟩) (by assumption) ?_; rotate_left; · (intro w0; go_simp; try with_reducible rfl)
          try simp only [Act.put, List.setIfInBounds_toArray, List.set_cons_zero, List.set_cons_succ]
          refine wpAnyL_load (i := 5) (v := ?_) (by rfl) (by kernel_rfl) (by kernel_rfl) (by kernel_rfl) (by rfl) (by kernel_rfl) (by exact fun _ _ _ h => h) (Or.inl ⟨by rfl, ?_⟩) (by assumption) ?_; rotate_left; · (intro w0 hS0; obtain ⟨hS1, hS2, hS3, hS4, hS5, hS6⟩ := hS0; unfold OneC at hS1 hS2 hS3 hS4 hS5 hS6; go_simp; try with_reducible rfl)
          try simp only [Act.put, List.setIfInBounds_toArray, List.set_cons_zero, List.set_cons_succ]
          refine wpAnyL_move (i := 6) (v := ?_) (by rfl) (by kernel_rfl) (by kernel_rfl) (by kernel_rfl) (by rfl) (by exact fun _ _ _ h => h) (Or.inl ⟨by rfl, ?_⟩) (by assumption) ?_; rotate_left; · (intro w0; go_simp; try with_reducible rfl)
          try simp only [Act.put, List.setIfInBounds_toArray, List.set_cons_zero, List.set_cons_succ]
          refine wpAnyL_late (i := 7) (by kernel_rfl) (by rfl) (by rfl) (fun K hK => ?_)
          refine step_storeL _ (by rfl) _ _ _ (by rfl) mb5 vs5 (by rfl) (HML.out.same (w' := w6.drew) rfl) n (by omega) HVL.out _ (by rfl) (by rfl) ?_; intro w7 hm7 hg7
          refine hK.out _ _ ?_
          clear hK K
          try simp only [Act.put]
          refine wpAny_done (by kernel_rfl) ?_ _
          have hmost : (putL n (⟨⟨xn, xl, xk, xh, xs⟩, 0⟩ : Fr) q1.frames).length ≤ q1.most := by have h1 := putL_length n (⟨⟨xn, xl, xk, xh, xs⟩, 0⟩ : Fr) q1.frames; have h2 := HRK.out.2.2.2 (by trivial); have h3 := HRK.out.1; omega
          have hP7 := (HQ6.out.drewN 1).add (f := ⟨⟨xn, xl, xk, xh, xs⟩, 0⟩) (sv := .slice xa xs.length xcp) (HR6.out.same (fun _ _ => rfl)) HKP.out hg7 hm7 hmost HN1.out HMI.out (by show 0 < _; decide)
          have hs7 : Step H5 w5 w7 := (HS6.out.drewN 1).grown hg7 (fun k hk => by cases hk; exact .inl HQ5.out.hmb)
          have HF7 := Lib.hid (PX.addP HS5.out HM5.out HB5'.out HQ5.out HD5.out HU5.out hP7 hs7 (fun r hr => hr) HU5N.out)
          have hr7 : Reads w7 (.slice xa xs.length xcp) xs := HR6.out.same (fun k hk => hg7.block k (HR6.out.lt k hk) (fun e => (HKP.out k hk).2 (Option.some.inj e)))
          have hX7 : Blk w7 w3.heap.size 84 _ := HX6.out.same (hg7.block _ HX6.out.lt (fun e => HX5M.out (Option.some.inj e)))
          have HB7 : Hid (Blk w7 w.heap.size 84 #[.int .u32 0, .int .u64 0, .int .i64 0, .string ⟨#[]⟩, .slice none 0 0]) := HBB6.out.same (hg7.block _ HBB6.out.lt (fun e => HR5N.out.2 (Option.some.inj e)))
          have HC := Lib.hid (copied_c (x := ⟨xn, xl, xk, xh, xs⟩) hr7 HMI.out.count)
          unfold ShV at HC
          simp only at HC
          have hsz7 : w4.heap.size ≤ w7.heap.size := Nat.le_trans HS5.out.size hs7.size
          have HSZ7 : Hid (w.heap.size < w7.heap.size) := by show _ < _; have := HSZ.out; omega
          have f0 : w7.cell? ⟨w3.heap.size, 0, none⟩ = some (.int .u32 (xn : Int)) := hX7.cell 0
          have f1 : w7.cell? ⟨w3.heap.size, 1, none⟩ = some (.int .u64 (xl : Int)) := hX7.cell 1
          have f2 : w7.cell? ⟨w3.heap.size, 2, none⟩ = some (.int .i64 xk) := hX7.cell 2
          have f3 : w7.cell? ⟨w3.heap.size, 3, none⟩ = some (.string xh) := hX7.cell 3
          have f4 : w7.cell? ⟨w3.heap.size, 4, none⟩ = some (.slice xa xs.length xcp) := hX7.cell 4
          clear hm7 hg7 hP7 hs7 hr7 hX7 hsz7 hmost
          go_wp2_with (fail)
          clear f0 f1 f2 f3 f4
          refine HC.out.mono ?_
          rintro e w8 ⟨yv, rfl, hyr, hyo, hb8⟩
          obtain ⟨ya, ycp, rfl⟩ := hyr.form
          have HB8 := Lib.hid (HB7.out.same (hb8.block _ HB7.out.lt))
          have HF8 := Lib.hid (HF7.out.below hb8)
          have HYR := Lib.hid hyr
          have HYO : Hid (∀ k, (Value.slice ya xs.length ycp).ownBlock = some k → w.heap.size < k) := fun k hk => Nat.lt_of_lt_of_le HSZ7.out (hyo k hk)
          clear HC hyr hyo hb8
          have c0 : w8.cell? ⟨w.heap.size, 0, none⟩ = some (.int .u32 0) := HB8.out.cell 0
          have c1 : w8.cell? ⟨w.heap.size, 1, none⟩ = some (.int .u64 0) := HB8.out.cell 1
          have c2 : w8.cell? ⟨w.heap.size, 2, none⟩ = some (.int .i64 0) := HB8.out.cell 2
          have c3 : w8.cell? ⟨w.heap.size, 3, none⟩ = some (.string ⟨#[]⟩) := HB8.out.cell 3
          have c4 : w8.cell? ⟨w.heap.size, 4, none⟩ = some (.slice none 0 0) := HB8.out.cell 4
          have z0 : w8.frozen? ⟨w.heap.size, 0, none⟩ = false := HB8.out.frozen 0
          have z1 : w8.frozen? ⟨w.heap.size, 1, none⟩ = false := HB8.out.frozen 1
          have z2 : w8.frozen? ⟨w.heap.size, 2, none⟩ = false := HB8.out.frozen 2
          have z3 : w8.frozen? ⟨w.heap.size, 3, none⟩ = false := HB8.out.frozen 3
          have z4 : w8.frozen? ⟨w.heap.size, 4, none⟩ = false := HB8.out.frozen 4
          go_wp2_with (fail)
          (try simp only [Exit.inBlock, Exit.then])
          have B9' := (HB8.out).set5 (v0 := .int .u32 (xn : Int)) (v1 := .int .u64 (xl : Int)) (v2 := .int .i64 xk) (v3 := .string xh) (v4 := .slice ya xs.length ycp)
          have t0 := B9'.cell 0
          have t1 := B9'.cell 1
          have t2 := B9'.cell 2
          have t3 := B9'.cell 3
          have t4 := B9'.cell 4
          simp at t0 t1 t2 t3 t4
          refine bodyPost_ret (v := .tuple #[.agg #[.int .u32 (xn : Int), .int .u64 (xl : Int), .int .i64 xk, .string xh, .slice ya xs.length ycp], .int .i64 0]) (by simp [results, Tryz.results24, go_sem, t0, t1, t2, t3, t4]) rfl ?_
          exact ⟨.slice ya xs.length ycp, by rw [HD.out]; rfl, by rw [HD.out]; exact reads_set5 HYR.out (fun k hk => by have := HYO.out k hk; omega), fun k hk => Nat.le_of_lt (HYO.out k hk), by rw [HD.out]; exact (HF8.out.own2 HBW4.out (step_set5 (R := w.heap.size) (K := fun r => r = w.heap.size) rfl _ _ _ _ _) (fun r hr => ⟨by omega, by have := HSZ.out; omega, fun hu => by rcases hu with hu | hu; exact HNU.out r (by omega) hu; have := HXO.out r hu; omega⟩) (fun r hr => by rcases hr with hr | hr; exact .inl hr; exact .inr (Nat.le_of_lt (HXO.out r hr).1))).widen HU0.out⟩
        · have hr := HR.out
          rw [if_pos ka] at hr
          have HD := Lib.hid hr.symm
          clear HR hr
          have c0 : w5.cell? ⟨w.heap.size, 0, none⟩ = some (.int .u32 0) := HB5.out.cell 0
          have c1 : w5.cell? ⟨w.heap.size, 1, none⟩ = some (.int .u64 0) := HB5.out.cell 1
          have c2 : w5.cell? ⟨w.heap.size, 2, none⟩ = some (.int .i64 0) := HB5.out.cell 2
          have c3 : w5.cell? ⟨w.heap.size, 3, none⟩ = some (.string ⟨#[]⟩) := HB5.out.cell 3
          have c4 : w5.cell? ⟨w.heap.size, 4, none⟩ = some (.slice none 0 0) := HB5.out.cell 4
          have z0 : w5.frozen? ⟨w.heap.size, 0, none⟩ = false := HB5.out.frozen 0
          have z1 : w5.frozen? ⟨w.heap.size, 1, none⟩ = false := HB5.out.frozen 1
          have z2 : w5.frozen? ⟨w.heap.size, 2, none⟩ = false := HB5.out.frozen 2
          have z3 : w5.frozen? ⟨w.heap.size, 3, none⟩ = false := HB5.out.frozen 3
          have z4 : w5.frozen? ⟨w.heap.size, 4, none⟩ = false := HB5.out.frozen 4
          go_wp2_with (fail)
          (try simp only [Exit.inBlock, Exit.then])
          have B9' := (HB5.out).set5 (v0 := .int .u32 0) (v1 := .int .u64 0) (v2 := .int .i64 0) (v3 := .string ⟨#[]⟩) (v4 := .slice none 0 0)
          have t0 := B9'.cell 0
          have t1 := B9'.cell 1
          have t2 := B9'.cell 2
          have t3 := B9'.cell 3
          have t4 := B9'.cell 4
          simp at t0 t1 t2 t3 t4
          refine bodyPost_ret (v := .tuple #[.agg #[.int .u32 0, .int .u64 0, .int .i64 0, .string ⟨#[]⟩, .slice none 0 0], .int .i64 a1]) (by simp [results, Tryz.results24, go_sem, t0, t1, t2, t3, t4]) rfl ?_
          exact get_none HD.out rfl ((HP5.out.own HBW4.out (step_set5 ⟨Nat.le_refl _, by have := HSZ.out; omega⟩ _ _ _ _ _) HLT.out).widen HU0.out)
      · have hr := HR.out
        rw [if_pos kx] at hr
        have HD := Lib.hid hr.symm
        clear HR hr
        have c0 : w4.cell? ⟨w.heap.size, 0, none⟩ = some (.int .u32 0) := HB4.out.cell 0
        have c1 : w4.cell? ⟨w.heap.size, 1, none⟩ = some (.int .u64 0) := HB4.out.cell 1
        have c2 : w4.cell? ⟨w.heap.size, 2, none⟩ = some (.int .i64 0) := HB4.out.cell 2
        have c3 : w4.cell? ⟨w.heap.size, 3, none⟩ = some (.string ⟨#[]⟩) := HB4.out.cell 3
        have c4 : w4.cell? ⟨w.heap.size, 4, none⟩ = some (.slice none 0 0) := HB4.out.cell 4
        have z0 : w4.frozen? ⟨w.heap.size, 0, none⟩ = false := HB4.out.frozen 0
        have z1 : w4.frozen? ⟨w.heap.size, 1, none⟩ = false := HB4.out.frozen 1
        have z2 : w4.frozen? ⟨w.heap.size, 2, none⟩ = false := HB4.out.frozen 2
        have z3 : w4.frozen? ⟨w.heap.size, 3, none⟩ = false := HB4.out.frozen 3
        have z4 : w4.frozen? ⟨w.heap.size, 4, none⟩ = false := HB4.out.frozen 4
        go_wp2_with (fail)
        (try simp only [Exit.inBlock, Exit.then])
        have B9' := (HB4.out).set5 (v0 := .int .u32 0) (v1 := .int .u64 0) (v2 := .int .i64 0) (v3 := .string ⟨#[]⟩) (v4 := .slice none 0 0)
        have t0 := B9'.cell 0
        have t1 := B9'.cell 1
        have t2 := B9'.cell 2
        have t3 := B9'.cell 3
        have t4 := B9'.cell 4
        simp at t0 t1 t2 t3 t4
        refine bodyPost_ret (v := .tuple #[.agg #[.int .u32 0, .int .u64 0, .int .i64 0, .string ⟨#[]⟩, .slice none 0 0], .int .i64 xc]) (by simp [results, Tryz.results24, go_sem, t0, t1, t2, t3, t4]) rfl ?_
        exact get_none HD.out rfl ((((HX.out.below HBW4.out).belowP (Below.refl _ _)).own HBW4.out (step_set5 ⟨Nat.le_refl _, by have := HSZ.out; omega⟩ _ _ _ _ _) HLT.out).widen HU0.out)
    · -- it is
      rw [hf] at hr
      rw [hv] at HLK
      simp only [Option.getD_some, Option.isSome_some] at HLK hr
      obtain ⟨hk, ⟨sv, hvv, hrd, hso⟩, hmild, hdb⟩ := hfr
      simp only at hvv hrd hmild hdb
      subst hvv
      obtain ⟨⟨xn, xl, xk, xh, xs⟩, fd⟩ := f
      unfold FrV at HLK
      simp only at HLK hrd hr hmild
      obtain ⟨xa, xcp, rfl⟩ := hrd.form
      obtain ⟨w2, hw2⟩ : ∃ w2, (w.alloc (.cells #[.int .u32 0, .int .u64 0, .int .i64 0, .string ⟨#[]⟩, .slice none 0 0] 84)).alloc (.cells #[.int .u32 (xn : Int), .int .u64 (xl : Int), .int .i64 xk, .string xh, .slice xa xs.length xcp, .int .u64 (fd : Int)] 156) = w2 := ⟨_, rfl⟩
      have hb2 : Below w.heap.size w w2 := by rw [← hw2]; exact hbw.alloc (by simp) _
      have hB2 := hB0.alloc (.cells #[.int .u32 (xn : Int), .int .u64 (xl : Int), .int .i64 xk, .string xh, .slice xa xs.length xcp, .int .u64 (fd : Int)] 156)
      have hF2 := Blk.new (w.alloc (.cells #[.int .u32 0, .int .u64 0, .int .i64 0, .string ⟨#[]⟩, .slice none 0 0] 84)) 156 #[.int .u32 (xn : Int), .int .u64 (xl : Int), .int .i64 xk, .string xh, .slice xa xs.length xcp, .int .u64 (fd : Int)]
      rw [hw2] at hB2 hF2
      have e1 : (w.alloc (.cells #[.int .u32 0, .int .u64 0, .int .i64 0, .string ⟨#[]⟩, .slice none 0 0] 84)).heap.size = w.heap.size + 1 := by simp
      rw [e1] at hF2
      have f0 : w2.cell? ⟨w.heap.size + 1, 0, none⟩ = some (.int .u32 (xn : Int)) := hF2.cell 0
      have f1 : w2.cell? ⟨w.heap.size + 1, 1, none⟩ = some (.int .u64 (xl : Int)) := hF2.cell 1
      have f2 : w2.cell? ⟨w.heap.size + 1, 2, none⟩ = some (.int .i64 xk) := hF2.cell 2
      have f3 : w2.cell? ⟨w.heap.size + 1, 3, none⟩ = some (.string xh) := hF2.cell 3
      have f4 : w2.cell? ⟨w.heap.size + 1, 4, none⟩ = some (.slice xa xs.length xcp) := hF2.cell 4
      have HC := Lib.hid (copied_c (x := ⟨xn, xl, xk, xh, xs⟩) (hrd.below hb2) hmild.count)
      unfold ShV at HC
      simp only at HC
      have HB2 := Lib.hid hB2
      have HBW2 := Lib.hid hb2
      have HD := Lib.hid hr.symm
      have HSZ : Hid (w.heap.size < w2.heap.size) := hB2.lt
      clear h1 h2 h3 h4 hv hf hb2 hB2 hF2 hbw hB0 hp hl hpk h12 hrd hmild hdb hso hr e1
      have HW2 := Lib.hid hw2
      clear hw2 f0 f1 f2 f3 f4
      go_enter Tryz.func24, Tryz.ntmps24
      go_wp2_with (fail)
      rw [HW2.out]
      clear HLK c3 HW2
      refine HC.out.mono ?_
      rintro e w3 ⟨yv, rfl, hyr, hyo, hb3⟩
      obtain ⟨ya, ycp, rfl⟩ := hyr.form
      have HB3 := Lib.hid (HB2.out.same (hb3.block _ HB2.out.lt))
      have HBW3 : Hid (Below w.heap.size w w3) := HBW2.out.trans (hb3.mono HBW2.out.size)
      have HYR := Lib.hid hyr
      have HYO : Hid (∀ k, (Value.slice ya xs.length ycp).ownBlock = some k → w.heap.size < k) := fun k hk => Nat.lt_of_lt_of_le HSZ.out (hyo k hk)
      have HSZ3 : Hid (w.heap.size < w3.heap.size) := Nat.lt_of_lt_of_le HSZ.out hb3.size
      clear HC hyr hyo hb3
      have c0 : w3.cell? ⟨w.heap.size, 0, none⟩ = some (.int .u32 0) := HB3.out.cell 0
      have c1 : w3.cell? ⟨w.heap.size, 1, none⟩ = some (.int .u64 0) := HB3.out.cell 1
      have c2 : w3.cell? ⟨w.heap.size, 2, none⟩ = some (.int .i64 0) := HB3.out.cell 2
      have c3 : w3.cell? ⟨w.heap.size, 3, none⟩ = some (.string ⟨#[]⟩) := HB3.out.cell 3
      have c4 : w3.cell? ⟨w.heap.size, 4, none⟩ = some (.slice none 0 0) := HB3.out.cell 4
      have z0 : w3.frozen? ⟨w.heap.size, 0, none⟩ = false := HB3.out.frozen 0
      have z1 : w3.frozen? ⟨w.heap.size, 1, none⟩ = false := HB3.out.frozen 1
      have z2 : w3.frozen? ⟨w.heap.size, 2, none⟩ = false := HB3.out.frozen 2
      have z3 : w3.frozen? ⟨w.heap.size, 3, none⟩ = false := HB3.out.frozen 3
      have z4 : w3.frozen? ⟨w.heap.size, 4, none⟩ = false := HB3.out.frozen 4
      go_wp2_with (fail)
      (try simp only [Exit.inBlock, Exit.then])
      have B9' := (HB3.out).set5 (v0 := .int .u32 (xn : Int)) (v1 := .int .u64 (xl : Int)) (v2 := .int .i64 xk) (v3 := .string xh) (v4 := .slice ya xs.length ycp)
      have t0 := B9'.cell 0
      have t1 := B9'.cell 1
      have t2 := B9'.cell 2
      have t3 := B9'.cell 3
      have t4 := B9'.cell 4
      simp at t0 t1 t2 t3 t4
      refine bodyPost_ret (v := .tuple #[.agg #[.int .u32 (xn : Int), .int .u64 (xl : Int), .int .i64 xk, .string xh, .slice ya xs.length ycp], .int .i64 0]) (by simp [results, Tryz.results24, go_sem, t0, t1, t2, t3, t4]) rfl ?_
      exact ⟨.slice ya xs.length ycp, by rw [HD.out]; rfl, by rw [HD.out]; exact reads_set5 HYR.out (fun k hk => by have := HYO.out k hk; omega), fun k hk => Nat.le_of_lt (HYO.out k hk), by rw [HD.out]; exact (((HX.out.below HBW3.out).belowP (Below.refl _ _)).own HBW3.out (step_set5 (R := w.heap.size) (K := fun r => w.heap.size ≤ r ∧ r < w3.heap.size) ⟨Nat.le_refl _, HSZ3.out⟩ _ _ _ _ _) HLT.out).widen HU0.out⟩
end
end Go.Proofs.YtnghgkaoopcglaaGreat
