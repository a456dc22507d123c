/-
  The walk of a pool's Put.
-/
import Derived.Test.YtnghgkaoopcglaaGreatPG
namespace Go.Proofs.YtnghgkaoopcglaaGreat
open Go.RowKit
attribute [local go_sem ↓] Go.wp_at_zero Go.wp_at_succ

theorem Po.put_ne {q : Po} {x : Sh} {d : Nat} (h : ¬ d = 0) : q.put x d = { q with frames := putL x.num ⟨x, d⟩ q.frames } := by unfold Po.put; rw [if_neg h]
theorem heap_alloc_some {W : World} {o x : Obj} {r : Nat} (h : W.heap[r]? = some x) : (W.alloc o).heap[r]? = some x := (Below.heap_alloc _ _ _ (Array.getElem?_eq_some_iff.1 h).1).trans h
/-- the pool takes a new row, and the function's own boxes are turned -/
theorem PX.addK {w w3 w4 w8 : World} {U0 U4 F G H H' K : Nat → Prop} {b lb pb mb mb0 : Nat} {m : Dk} {g : Lg} {q' q : Po} {pk pk0 : Value} {vs vs0 : List (Nat × Value)} (hb : Below w.heap.size w w3) (hs4 : Step U0 w3 w4) (hm4 : More U0 U4 w3) (hB : BothIn w4 F G b lb m g) (hD : ∀ r, H r → ¬ (F r ∨ G r)) (_hQ : PoolIn w4 H pb b lb mb0 pk0 vs0 q) (hU : ∀ r, (F r ∨ G r) ∨ H r → U4 r)
    (hP : PoolIn w8 H' pb b lb mb pk vs q') (hs : Step (fun r => H r ∨ K r) w4 w8) (hH : ∀ r, H' r → H r ∨ w4.heap.size ≤ r) (hK : ∀ r, K r → w.heap.size ≤ r ∧ r < w3.heap.size ∧ ¬ U0 r) : PPost w U0 b lb pb m g q' w8 := by
  have hl : ∀ r, F r ∨ G r → r < w4.heap.size := fun r hr => by
    rcases hr with hr | hr
    · exact hB.dsk.lt r hr
    · exact hB.wal.lt r hr
  have hz1 := hb.size
  have hz2 := hs4.size
  have hz3 := hs.size
  refine ⟨fun r => (F r ∨ G r) ∨ H' r, ⟨F, G, H', mb, pk, vs, hB.keep (fun r hf => hs.block r (hl r hf) (fun hh => ?_)) hs.size, hP, fun r hh hf => ?_, fun _ h => h⟩, ⟨hs.os.trans (hs4.os.trans hb.os), hs.tape.trans (hs4.tape.trans hb.tape), hs.output.trans (hs4.output.trans hb.output), by omega, fun r hrs hn => ?_⟩, fun r hh => ?_⟩
  · rcases hh with hh | hh
    · exact hD r hh hf
    · obtain ⟨k1, k2, k3⟩ := hK r hh
      rcases hm4 r (hU r (.inl hf)) with h | h
      · exact k3 h
      · omega
  · rcases hH r hh with h | h
    · exact hD r h hf
    · have := hl r hf; omega
  · refine (hs.block r (by omega) (fun hh => ?_)).trans ((hs4.block r (by omega) hn).trans (hb.block r hrs))
    rcases hh with hh | hh
    · rcases hm4 r (hU r (.inr hh)) with h | h
      · exact hn h
      · omega
    · have := (hK r hh).1; omega
  · have : U4 r ∨ w4.heap.size ≤ r := by
      rcases hh with hh | hh
      · exact .inl (hU r (.inl hh))
      · rcases hH r hh with h | h
        · exact .inl (hU r (.inr h))
        · exact .inr h
    rcases this with h | h
    · rcases hm4 r h with h | h
      · exact .inl h
      · exact .inr (by omega)
    · exact .inr (by omega)
theorem Blk.set6 {w : World} {r : Nat} {t : TypeId} {x0 x1 x2 x3 x4 x5 v0 v1 v2 v3 v4 : Value} (h : Blk w r t #[x0, x1, x2, x3, x4, x5]) :
    Blk (((((w.setCell ⟨r, 0, none⟩ v0).setCell ⟨r, 1, none⟩ v1).setCell ⟨r, 2, none⟩ v2).setCell ⟨r, 3, none⟩ v3).setCell ⟨r, 4, none⟩ v4) r t #[v0, v1, v2, v3, v4, x5] := by
  have := ((((h.set_ 0 v0).set_ 1 v1).set_ 2 v2).set_ 3 v3).set_ 4 v4
  simpa using this
section
variable {w : World} {U : Nat → Prop} {b lb pb : Nat} {m : Dk} {g : Lg} {q : Po}
set_option maxRecDepth 100000 in
set_option maxHeartbeats 8000000 in
theorem pput_c (h : PX w U b lb pb m g q) (hp : PlanOk m) (hl : m.loose.length ≤ 1000000) (hpk : q.picks = []) (h12 : q.frames.length ≤ 12) (x : Sh) (sv : Value) (hrx : Reads w sv x.slots) (hso : ∀ k, sv.ownBlock = some k → ¬ U k) (hmx : x.mild) :
    Calls Tryz.prog 22 #[.pointer (some ⟨pb, 0, none⟩), ShV x sv] w fun e w' => e = .returned (.int .i64 (putQ m g q x).1) ∧ PPost w U b lb pb (putQ m g q x).2.1 (putQ m g q x).2.2.1 (putQ m g q x).2.2.2 w' := by
  obtain ⟨U0, hx0, hU0, hlt0⟩ := h.fit
  have HX := Lib.hid hx0
  have HU0 := Lib.hid hU0
  have HLT := Lib.hid hlt0
  clear h hU0 hlt0
  obtain ⟨F, G, H, mb, pk, vs, h1, h2, h3, h4⟩ := hx0
  obtain ⟨r, hr⟩ : ∃ r, putQ m g q x = r := ⟨_, rfl⟩
  rw [hr]
  unfold putQ at hr
  obtain ⟨xn, xl, xk, xh, xs⟩ := x
  simp only at hrx
  obtain ⟨sa, sc, rfl⟩ := hrx.form
  have HSO : Hid (∀ k, (Value.slice sa xs.length sc).ownBlock = some k → ¬ U0 k) := fun k hk hu => hso k hk (HU0.out k hu)
  clear hso
  have hnum := hmx.num
  have hlsn := hmx.lsn
  simp only at hnum hlsn
  have hbw : Below w.heap.size w (w.alloc (.cells #[.int .u32 (xn : Int), .int .u64 (xl : Int), .int .i64 xk, .string xh, .slice sa xs.length sc] 84)) := (Below.refl _ _).alloc (Nat.le_refl _) _
  have hB0 := Blk.new w 84 #[.int .u32 (xn : Int), .int .u64 (xl : Int), .int .i64 xk, .string xh, .slice sa xs.length sc]
  by_cases k0 : xn < 1 ∨ 2048 < xn
  · rw [if_pos k0] at hr
    have HD := Lib.hid hr.symm
    have hk : ((xn : Int) < 1) ∨ (¬ ((xn : Int) < 1) ∧ (2048 : Int) < (xn : Int)) := by omega
    unfold ShV
    clear h1 h2 h3 h4 hr hbw hB0 k0 hrx hmx
    rcases hk with k1 | ⟨k1, k2⟩
    · go_enter Tryz.func22, Tryz.ntmps22
      go_wp2
      go_ret
      rw [HD.out]
      exact ⟨rfl, (HX.out.belowP ((Below.refl _ _).alloc (Nat.le_refl _) _)).widen HU0.out⟩
    · go_enter Tryz.func22, Tryz.ntmps22
      go_wp2
      go_ret
      rw [HD.out]
      exact ⟨rfl, (HX.out.belowP ((Below.refl _ _).alloc (Nat.le_refl _) _)).widen HU0.out⟩
  · rw [if_neg k0] at hr
    have hn1 : 1 ≤ xn ∧ xn ≤ 2048 := by omega
    have hk1 : ¬ ((xn : Int) < 1) := by omega
    have hk2 : ¬ ((2048 : Int) < (xn : Int)) := by omega
    clear k0
    have HENC := Lib.hid (pencode_c (hrx.below hbw) hmx)
    obtain ⟨be, ec, hen⟩ : ∃ be ec, (⟨xn, xl, xk, xh, xs⟩ : Sh).encE = (be, ec) := ⟨_, _, rfl⟩
    rw [hen] at HENC hr
    unfold ShV at HENC ⊢
    simp only at HENC
    have HB0 := Lib.hid hB0
    have HBW := Lib.hid hbw
    have HPI := Lib.hid h2
    have HPL := Lib.hid hp
    have HLO := Lib.hid hl
    have HPK := Lib.hid hpk
    have H12 := Lib.hid h12
    have HRX := Lib.hid hrx
    have HMI := Lib.hid hmx
    have HN1 := Lib.hid hn1
    clear hB0 hbw h1 h2 h3 h4 hp hl hpk h12 hrx hmx hen hn1
    have HR := Lib.hid hr
    clear hr
    go_enter Tryz.func22, Tryz.ntmps22
    go_wp2_with (fail)
    refine HENC.out.mono ?_
    rintro e w2 ⟨rfl, hb2⟩
    have HB2 := Lib.hid (HB0.out.same (hb2.block _ HB0.out.lt))
    have HBW2 : Hid (Below w.heap.size w w2) := HBW.out.trans (hb2.mono HBW.out.size)
    clear HENC hb2 HB0 HBW
    by_cases kx : ec = 0
    · subst kx
      have hr := HR.out
      simp only [ne_eq, not_true_eq_false, if_false] at hr
      clear HR
      have HP2 := Lib.hid (HPI.out.below HBW2.out)
      have HLK : ∀ W : World, W.heap[mb]? = w2.heap[mb]? → Hid ((Instr.lookup 158 (.map (some mb)) (.int .u32 (xn : Int)) true).run Tryz.prog W = .ok (.tuple #[(getL xn vs).getD _, .bool (getL xn vs).isSome]) W) := fun W hW => (HP2.out.map.same hW).look xn (by have := HN1.out; omega) (zero_frame W)
      obtain ⟨mo, hmo⟩ : ∃ mo, w2.heap[mb]? = some mo := ⟨_, Array.getElem?_eq_getElem HP2.out.map.lt⟩
      have HLM : ∀ W : World, W.heap[mb]? = some mo → W.heap[mb]? = w2.heap[mb]? := fun W hW => hW.trans hmo.symm
      have CS : Hid (OneC ⟨pb, 3, none⟩ (.map (some mb)) w2 ∧ OneC ⟨w.heap.size, 0, none⟩ (.int .u32 (xn : Int)) w2 ∧ w2.heap[mb]? = some mo) := ⟨HP2.out.cells.2.2.2.1, HB2.out.cell 0, hmo⟩
      have HSZ2 : Hid (w.heap.size < w2.heap.size) := HB2.out.lt
      rcases HP2.out.frs.get xn with ⟨hv, hf⟩ | ⟨v, f, hv, hf, hfr⟩
      · rw [hf] at hr
        have HLK2 : ∀ W : World, W.heap[mb]? = some mo → Hid ((Instr.lookup 158 (.map (some mb)) (.int .u32 (xn : Int)) true).run Tryz.prog W = .ok (.tuple #[.agg #[.int .u32 0, .int .u64 0, .int .i64 0, .string ⟨#[]⟩, .slice none 0 0, .int .u64 0], .bool false]) W) := fun W hW => by
          have := (HLK W (HLM W hW)).out
          rw [hv] at this
          exact this
        have HR := Lib.hid hr
        clear HLK HLM hmo hr hv hf
        go_wp2_with (fail)
        refine wp_region_late (S := fun W => OneC ⟨pb, 3, none⟩ (.map (some mb)) W ∧ OneC ⟨w.heap.size, 0, none⟩ (.int .u32 (xn : Int)) W ∧ W.heap[mb]? = some mo) (late := [11]) (by kernel_rfl) CS.out (fun hHeld => ?_)
        refine wpAnyL_move (i := 0) (v := ?_) (by rfl) (by kernel_rfl) (by kernel_rfl) (by kernel_rfl) (by rfl) (by exact fun _ _ _ h => h) (Or.inl ⟨by rfl, ?_⟩) (by assumption) ?_; rotate_left; · (intro w0; go_simp; try with_reducible rfl)
        try simp only [Act.put, List.setIfInBounds_toArray, List.set_cons_zero, List.set_cons_succ]
        refine wpAnyL_move (i := 1) (v := ?_) (by rfl) (by kernel_rfl) (by kernel_rfl) (by kernel_rfl) (by rfl) (by exact fun _ _ _ h => h) (Or.inl ⟨by rfl, ?_⟩) (by assumption) ?_; rotate_left; · (intro w0; go_simp; try with_reducible rfl)
        try simp only [Act.put, List.setIfInBounds_toArray, List.set_cons_zero, List.set_cons_succ]
        refine wpAnyL_move (i := 2) (v := ?_) (by rfl) (by kernel_rfl) (by kernel_rfl) (by kernel_rfl) (by rfl) (by exact fun _ _ _ h => h) (Or.inl ⟨by rfl, ?_⟩) (by assumption) ?_; rotate_left; · (intro w0; go_simp; try with_reducible rfl)
        try simp only [Act.put, List.setIfInBounds_toArray, List.set_cons_zero, List.set_cons_succ]
        refine wpAnyL_loadT 13 (i := 3) (v := ?_) (by rfl) (by kernel_rfl) (by kernel_rfl) (by kernel_rfl) (by rfl) (by kernel_rfl) (by kernel_rfl) (by exact fun _ _ _ h => h) (Or.inl ⟨by rfl, ?_⟩) (by assumption) ?_; rotate_left; · (intro w0 hS0; obtain ⟨hS1, hS2, hS3⟩ := hS0; unfold OneC at hS1 hS2; go_simp; try with_reducible rfl)
        try simp only [Act.put, List.setIfInBounds_toArray, List.set_cons_zero, List.set_cons_succ]
        refine wpAnyL_move (i := 4) (v := ?_) (by rfl) (by kernel_rfl) (by kernel_rfl) (by kernel_rfl) (by rfl) (by exact fun _ _ _ h => h) (Or.inl ⟨by rfl, ?_⟩) (by assumption) ?_; rotate_left; · (intro w0; go_simp; try with_reducible rfl)
        try simp only [Act.put, List.setIfInBounds_toArray, List.set_cons_zero, List.set_cons_succ]
        refine wpAnyL_loadT 13 (i := 5) (v := ?_) (by rfl) (by kernel_rfl) (by kernel_rfl) (by kernel_rfl) (by rfl) (by kernel_rfl) (by kernel_rfl) (by exact fun _ _ _ h => h) (Or.inl ⟨by rfl, ?_⟩) (by assumption) ?_; rotate_left; · (intro w0 hS0; obtain ⟨hS1, hS2, hS3⟩ := hS0; unfold OneC at hS1 hS2; go_simp; try with_reducible rfl)
        try simp only [Act.put, List.setIfInBounds_toArray, List.set_cons_zero, List.set_cons_succ]
        refine wpAnyL_each (rs := [6, 10]) (by kernel_rfl) (by simp) ?_
        refine EachL.cons (by rfl) (by rfl) (fun K hK => ?_) ?_
        · have hL := (HLK2 _ hHeld.2.2).out
          go_simp
          refine hK.out _ _ hHeld (fun hHeld => ?_)
          clear hK K
          try simp only [Act.put, List.setIfInBounds_toArray, List.set_cons_zero, List.set_cons_succ]
          refine wpAnyL_move (i := 7) (v := ?_) (by rfl) (by kernel_rfl) (by kernel_rfl) (by kernel_rfl) (by rfl) (by exact fun _ _ _ h => h) (Or.inl ⟨by rfl, ?_⟩) (by assumption) ?_; rotate_left; · (intro w0; go_simp; try with_reducible rfl)
          try simp only [Act.put, List.setIfInBounds_toArray, List.set_cons_zero, List.set_cons_succ]
          refine wpAnyL_move (i := 8) (v := ?_) (by rfl) (by kernel_rfl) (by kernel_rfl) (by kernel_rfl) (by rfl) (by exact fun _ _ _ h => h) (Or.inl ⟨by rfl, ?_⟩) (by assumption) ?_; rotate_left; · (intro w0; go_simp; try with_reducible rfl)
          try simp only [Act.put, List.setIfInBounds_toArray, List.set_cons_zero, List.set_cons_succ]
          refine wpAnyL_move (i := 9) (v := ?_) (by rfl) (by kernel_rfl) (by kernel_rfl) (by kernel_rfl) (by rfl) (by exact fun _ _ _ h => h) (Or.inl ⟨by rfl, ?_⟩) (by assumption) ?_; rotate_left; · (intro w0; go_simp; try with_reducible rfl)
          try simp only [Act.put, List.setIfInBounds_toArray, List.set_cons_zero, List.set_cons_succ]
          refine wpAnyL_each (rs := [10]) (by kernel_rfl) (by simp) ?_
          refine EachL.cons (by rfl) (by rfl) (fun K hK => ?_) ?_
          · go_simp
            refine hK.out _ _ ⟨hHeld.1.alloc _, hHeld.2.1.alloc _, heap_alloc_some hHeld.2.2⟩ (fun hHeld => ?_)
            clear hK K
            try simp only [Act.put, List.setIfInBounds_toArray, List.set_cons_zero, List.set_cons_succ]
            refine wpAnyL_late (i := 11) (by kernel_rfl) (by rfl) (by rfl) (fun K hK => ?_)
            go_simp
            refine hK.out _ _ ?_
            clear hK K
            try simp only [Act.put, List.setIfInBounds_toArray, List.set_cons_zero, List.set_cons_succ]
            refine wpAny_move (i := 12) (v := ?_) (by rfl) (by kernel_rfl) (by kernel_rfl) (by kernel_rfl) (by exact fun _ _ _ h => h) (Or.inl ⟨by rfl, ?_⟩) ?_; rotate_left; · (intro w0; go_simp; try with_reducible rfl)
            try simp only [Act.put, List.setIfInBounds_toArray, List.set_cons_zero, List.set_cons_succ]
            refine wpAny_done (by kernel_rfl) ?_ _
            have hF3 : Blk ((w2.alloc (.cells #[.int .u32 0, .int .u64 0, .int .i64 0, .string ⟨#[]⟩, .slice none 0 0, .int .u64 0] 156)).drew) w2.heap.size 156 #[.int .u32 0, .int .u64 0, .int .i64 0, .string ⟨#[]⟩, .slice none 0 0, .int .u64 0] := Blk.new w2 _ _
            have hb3 : Below w2.heap.size w2 ((w2.alloc (.cells #[.int .u32 0, .int .u64 0, .int .i64 0, .string ⟨#[]⟩, .slice none 0 0, .int .u64 0] 156)).drew) := ((Below.refl _ _).alloc (Nat.le_refl _) _).trans ((below_drewN _ 1).mono (by simp))
            generalize (w2.alloc (.cells #[.int .u32 0, .int .u64 0, .int .i64 0, .string ⟨#[]⟩, .slice none 0 0, .int .u64 0] 156)).drew = w3 at *
            have HF3 := Lib.hid hF3
            have HBW3 : Hid (Below w.heap.size w w3) := HBW2.out.trans (hb3.mono HBW2.out.size)
            have HB3 := Lib.hid (HB2.out.same (hb3.block _ HB2.out.lt))
            have HSZ : Hid (w.heap.size < w2.heap.size ∧ w2.heap.size < w3.heap.size) := ⟨HSZ2.out, hF3.lt⟩
            clear hF3 hb3 hHeld
            have HRO := Lib.hid (proom_c' (HX.out.below HBW3.out) HPL.out HLO.out HPK.out H12.out)
            obtain ⟨a1, m1, g1, q1, ha⟩ : ∃ a1 m1 g1 q1, roomQ m g q = (a1, m1, g1, q1) := ⟨_, _, _, _, rfl⟩
            have hrq := roomQ_keep m g q HP2.out.rising HPK.out HP2.out.le HP2.out.most1
            rw [ha] at HRO hrq
            have hr := HR.out
            simp only [ha] at hr hrq
            have HRK := Lib.hid hrq
            have HR2 := Lib.hid hr
            clear hr hrq ha HLK2 CS
            go_wp2_with (fail)
            refine HRO.out.mono ?_
            rintro e w4 ⟨rfl, hp4⟩
            have hnU : ∀ k, w.heap.size ≤ k → ¬ U0 k := fun k hk hu => by have := HLT.out k hu; omega
            have HNU := Lib.hid hnU
            have HP4 := Lib.hid hp4
            have HB4 := Lib.hid (HB3.out.same (hp4.box (by have := HSZ.out; omega) (hnU _ (Nat.le_refl _))))
            have HF4 := Lib.hid (HF3.out.same (hp4.box HSZ.out.2 (hnU _ (Nat.le_of_lt HSZ.out.1))))
            clear hp4 HRO hnU
            by_cases ka : a1 = 0
            · subst ka
              have hr := HR2.out
              simp only [not_true_eq_false, if_false] at hr
              have HD := Lib.hid hr.symm
              clear HR2 hr
              have HLEN : Hid (∀ f : Fr, (putL xn f q1.frames).length ≤ q1.most) := fun f => by have h1 := putL_length xn f q1.frames; have h2 := HRK.out.2.2.2 (by trivial); have h3 := HRK.out.1; omega
              have g5 : w4.cell? ⟨w2.heap.size, 5, none⟩ = some (.int .u64 0) := HF4.out.cell 5
              have z5 : w4.frozen? ⟨w2.heap.size, 5, none⟩ = false := HF4.out.frozen 5
              obtain ⟨U4, ⟨F4, G4, H4, mb4, pk4, vs4, hB4, hQ4, hD4, hU4⟩, hs4, hm4⟩ := HP4.out
              have a0 : w4.cell? ⟨w.heap.size, 0, none⟩ = some (.int .u32 (xn : Int)) := HB4.out.cell 0
              have a1 : w4.cell? ⟨w.heap.size, 1, none⟩ = some (.int .u64 (xl : Int)) := HB4.out.cell 1
              have a2 : w4.cell? ⟨w.heap.size, 2, none⟩ = some (.int .i64 xk) := HB4.out.cell 2
              have a3 : w4.cell? ⟨w.heap.size, 3, none⟩ = some (.string xh) := HB4.out.cell 3
              have a4 : w4.cell? ⟨w.heap.size, 4, none⟩ = some (.slice sa xs.length sc) := HB4.out.cell 4
              have hrx4 : Reads w4 (.slice sa xs.length sc) xs := (HRX.out.below HBW3.out).same (fun k hk => HP4.out.box (by have := HRX.out.lt k hk; have := HSZ.out; omega) (HSO.out k hk))
              have hnb : w.heap.size ≠ w2.heap.size := by have := HSZ.out; omega
              have hF5 : Blk (w4.setCell ⟨w2.heap.size, 5, none⟩ (.int .u64 (max (xl : Int) 1))) w2.heap.size 156 #[.int .u32 0, .int .u64 0, .int .i64 0, .string ⟨#[]⟩, .slice none 0 0, .int .u64 (max (xl : Int) 1)] := by have := HF4.out.set_ 5 (.int .u64 (max (xl : Int) 1)); simpa using this
              have hs5 : Step (fun r => r = w2.heap.size) w4 (w4.setCell ⟨w2.heap.size, 5, none⟩ (.int .u64 (max (xl : Int) 1))) := (Step.refl (fun r => r = w2.heap.size) w4).setCell (p := ⟨w2.heap.size, 5, none⟩) (.inl rfl) _
              have hX5 : Blk (w4.setCell ⟨w2.heap.size, 5, none⟩ (.int .u64 (max (xl : Int) 1))) w.heap.size 84 _ := HB4.out.same (hs5.block _ HB4.out.lt hnb)
              have hrx5 : Reads (w4.setCell ⟨w2.heap.size, 5, none⟩ (.int .u64 (max (xl : Int) 1))) (.slice sa xs.length sc) xs := hrx4.same (fun k hk => hs5.block k (hrx4.lt k hk) (fun e => by have := HRX.out.lt k hk; have := HSZ.out; have e2 : k = w2.heap.size := e; omega))
              have HC := Lib.hid (copied_c (x := ⟨xn, xl, xk, xh, xs⟩) hrx5 HMI.out.count)
              unfold ShV at HC
              simp only at HC
              have HF5 := Lib.hid hF5
              have HX5 := Lib.hid hX5
              have HS5 := Lib.hid hs5
              have HB4' := Lib.hid hB4
              have HQ4 := Lib.hid hQ4
              have HD4 := Lib.hid hD4
              have HU4 := Lib.hid hU4
              have HS4 := Lib.hid hs4
              have HM4 := Lib.hid hm4
              have HNB := Lib.hid hnb
              have HDM : Hid (max (xl : Int) 1 = ((max xl 1 : Nat) : Int)) := by show _ = _; omega
              clear hF5 hX5 hs5 hB4 hQ4 hD4 hU4 hs4 hm4 hrx4 hrx5
              go_wp2_with (fail)
              refine HC.out.mono ?_
              rintro e w6 ⟨yv, rfl, hyr, hyo, hb6⟩
              obtain ⟨ya, yc, rfl⟩ := hyr.form
              have hF6 := HF5.out.same (hb6.block _ HF5.out.lt)
              have hX6 := HX5.out.same (hb6.block _ HX5.out.lt)
              have hs6 : Step (fun r => r = w2.heap.size) w4 w6 := HS5.out.trans (More.refl _ _) (Step.below hb6)
              have hy5 : ∀ k, (Value.slice ya xs.length yc).ownBlock = some k → w4.heap.size ≤ k := fun k hk => Nat.le_trans HS5.out.size (hyo k hk)
              clear HC hyo hb6 a0 a1 a2 a3 a4 hnb
              have k0 : w6.cell? ⟨w2.heap.size, 0, none⟩ = _ := hF6.cell 0
              have k1 : w6.cell? ⟨w2.heap.size, 1, none⟩ = _ := hF6.cell 1
              have k2 : w6.cell? ⟨w2.heap.size, 2, none⟩ = _ := hF6.cell 2
              have k3 : w6.cell? ⟨w2.heap.size, 3, none⟩ = _ := hF6.cell 3
              have k4 : w6.cell? ⟨w2.heap.size, 4, none⟩ = _ := hF6.cell 4
              simp at k0 k1 k2 k3 k4
              have l0 : w6.frozen? ⟨w2.heap.size, 0, none⟩ = false := hF6.frozen 0
              have l1 : w6.frozen? ⟨w2.heap.size, 1, none⟩ = false := hF6.frozen 1
              have l2 : w6.frozen? ⟨w2.heap.size, 2, none⟩ = false := hF6.frozen 2
              have l3 : w6.frozen? ⟨w2.heap.size, 3, none⟩ = false := hF6.frozen 3
              have l4 : w6.frozen? ⟨w2.heap.size, 4, none⟩ = false := hF6.frozen 4
              have HF6 := Lib.hid hF6
              have HX6 := Lib.hid hX6
              have HS6 := Lib.hid hs6
              have HYR := Lib.hid hyr
              have HY5 := Lib.hid hy5
              clear hF6 hX6 hs6 hyr hy5
              go_wp2_with (fail)
              have hF7 := HF6.out.set6 (v0 := .int .u32 (xn : Int)) (v1 := .int .u64 (xl : Int)) (v2 := .int .i64 xk) (v3 := .string xh) (v4 := .slice ya xs.length yc)
              have hs7 : Step (fun r => r = w2.heap.size) w4 (((((w6.setCell ⟨w2.heap.size, 0, none⟩ (.int .u32 (xn : Int))).setCell ⟨w2.heap.size, 1, none⟩ (.int .u64 (xl : Int))).setCell ⟨w2.heap.size, 2, none⟩ (.int .i64 xk)).setCell ⟨w2.heap.size, 3, none⟩ (.string xh)).setCell ⟨w2.heap.size, 4, none⟩ (.slice ya xs.length yc)) :=
                HS6.out.trans (More.refl _ _) (step_set5 (R := w2.heap.size) (K := fun r => r = w2.heap.size) rfl _ _ _ _ _)
              have hy7 : Reads (((((w6.setCell ⟨w2.heap.size, 0, none⟩ (.int .u32 (xn : Int))).setCell ⟨w2.heap.size, 1, none⟩ (.int .u64 (xl : Int))).setCell ⟨w2.heap.size, 2, none⟩ (.int .i64 xk)).setCell ⟨w2.heap.size, 3, none⟩ (.string xh)).setCell ⟨w2.heap.size, 4, none⟩ (.slice ya xs.length yc)) (.slice ya xs.length yc) xs :=
                reads_set5 HYR.out (fun k hk e => by have := HY5.out k hk; have := HF4.out.lt; omega)
              clear k0 k1 k2 k3 k4 l0 l1 l2 l3 l4
              generalize ((((w6.setCell ⟨w2.heap.size, 0, none⟩ (.int .u32 (xn : Int))).setCell ⟨w2.heap.size, 1, none⟩ (.int .u64 (xl : Int))).setCell ⟨w2.heap.size, 2, none⟩ (.int .i64 xk)).setCell ⟨w2.heap.size, 3, none⟩ (.string xh)).setCell ⟨w2.heap.size, 4, none⟩ (.slice ya xs.length yc) = w7 at *
              have hQ7 : PoolIn w7 H4 pb b lb mb4 pk4 vs4 q1 := HQ4.out.keep (fun r hr => hs7.block r (HQ4.out.lt r hr) (fun e => by
                have e2 : r = w2.heap.size := e
                rcases HM4.out r (HU4.out r (.inr hr)) with h | h
                · exact HNU.out r (by have := HSZ.out; omega) h
                · have := HSZ.out; omega)) hs7.size
              have hX7 := HB4.out.same (hs7.block _ HB4.out.lt HNB.out)
              have HML : Hid (MapL w7 mb4 vs4) := hQ7.map
              have HVL : Hid (vs4.length < 1000000000000) := by show _ < _; have h1 := hQ7.frs.length; have h2 := hQ7.le; have h3 := hQ7.most; omega
              have CS2 : Hid (OneC ⟨pb, 3, none⟩ (.map (some mb4)) w7 ∧ OneC ⟨w.heap.size, 0, none⟩ (.int .u32 (xn : Int)) w7 ∧ OneC ⟨w2.heap.size, 0, none⟩ (.int .u32 (xn : Int)) w7 ∧ OneC ⟨w2.heap.size, 1, none⟩ (.int .u64 (xl : Int)) w7 ∧ OneC ⟨w2.heap.size, 2, none⟩ (.int .i64 xk) w7 ∧ OneC ⟨w2.heap.size, 3, none⟩ (.string xh) w7 ∧ OneC ⟨w2.heap.size, 4, none⟩ (.slice ya xs.length yc) w7 ∧ OneC ⟨w2.heap.size, 5, none⟩ (.int .u64 (max (xl : Int) 1)) w7) :=
                ⟨hQ7.cells.2.2.2.1, hX7.cell 0, hF7.cell 0, hF7.cell 1, hF7.cell 2, hF7.cell 3, hF7.cell 4, hF7.cell 5⟩
              have HQ7 := Lib.hid hQ7
              have HS7 := Lib.hid hs7
              have HY7 := Lib.hid hy7
              have hxn := HN1.out
              clear hF7 hs7 hy7 hQ7 hX7
              refine wp_region_late (S := fun W => OneC ⟨pb, 3, none⟩ (.map (some mb4)) W ∧ OneC ⟨w.heap.size, 0, none⟩ (.int .u32 (xn : Int)) W ∧ OneC ⟨w2.heap.size, 0, none⟩ (.int .u32 (xn : Int)) W ∧ OneC ⟨w2.heap.size, 1, none⟩ (.int .u64 (xl : Int)) W ∧ OneC ⟨w2.heap.size, 2, none⟩ (.int .i64 xk) W ∧ OneC ⟨w2.heap.size, 3, none⟩ (.string xh) W ∧ OneC ⟨w2.heap.size, 4, none⟩ (.slice ya xs.length yc) W ∧ OneC ⟨w2.heap.size, 5, none⟩ (.int .u64 (max (xl : Int) 1)) W) (late := [7]) (by kernel_rfl) CS2.out (fun hHeld => ?_)
              refine wpAnyL_move (i := 0) (v := ?_) (by rfl) (by kernel_rfl) (by kernel_rfl) (by kernel_rfl) (by rfl) (by exact fun _ _ _ h => h) (Or.inl ⟨by rfl, ?_⟩) (by assumption) ?_; rotate_left; · (intro w0; go_simp; try with_reducible rfl)
              try simp only [Act.put, List.setIfInBounds_toArray, List.set_cons_zero, List.set_cons_succ]
              refine wpAnyL_move (i := 1) (v := ?_) (by rfl) (by kernel_rfl) (by kernel_rfl) (by kernel_rfl) (by rfl) (by exact fun _ _ _ h => h) (Or.inl ⟨by rfl, ?_⟩) (by assumption) ?_; rotate_left; · (intro w0; go_simp; try with_reducible rfl)
              try simp only [Act.put, List.setIfInBounds_toArray, List.set_cons_zero, List.set_cons_succ]
              refine wpAnyL_move (i := 2) (v := ?_) (by rfl) (by kernel_rfl) (by kernel_rfl) (by kernel_rfl) (by rfl) (by exact fun _ _ _ h => h) (Or.inl ⟨by rfl, ?_⟩) (by assumption) ?_; rotate_left; · (intro w0; go_simp; try with_reducible rfl)
              try simp only [Act.put, List.setIfInBounds_toArray, List.set_cons_zero, List.set_cons_succ]
              refine wpAnyL_load (i := 3) (v := ?_) (by rfl) (by kernel_rfl) (by kernel_rfl) (by kernel_rfl) (by rfl) (by kernel_rfl) (by exact fun _ _ _ h => h) (Or.inl ⟨by rfl, ?_⟩) (by assumption) ?_; rotate_left; · (intro w0 hS0; obtain ⟨hS1, hS2, hS3, hS4, hS5, hS6, hS7, hS8⟩ := hS0; unfold OneC at hS1 hS2 hS3 hS4 hS5 hS6 hS7 hS8; go_simp; try with_reducible rfl)
              try simp only [Act.put, List.setIfInBounds_toArray, List.set_cons_zero, List.set_cons_succ]
              refine wpAnyL_move (i := 4) (v := ?_) (by rfl) (by kernel_rfl) (by kernel_rfl) (by kernel_rfl) (by rfl) (by exact fun _ _ _ h => h) (Or.inl ⟨by rfl, ?_⟩) (by assumption) ?_; rotate_left; · (intro w0; go_simp; try with_reducible rfl)
              try simp only [Act.put, List.setIfInBounds_toArray, List.set_cons_zero, List.set_cons_succ]
              refine wpAnyL_load (i := 5) (v := ?_) (by rfl) (by kernel_rfl) (by kernel_rfl) (by kernel_rfl) (by rfl) (by kernel_rfl) (by exact fun _ _ _ h => h) (Or.inl ⟨by rfl, ?_⟩) (by assumption) ?_; rotate_left; · (intro w0 hS0; obtain ⟨hS1, hS2, hS3, hS4, hS5, hS6, hS7, hS8⟩ := hS0; unfold OneC at hS1 hS2 hS3 hS4 hS5 hS6 hS7 hS8; go_simp; try with_reducible rfl)
              try simp only [Act.put, List.setIfInBounds_toArray, List.set_cons_zero, List.set_cons_succ]
              refine wpAnyL_load (i := 6) (v := ?_) (by rfl) (by kernel_rfl) (by kernel_rfl) (by kernel_rfl) (by rfl) (by kernel_rfl) (by exact fun _ _ _ h => h) (Or.inl ⟨by rfl, ?_⟩) (by assumption) ?_; rotate_left; · (intro w0 hS0; obtain ⟨hS1, hS2, hS3, hS4, hS5, hS6, hS7, hS8⟩ := hS0; unfold OneC at hS1 hS2 hS3 hS4 hS5 hS6 hS7 hS8; go_simp; try with_reducible rfl)
              try simp only [Act.put, List.setIfInBounds_toArray, List.set_cons_zero, List.set_cons_succ]
              refine wpAnyL_late (i := 7) (by kernel_rfl) (by rfl) (by rfl) (fun K hK => ?_)
              refine step_storeL _ (by rfl) _ _ _ (by rfl) mb4 vs4 (by rfl) (HML.out.same (w' := w7.drew) rfl) xn (by omega) HVL.out _ (by rfl) (by rfl) ?_; intro w8 hm8 hg8
              refine hK.out _ _ ?_
              clear hK K
              try simp only [Act.put]
              refine wpAny_done (by kernel_rfl) ?_ _
              have hd : ((max xl 1 : Nat) : Int) = max (xl : Int) 1 := by first | rfl | omega
              rw [← hd] at hm8
              have hP8 := (HQ7.out.drewN 1).add (f := ⟨⟨xn, xl, xk, xh, xs⟩, max xl 1⟩) (sv := .slice ya xs.length yc) (HY7.out.same (fun _ _ => rfl)) (fun k hk => by have h1 := HY5.out k hk; have h2 := HQ4.out.lt pb HQ4.out.hpb; have h3 := HQ4.out.lt mb4 HQ4.out.hmb; exact ⟨by omega, by omega⟩) hg8 hm8 (HLEN.out _) HN1.out HMI.out (by show max xl 1 < 18446744073709551616; omega)
              have hs8 : Step (fun r => H4 r ∨ r = w2.heap.size) w4 w8 := ((HS7.out.wider (fun r hr => .inr hr)).drewN 1).grown hg8 (fun k hk => by cases hk; exact .inl (.inl HQ4.out.hmb))
              have HF := Lib.hid (PX.addK HBW3.out HS4.out HM4.out HB4'.out HD4.out HQ4.out HU4.out hP8 hs8 (fun r hr => by rcases hr with hr | hr; exact .inl hr; exact .inr (HY5.out r hr)) (fun r hr => by have := HSZ.out; exact ⟨by omega, by omega, HNU.out r (by omega)⟩))
              clear hm8 hg8 hP8 hs8
              go_wp2
              go_ret
              rw [HD.out]
              exact ⟨rfl, HF.out.widen HU0.out⟩
            · have hr := HR2.out
              rw [if_pos ka] at hr
              have HD := Lib.hid hr.symm
              clear HR2 hr
              go_wp2
              go_ret
              rw [HD.out]
              exact ⟨rfl, (HP4.out.own HBW3.out (Step.refl _ _) HLT.out).widen HU0.out⟩
          exact EachL.nil
        refine EachL.cons (by rfl) (by rfl) (fun K hK => ?_) ?_
        · go_simp
          refine hK.out _ _ ⟨hHeld.1.alloc _, hHeld.2.1.alloc _, heap_alloc_some hHeld.2.2⟩ (fun hHeld => ?_)
          clear hK K
          try simp only [Act.put, List.setIfInBounds_toArray, List.set_cons_zero, List.set_cons_succ]
          refine wpAnyL_each (rs := [6]) (by kernel_rfl) (by simp) ?_
          refine EachL.cons (by rfl) (by rfl) (fun K hK => ?_) ?_
          · have hL := (HLK2 _ hHeld.2.2).out
            go_simp
            refine hK.out _ _ hHeld (fun hHeld => ?_)
            clear hK K
            try simp only [Act.put, List.setIfInBounds_toArray, List.set_cons_zero, List.set_cons_succ]
            refine wpAnyL_move (i := 7) (v := ?_) (by rfl) (by kernel_rfl) (by kernel_rfl) (by kernel_rfl) (by rfl) (by exact fun _ _ _ h => h) (Or.inl ⟨by rfl, ?_⟩) (by assumption) ?_; rotate_left; · (intro w0; go_simp; try with_reducible rfl)
            try simp only [Act.put, List.setIfInBounds_toArray, List.set_cons_zero, List.set_cons_succ]
            refine wpAnyL_move (i := 8) (v := ?_) (by rfl) (by kernel_rfl) (by kernel_rfl) (by kernel_rfl) (by rfl) (by exact fun _ _ _ h => h) (Or.inl ⟨by rfl, ?_⟩) (by assumption) ?_; rotate_left; · (intro w0; go_simp; try with_reducible rfl)
            try simp only [Act.put, List.setIfInBounds_toArray, List.set_cons_zero, List.set_cons_succ]
            refine wpAnyL_move (i := 9) (v := ?_) (by rfl) (by kernel_rfl) (by kernel_rfl) (by kernel_rfl) (by rfl) (by exact fun _ _ _ h => h) (Or.inl ⟨by rfl, ?_⟩) (by assumption) ?_; rotate_left; · (intro w0; go_simp; try with_reducible rfl)
            try simp only [Act.put, List.setIfInBounds_toArray, List.set_cons_zero, List.set_cons_succ]
            refine wpAnyL_late (i := 11) (by kernel_rfl) (by rfl) (by rfl) (fun K hK => ?_)
            go_simp
            refine hK.out _ _ ?_
            clear hK K
            try simp only [Act.put, List.setIfInBounds_toArray, List.set_cons_zero, List.set_cons_succ]
            refine wpAny_move (i := 12) (v := ?_) (by rfl) (by kernel_rfl) (by kernel_rfl) (by kernel_rfl) (by exact fun _ _ _ h => h) (Or.inl ⟨by rfl, ?_⟩) ?_; rotate_left; · (intro w0; go_simp; try with_reducible rfl)
            try simp only [Act.put, List.setIfInBounds_toArray, List.set_cons_zero, List.set_cons_succ]
            refine wpAny_done (by kernel_rfl) ?_ _
            have hF3 : Blk ((w2.alloc (.cells #[.int .u32 0, .int .u64 0, .int .i64 0, .string ⟨#[]⟩, .slice none 0 0, .int .u64 0] 156)).drew) w2.heap.size 156 #[.int .u32 0, .int .u64 0, .int .i64 0, .string ⟨#[]⟩, .slice none 0 0, .int .u64 0] := Blk.new w2 _ _
            have hb3 : Below w2.heap.size w2 ((w2.alloc (.cells #[.int .u32 0, .int .u64 0, .int .i64 0, .string ⟨#[]⟩, .slice none 0 0, .int .u64 0] 156)).drew) := ((Below.refl _ _).alloc (Nat.le_refl _) _).trans ((below_drewN _ 1).mono (by simp))
            generalize (w2.alloc (.cells #[.int .u32 0, .int .u64 0, .int .i64 0, .string ⟨#[]⟩, .slice none 0 0, .int .u64 0] 156)).drew = w3 at *
            have HF3 := Lib.hid hF3
            have HBW3 : Hid (Below w.heap.size w w3) := HBW2.out.trans (hb3.mono HBW2.out.size)
            have HB3 := Lib.hid (HB2.out.same (hb3.block _ HB2.out.lt))
            have HSZ : Hid (w.heap.size < w2.heap.size ∧ w2.heap.size < w3.heap.size) := ⟨HSZ2.out, hF3.lt⟩
            clear hF3 hb3 hHeld
            have HRO := Lib.hid (proom_c' (HX.out.below HBW3.out) HPL.out HLO.out HPK.out H12.out)
            obtain ⟨a1, m1, g1, q1, ha⟩ : ∃ a1 m1 g1 q1, roomQ m g q = (a1, m1, g1, q1) := ⟨_, _, _, _, rfl⟩
            have hrq := roomQ_keep m g q HP2.out.rising HPK.out HP2.out.le HP2.out.most1
            rw [ha] at HRO hrq
            have hr := HR.out
            simp only [ha] at hr hrq
            have HRK := Lib.hid hrq
            have HR2 := Lib.hid hr
            clear hr hrq ha HLK2 CS
            go_wp2_with (fail)
            refine HRO.out.mono ?_
            rintro e w4 ⟨rfl, hp4⟩
            have hnU : ∀ k, w.heap.size ≤ k → ¬ U0 k := fun k hk hu => by have := HLT.out k hu; omega
            have HNU := Lib.hid hnU
            have HP4 := Lib.hid hp4
            have HB4 := Lib.hid (HB3.out.same (hp4.box (by have := HSZ.out; omega) (hnU _ (Nat.le_refl _))))
            have HF4 := Lib.hid (HF3.out.same (hp4.box HSZ.out.2 (hnU _ (Nat.le_of_lt HSZ.out.1))))
            clear hp4 HRO hnU
            by_cases ka : a1 = 0
            · subst ka
              have hr := HR2.out
              simp only [not_true_eq_false, if_false] at hr
              have HD := Lib.hid hr.symm
              clear HR2 hr
              have HLEN : Hid (∀ f : Fr, (putL xn f q1.frames).length ≤ q1.most) := fun f => by have h1 := putL_length xn f q1.frames; have h2 := HRK.out.2.2.2 (by trivial); have h3 := HRK.out.1; omega
              have g5 : w4.cell? ⟨w2.heap.size, 5, none⟩ = some (.int .u64 0) := HF4.out.cell 5
              have z5 : w4.frozen? ⟨w2.heap.size, 5, none⟩ = false := HF4.out.frozen 5
              obtain ⟨U4, ⟨F4, G4, H4, mb4, pk4, vs4, hB4, hQ4, hD4, hU4⟩, hs4, hm4⟩ := HP4.out
              have a0 : w4.cell? ⟨w.heap.size, 0, none⟩ = some (.int .u32 (xn : Int)) := HB4.out.cell 0
              have a1 : w4.cell? ⟨w.heap.size, 1, none⟩ = some (.int .u64 (xl : Int)) := HB4.out.cell 1
              have a2 : w4.cell? ⟨w.heap.size, 2, none⟩ = some (.int .i64 xk) := HB4.out.cell 2
              have a3 : w4.cell? ⟨w.heap.size, 3, none⟩ = some (.string xh) := HB4.out.cell 3
              have a4 : w4.cell? ⟨w.heap.size, 4, none⟩ = some (.slice sa xs.length sc) := HB4.out.cell 4
              have hrx4 : Reads w4 (.slice sa xs.length sc) xs := (HRX.out.below HBW3.out).same (fun k hk => HP4.out.box (by have := HRX.out.lt k hk; have := HSZ.out; omega) (HSO.out k hk))
              have hnb : w.heap.size ≠ w2.heap.size := by have := HSZ.out; omega
              have hF5 : Blk (w4.setCell ⟨w2.heap.size, 5, none⟩ (.int .u64 (max (xl : Int) 1))) w2.heap.size 156 #[.int .u32 0, .int .u64 0, .int .i64 0, .string ⟨#[]⟩, .slice none 0 0, .int .u64 (max (xl : Int) 1)] := by have := HF4.out.set_ 5 (.int .u64 (max (xl : Int) 1)); simpa using this
              have hs5 : Step (fun r => r = w2.heap.size) w4 (w4.setCell ⟨w2.heap.size, 5, none⟩ (.int .u64 (max (xl : Int) 1))) := (Step.refl (fun r => r = w2.heap.size) w4).setCell (p := ⟨w2.heap.size, 5, none⟩) (.inl rfl) _
              have hX5 : Blk (w4.setCell ⟨w2.heap.size, 5, none⟩ (.int .u64 (max (xl : Int) 1))) w.heap.size 84 _ := HB4.out.same (hs5.block _ HB4.out.lt hnb)
              have hrx5 : Reads (w4.setCell ⟨w2.heap.size, 5, none⟩ (.int .u64 (max (xl : Int) 1))) (.slice sa xs.length sc) xs := hrx4.same (fun k hk => hs5.block k (hrx4.lt k hk) (fun e => by have := HRX.out.lt k hk; have := HSZ.out; have e2 : k = w2.heap.size := e; omega))
              have HC := Lib.hid (copied_c (x := ⟨xn, xl, xk, xh, xs⟩) hrx5 HMI.out.count)
              unfold ShV at HC
              simp only at HC
              have HF5 := Lib.hid hF5
              have HX5 := Lib.hid hX5
              have HS5 := Lib.hid hs5
              have HB4' := Lib.hid hB4
              have HQ4 := Lib.hid hQ4
              have HD4 := Lib.hid hD4
              have HU4 := Lib.hid hU4
              have HS4 := Lib.hid hs4
              have HM4 := Lib.hid hm4
              have HNB := Lib.hid hnb
              have HDM : Hid (max (xl : Int) 1 = ((max xl 1 : Nat) : Int)) := by show _ = _; omega
              clear hF5 hX5 hs5 hB4 hQ4 hD4 hU4 hs4 hm4 hrx4 hrx5
              go_wp2_with (fail)
              refine HC.out.mono ?_
              rintro e w6 ⟨yv, rfl, hyr, hyo, hb6⟩
              obtain ⟨ya, yc, rfl⟩ := hyr.form
              have hF6 := HF5.out.same (hb6.block _ HF5.out.lt)
              have hX6 := HX5.out.same (hb6.block _ HX5.out.lt)
              have hs6 : Step (fun r => r = w2.heap.size) w4 w6 := HS5.out.trans (More.refl _ _) (Step.below hb6)
              have hy5 : ∀ k, (Value.slice ya xs.length yc).ownBlock = some k → w4.heap.size ≤ k := fun k hk => Nat.le_trans HS5.out.size (hyo k hk)
              clear HC hyo hb6 a0 a1 a2 a3 a4 hnb
              have k0 : w6.cell? ⟨w2.heap.size, 0, none⟩ = _ := hF6.cell 0
              have k1 : w6.cell? ⟨w2.heap.size, 1, none⟩ = _ := hF6.cell 1
              have k2 : w6.cell? ⟨w2.heap.size, 2, none⟩ = _ := hF6.cell 2
              have k3 : w6.cell? ⟨w2.heap.size, 3, none⟩ = _ := hF6.cell 3
              have k4 : w6.cell? ⟨w2.heap.size, 4, none⟩ = _ := hF6.cell 4
              simp at k0 k1 k2 k3 k4
              have l0 : w6.frozen? ⟨w2.heap.size, 0, none⟩ = false := hF6.frozen 0
              have l1 : w6.frozen? ⟨w2.heap.size, 1, none⟩ = false := hF6.frozen 1
              have l2 : w6.frozen? ⟨w2.heap.size, 2, none⟩ = false := hF6.frozen 2
              have l3 : w6.frozen? ⟨w2.heap.size, 3, none⟩ = false := hF6.frozen 3
              have l4 : w6.frozen? ⟨w2.heap.size, 4, none⟩ = false := hF6.frozen 4
              have HF6 := Lib.hid hF6
              have HX6 := Lib.hid hX6
              have HS6 := Lib.hid hs6
              have HYR := Lib.hid hyr
              have HY5 := Lib.hid hy5
              clear hF6 hX6 hs6 hyr hy5
              go_wp2_with (fail)
              have hF7 := HF6.out.set6 (v0 := .int .u32 (xn : Int)) (v1 := .int .u64 (xl : Int)) (v2 := .int .i64 xk) (v3 := .string xh) (v4 := .slice ya xs.length yc)
              have hs7 : Step (fun r => r = w2.heap.size) w4 (((((w6.setCell ⟨w2.heap.size, 0, none⟩ (.int .u32 (xn : Int))).setCell ⟨w2.heap.size, 1, none⟩ (.int .u64 (xl : Int))).setCell ⟨w2.heap.size, 2, none⟩ (.int .i64 xk)).setCell ⟨w2.heap.size, 3, none⟩ (.string xh)).setCell ⟨w2.heap.size, 4, none⟩ (.slice ya xs.length yc)) :=
                HS6.out.trans (More.refl _ _) (step_set5 (R := w2.heap.size) (K := fun r => r = w2.heap.size) rfl _ _ _ _ _)
              have hy7 : Reads (((((w6.setCell ⟨w2.heap.size, 0, none⟩ (.int .u32 (xn : Int))).setCell ⟨w2.heap.size, 1, none⟩ (.int .u64 (xl : Int))).setCell ⟨w2.heap.size, 2, none⟩ (.int .i64 xk)).setCell ⟨w2.heap.size, 3, none⟩ (.string xh)).setCell ⟨w2.heap.size, 4, none⟩ (.slice ya xs.length yc)) (.slice ya xs.length yc) xs :=
                reads_set5 HYR.out (fun k hk e => by have := HY5.out k hk; have := HF4.out.lt; omega)
              clear k0 k1 k2 k3 k4 l0 l1 l2 l3 l4
              generalize ((((w6.setCell ⟨w2.heap.size, 0, none⟩ (.int .u32 (xn : Int))).setCell ⟨w2.heap.size, 1, none⟩ (.int .u64 (xl : Int))).setCell ⟨w2.heap.size, 2, none⟩ (.int .i64 xk)).setCell ⟨w2.heap.size, 3, none⟩ (.string xh)).setCell ⟨w2.heap.size, 4, none⟩ (.slice ya xs.length yc) = w7 at *
              have hQ7 : PoolIn w7 H4 pb b lb mb4 pk4 vs4 q1 := HQ4.out.keep (fun r hr => hs7.block r (HQ4.out.lt r hr) (fun e => by
                have e2 : r = w2.heap.size := e
                rcases HM4.out r (HU4.out r (.inr hr)) with h | h
                · exact HNU.out r (by have := HSZ.out; omega) h
                · have := HSZ.out; omega)) hs7.size
              have hX7 := HB4.out.same (hs7.block _ HB4.out.lt HNB.out)
              have HML : Hid (MapL w7 mb4 vs4) := hQ7.map
              have HVL : Hid (vs4.length < 1000000000000) := by show _ < _; have h1 := hQ7.frs.length; have h2 := hQ7.le; have h3 := hQ7.most; omega
              have CS2 : Hid (OneC ⟨pb, 3, none⟩ (.map (some mb4)) w7 ∧ OneC ⟨w.heap.size, 0, none⟩ (.int .u32 (xn : Int)) w7 ∧ OneC ⟨w2.heap.size, 0, none⟩ (.int .u32 (xn : Int)) w7 ∧ OneC ⟨w2.heap.size, 1, none⟩ (.int .u64 (xl : Int)) w7 ∧ OneC ⟨w2.heap.size, 2, none⟩ (.int .i64 xk) w7 ∧ OneC ⟨w2.heap.size, 3, none⟩ (.string xh) w7 ∧ OneC ⟨w2.heap.size, 4, none⟩ (.slice ya xs.length yc) w7 ∧ OneC ⟨w2.heap.size, 5, none⟩ (.int .u64 (max (xl : Int) 1)) w7) :=
                ⟨hQ7.cells.2.2.2.1, hX7.cell 0, hF7.cell 0, hF7.cell 1, hF7.cell 2, hF7.cell 3, hF7.cell 4, hF7.cell 5⟩
              have HQ7 := Lib.hid hQ7
              have HS7 := Lib.hid hs7
              have HY7 := Lib.hid hy7
              have hxn := HN1.out
              clear hF7 hs7 hy7 hQ7 hX7
              refine wp_region_late (S := fun W => OneC ⟨pb, 3, none⟩ (.map (some mb4)) W ∧ OneC ⟨w.heap.size, 0, none⟩ (.int .u32 (xn : Int)) W ∧ OneC ⟨w2.heap.size, 0, none⟩ (.int .u32 (xn : Int)) W ∧ OneC ⟨w2.heap.size, 1, none⟩ (.int .u64 (xl : Int)) W ∧ OneC ⟨w2.heap.size, 2, none⟩ (.int .i64 xk) W ∧ OneC ⟨w2.heap.size, 3, none⟩ (.string xh) W ∧ OneC ⟨w2.heap.size, 4, none⟩ (.slice ya xs.length yc) W ∧ OneC ⟨w2.heap.size, 5, none⟩ (.int .u64 (max (xl : Int) 1)) W) (late := [7]) (by kernel_rfl) CS2.out (fun hHeld => ?_)
              refine wpAnyL_move (i := 0) (v := ?_) (by rfl) (by kernel_rfl) (by kernel_rfl) (by kernel_rfl) (by rfl) (by exact fun _ _ _ h => h) (Or.inl ⟨by rfl, ?_⟩) (by assumption) ?_; rotate_left; · (intro w0; go_simp; try with_reducible rfl)
              try simp only [Act.put, List.setIfInBounds_toArray, List.set_cons_zero, List.set_cons_succ]
              refine wpAnyL_move (i := 1) (v := ?_) (by rfl) (by kernel_rfl) (by kernel_rfl) (by kernel_rfl) (by rfl) (by exact fun _ _ _ h => h) (Or.inl ⟨by rfl, ?_⟩) (by assumption) ?_; rotate_left; · (intro w0; go_simp; try with_reducible rfl)
              try simp only [Act.put, List.setIfInBounds_toArray, List.set_cons_zero, List.set_cons_succ]
              refine wpAnyL_move (i := 2) (v := ?_) (by rfl) (by kernel_rfl) (by kernel_rfl) (by kernel_rfl) (by rfl) (by exact fun _ _ _ h => h) (Or.inl ⟨by rfl, ?_⟩) (by assumption) ?_; rotate_left; · (intro w0; go_simp; try with_reducible rfl)
              try simp only [Act.put, List.setIfInBounds_toArray, List.set_cons_zero, List.set_cons_succ]
              refine wpAnyL_load (i := 3) (v := ?_) (by rfl) (by kernel_rfl) (by kernel_rfl) (by kernel_rfl) (by rfl) (by kernel_rfl) (by exact fun _ _ _ h => h) (Or.inl ⟨by rfl, ?_⟩) (by assumption) ?_; rotate_left; · (intro w0 hS0; obtain ⟨hS1, hS2, hS3, hS4, hS5, hS6, hS7, hS8⟩ := hS0; unfold OneC at hS1 hS2 hS3 hS4 hS5 hS6 hS7 hS8; go_simp; try with_reducible rfl)
              try simp only [Act.put, List.setIfInBounds_toArray, List.set_cons_zero, List.set_cons_succ]
              refine wpAnyL_move (i := 4) (v := ?_) (by rfl) (by kernel_rfl) (by kernel_rfl) (by kernel_rfl) (by rfl) (by exact fun _ _ _ h => h) (Or.inl ⟨by rfl, ?_⟩) (by assumption) ?_; rotate_left; · (intro w0; go_simp; try with_reducible rfl)
              try simp only [Act.put, List.setIfInBounds_toArray, List.set_cons_zero, List.set_cons_succ]
              refine wpAnyL_load (i := 5) (v := ?_) (by rfl) (by kernel_rfl) (by kernel_rfl) (by kernel_rfl) (by rfl) (by kernel_rfl) (by exact fun _ _ _ h => h) (Or.inl ⟨by rfl, ?_⟩) (by assumption) ?_; rotate_left; · (intro w0 hS0; obtain ⟨hS1, hS2, hS3, hS4, hS5, hS6, hS7, hS8⟩ := hS0; unfold OneC at hS1 hS2 hS3 hS4 hS5 hS6 hS7 hS8; go_simp; try with_reducible rfl)
              try simp only [Act.put, List.setIfInBounds_toArray, List.set_cons_zero, List.set_cons_succ]
              refine wpAnyL_load (i := 6) (v := ?_) (by rfl) (by kernel_rfl) (by kernel_rfl) (by kernel_rfl) (by rfl) (by kernel_rfl) (by exact fun _ _ _ h => h) (Or.inl ⟨by rfl, ?_⟩) (by assumption) ?_; rotate_left; · (intro w0 hS0; obtain ⟨hS1, hS2, hS3, hS4, hS5, hS6, hS7, hS8⟩ := hS0; unfold OneC at hS1 hS2 hS3 hS4 hS5 hS6 hS7 hS8; go_simp; try with_reducible rfl)
              try simp only [Act.put, List.setIfInBounds_toArray, List.set_cons_zero, List.set_cons_succ]
              refine wpAnyL_late (i := 7) (by kernel_rfl) (by rfl) (by rfl) (fun K hK => ?_)
              refine step_storeL _ (by rfl) _ _ _ (by rfl) mb4 vs4 (by rfl) (HML.out.same (w' := w7.drew) rfl) xn (by omega) HVL.out _ (by rfl) (by rfl) ?_; intro w8 hm8 hg8
              refine hK.out _ _ ?_
              clear hK K
              try simp only [Act.put]
              refine wpAny_done (by kernel_rfl) ?_ _
              have hd : ((max xl 1 : Nat) : Int) = max (xl : Int) 1 := by first | rfl | omega
              rw [← hd] at hm8
              have hP8 := (HQ7.out.drewN 1).add (f := ⟨⟨xn, xl, xk, xh, xs⟩, max xl 1⟩) (sv := .slice ya xs.length yc) (HY7.out.same (fun _ _ => rfl)) (fun k hk => by have h1 := HY5.out k hk; have h2 := HQ4.out.lt pb HQ4.out.hpb; have h3 := HQ4.out.lt mb4 HQ4.out.hmb; exact ⟨by omega, by omega⟩) hg8 hm8 (HLEN.out _) HN1.out HMI.out (by show max xl 1 < 18446744073709551616; omega)
              have hs8 : Step (fun r => H4 r ∨ r = w2.heap.size) w4 w8 := ((HS7.out.wider (fun r hr => .inr hr)).drewN 1).grown hg8 (fun k hk => by cases hk; exact .inl (.inl HQ4.out.hmb))
              have HF := Lib.hid (PX.addK HBW3.out HS4.out HM4.out HB4'.out HD4.out HQ4.out HU4.out hP8 hs8 (fun r hr => by rcases hr with hr | hr; exact .inl hr; exact .inr (HY5.out r hr)) (fun r hr => by have := HSZ.out; exact ⟨by omega, by omega, HNU.out r (by omega)⟩))
              clear hm8 hg8 hP8 hs8
              go_wp2
              go_ret
              rw [HD.out]
              exact ⟨rfl, HF.out.widen HU0.out⟩
            · have hr := HR2.out
              rw [if_pos ka] at hr
              have HD := Lib.hid hr.symm
              clear HR2 hr
              go_wp2
              go_ret
              rw [HD.out]
              exact ⟨rfl, (HP4.out.own HBW3.out (Step.refl _ _) HLT.out).widen HU0.out⟩
          exact EachL.nil
        exact EachL.nil
      · rw [hf] at hr
        obtain ⟨hk, ⟨tv, hvv, hrd, hso⟩, hmild, hdb⟩ := hfr
        simp only at hvv hrd hmild hdb
        subst hvv
        obtain ⟨⟨yn, yl, yk, yh, ys⟩, fd⟩ := f
        simp only at hrd hr hdb
        obtain ⟨ta, tc, rfl⟩ := hrd.form
        have HLK2 : ∀ W : World, W.heap[mb]? = some mo → Hid ((Instr.lookup 158 (.map (some mb)) (.int .u32 (xn : Int)) true).run Tryz.prog W = .ok (.tuple #[.agg #[.int .u32 (yn : Int), .int .u64 (yl : Int), .int .i64 yk, .string yh, .slice ta ys.length tc, .int .u64 (fd : Int)], .bool true]) W) := fun W hW => by
          have := (HLK W (HLM W hW)).out
          rw [hv] at this
          exact this
        have HD := Lib.hid hr.symm
        have HLEN : Hid (∀ f : Fr, (putL xn f q.frames).length ≤ q.most) := fun f => by rw [putL_length_in xn f HP2.out.rising (by rw [hf]; rfl)]; exact HP2.out.le
        clear HLK HLM hmo hr hv hf hrd hmild hso
        go_wp2_with (fail)
        refine wp_region_late (S := fun W => OneC ⟨pb, 3, none⟩ (.map (some mb)) W ∧ OneC ⟨w.heap.size, 0, none⟩ (.int .u32 (xn : Int)) W ∧ W.heap[mb]? = some mo) (late := [11]) (by kernel_rfl) CS.out (fun hHeld => ?_)
        refine wpAnyL_move (i := 0) (v := ?_) (by rfl) (by kernel_rfl) (by kernel_rfl) (by kernel_rfl) (by rfl) (by exact fun _ _ _ h => h) (Or.inl ⟨by rfl, ?_⟩) (by assumption) ?_; rotate_left; · (intro w0; go_simp; try with_reducible rfl)
        try simp only [Act.put, List.setIfInBounds_toArray, List.set_cons_zero, List.set_cons_succ]
        refine wpAnyL_move (i := 1) (v := ?_) (by rfl) (by kernel_rfl) (by kernel_rfl) (by kernel_rfl) (by rfl) (by exact fun _ _ _ h => h) (Or.inl ⟨by rfl, ?_⟩) (by assumption) ?_; rotate_left; · (intro w0; go_simp; try with_reducible rfl)
        try simp only [Act.put, List.setIfInBounds_toArray, List.set_cons_zero, List.set_cons_succ]
        refine wpAnyL_move (i := 2) (v := ?_) (by rfl) (by kernel_rfl) (by kernel_rfl) (by kernel_rfl) (by rfl) (by exact fun _ _ _ h => h) (Or.inl ⟨by rfl, ?_⟩) (by assumption) ?_; rotate_left; · (intro w0; go_simp; try with_reducible rfl)
        try simp only [Act.put, List.setIfInBounds_toArray, List.set_cons_zero, List.set_cons_succ]
        refine wpAnyL_loadT 13 (i := 3) (v := ?_) (by rfl) (by kernel_rfl) (by kernel_rfl) (by kernel_rfl) (by rfl) (by kernel_rfl) (by kernel_rfl) (by exact fun _ _ _ h => h) (Or.inl ⟨by rfl, ?_⟩) (by assumption) ?_; rotate_left; · (intro w0 hS0; obtain ⟨hS1, hS2, hS3⟩ := hS0; unfold OneC at hS1 hS2; go_simp; try with_reducible rfl)
        try simp only [Act.put, List.setIfInBounds_toArray, List.set_cons_zero, List.set_cons_succ]
        refine wpAnyL_move (i := 4) (v := ?_) (by rfl) (by kernel_rfl) (by kernel_rfl) (by kernel_rfl) (by rfl) (by exact fun _ _ _ h => h) (Or.inl ⟨by rfl, ?_⟩) (by assumption) ?_; rotate_left; · (intro w0; go_simp; try with_reducible rfl)
        try simp only [Act.put, List.setIfInBounds_toArray, List.set_cons_zero, List.set_cons_succ]
        refine wpAnyL_loadT 13 (i := 5) (v := ?_) (by rfl) (by kernel_rfl) (by kernel_rfl) (by kernel_rfl) (by rfl) (by kernel_rfl) (by kernel_rfl) (by exact fun _ _ _ h => h) (Or.inl ⟨by rfl, ?_⟩) (by assumption) ?_; rotate_left; · (intro w0 hS0; obtain ⟨hS1, hS2, hS3⟩ := hS0; unfold OneC at hS1 hS2; go_simp; try with_reducible rfl)
        try simp only [Act.put, List.setIfInBounds_toArray, List.set_cons_zero, List.set_cons_succ]
        refine wpAnyL_each (rs := [6, 10]) (by kernel_rfl) (by simp) ?_
        refine EachL.cons (by rfl) (by rfl) (fun K hK => ?_) ?_
        · have hL := (HLK2 _ hHeld.2.2).out
          go_simp
          refine hK.out _ _ hHeld (fun hHeld => ?_)
          clear hK K
          try simp only [Act.put, List.setIfInBounds_toArray, List.set_cons_zero, List.set_cons_succ]
          refine wpAnyL_move (i := 7) (v := ?_) (by rfl) (by kernel_rfl) (by kernel_rfl) (by kernel_rfl) (by rfl) (by exact fun _ _ _ h => h) (Or.inl ⟨by rfl, ?_⟩) (by assumption) ?_; rotate_left; · (intro w0; go_simp; try with_reducible rfl)
          try simp only [Act.put, List.setIfInBounds_toArray, List.set_cons_zero, List.set_cons_succ]
          refine wpAnyL_move (i := 8) (v := ?_) (by rfl) (by kernel_rfl) (by kernel_rfl) (by kernel_rfl) (by rfl) (by exact fun _ _ _ h => h) (Or.inl ⟨by rfl, ?_⟩) (by assumption) ?_; rotate_left; · (intro w0; go_simp; try with_reducible rfl)
          try simp only [Act.put, List.setIfInBounds_toArray, List.set_cons_zero, List.set_cons_succ]
          refine wpAnyL_move (i := 9) (v := ?_) (by rfl) (by kernel_rfl) (by kernel_rfl) (by kernel_rfl) (by rfl) (by exact fun _ _ _ h => h) (Or.inl ⟨by rfl, ?_⟩) (by assumption) ?_; rotate_left; · (intro w0; go_simp; try with_reducible rfl)
          try simp only [Act.put, List.setIfInBounds_toArray, List.set_cons_zero, List.set_cons_succ]
          refine wpAnyL_each (rs := [10]) (by kernel_rfl) (by simp) ?_
          refine EachL.cons (by rfl) (by rfl) (fun K hK => ?_) ?_
          · go_simp
            refine hK.out _ _ ⟨hHeld.1.alloc _, hHeld.2.1.alloc _, heap_alloc_some hHeld.2.2⟩ (fun hHeld => ?_)
            clear hK K
            try simp only [Act.put, List.setIfInBounds_toArray, List.set_cons_zero, List.set_cons_succ]
            refine wpAnyL_late (i := 11) (by kernel_rfl) (by rfl) (by rfl) (fun K hK => ?_)
            go_simp
            refine hK.out _ _ ?_
            clear hK K
            try simp only [Act.put, List.setIfInBounds_toArray, List.set_cons_zero, List.set_cons_succ]
            refine wpAny_move (i := 12) (v := ?_) (by rfl) (by kernel_rfl) (by kernel_rfl) (by kernel_rfl) (by exact fun _ _ _ h => h) (Or.inl ⟨by rfl, ?_⟩) ?_; rotate_left; · (intro w0; go_simp; try with_reducible rfl)
            try simp only [Act.put, List.setIfInBounds_toArray, List.set_cons_zero, List.set_cons_succ]
            refine wpAny_done (by kernel_rfl) ?_ _
            have hF3 : Blk ((w2.alloc (.cells #[.int .u32 (yn : Int), .int .u64 (yl : Int), .int .i64 yk, .string yh, .slice ta ys.length tc, .int .u64 (fd : Int)] 156)).drew) w2.heap.size 156 #[.int .u32 (yn : Int), .int .u64 (yl : Int), .int .i64 yk, .string yh, .slice ta ys.length tc, .int .u64 (fd : Int)] := Blk.new w2 _ _
            have hb3 : Below w2.heap.size w2 ((w2.alloc (.cells #[.int .u32 (yn : Int), .int .u64 (yl : Int), .int .i64 yk, .string yh, .slice ta ys.length tc, .int .u64 (fd : Int)] 156)).drew) := ((Below.refl _ _).alloc (Nat.le_refl _) _).trans ((below_drewN _ 1).mono (by simp))
            generalize (w2.alloc (.cells #[.int .u32 (yn : Int), .int .u64 (yl : Int), .int .i64 yk, .string yh, .slice ta ys.length tc, .int .u64 (fd : Int)] 156)).drew = w4 at *
            have HF4 := Lib.hid hF3
            have HBW3 : Hid (Below w.heap.size w w4) := HBW2.out.trans (hb3.mono HBW2.out.size)
            have HB4 := Lib.hid (HB2.out.same (hb3.block _ HB2.out.lt))
            have HSZ : Hid (w.heap.size < w2.heap.size ∧ w2.heap.size < w4.heap.size) := ⟨HSZ2.out, hF3.lt⟩
            have HP4 : Hid (PPost w4 U0 b lb pb m g q w4) := PPost.refl (HX.out.below HBW3.out)
            have HNU : Hid (∀ k, w.heap.size ≤ k → ¬ U0 k) := fun k hk hu => by have := HLT.out k hu; omega
            clear hF3 hb3 hHeld HLK2 CS
            by_cases kd : fd = 0
            · subst kd
              have g5 : w4.cell? ⟨w2.heap.size, 5, none⟩ = some (.int .u64 0) := HF4.out.cell 5
              have z5 : w4.frozen? ⟨w2.heap.size, 5, none⟩ = false := HF4.out.frozen 5
              obtain ⟨U4, ⟨F4, G4, H4, mb4, pk4, vs4, hB4, hQ4, hD4, hU4⟩, hs4, hm4⟩ := HP4.out
              have a0 : w4.cell? ⟨w.heap.size, 0, none⟩ = some (.int .u32 (xn : Int)) := HB4.out.cell 0
              have a1 : w4.cell? ⟨w.heap.size, 1, none⟩ = some (.int .u64 (xl : Int)) := HB4.out.cell 1
              have a2 : w4.cell? ⟨w.heap.size, 2, none⟩ = some (.int .i64 xk) := HB4.out.cell 2
              have a3 : w4.cell? ⟨w.heap.size, 3, none⟩ = some (.string xh) := HB4.out.cell 3
              have a4 : w4.cell? ⟨w.heap.size, 4, none⟩ = some (.slice sa xs.length sc) := HB4.out.cell 4
              have hrx4 : Reads w4 (.slice sa xs.length sc) xs := (HRX.out.below HBW3.out).same (fun k hk => HP4.out.box (by have := HRX.out.lt k hk; have := HSZ.out; omega) (HSO.out k hk))
              have hnb : w.heap.size ≠ w2.heap.size := by have := HSZ.out; omega
              have hF5 : Blk (w4.setCell ⟨w2.heap.size, 5, none⟩ (.int .u64 (max (xl : Int) 1))) w2.heap.size 156 #[.int .u32 (yn : Int), .int .u64 (yl : Int), .int .i64 yk, .string yh, .slice ta ys.length tc, .int .u64 (max (xl : Int) 1)] := by have := HF4.out.set_ 5 (.int .u64 (max (xl : Int) 1)); simpa using this
              have hs5 : Step (fun r => r = w2.heap.size) w4 (w4.setCell ⟨w2.heap.size, 5, none⟩ (.int .u64 (max (xl : Int) 1))) := (Step.refl (fun r => r = w2.heap.size) w4).setCell (p := ⟨w2.heap.size, 5, none⟩) (.inl rfl) _
              have hX5 : Blk (w4.setCell ⟨w2.heap.size, 5, none⟩ (.int .u64 (max (xl : Int) 1))) w.heap.size 84 _ := HB4.out.same (hs5.block _ HB4.out.lt hnb)
              have hrx5 : Reads (w4.setCell ⟨w2.heap.size, 5, none⟩ (.int .u64 (max (xl : Int) 1))) (.slice sa xs.length sc) xs := hrx4.same (fun k hk => hs5.block k (hrx4.lt k hk) (fun e => by have := HRX.out.lt k hk; have := HSZ.out; have e2 : k = w2.heap.size := e; omega))
              have HC := Lib.hid (copied_c (x := ⟨xn, xl, xk, xh, xs⟩) hrx5 HMI.out.count)
              unfold ShV at HC
              simp only at HC
              have HF5 := Lib.hid hF5
              have HX5 := Lib.hid hX5
              have HS5 := Lib.hid hs5
              have HB4' := Lib.hid hB4
              have HQ4 := Lib.hid hQ4
              have HD4 := Lib.hid hD4
              have HU4 := Lib.hid hU4
              have HS4 := Lib.hid hs4
              have HM4 := Lib.hid hm4
              have HNB := Lib.hid hnb
              have HDM : Hid (max (xl : Int) 1 = ((max xl 1 : Nat) : Int)) := by show _ = _; omega
              clear hF5 hX5 hs5 hB4 hQ4 hD4 hU4 hs4 hm4 hrx4 hrx5
              go_wp2_with (fail)
              refine HC.out.mono ?_
              rintro e w6 ⟨yv, rfl, hyr, hyo, hb6⟩
              obtain ⟨ya, yc, rfl⟩ := hyr.form
              have hF6 := HF5.out.same (hb6.block _ HF5.out.lt)
              have hX6 := HX5.out.same (hb6.block _ HX5.out.lt)
              have hs6 : Step (fun r => r = w2.heap.size) w4 w6 := HS5.out.trans (More.refl _ _) (Step.below hb6)
              have hy5 : ∀ k, (Value.slice ya xs.length yc).ownBlock = some k → w4.heap.size ≤ k := fun k hk => Nat.le_trans HS5.out.size (hyo k hk)
              clear HC hyo hb6 a0 a1 a2 a3 a4 hnb
              have k0 : w6.cell? ⟨w2.heap.size, 0, none⟩ = _ := hF6.cell 0
              have k1 : w6.cell? ⟨w2.heap.size, 1, none⟩ = _ := hF6.cell 1
              have k2 : w6.cell? ⟨w2.heap.size, 2, none⟩ = _ := hF6.cell 2
              have k3 : w6.cell? ⟨w2.heap.size, 3, none⟩ = _ := hF6.cell 3
              have k4 : w6.cell? ⟨w2.heap.size, 4, none⟩ = _ := hF6.cell 4
              simp at k0 k1 k2 k3 k4
              have l0 : w6.frozen? ⟨w2.heap.size, 0, none⟩ = false := hF6.frozen 0
              have l1 : w6.frozen? ⟨w2.heap.size, 1, none⟩ = false := hF6.frozen 1
              have l2 : w6.frozen? ⟨w2.heap.size, 2, none⟩ = false := hF6.frozen 2
              have l3 : w6.frozen? ⟨w2.heap.size, 3, none⟩ = false := hF6.frozen 3
              have l4 : w6.frozen? ⟨w2.heap.size, 4, none⟩ = false := hF6.frozen 4
              have HF6 := Lib.hid hF6
              have HX6 := Lib.hid hX6
              have HS6 := Lib.hid hs6
              have HYR := Lib.hid hyr
              have HY5 := Lib.hid hy5
              clear hF6 hX6 hs6 hyr hy5
              go_wp2_with (fail)
              have hF7 := HF6.out.set6 (v0 := .int .u32 (xn : Int)) (v1 := .int .u64 (xl : Int)) (v2 := .int .i64 xk) (v3 := .string xh) (v4 := .slice ya xs.length yc)
              have hs7 : Step (fun r => r = w2.heap.size) w4 (((((w6.setCell ⟨w2.heap.size, 0, none⟩ (.int .u32 (xn : Int))).setCell ⟨w2.heap.size, 1, none⟩ (.int .u64 (xl : Int))).setCell ⟨w2.heap.size, 2, none⟩ (.int .i64 xk)).setCell ⟨w2.heap.size, 3, none⟩ (.string xh)).setCell ⟨w2.heap.size, 4, none⟩ (.slice ya xs.length yc)) :=
                HS6.out.trans (More.refl _ _) (step_set5 (R := w2.heap.size) (K := fun r => r = w2.heap.size) rfl _ _ _ _ _)
              have hy7 : Reads (((((w6.setCell ⟨w2.heap.size, 0, none⟩ (.int .u32 (xn : Int))).setCell ⟨w2.heap.size, 1, none⟩ (.int .u64 (xl : Int))).setCell ⟨w2.heap.size, 2, none⟩ (.int .i64 xk)).setCell ⟨w2.heap.size, 3, none⟩ (.string xh)).setCell ⟨w2.heap.size, 4, none⟩ (.slice ya xs.length yc)) (.slice ya xs.length yc) xs :=
                reads_set5 HYR.out (fun k hk e => by have := HY5.out k hk; have := HF4.out.lt; omega)
              clear k0 k1 k2 k3 k4 l0 l1 l2 l3 l4
              generalize ((((w6.setCell ⟨w2.heap.size, 0, none⟩ (.int .u32 (xn : Int))).setCell ⟨w2.heap.size, 1, none⟩ (.int .u64 (xl : Int))).setCell ⟨w2.heap.size, 2, none⟩ (.int .i64 xk)).setCell ⟨w2.heap.size, 3, none⟩ (.string xh)).setCell ⟨w2.heap.size, 4, none⟩ (.slice ya xs.length yc) = w7 at *
              have hQ7 : PoolIn w7 H4 pb b lb mb4 pk4 vs4 q := HQ4.out.keep (fun r hr => hs7.block r (HQ4.out.lt r hr) (fun e => by
                have e2 : r = w2.heap.size := e
                rcases HM4.out r (HU4.out r (.inr hr)) with h | h
                · exact HNU.out r (by have := HSZ.out; omega) h
                · have := HSZ.out; omega)) hs7.size
              have hX7 := HB4.out.same (hs7.block _ HB4.out.lt HNB.out)
              have HML : Hid (MapL w7 mb4 vs4) := hQ7.map
              have HVL : Hid (vs4.length < 1000000000000) := by show _ < _; have h1 := hQ7.frs.length; have h2 := hQ7.le; have h3 := hQ7.most; omega
              have CS2 : Hid (OneC ⟨pb, 3, none⟩ (.map (some mb4)) w7 ∧ OneC ⟨w.heap.size, 0, none⟩ (.int .u32 (xn : Int)) w7 ∧ OneC ⟨w2.heap.size, 0, none⟩ (.int .u32 (xn : Int)) w7 ∧ OneC ⟨w2.heap.size, 1, none⟩ (.int .u64 (xl : Int)) w7 ∧ OneC ⟨w2.heap.size, 2, none⟩ (.int .i64 xk) w7 ∧ OneC ⟨w2.heap.size, 3, none⟩ (.string xh) w7 ∧ OneC ⟨w2.heap.size, 4, none⟩ (.slice ya xs.length yc) w7 ∧ OneC ⟨w2.heap.size, 5, none⟩ (.int .u64 (max (xl : Int) 1)) w7) :=
                ⟨hQ7.cells.2.2.2.1, hX7.cell 0, hF7.cell 0, hF7.cell 1, hF7.cell 2, hF7.cell 3, hF7.cell 4, hF7.cell 5⟩
              have HQ7 := Lib.hid hQ7
              have HS7 := Lib.hid hs7
              have HY7 := Lib.hid hy7
              have hxn := HN1.out
              clear hF7 hs7 hy7 hQ7 hX7
              refine wp_region_late (S := fun W => OneC ⟨pb, 3, none⟩ (.map (some mb4)) W ∧ OneC ⟨w.heap.size, 0, none⟩ (.int .u32 (xn : Int)) W ∧ OneC ⟨w2.heap.size, 0, none⟩ (.int .u32 (xn : Int)) W ∧ OneC ⟨w2.heap.size, 1, none⟩ (.int .u64 (xl : Int)) W ∧ OneC ⟨w2.heap.size, 2, none⟩ (.int .i64 xk) W ∧ OneC ⟨w2.heap.size, 3, none⟩ (.string xh) W ∧ OneC ⟨w2.heap.size, 4, none⟩ (.slice ya xs.length yc) W ∧ OneC ⟨w2.heap.size, 5, none⟩ (.int .u64 (max (xl : Int) 1)) W) (late := [7]) (by kernel_rfl) CS2.out (fun hHeld => ?_)
              refine wpAnyL_move (i := 0) (v := ?_) (by rfl) (by kernel_rfl) (by kernel_rfl) (by kernel_rfl) (by rfl) (by exact fun _ _ _ h => h) (Or.inl ⟨by rfl, ?_⟩) (by assumption) ?_; rotate_left; · (intro w0; go_simp; try with_reducible rfl)
              try simp only [Act.put, List.setIfInBounds_toArray, List.set_cons_zero, List.set_cons_succ]
              refine wpAnyL_move (i := 1) (v := ?_) (by rfl) (by kernel_rfl) (by kernel_rfl) (by kernel_rfl) (by rfl) (by exact fun _ _ _ h => h) (Or.inl ⟨by rfl, ?_⟩) (by assumption) ?_; rotate_left; · (intro w0; go_simp; try with_reducible rfl)
              try simp only [Act.put, List.setIfInBounds_toArray, List.set_cons_zero, List.set_cons_succ]
              refine wpAnyL_move (i := 2) (v := ?_) (by rfl) (by kernel_rfl) (by kernel_rfl) (by kernel_rfl) (by rfl) (by exact fun _ _ _ h => h) (Or.inl ⟨by rfl, ?_⟩) (by assumption) ?_; rotate_left; · (intro w0; go_simp; try with_reducible rfl)
              try simp only [Act.put, List.setIfInBounds_toArray, List.set_cons_zero, List.set_cons_succ]
              refine wpAnyL_load (i := 3) (v := ?_) (by rfl) (by kernel_rfl) (by kernel_rfl) (by kernel_rfl) (by rfl) (by kernel_rfl) (by exact fun _ _ _ h => h) (Or.inl ⟨by rfl, ?_⟩) (by assumption) ?_; rotate_left; · (intro w0 hS0; obtain ⟨hS1, hS2, hS3, hS4, hS5, hS6, hS7, hS8⟩ := hS0; unfold OneC at hS1 hS2 hS3 hS4 hS5 hS6 hS7 hS8; go_simp; try with_reducible rfl)
              try simp only [Act.put, List.setIfInBounds_toArray, List.set_cons_zero, List.set_cons_succ]
              refine wpAnyL_move (i := 4) (v := ?_) (by rfl) (by kernel_rfl) (by kernel_rfl) (by kernel_rfl) (by rfl) (by exact fun _ _ _ h => h) (Or.inl ⟨by rfl, ?_⟩) (by assumption) ?_; rotate_left; · (intro w0; go_simp; try with_reducible rfl)
              try simp only [Act.put, List.setIfInBounds_toArray, List.set_cons_zero, List.set_cons_succ]
              refine wpAnyL_load (i := 5) (v := ?_) (by rfl) (by kernel_rfl) (by kernel_rfl) (by kernel_rfl) (by rfl) (by kernel_rfl) (by exact fun _ _ _ h => h) (Or.inl ⟨by rfl, ?_⟩) (by assumption) ?_; rotate_left; · (intro w0 hS0; obtain ⟨hS1, hS2, hS3, hS4, hS5, hS6, hS7, hS8⟩ := hS0; unfold OneC at hS1 hS2 hS3 hS4 hS5 hS6 hS7 hS8; go_simp; try with_reducible rfl)
              try simp only [Act.put, List.setIfInBounds_toArray, List.set_cons_zero, List.set_cons_succ]
              refine wpAnyL_load (i := 6) (v := ?_) (by rfl) (by kernel_rfl) (by kernel_rfl) (by kernel_rfl) (by rfl) (by kernel_rfl) (by exact fun _ _ _ h => h) (Or.inl ⟨by rfl, ?_⟩) (by assumption) ?_; rotate_left; · (intro w0 hS0; obtain ⟨hS1, hS2, hS3, hS4, hS5, hS6, hS7, hS8⟩ := hS0; unfold OneC at hS1 hS2 hS3 hS4 hS5 hS6 hS7 hS8; go_simp; try with_reducible rfl)
              try simp only [Act.put, List.setIfInBounds_toArray, List.set_cons_zero, List.set_cons_succ]
              refine wpAnyL_late (i := 7) (by kernel_rfl) (by rfl) (by rfl) (fun K hK => ?_)
              refine step_storeL _ (by rfl) _ _ _ (by rfl) mb4 vs4 (by rfl) (HML.out.same (w' := w7.drew) rfl) xn (by omega) HVL.out _ (by rfl) (by rfl) ?_; intro w8 hm8 hg8
              refine hK.out _ _ ?_
              clear hK K
              try simp only [Act.put]
              refine wpAny_done (by kernel_rfl) ?_ _
              have hd : ((max xl 1 : Nat) : Int) = max (xl : Int) 1 := by first | rfl | omega
              rw [← hd] at hm8
              have hP8 := (HQ7.out.drewN 1).add (f := ⟨⟨xn, xl, xk, xh, xs⟩, max xl 1⟩) (sv := .slice ya xs.length yc) (HY7.out.same (fun _ _ => rfl)) (fun k hk => by have h1 := HY5.out k hk; have h2 := HQ4.out.lt pb HQ4.out.hpb; have h3 := HQ4.out.lt mb4 HQ4.out.hmb; exact ⟨by omega, by omega⟩) hg8 hm8 (HLEN.out _) HN1.out HMI.out (by show max xl 1 < 18446744073709551616; omega)
              have hs8 : Step (fun r => H4 r ∨ r = w2.heap.size) w4 w8 := ((HS7.out.wider (fun r hr => .inr hr)).drewN 1).grown hg8 (fun k hk => by cases hk; exact .inl (.inl HQ4.out.hmb))
              have HF := Lib.hid (PX.addK HBW3.out HS4.out HM4.out HB4'.out HD4.out HQ4.out HU4.out hP8 hs8 (fun r hr => by rcases hr with hr | hr; exact .inl hr; exact .inr (HY5.out r hr)) (fun r hr => by have := HSZ.out; exact ⟨by omega, by omega, HNU.out r (by omega)⟩))
              clear hm8 hg8 hP8 hs8
              go_wp2
              go_ret
              rw [HD.out]
              exact ⟨rfl, HF.out.widen HU0.out⟩
            · have kd2 : ¬ ((fd : Int) = 0) := by omega
              have g5 : w4.cell? ⟨w2.heap.size, 5, none⟩ = some (.int .u64 (fd : Int)) := HF4.out.cell 5
              obtain ⟨U4, ⟨F4, G4, H4, mb4, pk4, vs4, hB4, hQ4, hD4, hU4⟩, hs4, hm4⟩ := HP4.out
              have a0 : w4.cell? ⟨w.heap.size, 0, none⟩ = some (.int .u32 (xn : Int)) := HB4.out.cell 0
              have a1 : w4.cell? ⟨w.heap.size, 1, none⟩ = some (.int .u64 (xl : Int)) := HB4.out.cell 1
              have a2 : w4.cell? ⟨w.heap.size, 2, none⟩ = some (.int .i64 xk) := HB4.out.cell 2
              have a3 : w4.cell? ⟨w.heap.size, 3, none⟩ = some (.string xh) := HB4.out.cell 3
              have a4 : w4.cell? ⟨w.heap.size, 4, none⟩ = some (.slice sa xs.length sc) := HB4.out.cell 4
              have hrx4 : Reads w4 (.slice sa xs.length sc) xs := (HRX.out.below HBW3.out).same (fun k hk => HP4.out.box (by have := HRX.out.lt k hk; have := HSZ.out; omega) (HSO.out k hk))
              have hnb : w.heap.size ≠ w2.heap.size := by have := HSZ.out; omega
              have hF5 : Blk (w4) w2.heap.size 156 #[.int .u32 (yn : Int), .int .u64 (yl : Int), .int .i64 yk, .string yh, .slice ta ys.length tc, .int .u64 (fd : Int)] := HF4.out
              have hs5 : Step (fun r => r = w2.heap.size) w4 (w4) := Step.refl _ w4
              have hX5 : Blk (w4) w.heap.size 84 _ := HB4.out.same (hs5.block _ HB4.out.lt hnb)
              have hrx5 : Reads (w4) (.slice sa xs.length sc) xs := hrx4.same (fun k hk => hs5.block k (hrx4.lt k hk) (fun e => by have := HRX.out.lt k hk; have := HSZ.out; have e2 : k = w2.heap.size := e; omega))
              have HC := Lib.hid (copied_c (x := ⟨xn, xl, xk, xh, xs⟩) hrx5 HMI.out.count)
              unfold ShV at HC
              simp only at HC
              have HF5 := Lib.hid hF5
              have HX5 := Lib.hid hX5
              have HS5 := Lib.hid hs5
              have HB4' := Lib.hid hB4
              have HQ4 := Lib.hid hQ4
              have HD4 := Lib.hid hD4
              have HU4 := Lib.hid hU4
              have HS4 := Lib.hid hs4
              have HM4 := Lib.hid hm4
              have HNB := Lib.hid hnb
              have HDM : Hid ((fd : Int) = ((fd : Nat) : Int)) := by show _ = _; omega
              clear hF5 hX5 hs5 hB4 hQ4 hD4 hU4 hs4 hm4 hrx4 hrx5
              go_wp2_with (fail)
              refine HC.out.mono ?_
              rintro e w6 ⟨yv, rfl, hyr, hyo, hb6⟩
              obtain ⟨ya, yc, rfl⟩ := hyr.form
              have hF6 := HF5.out.same (hb6.block _ HF5.out.lt)
              have hX6 := HX5.out.same (hb6.block _ HX5.out.lt)
              have hs6 : Step (fun r => r = w2.heap.size) w4 w6 := HS5.out.trans (More.refl _ _) (Step.below hb6)
              have hy5 : ∀ k, (Value.slice ya xs.length yc).ownBlock = some k → w4.heap.size ≤ k := fun k hk => Nat.le_trans HS5.out.size (hyo k hk)
              clear HC hyo hb6 a0 a1 a2 a3 a4 hnb
              have k0 : w6.cell? ⟨w2.heap.size, 0, none⟩ = _ := hF6.cell 0
              have k1 : w6.cell? ⟨w2.heap.size, 1, none⟩ = _ := hF6.cell 1
              have k2 : w6.cell? ⟨w2.heap.size, 2, none⟩ = _ := hF6.cell 2
              have k3 : w6.cell? ⟨w2.heap.size, 3, none⟩ = _ := hF6.cell 3
              have k4 : w6.cell? ⟨w2.heap.size, 4, none⟩ = _ := hF6.cell 4
              simp at k0 k1 k2 k3 k4
              have l0 : w6.frozen? ⟨w2.heap.size, 0, none⟩ = false := hF6.frozen 0
              have l1 : w6.frozen? ⟨w2.heap.size, 1, none⟩ = false := hF6.frozen 1
              have l2 : w6.frozen? ⟨w2.heap.size, 2, none⟩ = false := hF6.frozen 2
              have l3 : w6.frozen? ⟨w2.heap.size, 3, none⟩ = false := hF6.frozen 3
              have l4 : w6.frozen? ⟨w2.heap.size, 4, none⟩ = false := hF6.frozen 4
              have HF6 := Lib.hid hF6
              have HX6 := Lib.hid hX6
              have HS6 := Lib.hid hs6
              have HYR := Lib.hid hyr
              have HY5 := Lib.hid hy5
              clear hF6 hX6 hs6 hyr hy5
              go_wp2_with (fail)
              have hF7 := HF6.out.set6 (v0 := .int .u32 (xn : Int)) (v1 := .int .u64 (xl : Int)) (v2 := .int .i64 xk) (v3 := .string xh) (v4 := .slice ya xs.length yc)
              have hs7 : Step (fun r => r = w2.heap.size) w4 (((((w6.setCell ⟨w2.heap.size, 0, none⟩ (.int .u32 (xn : Int))).setCell ⟨w2.heap.size, 1, none⟩ (.int .u64 (xl : Int))).setCell ⟨w2.heap.size, 2, none⟩ (.int .i64 xk)).setCell ⟨w2.heap.size, 3, none⟩ (.string xh)).setCell ⟨w2.heap.size, 4, none⟩ (.slice ya xs.length yc)) :=
                HS6.out.trans (More.refl _ _) (step_set5 (R := w2.heap.size) (K := fun r => r = w2.heap.size) rfl _ _ _ _ _)
              have hy7 : Reads (((((w6.setCell ⟨w2.heap.size, 0, none⟩ (.int .u32 (xn : Int))).setCell ⟨w2.heap.size, 1, none⟩ (.int .u64 (xl : Int))).setCell ⟨w2.heap.size, 2, none⟩ (.int .i64 xk)).setCell ⟨w2.heap.size, 3, none⟩ (.string xh)).setCell ⟨w2.heap.size, 4, none⟩ (.slice ya xs.length yc)) (.slice ya xs.length yc) xs :=
                reads_set5 HYR.out (fun k hk e => by have := HY5.out k hk; have := HF4.out.lt; omega)
              clear k0 k1 k2 k3 k4 l0 l1 l2 l3 l4
              generalize ((((w6.setCell ⟨w2.heap.size, 0, none⟩ (.int .u32 (xn : Int))).setCell ⟨w2.heap.size, 1, none⟩ (.int .u64 (xl : Int))).setCell ⟨w2.heap.size, 2, none⟩ (.int .i64 xk)).setCell ⟨w2.heap.size, 3, none⟩ (.string xh)).setCell ⟨w2.heap.size, 4, none⟩ (.slice ya xs.length yc) = w7 at *
              have hQ7 : PoolIn w7 H4 pb b lb mb4 pk4 vs4 q := HQ4.out.keep (fun r hr => hs7.block r (HQ4.out.lt r hr) (fun e => by
                have e2 : r = w2.heap.size := e
                rcases HM4.out r (HU4.out r (.inr hr)) with h | h
                · exact HNU.out r (by have := HSZ.out; omega) h
                · have := HSZ.out; omega)) hs7.size
              have hX7 := HB4.out.same (hs7.block _ HB4.out.lt HNB.out)
              have HML : Hid (MapL w7 mb4 vs4) := hQ7.map
              have HVL : Hid (vs4.length < 1000000000000) := by show _ < _; have h1 := hQ7.frs.length; have h2 := hQ7.le; have h3 := hQ7.most; omega
              have CS2 : Hid (OneC ⟨pb, 3, none⟩ (.map (some mb4)) w7 ∧ OneC ⟨w.heap.size, 0, none⟩ (.int .u32 (xn : Int)) w7 ∧ OneC ⟨w2.heap.size, 0, none⟩ (.int .u32 (xn : Int)) w7 ∧ OneC ⟨w2.heap.size, 1, none⟩ (.int .u64 (xl : Int)) w7 ∧ OneC ⟨w2.heap.size, 2, none⟩ (.int .i64 xk) w7 ∧ OneC ⟨w2.heap.size, 3, none⟩ (.string xh) w7 ∧ OneC ⟨w2.heap.size, 4, none⟩ (.slice ya xs.length yc) w7 ∧ OneC ⟨w2.heap.size, 5, none⟩ (.int .u64 (fd : Int)) w7) :=
                ⟨hQ7.cells.2.2.2.1, hX7.cell 0, hF7.cell 0, hF7.cell 1, hF7.cell 2, hF7.cell 3, hF7.cell 4, hF7.cell 5⟩
              have HQ7 := Lib.hid hQ7
              have HS7 := Lib.hid hs7
              have HY7 := Lib.hid hy7
              have hxn := HN1.out
              clear hF7 hs7 hy7 hQ7 hX7
              refine wp_region_late (S := fun W => OneC ⟨pb, 3, none⟩ (.map (some mb4)) W ∧ OneC ⟨w.heap.size, 0, none⟩ (.int .u32 (xn : Int)) W ∧ OneC ⟨w2.heap.size, 0, none⟩ (.int .u32 (xn : Int)) W ∧ OneC ⟨w2.heap.size, 1, none⟩ (.int .u64 (xl : Int)) W ∧ OneC ⟨w2.heap.size, 2, none⟩ (.int .i64 xk) W ∧ OneC ⟨w2.heap.size, 3, none⟩ (.string xh) W ∧ OneC ⟨w2.heap.size, 4, none⟩ (.slice ya xs.length yc) W ∧ OneC ⟨w2.heap.size, 5, none⟩ (.int .u64 (fd : Int)) W) (late := [7]) (by kernel_rfl) CS2.out (fun hHeld => ?_)
              refine wpAnyL_move (i := 0) (v := ?_) (by rfl) (by kernel_rfl) (by kernel_rfl) (by kernel_rfl) (by rfl) (by exact fun _ _ _ h => h) (Or.inl ⟨by rfl, ?_⟩) (by assumption) ?_; rotate_left; · (intro w0; go_simp; try with_reducible rfl)
              try simp only [Act.put, List.setIfInBounds_toArray, List.set_cons_zero, List.set_cons_succ]
              refine wpAnyL_move (i := 1) (v := ?_) (by rfl) (by kernel_rfl) (by kernel_rfl) (by kernel_rfl) (by rfl) (by exact fun _ _ _ h => h) (Or.inl ⟨by rfl, ?_⟩) (by assumption) ?_; rotate_left; · (intro w0; go_simp; try with_reducible rfl)
              try simp only [Act.put, List.setIfInBounds_toArray, List.set_cons_zero, List.set_cons_succ]
              refine wpAnyL_move (i := 2) (v := ?_) (by rfl) (by kernel_rfl) (by kernel_rfl) (by kernel_rfl) (by rfl) (by exact fun _ _ _ h => h) (Or.inl ⟨by rfl, ?_⟩) (by assumption) ?_; rotate_left; · (intro w0; go_simp; try with_reducible rfl)
              try simp only [Act.put, List.setIfInBounds_toArray, List.set_cons_zero, List.set_cons_succ]
              refine wpAnyL_load (i := 3) (v := ?_) (by rfl) (by kernel_rfl) (by kernel_rfl) (by kernel_rfl) (by rfl) (by kernel_rfl) (by exact fun _ _ _ h => h) (Or.inl ⟨by rfl, ?_⟩) (by assumption) ?_; rotate_left; · (intro w0 hS0; obtain ⟨hS1, hS2, hS3, hS4, hS5, hS6, hS7, hS8⟩ := hS0; unfold OneC at hS1 hS2 hS3 hS4 hS5 hS6 hS7 hS8; go_simp; try with_reducible rfl)
              try simp only [Act.put, List.setIfInBounds_toArray, List.set_cons_zero, List.set_cons_succ]
              refine wpAnyL_move (i := 4) (v := ?_) (by rfl) (by kernel_rfl) (by kernel_rfl) (by kernel_rfl) (by rfl) (by exact fun _ _ _ h => h) (Or.inl ⟨by rfl, ?_⟩) (by assumption) ?_; rotate_left; · (intro w0; go_simp; try with_reducible rfl)
              try simp only [Act.put, List.setIfInBounds_toArray, List.set_cons_zero, List.set_cons_succ]
              refine wpAnyL_load (i := 5) (v := ?_) (by rfl) (by kernel_rfl) (by kernel_rfl) (by kernel_rfl) (by rfl) (by kernel_rfl) (by exact fun _ _ _ h => h) (Or.inl ⟨by rfl, ?_⟩) (by assumption) ?_; rotate_left; · (intro w0 hS0; obtain ⟨hS1, hS2, hS3, hS4, hS5, hS6, hS7, hS8⟩ := hS0; unfold OneC at hS1 hS2 hS3 hS4 hS5 hS6 hS7 hS8; go_simp; try with_reducible rfl)
              try simp only [Act.put, List.setIfInBounds_toArray, List.set_cons_zero, List.set_cons_succ]
              refine wpAnyL_load (i := 6) (v := ?_) (by rfl) (by kernel_rfl) (by kernel_rfl) (by kernel_rfl) (by rfl) (by kernel_rfl) (by exact fun _ _ _ h => h) (Or.inl ⟨by rfl, ?_⟩) (by assumption) ?_; rotate_left; · (intro w0 hS0; obtain ⟨hS1, hS2, hS3, hS4, hS5, hS6, hS7, hS8⟩ := hS0; unfold OneC at hS1 hS2 hS3 hS4 hS5 hS6 hS7 hS8; go_simp; try with_reducible rfl)
              try simp only [Act.put, List.setIfInBounds_toArray, List.set_cons_zero, List.set_cons_succ]
              refine wpAnyL_late (i := 7) (by kernel_rfl) (by rfl) (by rfl) (fun K hK => ?_)
              refine step_storeL _ (by rfl) _ _ _ (by rfl) mb4 vs4 (by rfl) (HML.out.same (w' := w7.drew) rfl) xn (by omega) HVL.out _ (by rfl) (by rfl) ?_; intro w8 hm8 hg8
              refine hK.out _ _ ?_
              clear hK K
              try simp only [Act.put]
              refine wpAny_done (by kernel_rfl) ?_ _
              have hd : ((fd : Nat) : Int) = (fd : Int) := by first | rfl | omega
              rw [← hd] at hm8
              have hP8 := (HQ7.out.drewN 1).add (f := ⟨⟨xn, xl, xk, xh, xs⟩, fd⟩) (sv := .slice ya xs.length yc) (HY7.out.same (fun _ _ => rfl)) (fun k hk => by have h1 := HY5.out k hk; have h2 := HQ4.out.lt pb HQ4.out.hpb; have h3 := HQ4.out.lt mb4 HQ4.out.hmb; exact ⟨by omega, by omega⟩) hg8 hm8 (HLEN.out _) HN1.out HMI.out (by show fd < 18446744073709551616; omega)
              have hs8 : Step (fun r => H4 r ∨ r = w2.heap.size) w4 w8 := ((HS7.out.wider (fun r hr => .inr hr)).drewN 1).grown hg8 (fun k hk => by cases hk; exact .inl (.inl HQ4.out.hmb))
              have HF := Lib.hid (PX.addK HBW3.out HS4.out HM4.out HB4'.out HD4.out HQ4.out HU4.out hP8 hs8 (fun r hr => by rcases hr with hr | hr; exact .inl hr; exact .inr (HY5.out r hr)) (fun r hr => by have := HSZ.out; exact ⟨by omega, by omega, HNU.out r (by omega)⟩))
              clear hm8 hg8 hP8 hs8
              go_wp2
              go_ret
              rw [HD.out, Po.put_ne kd]
              exact ⟨rfl, HF.out.widen HU0.out⟩
          exact EachL.nil
        refine EachL.cons (by rfl) (by rfl) (fun K hK => ?_) ?_
        · go_simp
          refine hK.out _ _ ⟨hHeld.1.alloc _, hHeld.2.1.alloc _, heap_alloc_some hHeld.2.2⟩ (fun hHeld => ?_)
          clear hK K
          try simp only [Act.put, List.setIfInBounds_toArray, List.set_cons_zero, List.set_cons_succ]
          refine wpAnyL_each (rs := [6]) (by kernel_rfl) (by simp) ?_
          refine EachL.cons (by rfl) (by rfl) (fun K hK => ?_) ?_
          · have hL := (HLK2 _ hHeld.2.2).out
            go_simp
            refine hK.out _ _ hHeld (fun hHeld => ?_)
            clear hK K
            try simp only [Act.put, List.setIfInBounds_toArray, List.set_cons_zero, List.set_cons_succ]
            refine wpAnyL_move (i := 7) (v := ?_) (by rfl) (by kernel_rfl) (by kernel_rfl) (by kernel_rfl) (by rfl) (by exact fun _ _ _ h => h) (Or.inl ⟨by rfl, ?_⟩) (by assumption) ?_; rotate_left; · (intro w0; go_simp; try with_reducible rfl)
            try simp only [Act.put, List.setIfInBounds_toArray, List.set_cons_zero, List.set_cons_succ]
            refine wpAnyL_move (i := 8) (v := ?_) (by rfl) (by kernel_rfl) (by kernel_rfl) (by kernel_rfl) (by rfl) (by exact fun _ _ _ h => h) (Or.inl ⟨by rfl, ?_⟩) (by assumption) ?_; rotate_left; · (intro w0; go_simp; try with_reducible rfl)
            try simp only [Act.put, List.setIfInBounds_toArray, List.set_cons_zero, List.set_cons_succ]
            refine wpAnyL_move (i := 9) (v := ?_) (by rfl) (by kernel_rfl) (by kernel_rfl) (by kernel_rfl) (by rfl) (by exact fun _ _ _ h => h) (Or.inl ⟨by rfl, ?_⟩) (by assumption) ?_; rotate_left; · (intro w0; go_simp; try with_reducible rfl)
            try simp only [Act.put, List.setIfInBounds_toArray, List.set_cons_zero, List.set_cons_succ]
            refine wpAnyL_late (i := 11) (by kernel_rfl) (by rfl) (by rfl) (fun K hK => ?_)
            go_simp
            refine hK.out _ _ ?_
            clear hK K
            try simp only [Act.put, List.setIfInBounds_toArray, List.set_cons_zero, List.set_cons_succ]
            refine wpAny_move (i := 12) (v := ?_) (by rfl) (by kernel_rfl) (by kernel_rfl) (by kernel_rfl) (by exact fun _ _ _ h => h) (Or.inl ⟨by rfl, ?_⟩) ?_; rotate_left; · (intro w0; go_simp; try with_reducible rfl)
            try simp only [Act.put, List.setIfInBounds_toArray, List.set_cons_zero, List.set_cons_succ]
            refine wpAny_done (by kernel_rfl) ?_ _
            have hF3 : Blk ((w2.alloc (.cells #[.int .u32 (yn : Int), .int .u64 (yl : Int), .int .i64 yk, .string yh, .slice ta ys.length tc, .int .u64 (fd : Int)] 156)).drew) w2.heap.size 156 #[.int .u32 (yn : Int), .int .u64 (yl : Int), .int .i64 yk, .string yh, .slice ta ys.length tc, .int .u64 (fd : Int)] := Blk.new w2 _ _
            have hb3 : Below w2.heap.size w2 ((w2.alloc (.cells #[.int .u32 (yn : Int), .int .u64 (yl : Int), .int .i64 yk, .string yh, .slice ta ys.length tc, .int .u64 (fd : Int)] 156)).drew) := ((Below.refl _ _).alloc (Nat.le_refl _) _).trans ((below_drewN _ 1).mono (by simp))
            generalize (w2.alloc (.cells #[.int .u32 (yn : Int), .int .u64 (yl : Int), .int .i64 yk, .string yh, .slice ta ys.length tc, .int .u64 (fd : Int)] 156)).drew = w4 at *
            have HF4 := Lib.hid hF3
            have HBW3 : Hid (Below w.heap.size w w4) := HBW2.out.trans (hb3.mono HBW2.out.size)
            have HB4 := Lib.hid (HB2.out.same (hb3.block _ HB2.out.lt))
            have HSZ : Hid (w.heap.size < w2.heap.size ∧ w2.heap.size < w4.heap.size) := ⟨HSZ2.out, hF3.lt⟩
            have HP4 : Hid (PPost w4 U0 b lb pb m g q w4) := PPost.refl (HX.out.below HBW3.out)
            have HNU : Hid (∀ k, w.heap.size ≤ k → ¬ U0 k) := fun k hk hu => by have := HLT.out k hu; omega
            clear hF3 hb3 hHeld HLK2 CS
            by_cases kd : fd = 0
            · subst kd
              have g5 : w4.cell? ⟨w2.heap.size, 5, none⟩ = some (.int .u64 0) := HF4.out.cell 5
              have z5 : w4.frozen? ⟨w2.heap.size, 5, none⟩ = false := HF4.out.frozen 5
              obtain ⟨U4, ⟨F4, G4, H4, mb4, pk4, vs4, hB4, hQ4, hD4, hU4⟩, hs4, hm4⟩ := HP4.out
              have a0 : w4.cell? ⟨w.heap.size, 0, none⟩ = some (.int .u32 (xn : Int)) := HB4.out.cell 0
              have a1 : w4.cell? ⟨w.heap.size, 1, none⟩ = some (.int .u64 (xl : Int)) := HB4.out.cell 1
              have a2 : w4.cell? ⟨w.heap.size, 2, none⟩ = some (.int .i64 xk) := HB4.out.cell 2
              have a3 : w4.cell? ⟨w.heap.size, 3, none⟩ = some (.string xh) := HB4.out.cell 3
              have a4 : w4.cell? ⟨w.heap.size, 4, none⟩ = some (.slice sa xs.length sc) := HB4.out.cell 4
              have hrx4 : Reads w4 (.slice sa xs.length sc) xs := (HRX.out.below HBW3.out).same (fun k hk => HP4.out.box (by have := HRX.out.lt k hk; have := HSZ.out; omega) (HSO.out k hk))
              have hnb : w.heap.size ≠ w2.heap.size := by have := HSZ.out; omega
              have hF5 : Blk (w4.setCell ⟨w2.heap.size, 5, none⟩ (.int .u64 (max (xl : Int) 1))) w2.heap.size 156 #[.int .u32 (yn : Int), .int .u64 (yl : Int), .int .i64 yk, .string yh, .slice ta ys.length tc, .int .u64 (max (xl : Int) 1)] := by have := HF4.out.set_ 5 (.int .u64 (max (xl : Int) 1)); simpa using this
              have hs5 : Step (fun r => r = w2.heap.size) w4 (w4.setCell ⟨w2.heap.size, 5, none⟩ (.int .u64 (max (xl : Int) 1))) := (Step.refl (fun r => r = w2.heap.size) w4).setCell (p := ⟨w2.heap.size, 5, none⟩) (.inl rfl) _
              have hX5 : Blk (w4.setCell ⟨w2.heap.size, 5, none⟩ (.int .u64 (max (xl : Int) 1))) w.heap.size 84 _ := HB4.out.same (hs5.block _ HB4.out.lt hnb)
              have hrx5 : Reads (w4.setCell ⟨w2.heap.size, 5, none⟩ (.int .u64 (max (xl : Int) 1))) (.slice sa xs.length sc) xs := hrx4.same (fun k hk => hs5.block k (hrx4.lt k hk) (fun e => by have := HRX.out.lt k hk; have := HSZ.out; have e2 : k = w2.heap.size := e; omega))
              have HC := Lib.hid (copied_c (x := ⟨xn, xl, xk, xh, xs⟩) hrx5 HMI.out.count)
              unfold ShV at HC
              simp only at HC
              have HF5 := Lib.hid hF5
              have HX5 := Lib.hid hX5
              have HS5 := Lib.hid hs5
              have HB4' := Lib.hid hB4
              have HQ4 := Lib.hid hQ4
              have HD4 := Lib.hid hD4
              have HU4 := Lib.hid hU4
              have HS4 := Lib.hid hs4
              have HM4 := Lib.hid hm4
              have HNB := Lib.hid hnb
              have HDM : Hid (max (xl : Int) 1 = ((max xl 1 : Nat) : Int)) := by show _ = _; omega
              clear hF5 hX5 hs5 hB4 hQ4 hD4 hU4 hs4 hm4 hrx4 hrx5
              go_wp2_with (fail)
              refine HC.out.mono ?_
              rintro e w6 ⟨yv, rfl, hyr, hyo, hb6⟩
              obtain ⟨ya, yc, rfl⟩ := hyr.form
              have hF6 := HF5.out.same (hb6.block _ HF5.out.lt)
              have hX6 := HX5.out.same (hb6.block _ HX5.out.lt)
              have hs6 : Step (fun r => r = w2.heap.size) w4 w6 := HS5.out.trans (More.refl _ _) (Step.below hb6)
              have hy5 : ∀ k, (Value.slice ya xs.length yc).ownBlock = some k → w4.heap.size ≤ k := fun k hk => Nat.le_trans HS5.out.size (hyo k hk)
              clear HC hyo hb6 a0 a1 a2 a3 a4 hnb
              have k0 : w6.cell? ⟨w2.heap.size, 0, none⟩ = _ := hF6.cell 0
              have k1 : w6.cell? ⟨w2.heap.size, 1, none⟩ = _ := hF6.cell 1
              have k2 : w6.cell? ⟨w2.heap.size, 2, none⟩ = _ := hF6.cell 2
              have k3 : w6.cell? ⟨w2.heap.size, 3, none⟩ = _ := hF6.cell 3
              have k4 : w6.cell? ⟨w2.heap.size, 4, none⟩ = _ := hF6.cell 4
              simp at k0 k1 k2 k3 k4
              have l0 : w6.frozen? ⟨w2.heap.size, 0, none⟩ = false := hF6.frozen 0
              have l1 : w6.frozen? ⟨w2.heap.size, 1, none⟩ = false := hF6.frozen 1
              have l2 : w6.frozen? ⟨w2.heap.size, 2, none⟩ = false := hF6.frozen 2
              have l3 : w6.frozen? ⟨w2.heap.size, 3, none⟩ = false := hF6.frozen 3
              have l4 : w6.frozen? ⟨w2.heap.size, 4, none⟩ = false := hF6.frozen 4
              have HF6 := Lib.hid hF6
              have HX6 := Lib.hid hX6
              have HS6 := Lib.hid hs6
              have HYR := Lib.hid hyr
              have HY5 := Lib.hid hy5
              clear hF6 hX6 hs6 hyr hy5
              go_wp2_with (fail)
              have hF7 := HF6.out.set6 (v0 := .int .u32 (xn : Int)) (v1 := .int .u64 (xl : Int)) (v2 := .int .i64 xk) (v3 := .string xh) (v4 := .slice ya xs.length yc)
              have hs7 : Step (fun r => r = w2.heap.size) w4 (((((w6.setCell ⟨w2.heap.size, 0, none⟩ (.int .u32 (xn : Int))).setCell ⟨w2.heap.size, 1, none⟩ (.int .u64 (xl : Int))).setCell ⟨w2.heap.size, 2, none⟩ (.int .i64 xk)).setCell ⟨w2.heap.size, 3, none⟩ (.string xh)).setCell ⟨w2.heap.size, 4, none⟩ (.slice ya xs.length yc)) :=
                HS6.out.trans (More.refl _ _) (step_set5 (R := w2.heap.size) (K := fun r => r = w2.heap.size) rfl _ _ _ _ _)
              have hy7 : Reads (((((w6.setCell ⟨w2.heap.size, 0, none⟩ (.int .u32 (xn : Int))).setCell ⟨w2.heap.size, 1, none⟩ (.int .u64 (xl : Int))).setCell ⟨w2.heap.size, 2, none⟩ (.int .i64 xk)).setCell ⟨w2.heap.size, 3, none⟩ (.string xh)).setCell ⟨w2.heap.size, 4, none⟩ (.slice ya xs.length yc)) (.slice ya xs.length yc) xs :=
                reads_set5 HYR.out (fun k hk e => by have := HY5.out k hk; have := HF4.out.lt; omega)
              clear k0 k1 k2 k3 k4 l0 l1 l2 l3 l4
              generalize ((((w6.setCell ⟨w2.heap.size, 0, none⟩ (.int .u32 (xn : Int))).setCell ⟨w2.heap.size, 1, none⟩ (.int .u64 (xl : Int))).setCell ⟨w2.heap.size, 2, none⟩ (.int .i64 xk)).setCell ⟨w2.heap.size, 3, none⟩ (.string xh)).setCell ⟨w2.heap.size, 4, none⟩ (.slice ya xs.length yc) = w7 at *
              have hQ7 : PoolIn w7 H4 pb b lb mb4 pk4 vs4 q := HQ4.out.keep (fun r hr => hs7.block r (HQ4.out.lt r hr) (fun e => by
                have e2 : r = w2.heap.size := e
                rcases HM4.out r (HU4.out r (.inr hr)) with h | h
                · exact HNU.out r (by have := HSZ.out; omega) h
                · have := HSZ.out; omega)) hs7.size
              have hX7 := HB4.out.same (hs7.block _ HB4.out.lt HNB.out)
              have HML : Hid (MapL w7 mb4 vs4) := hQ7.map
              have HVL : Hid (vs4.length < 1000000000000) := by show _ < _; have h1 := hQ7.frs.length; have h2 := hQ7.le; have h3 := hQ7.most; omega
              have CS2 : Hid (OneC ⟨pb, 3, none⟩ (.map (some mb4)) w7 ∧ OneC ⟨w.heap.size, 0, none⟩ (.int .u32 (xn : Int)) w7 ∧ OneC ⟨w2.heap.size, 0, none⟩ (.int .u32 (xn : Int)) w7 ∧ OneC ⟨w2.heap.size, 1, none⟩ (.int .u64 (xl : Int)) w7 ∧ OneC ⟨w2.heap.size, 2, none⟩ (.int .i64 xk) w7 ∧ OneC ⟨w2.heap.size, 3, none⟩ (.string xh) w7 ∧ OneC ⟨w2.heap.size, 4, none⟩ (.slice ya xs.length yc) w7 ∧ OneC ⟨w2.heap.size, 5, none⟩ (.int .u64 (max (xl : Int) 1)) w7) :=
                ⟨hQ7.cells.2.2.2.1, hX7.cell 0, hF7.cell 0, hF7.cell 1, hF7.cell 2, hF7.cell 3, hF7.cell 4, hF7.cell 5⟩
              have HQ7 := Lib.hid hQ7
              have HS7 := Lib.hid hs7
              have HY7 := Lib.hid hy7
              have hxn := HN1.out
              clear hF7 hs7 hy7 hQ7 hX7
              refine wp_region_late (S := fun W => OneC ⟨pb, 3, none⟩ (.map (some mb4)) W ∧ OneC ⟨w.heap.size, 0, none⟩ (.int .u32 (xn : Int)) W ∧ OneC ⟨w2.heap.size, 0, none⟩ (.int .u32 (xn : Int)) W ∧ OneC ⟨w2.heap.size, 1, none⟩ (.int .u64 (xl : Int)) W ∧ OneC ⟨w2.heap.size, 2, none⟩ (.int .i64 xk) W ∧ OneC ⟨w2.heap.size, 3, none⟩ (.string xh) W ∧ OneC ⟨w2.heap.size, 4, none⟩ (.slice ya xs.length yc) W ∧ OneC ⟨w2.heap.size, 5, none⟩ (.int .u64 (max (xl : Int) 1)) W) (late := [7]) (by kernel_rfl) CS2.out (fun hHeld => ?_)
              refine wpAnyL_move (i := 0) (v := ?_) (by rfl) (by kernel_rfl) (by kernel_rfl) (by kernel_rfl) (by rfl) (by exact fun _ _ _ h => h) (Or.inl ⟨by rfl, ?_⟩) (by assumption) ?_; rotate_left; · (intro w0; go_simp; try with_reducible rfl)
              try simp only [Act.put, List.setIfInBounds_toArray, List.set_cons_zero, List.set_cons_succ]
              refine wpAnyL_move (i := 1) (v := ?_) (by rfl) (by kernel_rfl) (by kernel_rfl) (by kernel_rfl) (by rfl) (by exact fun _ _ _ h => h) (Or.inl ⟨by rfl, ?_⟩) (by assumption) ?_; rotate_left; · (intro w0; go_simp; try with_reducible rfl)
              try simp only [Act.put, List.setIfInBounds_toArray, List.set_cons_zero, List.set_cons_succ]
              refine wpAnyL_move (i := 2) (v := ?_) (by rfl) (by kernel_rfl) (by kernel_rfl) (by kernel_rfl) (by rfl) (by exact fun _ _ _ h => h) (Or.inl ⟨by rfl, ?_⟩) (by assumption) ?_; rotate_left; · (intro w0; go_simp; try with_reducible rfl)
              try simp only [Act.put, List.setIfInBounds_toArray, List.set_cons_zero, List.set_cons_succ]
              refine wpAnyL_load (i := 3) (v := ?_) (by rfl) (by kernel_rfl) (by kernel_rfl) (by kernel_rfl) (by rfl) (by kernel_rfl) (by exact fun _ _ _ h => h) (Or.inl ⟨by rfl, ?_⟩) (by assumption) ?_; rotate_left; · (intro w0 hS0; obtain ⟨hS1, hS2, hS3, hS4, hS5, hS6, hS7, hS8⟩ := hS0; unfold OneC at hS1 hS2 hS3 hS4 hS5 hS6 hS7 hS8; go_simp; try with_reducible rfl)
              try simp only [Act.put, List.setIfInBounds_toArray, List.set_cons_zero, List.set_cons_succ]
              refine wpAnyL_move (i := 4) (v := ?_) (by rfl) (by kernel_rfl) (by kernel_rfl) (by kernel_rfl) (by rfl) (by exact fun _ _ _ h => h) (Or.inl ⟨by rfl, ?_⟩) (by assumption) ?_; rotate_left; · (intro w0; go_simp; try with_reducible rfl)
              try simp only [Act.put, List.setIfInBounds_toArray, List.set_cons_zero, List.set_cons_succ]
              refine wpAnyL_load (i := 5) (v := ?_) (by rfl) (by kernel_rfl) (by kernel_rfl) (by kernel_rfl) (by rfl) (by kernel_rfl) (by exact fun _ _ _ h => h) (Or.inl ⟨by rfl, ?_⟩) (by assumption) ?_; rotate_left; · (intro w0 hS0; obtain ⟨hS1, hS2, hS3, hS4, hS5, hS6, hS7, hS8⟩ := hS0; unfold OneC at hS1 hS2 hS3 hS4 hS5 hS6 hS7 hS8; go_simp; try with_reducible rfl)
              try simp only [Act.put, List.setIfInBounds_toArray, List.set_cons_zero, List.set_cons_succ]
              refine wpAnyL_load (i := 6) (v := ?_) (by rfl) (by kernel_rfl) (by kernel_rfl) (by kernel_rfl) (by rfl) (by kernel_rfl) (by exact fun _ _ _ h => h) (Or.inl ⟨by rfl, ?_⟩) (by assumption) ?_; rotate_left; · (intro w0 hS0; obtain ⟨hS1, hS2, hS3, hS4, hS5, hS6, hS7, hS8⟩ := hS0; unfold OneC at hS1 hS2 hS3 hS4 hS5 hS6 hS7 hS8; go_simp; try with_reducible rfl)
              try simp only [Act.put, List.setIfInBounds_toArray, List.set_cons_zero, List.set_cons_succ]
              refine wpAnyL_late (i := 7) (by kernel_rfl) (by rfl) (by rfl) (fun K hK => ?_)
              refine step_storeL _ (by rfl) _ _ _ (by rfl) mb4 vs4 (by rfl) (HML.out.same (w' := w7.drew) rfl) xn (by omega) HVL.out _ (by rfl) (by rfl) ?_; intro w8 hm8 hg8
              refine hK.out _ _ ?_
              clear hK K
              try simp only [Act.put]
              refine wpAny_done (by kernel_rfl) ?_ _
              have hd : ((max xl 1 : Nat) : Int) = max (xl : Int) 1 := by first | rfl | omega
              rw [← hd] at hm8
              have hP8 := (HQ7.out.drewN 1).add (f := ⟨⟨xn, xl, xk, xh, xs⟩, max xl 1⟩) (sv := .slice ya xs.length yc) (HY7.out.same (fun _ _ => rfl)) (fun k hk => by have h1 := HY5.out k hk; have h2 := HQ4.out.lt pb HQ4.out.hpb; have h3 := HQ4.out.lt mb4 HQ4.out.hmb; exact ⟨by omega, by omega⟩) hg8 hm8 (HLEN.out _) HN1.out HMI.out (by show max xl 1 < 18446744073709551616; omega)
              have hs8 : Step (fun r => H4 r ∨ r = w2.heap.size) w4 w8 := ((HS7.out.wider (fun r hr => .inr hr)).drewN 1).grown hg8 (fun k hk => by cases hk; exact .inl (.inl HQ4.out.hmb))
              have HF := Lib.hid (PX.addK HBW3.out HS4.out HM4.out HB4'.out HD4.out HQ4.out HU4.out hP8 hs8 (fun r hr => by rcases hr with hr | hr; exact .inl hr; exact .inr (HY5.out r hr)) (fun r hr => by have := HSZ.out; exact ⟨by omega, by omega, HNU.out r (by omega)⟩))
              clear hm8 hg8 hP8 hs8
              go_wp2
              go_ret
              rw [HD.out]
              exact ⟨rfl, HF.out.widen HU0.out⟩
            · have kd2 : ¬ ((fd : Int) = 0) := by omega
              have g5 : w4.cell? ⟨w2.heap.size, 5, none⟩ = some (.int .u64 (fd : Int)) := HF4.out.cell 5
              obtain ⟨U4, ⟨F4, G4, H4, mb4, pk4, vs4, hB4, hQ4, hD4, hU4⟩, hs4, hm4⟩ := HP4.out
              have a0 : w4.cell? ⟨w.heap.size, 0, none⟩ = some (.int .u32 (xn : Int)) := HB4.out.cell 0
              have a1 : w4.cell? ⟨w.heap.size, 1, none⟩ = some (.int .u64 (xl : Int)) := HB4.out.cell 1
              have a2 : w4.cell? ⟨w.heap.size, 2, none⟩ = some (.int .i64 xk) := HB4.out.cell 2
              have a3 : w4.cell? ⟨w.heap.size, 3, none⟩ = some (.string xh) := HB4.out.cell 3
              have a4 : w4.cell? ⟨w.heap.size, 4, none⟩ = some (.slice sa xs.length sc) := HB4.out.cell 4
              have hrx4 : Reads w4 (.slice sa xs.length sc) xs := (HRX.out.below HBW3.out).same (fun k hk => HP4.out.box (by have := HRX.out.lt k hk; have := HSZ.out; omega) (HSO.out k hk))
              have hnb : w.heap.size ≠ w2.heap.size := by have := HSZ.out; omega
              have hF5 : Blk (w4) w2.heap.size 156 #[.int .u32 (yn : Int), .int .u64 (yl : Int), .int .i64 yk, .string yh, .slice ta ys.length tc, .int .u64 (fd : Int)] := HF4.out
              have hs5 : Step (fun r => r = w2.heap.size) w4 (w4) := Step.refl _ w4
              have hX5 : Blk (w4) w.heap.size 84 _ := HB4.out.same (hs5.block _ HB4.out.lt hnb)
              have hrx5 : Reads (w4) (.slice sa xs.length sc) xs := hrx4.same (fun k hk => hs5.block k (hrx4.lt k hk) (fun e => by have := HRX.out.lt k hk; have := HSZ.out; have e2 : k = w2.heap.size := e; omega))
              have HC := Lib.hid (copied_c (x := ⟨xn, xl, xk, xh, xs⟩) hrx5 HMI.out.count)
              unfold ShV at HC
              simp only at HC
              have HF5 := Lib.hid hF5
              have HX5 := Lib.hid hX5
              have HS5 := Lib.hid hs5
              have HB4' := Lib.hid hB4
              have HQ4 := Lib.hid hQ4
              have HD4 := Lib.hid hD4
              have HU4 := Lib.hid hU4
              have HS4 := Lib.hid hs4
              have HM4 := Lib.hid hm4
              have HNB := Lib.hid hnb
              have HDM : Hid ((fd : Int) = ((fd : Nat) : Int)) := by show _ = _; omega
              clear hF5 hX5 hs5 hB4 hQ4 hD4 hU4 hs4 hm4 hrx4 hrx5
              go_wp2_with (fail)
              refine HC.out.mono ?_
              rintro e w6 ⟨yv, rfl, hyr, hyo, hb6⟩
              obtain ⟨ya, yc, rfl⟩ := hyr.form
              have hF6 := HF5.out.same (hb6.block _ HF5.out.lt)
              have hX6 := HX5.out.same (hb6.block _ HX5.out.lt)
              have hs6 : Step (fun r => r = w2.heap.size) w4 w6 := HS5.out.trans (More.refl _ _) (Step.below hb6)
              have hy5 : ∀ k, (Value.slice ya xs.length yc).ownBlock = some k → w4.heap.size ≤ k := fun k hk => Nat.le_trans HS5.out.size (hyo k hk)
              clear HC hyo hb6 a0 a1 a2 a3 a4 hnb
              have k0 : w6.cell? ⟨w2.heap.size, 0, none⟩ = _ := hF6.cell 0
              have k1 : w6.cell? ⟨w2.heap.size, 1, none⟩ = _ := hF6.cell 1
              have k2 : w6.cell? ⟨w2.heap.size, 2, none⟩ = _ := hF6.cell 2
              have k3 : w6.cell? ⟨w2.heap.size, 3, none⟩ = _ := hF6.cell 3
              have k4 : w6.cell? ⟨w2.heap.size, 4, none⟩ = _ := hF6.cell 4
              simp at k0 k1 k2 k3 k4
              have l0 : w6.frozen? ⟨w2.heap.size, 0, none⟩ = false := hF6.frozen 0
              have l1 : w6.frozen? ⟨w2.heap.size, 1, none⟩ = false := hF6.frozen 1
              have l2 : w6.frozen? ⟨w2.heap.size, 2, none⟩ = false := hF6.frozen 2
              have l3 : w6.frozen? ⟨w2.heap.size, 3, none⟩ = false := hF6.frozen 3
              have l4 : w6.frozen? ⟨w2.heap.size, 4, none⟩ = false := hF6.frozen 4
              have HF6 := Lib.hid hF6
              have HX6 := Lib.hid hX6
              have HS6 := Lib.hid hs6
              have HYR := Lib.hid hyr
              have HY5 := Lib.hid hy5
              clear hF6 hX6 hs6 hyr hy5
              go_wp2_with (fail)
              have hF7 := HF6.out.set6 (v0 := .int .u32 (xn : Int)) (v1 := .int .u64 (xl : Int)) (v2 := .int .i64 xk) (v3 := .string xh) (v4 := .slice ya xs.length yc)
              have hs7 : Step (fun r => r = w2.heap.size) w4 (((((w6.setCell ⟨w2.heap.size, 0, none⟩ (.int .u32 (xn : Int))).setCell ⟨w2.heap.size, 1, none⟩ (.int .u64 (xl : Int))).setCell ⟨w2.heap.size, 2, none⟩ (.int .i64 xk)).setCell ⟨w2.heap.size, 3, none⟩ (.string xh)).setCell ⟨w2.heap.size, 4, none⟩ (.slice ya xs.length yc)) :=
                HS6.out.trans (More.refl _ _) (step_set5 (R := w2.heap.size) (K := fun r => r = w2.heap.size) rfl _ _ _ _ _)
              have hy7 : Reads (((((w6.setCell ⟨w2.heap.size, 0, none⟩ (.int .u32 (xn : Int))).setCell ⟨w2.heap.size, 1, none⟩ (.int .u64 (xl : Int))).setCell ⟨w2.heap.size, 2, none⟩ (.int .i64 xk)).setCell ⟨w2.heap.size, 3, none⟩ (.string xh)).setCell ⟨w2.heap.size, 4, none⟩ (.slice ya xs.length yc)) (.slice ya xs.length yc) xs :=
                reads_set5 HYR.out (fun k hk e => by have := HY5.out k hk; have := HF4.out.lt; omega)
              clear k0 k1 k2 k3 k4 l0 l1 l2 l3 l4
              generalize ((((w6.setCell ⟨w2.heap.size, 0, none⟩ (.int .u32 (xn : Int))).setCell ⟨w2.heap.size, 1, none⟩ (.int .u64 (xl : Int))).setCell ⟨w2.heap.size, 2, none⟩ (.int .i64 xk)).setCell ⟨w2.heap.size, 3, none⟩ (.string xh)).setCell ⟨w2.heap.size, 4, none⟩ (.slice ya xs.length yc) = w7 at *
              have hQ7 : PoolIn w7 H4 pb b lb mb4 pk4 vs4 q := HQ4.out.keep (fun r hr => hs7.block r (HQ4.out.lt r hr) (fun e => by
                have e2 : r = w2.heap.size := e
                rcases HM4.out r (HU4.out r (.inr hr)) with h | h
                · exact HNU.out r (by have := HSZ.out; omega) h
                · have := HSZ.out; omega)) hs7.size
              have hX7 := HB4.out.same (hs7.block _ HB4.out.lt HNB.out)
              have HML : Hid (MapL w7 mb4 vs4) := hQ7.map
              have HVL : Hid (vs4.length < 1000000000000) := by show _ < _; have h1 := hQ7.frs.length; have h2 := hQ7.le; have h3 := hQ7.most; omega
              have CS2 : Hid (OneC ⟨pb, 3, none⟩ (.map (some mb4)) w7 ∧ OneC ⟨w.heap.size, 0, none⟩ (.int .u32 (xn : Int)) w7 ∧ OneC ⟨w2.heap.size, 0, none⟩ (.int .u32 (xn : Int)) w7 ∧ OneC ⟨w2.heap.size, 1, none⟩ (.int .u64 (xl : Int)) w7 ∧ OneC ⟨w2.heap.size, 2, none⟩ (.int .i64 xk) w7 ∧ OneC ⟨w2.heap.size, 3, none⟩ (.string xh) w7 ∧ OneC ⟨w2.heap.size, 4, none⟩ (.slice ya xs.length yc) w7 ∧ OneC ⟨w2.heap.size, 5, none⟩ (.int .u64 (fd : Int)) w7) :=
                ⟨hQ7.cells.2.2.2.1, hX7.cell 0, hF7.cell 0, hF7.cell 1, hF7.cell 2, hF7.cell 3, hF7.cell 4, hF7.cell 5⟩
              have HQ7 := Lib.hid hQ7
              have HS7 := Lib.hid hs7
              have HY7 := Lib.hid hy7
              have hxn := HN1.out
              clear hF7 hs7 hy7 hQ7 hX7
              refine wp_region_late (S := fun W => OneC ⟨pb, 3, none⟩ (.map (some mb4)) W ∧ OneC ⟨w.heap.size, 0, none⟩ (.int .u32 (xn : Int)) W ∧ OneC ⟨w2.heap.size, 0, none⟩ (.int .u32 (xn : Int)) W ∧ OneC ⟨w2.heap.size, 1, none⟩ (.int .u64 (xl : Int)) W ∧ OneC ⟨w2.heap.size, 2, none⟩ (.int .i64 xk) W ∧ OneC ⟨w2.heap.size, 3, none⟩ (.string xh) W ∧ OneC ⟨w2.heap.size, 4, none⟩ (.slice ya xs.length yc) W ∧ OneC ⟨w2.heap.size, 5, none⟩ (.int .u64 (fd : Int)) W) (late := [7]) (by kernel_rfl) CS2.out (fun hHeld => ?_)
              refine wpAnyL_move (i := 0) (v := ?_) (by rfl) (by kernel_rfl) (by kernel_rfl) (by kernel_rfl) (by rfl) (by exact fun _ _ _ h => h) (Or.inl ⟨by rfl, ?_⟩) (by assumption) ?_; rotate_left; · (intro w0; go_simp; try with_reducible rfl)
              try simp only [Act.put, List.setIfInBounds_toArray, List.set_cons_zero, List.set_cons_succ]
              refine wpAnyL_move (i := 1) (v := ?_) (by rfl) (by kernel_rfl) (by kernel_rfl) (by kernel_rfl) (by rfl) (by exact fun _ _ _ h => h) (Or.inl ⟨by rfl, ?_⟩) (by assumption) ?_; rotate_left; · (intro w0; go_simp; try with_reducible rfl)
              try simp only [Act.put, List.setIfInBounds_toArray, List.set_cons_zero, List.set_cons_succ]
              refine wpAnyL_move (i := 2) (v := ?_) (by rfl) (by kernel_rfl) (by kernel_rfl) (by kernel_rfl) (by rfl) (by exact fun _ _ _ h => h) (Or.inl ⟨by rfl, ?_⟩) (by assumption) ?_; rotate_left; · (intro w0; go_simp; try with_reducible rfl)
              try simp only [Act.put, List.setIfInBounds_toArray, List.set_cons_zero, List.set_cons_succ]
              refine wpAnyL_load (i := 3) (v := ?_) (by rfl) (by kernel_rfl) (by kernel_rfl) (by kernel_rfl) (by rfl) (by kernel_rfl) (by exact fun _ _ _ h => h) (Or.inl ⟨by rfl, ?_⟩) (by assumption) ?_; rotate_left; · (intro w0 hS0; obtain ⟨hS1, hS2, hS3, hS4, hS5, hS6, hS7, hS8⟩ := hS0; unfold OneC at hS1 hS2 hS3 hS4 hS5 hS6 hS7 hS8; go_simp; try with_reducible rfl)
              try simp only [Act.put, List.setIfInBounds_toArray, List.set_cons_zero, List.set_cons_succ]
              refine wpAnyL_move (i := 4) (v := ?_) (by rfl) (by kernel_rfl) (by kernel_rfl) (by kernel_rfl) (by rfl) (by exact fun _ _ _ h => h) (Or.inl ⟨by rfl, ?_⟩) (by assumption) ?_; rotate_left; · (intro w0; go_simp; try with_reducible rfl)
              try simp only [Act.put, List.setIfInBounds_toArray, List.set_cons_zero, List.set_cons_succ]
              refine wpAnyL_load (i := 5) (v := ?_) (by rfl) (by kernel_rfl) (by kernel_rfl) (by kernel_rfl) (by rfl) (by kernel_rfl) (by exact fun _ _ _ h => h) (Or.inl ⟨by rfl, ?_⟩) (by assumption) ?_; rotate_left; · (intro w0 hS0; obtain ⟨hS1, hS2, hS3, hS4, hS5, hS6, hS7, hS8⟩ := hS0; unfold OneC at hS1 hS2 hS3 hS4 hS5 hS6 hS7 hS8; go_simp; try with_reducible rfl)
              try simp only [Act.put, List.setIfInBounds_toArray, List.set_cons_zero, List.set_cons_succ]
              refine wpAnyL_load (i := 6) (v := ?_) (by rfl) (by kernel_rfl) (by kernel_rfl) (by kernel_rfl) (by rfl) (by kernel_rfl) (by exact fun _ _ _ h => h) (Or.inl ⟨by rfl, ?_⟩) (by assumption) ?_; rotate_left; · (intro w0 hS0; obtain ⟨hS1, hS2, hS3, hS4, hS5, hS6, hS7, hS8⟩ := hS0; unfold OneC at hS1 hS2 hS3 hS4 hS5 hS6 hS7 hS8; go_simp; try with_reducible rfl)
              try simp only [Act.put, List.setIfInBounds_toArray, List.set_cons_zero, List.set_cons_succ]
              refine wpAnyL_late (i := 7) (by kernel_rfl) (by rfl) (by rfl) (fun K hK => ?_)
              refine step_storeL _ (by rfl) _ _ _ (by rfl) mb4 vs4 (by rfl) (HML.out.same (w' := w7.drew) rfl) xn (by omega) HVL.out _ (by rfl) (by rfl) ?_; intro w8 hm8 hg8
              refine hK.out _ _ ?_
              clear hK K
              try simp only [Act.put]
              refine wpAny_done (by kernel_rfl) ?_ _
              have hd : ((fd : Nat) : Int) = (fd : Int) := by first | rfl | omega
              rw [← hd] at hm8
              have hP8 := (HQ7.out.drewN 1).add (f := ⟨⟨xn, xl, xk, xh, xs⟩, fd⟩) (sv := .slice ya xs.length yc) (HY7.out.same (fun _ _ => rfl)) (fun k hk => by have h1 := HY5.out k hk; have h2 := HQ4.out.lt pb HQ4.out.hpb; have h3 := HQ4.out.lt mb4 HQ4.out.hmb; exact ⟨by omega, by omega⟩) hg8 hm8 (HLEN.out _) HN1.out HMI.out (by show fd < 18446744073709551616; omega)
              have hs8 : Step (fun r => H4 r ∨ r = w2.heap.size) w4 w8 := ((HS7.out.wider (fun r hr => .inr hr)).drewN 1).grown hg8 (fun k hk => by cases hk; exact .inl (.inl HQ4.out.hmb))
              have HF := Lib.hid (PX.addK HBW3.out HS4.out HM4.out HB4'.out HD4.out HQ4.out HU4.out hP8 hs8 (fun r hr => by rcases hr with hr | hr; exact .inl hr; exact .inr (HY5.out r hr)) (fun r hr => by have := HSZ.out; exact ⟨by omega, by omega, HNU.out r (by omega)⟩))
              clear hm8 hg8 hP8 hs8
              go_wp2
              go_ret
              rw [HD.out, Po.put_ne kd]
              exact ⟨rfl, HF.out.widen HU0.out⟩
          exact EachL.nil
        exact EachL.nil
    · have hr := HR.out
      rw [if_pos kx] at hr
      have HD := Lib.hid hr.symm
      clear HR hr
      go_wp2
      go_ret
      rw [HD.out]
      exact ⟨rfl, (HX.out.belowP HBW2.out).widen HU0.out⟩
end
end Go.Proofs.YtnghgkaoopcglaaGreat
