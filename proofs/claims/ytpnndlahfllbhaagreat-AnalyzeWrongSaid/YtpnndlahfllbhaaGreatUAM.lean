/-
  The walk of girderlaw19.laid.
-/
import Derived.Test.YtpnndlahfllbhaaGreatUAL
import Derived.Deep.CutRange
namespace Go.Proofs.YtpnndlahfllbhaaGreat
open Go Go.RowKit
attribute [local go_sem ↓] Go.wp_at_zero Go.wp_at_succ

/-- a struct that lies in a row is loaded -/
theorem run_loadVar_at {P : Program} (w : World) (a : Addr) (ty : TypeId) (cs : List Value) (d : TypeDesc) (hc : ∀ j v, cs[j]? = some v → w.cell? (a.add j) = some v)
    (hu : P.underlying ty = some d) (hd : (match d with | .struct _ | .array _ _ => true | _ => false) = true) (hi : (P.info? ty).map (·.size) = some cs.length) :
    (loadVar ty a).run P w = .ok (.agg cs.toArray) w := by
  have hl : (loadCells a cs.length).run P w = .ok cs.toArray w := run_loadCells_list (P := P) w a cs hc
  cases hq : P.info? ty with
  | none => simp [hq] at hi
  | some i =>
    have hs : i.size = cs.length := by simpa [hq] using hi
    have hagg : (isAgg ty).run P w = .ok true w := by
      unfold isAgg
      rw [Sem.run_bind, run_underlying hu w]
      cases d <;> simp_all [Result.andThen]
    have hsz : (Go.sizeOf ty).run P w = .ok cs.length w := by
      simp [Go.sizeOf, typeInfo, hq, Result.andThen, hs]
    unfold loadVar
    rw [Sem.run_bind, hagg]
    simp [Result.andThen, hsz, hl]
theorem wpList_load_at {P : Program} {ops : Array Oper} {rest : List Oper} {o : Oper} {a : Act} {Q : Exit → Act → World → Prop} {w : World} (hw : Region.wanted o (yielded ops a.tmps) = true) (t : TypeId) (p : Operand) (ho : o.op = .load t p)
    (A : Addr) (cs : List Value) (d : TypeDesc) (hp : a.eval p = .pointer (some A)) (hc : ∀ j v, cs[j]? = some v → w.cell? (A.add j) = some v)
    (hu : P.underlying t = some d) (hd : (match d with | .struct _ | .array _ _ => true | _ => false) = true) (hi : (P.info? t).map (·.size) = some cs.length) (h : wpList P ops Q rest (a.put o.dst (.agg cs.toArray)) w) : wpList P ops Q (o :: rest) a w := by
  refine wpList_step fun K hK => ?_
  rw [if_pos hw]
  have hr : (Instr.loadAt t (.pointer (some A))).run P w = .ok (.agg cs.toArray) w := by
    simp only [Instr.loadAt, Instr.sureAddr, Sem.run_bind, Sem.run_pure, Result.andThen]
    exact run_loadVar_at w A t cs d hc hu hd hi
  unfold Oper.wp
  simp [execOp, ho, hp, hr, Result.andThen]
  exact hK _ _ h
theorem infoR19 : (Tryz.prog.info? 173).map (fun i => (i.zero, i.size, i.bytes)) = some (some (.agg #[.int .u64 0, .int .i64 0, .int .i64 0, .int .u64 0, .int .u32 0, .slice none 0 0, .slice none 0 0]), 7, 88) := by kernel_rfl
theorem RdC.dropN {α : Type} {size : Nat} {f : α → List Value} {w : World} {l : List α} {b off n c : Nat} (h : RdC size f w (.slice (some ⟨b, off, none⟩) n c) l) (m : Nat) (hm : m < l.length) : RdC size f w (.slice (some ⟨b, off + m * size, none⟩) (n - m) (c - m)) (l.drop m) := by
  rcases h with ⟨rfl, _⟩ | ⟨b', off', cap, e, h1, h2, h3, h4⟩
  · simp at hm
  · cases e
    refine .inr ⟨b, off + m * size, c - m, by rw [List.length_drop], by rw [List.length_drop]; omega, by omega, h3, fun i x hi j u hu => ?_⟩
    rw [List.getElem?_drop] at hi
    have := h4 (m + i) x hi j u hu
    rw [Nat.add_mul, ← Nat.add_assoc] at this
    exact this

theorem gF_has {l : List ByteArray} {i : Nat} (h : i < l.length) : (gF l 0).has (pl l i : Int) = true := by
  unfold Lg.has Lg.ats
  rw [List.contains_iff_mem]
  exact List.mem_map.2 ⟨_, List.mem_of_getElem? (pl_get h), rfl⟩
theorem gF_flushed (l : List ByteArray) (mk : Nat) : (gF l mk).flushed = endFrom 1 l := by
  unfold Lg.flushed
  show (places 1 l)[l.length]?.getD _ = _
  rw [List.getElem?_eq_none (by rw [places_length]; exact Nat.le_refl _)]
  rfl
/-- while the log is laid -/
def LaidI (w : World) (b lb : Nat) (rs : List Rc) (j : Nat) (ov : Value) (W : World) : Prop :=
  ∃ qs, SaysQ qs (placed 1 (keepR (rs.take j))) ∧ LW w (LaidK ov qs) (LaidP w.heap.size ov qs) b lb ⟨#[]⟩ 0 (gOf (encs (keepR (rs.take j)))) W
def XT (w : World) (n : Nat) (r : Rc) (k : Nat) (W : World) : Prop := ∃ xt, XSt w n r xt (.slice none 0 0) (r.txs.take k) [] W
def XD (w : World) (n : Nat) (r : Rc) (xt : Value) (k : Nat) (W : World) : Prop := ∃ xd, XSt w n r xt xd r.txs (r.dirty.take k) W
/-- what laid leaves -/
def LaidPost (w : World) (rs : List Rc) (m : Int) (e : Ending) (W : World) : Prop :=
  ∃ b lb ov qs mk i0, e = .returned (.tuple #[.pointer (some ⟨lb, 0, none⟩), ov, .bool true]) ∧ LW w (fun _ => False) (fun _ => True) b lb (frames 1 (encs (keepR (rs.take 60)))) (mk : Nat) (gF (encs (keepR (rs.take 60))) mk) W ∧
    RdC 7 q19C W ov qs ∧ (∀ q ∈ qs, q.ok W) ∧ SaysQ qs ((placed 1 (keepR (rs.take 60))).drop i0) ∧ i0 ≤ (keepR (rs.take 60)).length ∧ max mk 1 = pl (encs (keepR (rs.take 60))) i0 ∧ (m < 0 → mk = 0 ∧ i0 = 0)
section
variable {w : World} {la : Option Addr} {lc : Nat} {ls : List (Rc × Value × Value)}
set_option maxRecDepth 100000 in
set_option maxHeartbeats 8000000 in
theorem laid19_c (h : IsRecs w (.slice la ls.length lc) ls) (m : Int) (hm : -9223372036854775808 ≤ m ∧ m ≤ 9223372036854775807) :
    Calls Tryz.prog 16 #[.slice la ls.length lc, .int .i64 m] w (LaidPost w (ls.map (·.1)) m) := by
  have HN := Lib.hid (new_c w 8 (by omega) (by omega))
  have HO1 : ∀ b W, DW w (fun _ => False) (fun _ => True) b ⟨#[]⟩ 0 W → Hid (Calls Tryz.prog 76 #[.pointer (some ⟨b, 0, none⟩)] W fun e w' => ∃ lb, e = .returned (.tuple #[.pointer (some ⟨lb, 0, none⟩), .int .i64 0, .int .i64 0]) ∧ LW w (fun _ => False) (fun _ => True) b lb ⟨#[]⟩ 0 (openG [] 0) w') := fun b W h =>
    h.open_ stable_none (by omega) [] ⟨#[]⟩ (bytes_nil _).symm (by simp) (takenOk_short (by decide) _)
  have HIR := Lib.hid h
  obtain ⟨rs, hrs⟩ : ∃ rs, rs = ls.map (·.1) := ⟨_, rfl⟩
  have hlen : rs.length = ls.length := by rw [hrs, List.length_map]
  rw [← hrs]
  have HRS := Lib.hid hrs
  have HML := Lib.hid h.2.1
  clear h hrs
  generalize hpost : LaidPost w rs m = Post
  have HPOST := Lib.hid hpost
  clear hpost
  obtain ⟨nl, hnl⟩ : ∃ nl, ls.length = nl := ⟨_, rfl⟩
  rw [hnl] at hlen ⊢
  have HNL := Lib.hid hnl
  have HLEN := Lib.hid hlen
  clear hnl hlen
  go_enter Tryz.func16, Tryz.ntmps16
  go_wp2_with (fail)
  refine HN.out.mono ?_
  rintro e w1 ⟨rfl, l1⟩
  generalize w.heap.size + 1 = b at *
  have HO := HO1 _ _ (DW.of_live l1)
  clear l1 HO1 HN
  go_wp2_with (fail)
  refine HO.out.mono ?_
  rintro e w2 ⟨lb, rfl, hLW⟩
  have HI0 : Hid (LaidI w b lb rs 0 (.slice (some ⟨w2.heap.size, 0, none⟩) 0 0) (w2.alloc (.cells #[] 173))) := by
    have hr := RowSt.made (ty := 173) (size := 7) (f := q19C) w2
    refine ⟨[], rfl, ?_⟩
    have hb := hLW.base.size
    refine hLW.turn (w' := w2.alloc (.cells #[] 173)) (Step.below ((Below.refl _ _).alloc (Nat.le_refl _) _)) (fun r hr2 => ?_) ⟨ownsRow_mono_ hr.row hb, fun q hq => by simp at hq, fun q hq => by simp at hq⟩
    rcases hr2 with hr2 | ⟨q, hq, _⟩
    · have e : w2.heap.size = r := by simpa [Value.ownBlock] using hr2
      subst e
      exact ⟨.inr (Nat.le_refl _), by simp⟩
    · simp at hq
  clear hLW HO
  go_wp2_with (fail)
  go_loopw [13, 12] (fun i ov wr => ∃ (j qn : Nat) (va : Option Addr) (vc : Nat), i = .int .i64 (j : Int) ∧ ov = .slice va qn vc ∧ j ≤ nl ∧ j ≤ 60 ∧ Hid (LaidI w b lb rs j (.slice va qn vc) wr)) (fun i _ _ => 61 - (intOf i).toNat)
  case atStart => exact ⟨0, 0, _, _, rfl, rfl, Nat.zero_le _, Nat.zero_le _, HI0⟩
  case round =>
    clear HI0
    obtain ⟨j, qn, va, vc, rfl, rfl, hj1, hj2, HI⟩ := hrel
    go_upto_region 7 with (fail)
    go_cut [46] from 39 to 46 (fun sc wx => ∃ b, sc = .bool b ∧ Hid (TB b (j < nl ∧ j < 60)) ∧ wx = wr)
    case first =>
      by_cases h1 : (j : Int) < (nl : Int)
      · by_cases h2 : (j : Int) < 60
        · go_wp2_with (fail)
          go_meet
          exact ⟨true, rfl, Lib.hid (iff_of_true rfl ⟨by omega, by omega⟩), rfl⟩
        · go_wp2_with (fail)
          go_meet
          exact ⟨false, rfl, Lib.hid (iff_of_false Bool.false_ne_true (fun h => by omega)), rfl⟩
      · go_wp2_with (fail)
        go_meet
        exact ⟨false, rfl, Lib.hid (iff_of_false Bool.false_ne_true (fun h => by omega)), rfl⟩
    case rest =>
    obtain ⟨bb, rfl, hbb, rfl⟩ := hcut
    cases bb with
    | true =>
      obtain ⟨hjl, hj60⟩ := hbb.out.1 rfl
      obtain ⟨p, hp⟩ : ∃ p, ls[j]? = some p := ⟨_, List.getElem?_eq_getElem (by have := HNL.out; omega)⟩
      obtain ⟨r, tv, dv⟩ := p
      obtain ⟨qs, hsq, hLW⟩ := HI.out
      have hbase := hLW.base
      have HRA := Lib.hid ((HIR.out.2.2 _ (List.mem_of_getElem? hp)).below hbase)
      have HRJ : Hid (rs.take (j + 1) = rs.take j ++ [r]) := by
        show _ = _
        rw [List.take_add_one]
        congr 1
        rw [HRS.out, List.getElem?_map, hp]
        rfl
      have hRd := HIR.out.1.below hbase
      rw [show Value.slice la ls.length lc = .slice la nl lc by rw [HNL.out]] at hRd
      obtain ⟨rb, off, rfl, hqq, g1, g2, hrl, hc⟩ := hRd.at_ hp
      have HCELL : Hid (∀ (i : Nat) (u : Value), (recC r tv dv)[i]? = some u → wc.cell? ⟨rb, off + j * 17 + i, none⟩ = some u) := hc
      have HRL : Hid (rb < wc.heap.size) := hrl
      have HSQ := Lib.hid hsq
      have HLW := Lib.hid hLW
      have HK0 : Hid ((keepR (rs.take j)).length ≤ 60) := by
        have h1 := keepR_len (rs.take j)
        have h2 := List.length_take_le j rs
        show _ ≤ _
        omega
      have HJL := Lib.hid hjl
      have HP := Lib.hid hp
      have HJ60 := Lib.hid hj60
      have HEN := Lib.hid (recEncode_c HRA.out)
      have HLC : Hid (nl ≤ lc) := g1
      clear hc hrl hsq hLW hbase hRd hp HI hqq g1 g2 hbb
      by_cases hok : r.ok
      · have e1 : r.encE = (r.enc, 0) := by unfold Rc.encE; rw [if_pos hok]
        rw [e1] at HEN
        simp only at HEN
        have HOK := Lib.hid hok
        clear e1 hok
        have hsz := HOK.out.size
        have hend := encs_end (keepR (rs.take j)) 1 (fun x hx => (keepR_ok hx).2)
        have hkl := HK0.out
        obtain ⟨t1, t2⟩ := gOf_try (l := encs (keepR (rs.take j))) (s := r.enc) (by omega) (by omega) (by omega)
        have HAP : ∀ W, Below wc.heap.size wc W → Hid (Calls Tryz.prog 21 #[.pointer (some ⟨lb, 0, none⟩), .string r.enc] W fun e w' => e = .returned (.tuple #[.int .u64 ((endFrom 1 (encs (keepR (rs.take j))) : Nat) : Int), .int .i64 0]) ∧ LW w (LaidK (.slice va qn vc) qs) (LaidP w.heap.size (.slice va qn vc) qs) b lb ⟨#[]⟩ 0 (gOf (encs (keepR (rs.take j)) ++ [r.enc])) w') := fun W hW => by
          have := (HLW.out.below (stable_laid _ _ _) hW).logs (stable_laid _ _ _) (fun G h1 => lappend_c h1 (gOf_tight _) r.enc (by omega))
          rw [t1, t2] at this
          exact this
        have hat : endFrom 1 (encs (keepR (rs.take j))) ≤ 1000000 := by omega
        have HNX : Hid ((∀ tv dv, SaysQ (qs ++ [⟨endFrom 1 (encs (keepR (rs.take j))), r, tv, dv⟩]) (placed 1 (keepR (rs.take (j + 1))))) ∧ encs (keepR (rs.take (j + 1))) = encs (keepR (rs.take j)) ++ [r.enc]) := by
          have e2 : keepR (rs.take (j + 1)) = keepR (rs.take j) ++ [r] := by rw [HRJ.out]; exact keepR_yes HOK.out
          refine ⟨fun tv dv => ?_, by rw [e2]; unfold encs; rw [List.map_append]; rfl⟩
          rw [e2, placed_snoc]
          unfold SaysQ
          rw [List.map_append, HSQ.out]
          rfl
        generalize hgn : endFrom 1 (encs (keepR (rs.take j))) = n at *
        clear hsz hend hkl t1 t2 hgn
        go_upto_region 9 with (fail)
        refine wp_region_lit ?_
        refine wpList_plain (by rfl) fun K hK => ?_
        go_simp
        refine hK _ _ ?_
        clear hK K
        refine wpList_plain (by rfl) fun K hK => ?_
        go_simp
        refine hK _ _ ?_
        clear hK K
        refine wpList_plain (by rfl) fun K hK => ?_
        go_simp
        refine hK _ _ ?_
        clear hK K
        refine wpList_load_at (by first | rfl | (simp [Region.wanted, yielded])) _ _ (by rfl) ⟨rb, off + j * 17, none⟩ (recC r tv dv) _ (by rfl) (fun i u hu => by rw [add_lit]; exact HCELL.out i u hu) Tryz.underlying63 (by rfl) (by kernel_rfl) ?_
        go_wp2_with (fail)
        refine HEN.out.mono ?_
        rintro e w3 ⟨rfl, hb3⟩
        have HB3 := Lib.hid hb3
        have HA := HAP w3 hb3
        clear hb3 HEN HAP
        go_wp2_with (fail)
        refine HA.out.mono ?_
        rintro e w4 ⟨rfl, hLW4⟩
        have HLW4 := Lib.hid hLW4
        clear hLW4 HA
        have hb4 := HLW4.out.base
        have HRA4 := Lib.hid ((HIR.out.2.2 _ (List.mem_of_getElem? HP.out)).below hb4)
        have HC4 : Hid (rb < w4.heap.size ∧ ∀ (i : Nat) (u : Value), (recC r tv dv)[i]? = some u → w4.cell? ⟨rb, off + j * 17 + i, none⟩ = some u) := by
          obtain ⟨rb', off', e, _, _, _, q1, q2⟩ := (HIR.out.1.below hb4).at_ HP.out
          cases e
          exact ⟨q1, q2⟩
        clear hb4 HCELL HRL HRA
        have CS : Hid (OneC ⟨rb, off + j * 17, none⟩ (.int .i64 r.kind) w4 ∧ OneC ⟨rb, off + j * 17 + 1, none⟩ (.int .i64 r.tx) w4 ∧ OneC ⟨rb, off + j * 17 + 3, none⟩ (.int .u64 (r.next : Int)) w4 ∧ OneC ⟨rb, off + j * 17 + 4, none⟩ (.int .u32 (r.page : Int)) w4) :=
          ⟨HC4.out.2 0 _ rfl, HC4.out.2 1 _ rfl, HC4.out.2 3 _ rfl, HC4.out.2 4 _ rfl⟩
        have HX0 : Hid (XSt w4 n r (.slice none 0 0) (.slice none 0 0) [] [] (w4.alloc (.cells #[.int .u64 (n : Int), .int .i64 r.kind, .int .i64 r.tx, .int .u64 (r.next : Int), .int .u32 (r.page : Int), .slice none 0 0, .slice none 0 0] 173))) :=
          ⟨(Below.refl _ _).alloc (Nat.le_refl _) _, Blk.new w4 173 _, World.ownsRow_nil _ _ _ _, World.ownsRow_nil _ _ _ _⟩
        go_upto_region 14 with (fail)
        go_cut [18] from 67 to 88 (fun sx wx => sx = .pointer (some ⟨w4.heap.size, 0, none⟩) ∧ Hid (XSt w4 n r (.slice none 0 0) (.slice none 0 0) [] [] wx))
        case first =>
          refine wp_region_late (S := fun W => OneC ⟨rb, off + j * 17, none⟩ (.int .i64 r.kind) W ∧ OneC ⟨rb, off + j * 17 + 1, none⟩ (.int .i64 r.tx) W ∧ OneC ⟨rb, off + j * 17 + 3, none⟩ (.int .u64 (r.next : Int)) W ∧ OneC ⟨rb, off + j * 17 + 4, none⟩ (.int .u32 (r.page : Int)) W) (late := [23]) (by kernel_rfl) CS.out (fun hHeld => ?_)
          refine wpAnyL_move (i := 0) (v := ?_) (by rfl) (by kernel_rfl) (by kernel_rfl) (by kernel_rfl) (by rfl) (by exact fun _ _ _ h => h) (Or.inl ⟨by rfl, ?_⟩) (by assumption) ?_; rotate_left; · (intro w0; go_simp; try with_reducible rfl)
          try simp only [Act.put, List.setIfInBounds_toArray, List.set_cons_zero, List.set_cons_succ]
          refine wpAnyL_move (i := 1) (v := ?_) (by rfl) (by kernel_rfl) (by kernel_rfl) (by kernel_rfl) (by rfl) (by exact fun _ _ _ h => h) (Or.inl ⟨by rfl, ?_⟩) (by assumption) ?_; rotate_left; · (intro w0; go_simp; try with_reducible rfl)
          try simp only [Act.put, List.setIfInBounds_toArray, List.set_cons_zero, List.set_cons_succ]
          refine wpAnyL_move (i := 2) (v := ?_) (by rfl) (by kernel_rfl) (by kernel_rfl) (by kernel_rfl) (by rfl) (by exact fun _ _ _ h => h) (Or.inl ⟨by rfl, ?_⟩) (by assumption) ?_; rotate_left; · (intro w0; go_simp; try with_reducible rfl)
          try simp only [Act.put, List.setIfInBounds_toArray, List.set_cons_zero, List.set_cons_succ]
          refine wpAnyL_move (i := 3) (v := ?_) (by rfl) (by kernel_rfl) (by kernel_rfl) (by kernel_rfl) (by rfl) (by exact fun _ _ _ h => h) (Or.inl ⟨by rfl, ?_⟩) (by assumption) ?_; rotate_left; · (intro w0; go_simp; try with_reducible rfl)
          try simp only [Act.put, List.setIfInBounds_toArray, List.set_cons_zero, List.set_cons_succ]
          refine wpAnyL_move (i := 4) (v := ?_) (by rfl) (by kernel_rfl) (by kernel_rfl) (by kernel_rfl) (by rfl) (by exact fun _ _ _ h => h) (Or.inl ⟨by rfl, ?_⟩) (by assumption) ?_; rotate_left; · (intro w0; go_simp; try with_reducible rfl)
          try simp only [Act.put, List.setIfInBounds_toArray, List.set_cons_zero, List.set_cons_succ]
          refine wpAnyL_loadT 24 (i := 5) (v := ?_) (by rfl) (by kernel_rfl) (by kernel_rfl) (by kernel_rfl) (by rfl) (by kernel_rfl) (by kernel_rfl) (by exact fun _ _ _ h => h) (Or.inl ⟨by rfl, ?_⟩) (by assumption) ?_; rotate_left; · (intro w0 hS0; obtain ⟨hS1, hS2, hS3, hS4⟩ := hS0; unfold OneC at hS1 hS2 hS3 hS4; go_simp; try with_reducible rfl)
          try simp only [Act.put, List.setIfInBounds_toArray, List.set_cons_zero, List.set_cons_succ]
          refine wpAnyL_move (i := 6) (v := ?_) (by rfl) (by kernel_rfl) (by kernel_rfl) (by kernel_rfl) (by rfl) (by exact fun _ _ _ h => h) (Or.inl ⟨by rfl, ?_⟩) (by assumption) ?_; rotate_left; · (intro w0; go_simp; try with_reducible rfl)
          try simp only [Act.put, List.setIfInBounds_toArray, List.set_cons_zero, List.set_cons_succ]
          refine wpAnyL_move (i := 7) (v := ?_) (by rfl) (by kernel_rfl) (by kernel_rfl) (by kernel_rfl) (by rfl) (by exact fun _ _ _ h => h) (Or.inl ⟨by rfl, ?_⟩) (by assumption) ?_; rotate_left; · (intro w0; go_simp; try with_reducible rfl)
          try simp only [Act.put, List.setIfInBounds_toArray, List.set_cons_zero, List.set_cons_succ]
          refine wpAnyL_move (i := 8) (v := ?_) (by rfl) (by kernel_rfl) (by kernel_rfl) (by kernel_rfl) (by rfl) (by exact fun _ _ _ h => h) (Or.inl ⟨by rfl, ?_⟩) (by assumption) ?_; rotate_left; · (intro w0; go_simp; try with_reducible rfl)
          try simp only [Act.put, List.setIfInBounds_toArray, List.set_cons_zero, List.set_cons_succ]
          refine wpAnyL_move (i := 9) (v := ?_) (by rfl) (by kernel_rfl) (by kernel_rfl) (by kernel_rfl) (by rfl) (by exact fun _ _ _ h => h) (Or.inl ⟨by rfl, ?_⟩) (by assumption) ?_; rotate_left; · (intro w0; go_simp; try with_reducible rfl)
          try simp only [Act.put, List.setIfInBounds_toArray, List.set_cons_zero, List.set_cons_succ]
          refine wpAnyL_loadT 24 (i := 10) (v := ?_) (by rfl) (by kernel_rfl) (by kernel_rfl) (by kernel_rfl) (by rfl) (by kernel_rfl) (by kernel_rfl) (by exact fun _ _ _ h => h) (Or.inl ⟨by rfl, ?_⟩) (by assumption) ?_; rotate_left; · (intro w0 hS0; obtain ⟨hS1, hS2, hS3, hS4⟩ := hS0; unfold OneC at hS1 hS2 hS3 hS4; go_simp; try with_reducible rfl)
          try simp only [Act.put, List.setIfInBounds_toArray, List.set_cons_zero, List.set_cons_succ]
          refine wpAnyL_move (i := 11) (v := ?_) (by rfl) (by kernel_rfl) (by kernel_rfl) (by kernel_rfl) (by rfl) (by exact fun _ _ _ h => h) (Or.inl ⟨by rfl, ?_⟩) (by assumption) ?_; rotate_left; · (intro w0; go_simp; try with_reducible rfl)
          try simp only [Act.put, List.setIfInBounds_toArray, List.set_cons_zero, List.set_cons_succ]
          refine wpAnyL_move (i := 12) (v := ?_) (by rfl) (by kernel_rfl) (by kernel_rfl) (by kernel_rfl) (by rfl) (by exact fun _ _ _ h => h) (Or.inl ⟨by rfl, ?_⟩) (by assumption) ?_; rotate_left; · (intro w0; go_simp; try with_reducible rfl)
          try simp only [Act.put, List.setIfInBounds_toArray, List.set_cons_zero, List.set_cons_succ]
          refine wpAnyL_move (i := 13) (v := ?_) (by rfl) (by kernel_rfl) (by kernel_rfl) (by kernel_rfl) (by rfl) (by exact fun _ _ _ h => h) (Or.inl ⟨by rfl, ?_⟩) (by assumption) ?_; rotate_left; · (intro w0; go_simp; try with_reducible rfl)
          try simp only [Act.put, List.setIfInBounds_toArray, List.set_cons_zero, List.set_cons_succ]
          refine wpAnyL_move (i := 14) (v := ?_) (by rfl) (by kernel_rfl) (by kernel_rfl) (by kernel_rfl) (by rfl) (by exact fun _ _ _ h => h) (Or.inl ⟨by rfl, ?_⟩) (by assumption) ?_; rotate_left; · (intro w0; go_simp; try with_reducible rfl)
          try simp only [Act.put, List.setIfInBounds_toArray, List.set_cons_zero, List.set_cons_succ]
          refine wpAnyL_loadT 24 (i := 15) (v := ?_) (by rfl) (by kernel_rfl) (by kernel_rfl) (by kernel_rfl) (by rfl) (by kernel_rfl) (by kernel_rfl) (by exact fun _ _ _ h => h) (Or.inl ⟨by rfl, ?_⟩) (by assumption) ?_; rotate_left; · (intro w0 hS0; obtain ⟨hS1, hS2, hS3, hS4⟩ := hS0; unfold OneC at hS1 hS2 hS3 hS4; go_simp; try with_reducible rfl)
          try simp only [Act.put, List.setIfInBounds_toArray, List.set_cons_zero, List.set_cons_succ]
          refine wpAnyL_move (i := 16) (v := ?_) (by rfl) (by kernel_rfl) (by kernel_rfl) (by kernel_rfl) (by rfl) (by exact fun _ _ _ h => h) (Or.inl ⟨by rfl, ?_⟩) (by assumption) ?_; rotate_left; · (intro w0; go_simp; try with_reducible rfl)
          try simp only [Act.put, List.setIfInBounds_toArray, List.set_cons_zero, List.set_cons_succ]
          refine wpAnyL_move (i := 17) (v := ?_) (by rfl) (by kernel_rfl) (by kernel_rfl) (by kernel_rfl) (by rfl) (by exact fun _ _ _ h => h) (Or.inl ⟨by rfl, ?_⟩) (by assumption) ?_; rotate_left; · (intro w0; go_simp; try with_reducible rfl)
          try simp only [Act.put, List.setIfInBounds_toArray, List.set_cons_zero, List.set_cons_succ]
          refine wpAnyL_move (i := 18) (v := ?_) (by rfl) (by kernel_rfl) (by kernel_rfl) (by kernel_rfl) (by rfl) (by exact fun _ _ _ h => h) (Or.inl ⟨by rfl, ?_⟩) (by assumption) ?_; rotate_left; · (intro w0; go_simp; try with_reducible rfl)
          try simp only [Act.put, List.setIfInBounds_toArray, List.set_cons_zero, List.set_cons_succ]
          refine wpAnyL_move (i := 19) (v := ?_) (by rfl) (by kernel_rfl) (by kernel_rfl) (by kernel_rfl) (by rfl) (by exact fun _ _ _ h => h) (Or.inl ⟨by rfl, ?_⟩) (by assumption) ?_; rotate_left; · (intro w0; go_simp; try with_reducible rfl)
          try simp only [Act.put, List.setIfInBounds_toArray, List.set_cons_zero, List.set_cons_succ]
          refine wpAnyL_loadT 24 (i := 20) (v := ?_) (by rfl) (by kernel_rfl) (by kernel_rfl) (by kernel_rfl) (by rfl) (by kernel_rfl) (by kernel_rfl) (by exact fun _ _ _ h => h) (Or.inl ⟨by rfl, ?_⟩) (by assumption) ?_; rotate_left; · (intro w0 hS0; obtain ⟨hS1, hS2, hS3, hS4⟩ := hS0; unfold OneC at hS1 hS2 hS3 hS4; go_simp; try with_reducible rfl)
          try simp only [Act.put, List.setIfInBounds_toArray, List.set_cons_zero, List.set_cons_succ]
          refine wpAnyL_move (i := 21) (v := ?_) (by rfl) (by kernel_rfl) (by kernel_rfl) (by kernel_rfl) (by rfl) (by exact fun _ _ _ h => h) (Or.inl ⟨by rfl, ?_⟩) (by assumption) ?_; rotate_left; · (intro w0; go_simp; try with_reducible rfl)
          try simp only [Act.put, List.setIfInBounds_toArray, List.set_cons_zero, List.set_cons_succ]
          refine wpAnyL_each (rs := [22]) (by kernel_rfl) (by simp) ?_
          refine EachL.cons (by rfl) (by rfl) (fun K hK => ?_) ?_
          · go_simp
            refine hK.out _ _ ⟨hHeld.1.alloc _, hHeld.2.1.alloc _, hHeld.2.2.1.alloc _, hHeld.2.2.2.alloc _⟩ (fun hHeld => ?_)
            clear hK K
            try simp only [Act.put, List.setIfInBounds_toArray, List.set_cons_zero, List.set_cons_succ]
            refine wpAnyL_late (i := 23) (by kernel_rfl) (by rfl) (by rfl) (fun K hK => ?_)
            go_simp
            refine hK.out _ _ ?_
            clear hK K
            try simp only [Act.put, List.setIfInBounds_toArray, List.set_cons_zero, List.set_cons_succ]
            refine wpAny_done (by kernel_rfl) ?_ _
            go_wp2_with (fail)
            go_meet
            refine ⟨rfl, ?_⟩
            exact HX0.out.below (below_drewN _ 1)
          exact EachL.nil
        case rest =>
        obtain ⟨rfl, HX⟩ := hcut
        clear CS HX0
        obtain ⟨ta, tc, rfl⟩ := HRA4.out.txs.form
        obtain ⟨da, dc, rfl⟩ := HRA4.out.dirty.form
        have HXT0 : Hid (XT w4 n r 0 wc) := ⟨_, HX.out⟩
        clear HX
        go_wp2_with (fail)
        go_loopw [19] (fun kv wr => ∃ k : Nat, kv = .int .i64 (k : Int) ∧ k ≤ r.txs.length ∧ Hid (XT w4 n r k wr)) (fun kv _ => r.txs.length - (intOf kv).toNat)
        case atStart => exact ⟨0, rfl, Nat.zero_le _, HXT0⟩
        case round =>
          clear HXT0
          obtain ⟨k, rfl, hk, HXT⟩ := hrel
          obtain ⟨xt, hX⟩ := HXT.out
          have hb := hX.base
          have hq15 : wr.cell? ⟨rb, off + j * 17 + 15, none⟩ = some (.slice ta r.txs.length tc) := (hb.cell (p := ⟨rb, off + j * 17 + 15, none⟩) HC4.out.1).trans (HC4.out.2 15 _ rfl)
          by_cases hkl : k < r.txs.length
          · obtain ⟨t, ht⟩ : ∃ t, r.txs[k]? = some t := ⟨_, List.getElem?_eq_getElem hkl⟩
            obtain ⟨tb, toff, rfl, hqq, g1, g2, htl, hc⟩ := (HRA4.out.txs.below hb).at_ ht
            have d0 : wr.cell? ⟨tb, toff + k * 4, none⟩ = some (.int .i64 t.tx) := hc 0 _ rfl
            have d1 : wr.cell? ⟨tb, toff + k * 4 + 1, none⟩ = some (.int .i64 t.state) := hc 1 _ rfl
            have d2 : wr.cell? ⟨tb, toff + k * 4 + 2, none⟩ = some (.int .u64 (t.last : Int)) := hc 2 _ rfl
            have d3 : wr.cell? ⟨tb, toff + k * 4 + 3, none⟩ = some (.int .u64 (t.next : Int)) := hc 3 _ rfl
            have d5 : wr.cell? ⟨w4.heap.size, 5, none⟩ = some xt := hX.box.cell 5
            have hl5 : w4.heap.size < wr.heap.size := hX.box.lt
            have hrbl : rb < wr.heap.size := Nat.lt_of_lt_of_le HC4.out.1 hb.size
            have HTK : Hid (r.txs.take (k + 1) = r.txs.take k ++ [t]) := by show _ = _; rw [List.take_add_one, ht]; rfl
            have HTL : Hid ((r.txs.take k).length = k) := by show _ = _; rw [List.length_take]; omega
            have HQ3 := Lib.hid ((hX.below ((Below.refl _ wr).alloc (Nat.le_refl _) (.cells #[.int .i64 t.tx, .int .i64 t.state, .int .u64 (t.last : Int), .int .u64 (t.next : Int)] 44))).below ((Below.refl _ _).alloc (Nat.le_refl _) (.cells #[.int .i64 t.tx, .int .i64 t.state, .int .u64 (t.last : Int), .int .u64 (t.next : Int)] 46)))
            have h64 := HOK.out.a6.2.1
            generalize hts : r.txs.take k = ts at HTK HTL HQ3
            have M1 : Hid (ts.length + 1 ≤ maxLen) := by have := HTL.out; show _ ≤ maxLen; simp only [maxLen]; omega
            have M2 : Hid ((ts.length + 1) * 32 ≤ 140737488355328) := by have := HTL.out; show _ ≤ 140737488355328; omega
            have M3 : Hid (∀ u ∈ tsC t, u.oneCell' = true) := tsC_one t
            obtain ⟨its, hits, hz0, hz1, hz2⟩ := info_parts infoSt19
            have HKL := Lib.hid hkl
            have hk64 : k < 64 := by have : r.txs.length ≤ 64 := h64; omega
            clear hX HXT hb hc ht hqq g1 g2 htl h64 hts
            go_wp2_with (at_builtin; refine wpList_append_lies _ (by rfl) _ _ 37 (by rfl) (w4.heap.size + 1) 46 its _ 4 32 Tryz.underlying37 hits hz0 hz1 hz2 rfl (by omega) xt ts.length (cellsL tsC ts) (by rfl) HQ3.out.txs ⟨wr.heap.size + 1, 0, none⟩ 1 1 (tsC t) (by rfl) (by rfl) (World.news_of_block (cs := #[.int .i64 t.tx, .int .i64 t.state, .int .u64 (t.last : Int), .int .u64 (t.next : Int)]) (t := 46) (fr := (0, 0)) (alloc2_new wr _ _)) M3.out (by omega) M1.out M2.out HQ3.out.size _ rfl ?_; intro g4 c4 w6 ho hg hat4 hlt4; have q4 : w6.cell? ⟨w4.heap.size, 5, none⟩ = some xt := (HQ3.out.grownT hg).cell 5; have f4 : w6.frozen? ⟨w4.heap.size, 5, none⟩ = false := (HQ3.out.grownT hg).frozen 5)
            have hps := HQ3.out.pushT (t := t) ho hg
            rw [← HTK.out] at hps
            have HRES : Hid (XT w4 n r (k + 1) (w6.setCell ⟨w4.heap.size, 5, none⟩ (.slice (some ⟨g4, 0, none⟩) (ts.length + 1) c4))) := ⟨_, hps⟩
            clear hps ho hg hat4 hlt4 q4 f4 HQ3
            go_roundw
            case rel => exact ⟨k + 1, by go_num, HKL.out, HRES⟩
            case measure => have := HKL.out; simp [intOf]; omega
          · obtain rfl : k = r.txs.length := by omega
            have HX2 : Hid (∃ xt, XSt w4 n r xt (.slice none 0 0) r.txs [] wr) := by
              have := hX
              rw [List.take_length] at this
              exact ⟨_, this⟩
            clear hX HXT hb
            obtain ⟨xt, hX⟩ := HX2.out
            have HXD0 : Hid (XD w4 n r xt 0 wr) := ⟨_, hX⟩
            clear HX2 hX
            go_wp2_with (fail)
            clear hq15 hkl hk
            go_loopw [21] (fun kv wr => ∃ k : Nat, kv = .int .i64 (k : Int) ∧ k ≤ r.dirty.length ∧ Hid (XD w4 n r xt k wr)) (fun kv _ => r.dirty.length - (intOf kv).toNat)
            case atStart => exact ⟨0, rfl, Nat.zero_le _, HXD0⟩
            case round =>
              clear HXD0
              obtain ⟨k, rfl, hk, HXT⟩ := hrel
              obtain ⟨xd, hX⟩ := HXT.out
              have hb := hX.base
              have hq16 : wr.cell? ⟨rb, off + j * 17 + 16, none⟩ = some (.slice da r.dirty.length dc) := (hb.cell (p := ⟨rb, off + j * 17 + 16, none⟩) HC4.out.1).trans (HC4.out.2 16 _ rfl)
              by_cases hkl : k < r.dirty.length
              · obtain ⟨t, ht⟩ : ∃ t, r.dirty[k]? = some t := ⟨_, List.getElem?_eq_getElem hkl⟩
                obtain ⟨t1, t2⟩ := t
                obtain ⟨tb, toff, rfl, hqq, g1, g2, htl, hc4⟩ := HRA4.out.dirty.at_ ht
                have hc : ∀ (i : Nat) (u : Value), (dpC (t1, t2))[i]? = some u → wr.cell? ⟨tb, toff + k * 2 + i, none⟩ = some u := fun i u hu => (hb.cell (p := ⟨tb, toff + k * 2 + i, none⟩) htl).trans (hc4 i u hu)
                have CS : Hid (OneC ⟨w4.heap.size, 6, none⟩ xd wr ∧ OneC ⟨rb, off + j * 17 + 16, none⟩ (.slice (some ⟨tb, toff, none⟩) r.dirty.length dc) wr ∧ OneC ⟨tb, toff + k * 2, none⟩ (.int .u32 (t1 : Int)) wr ∧ OneC ⟨tb, toff + k * 2 + 1, none⟩ (.int .u64 (t2 : Int)) wr) := ⟨hX.box.cell 6, hq16, hc 0 _ rfl, hc 1 _ rfl⟩
                have HLL : Hid (w4.heap.size < wr.heap.size ∧ rb < w4.heap.size ∧ tb < w4.heap.size) := ⟨hX.box.lt, HC4.out.1, htl⟩
                have HXN : Hid (∀ k, xd.ownBlock = some k → w4.heap.size + 1 ≤ k) := fun k hk => (hX.dirty.lt k hk).1
                have HTK : Hid (r.dirty.take (k + 1) = r.dirty.take k ++ [(t1, t2)]) := by show _ = _; rw [List.take_add_one, ht]; rfl
                have HTL : Hid ((r.dirty.take k).length = k) := by show _ = _; rw [List.length_take]; omega
                have HQ : Hid (XSt w4 n r xt xd r.txs (r.dirty.take k) wr.drew) := hX.below (below_drewN _ 1)
                have h256 := HOK.out.a6.2.2
                generalize hds : r.dirty.take k = ds at HTK HTL HQ
                have M1 : Hid (ds.length + 1 ≤ maxLen) := by have := HTL.out; show _ ≤ maxLen; simp only [maxLen]; omega
                have M2 : Hid ((ds.length + 1) * 16 ≤ 140737488355328) := by have := HTL.out; show _ ≤ 140737488355328; omega
                have M3 : Hid (∀ u ∈ dpC (t1, t2), u.oneCell' = true) := dpC_one (t1, t2)
                obtain ⟨its, hits, hz0, hz1, hz2⟩ := info_parts infoDt19
                have HKL := Lib.hid hkl
                have hk256 : k < 256 := by have : r.dirty.length ≤ 256 := h256; omega
                clear hX HXT hb hc hc4 ht hqq g1 g2 htl h256 hds
                go_upto_region 23 with (fail)
                refine wp_region_late (S := fun W => OneC ⟨w4.heap.size, 6, none⟩ xd W ∧ OneC ⟨rb, off + j * 17 + 16, none⟩ (.slice (some ⟨tb, toff, none⟩) r.dirty.length dc) W ∧ OneC ⟨tb, toff + k * 2, none⟩ (.int .u32 (t1 : Int)) W ∧ OneC ⟨tb, toff + k * 2 + 1, none⟩ (.int .u64 (t2 : Int)) W) (late := [24]) (by kernel_rfl) CS.out (fun hHeld => ?_)
                refine wpAnyL_move (i := 0) (v := ?_) (by rfl) (by kernel_rfl) (by kernel_rfl) (by kernel_rfl) (by rfl) (by exact fun _ _ _ h => h) (Or.inl ⟨by rfl, ?_⟩) (by assumption) ?_; rotate_left; · (intro w0; go_simp; try with_reducible rfl)
                try simp only [Act.put, List.setIfInBounds_toArray, List.set_cons_zero, List.set_cons_succ]
                refine wpAnyL_loadT 25 (i := 1) (v := ?_) (by rfl) (by kernel_rfl) (by kernel_rfl) (by kernel_rfl) (by rfl) (by kernel_rfl) (by kernel_rfl) (by exact fun _ _ _ h => h) (Or.inl ⟨by rfl, ?_⟩) (by assumption) ?_; rotate_left; · (intro w0 hS0; obtain ⟨hS1, hS2, hS3, hS4⟩ := hS0; unfold OneC at hS1 hS2 hS3 hS4; go_simp; try with_reducible rfl)
                try simp only [Act.put, List.setIfInBounds_toArray, List.set_cons_zero, List.set_cons_succ]
                refine wpAnyL_move (i := 2) (v := ?_) (by rfl) (by kernel_rfl) (by kernel_rfl) (by kernel_rfl) (by rfl) (by exact fun _ _ _ h => h) (Or.inl ⟨by rfl, ?_⟩) (by assumption) ?_; rotate_left; · (intro w0; go_simp; try with_reducible rfl)
                try simp only [Act.put, List.setIfInBounds_toArray, List.set_cons_zero, List.set_cons_succ]
                refine wpAnyL_move (i := 3) (v := ?_) (by rfl) (by kernel_rfl) (by kernel_rfl) (by kernel_rfl) (by rfl) (by exact fun _ _ _ h => h) (Or.inl ⟨by rfl, ?_⟩) (by assumption) ?_; rotate_left; · (intro w0; go_simp; try with_reducible rfl)
                try simp only [Act.put, List.setIfInBounds_toArray, List.set_cons_zero, List.set_cons_succ]
                refine wpAnyL_move (i := 4) (v := ?_) (by rfl) (by kernel_rfl) (by kernel_rfl) (by kernel_rfl) (by rfl) (by exact fun _ _ _ h => h) (Or.inl ⟨by rfl, ?_⟩) (by assumption) ?_; rotate_left; · (intro w0; go_simp; try with_reducible rfl)
                try simp only [Act.put, List.setIfInBounds_toArray, List.set_cons_zero, List.set_cons_succ]
                refine wpAnyL_move (i := 5) (v := ?_) (by rfl) (by kernel_rfl) (by kernel_rfl) (by kernel_rfl) (by rfl) (by exact fun _ _ _ h => h) (Or.inl ⟨by rfl, ?_⟩) (by assumption) ?_; rotate_left; · (intro w0; go_simp; try with_reducible rfl)
                try simp only [Act.put, List.setIfInBounds_toArray, List.set_cons_zero, List.set_cons_succ]
                refine wpAnyL_loadT 25 (i := 6) (v := ?_) (by rfl) (by kernel_rfl) (by kernel_rfl) (by kernel_rfl) (by rfl) (by kernel_rfl) (by kernel_rfl) (by exact fun _ _ _ h => h) (Or.inl ⟨by rfl, ?_⟩) (by assumption) ?_; rotate_left; · (intro w0 hS0; obtain ⟨hS1, hS2, hS3, hS4⟩ := hS0; unfold OneC at hS1 hS2 hS3 hS4; go_simp; try with_reducible rfl)
                try simp only [Act.put, List.setIfInBounds_toArray, List.set_cons_zero, List.set_cons_succ]
                refine wpAnyL_move (i := 7) (v := ?_) (by rfl) (by kernel_rfl) (by kernel_rfl) (by kernel_rfl) (by rfl) (by exact fun _ _ _ h => h) (Or.inl ⟨by rfl, ?_⟩) (by assumption) ?_; rotate_left; · (intro w0; go_simp; try with_reducible rfl)
                try simp only [Act.put, List.setIfInBounds_toArray, List.set_cons_zero, List.set_cons_succ]
                refine wpAnyL_move (i := 8) (v := ?_) (by rfl) (by kernel_rfl) (by kernel_rfl) (by kernel_rfl) (by rfl) (by exact fun _ _ _ h => h) (Or.inl ⟨by rfl, ?_⟩) (by assumption) ?_; rotate_left; · (intro w0; go_simp; try with_reducible rfl)
                try simp only [Act.put, List.setIfInBounds_toArray, List.set_cons_zero, List.set_cons_succ]
                refine wpAnyL_move (i := 9) (v := ?_) (by rfl) (by kernel_rfl) (by kernel_rfl) (by kernel_rfl) (by rfl) (by exact fun _ _ _ h => h) (Or.inl ⟨by rfl, ?_⟩) (by assumption) ?_; rotate_left; · (intro w0; go_simp; try with_reducible rfl)
                try simp only [Act.put, List.setIfInBounds_toArray, List.set_cons_zero, List.set_cons_succ]
                refine wpAnyL_loadT 25 (i := 10) (v := ?_) (by rfl) (by kernel_rfl) (by kernel_rfl) (by kernel_rfl) (by rfl) (by kernel_rfl) (by kernel_rfl) (by exact fun _ _ _ h => h) (Or.inl ⟨by rfl, ?_⟩) (by assumption) ?_; rotate_left; · (intro w0 hS0; obtain ⟨hS1, hS2, hS3, hS4⟩ := hS0; unfold OneC at hS1 hS2 hS3 hS4; go_simp; try with_reducible rfl)
                try simp only [Act.put, List.setIfInBounds_toArray, List.set_cons_zero, List.set_cons_succ]
                refine wpAnyL_move (i := 11) (v := ?_) (by rfl) (by kernel_rfl) (by kernel_rfl) (by kernel_rfl) (by rfl) (by exact fun _ _ _ h => h) (Or.inl ⟨by rfl, ?_⟩) (by assumption) ?_; rotate_left; · (intro w0; go_simp; try with_reducible rfl)
                try simp only [Act.put, List.setIfInBounds_toArray, List.set_cons_zero, List.set_cons_succ]
                refine wpAnyL_move (i := 12) (v := ?_) (by rfl) (by kernel_rfl) (by kernel_rfl) (by kernel_rfl) (by rfl) (by exact fun _ _ _ h => h) (Or.inl ⟨by rfl, ?_⟩) (by assumption) ?_; rotate_left; · (intro w0; go_simp; try with_reducible rfl)
                try simp only [Act.put, List.setIfInBounds_toArray, List.set_cons_zero, List.set_cons_succ]
                refine wpAnyL_move (i := 13) (v := ?_) (by rfl) (by kernel_rfl) (by kernel_rfl) (by kernel_rfl) (by rfl) (by exact fun _ _ _ h => h) (Or.inl ⟨by rfl, ?_⟩) (by assumption) ?_; rotate_left; · (intro w0; go_simp; try with_reducible rfl)
                try simp only [Act.put, List.setIfInBounds_toArray, List.set_cons_zero, List.set_cons_succ]
                refine wpAnyL_move (i := 14) (v := ?_) (by rfl) (by kernel_rfl) (by kernel_rfl) (by kernel_rfl) (by rfl) (by exact fun _ _ _ h => h) (Or.inl ⟨by rfl, ?_⟩) (by assumption) ?_; rotate_left; · (intro w0; go_simp; try with_reducible rfl)
                try simp only [Act.put, List.setIfInBounds_toArray, List.set_cons_zero, List.set_cons_succ]
                refine wpAnyL_loadT 25 (i := 15) (v := ?_) (by rfl) (by kernel_rfl) (by kernel_rfl) (by kernel_rfl) (by rfl) (by kernel_rfl) (by kernel_rfl) (by exact fun _ _ _ h => h) (Or.inl ⟨by rfl, ?_⟩) (by assumption) ?_; rotate_left; · (intro w0 hS0; obtain ⟨hS1, hS2, hS3, hS4⟩ := hS0; unfold OneC at hS1 hS2 hS3 hS4; go_simp; try with_reducible rfl)
                try simp only [Act.put, List.setIfInBounds_toArray, List.set_cons_zero, List.set_cons_succ]
                refine wpAnyL_move (i := 16) (v := ?_) (by rfl) (by kernel_rfl) (by kernel_rfl) (by kernel_rfl) (by rfl) (by exact fun _ _ _ h => h) (Or.inl ⟨by rfl, ?_⟩) (by assumption) ?_; rotate_left; · (intro w0; go_simp; try with_reducible rfl)
                try simp only [Act.put, List.setIfInBounds_toArray, List.set_cons_zero, List.set_cons_succ]
                refine wpAnyL_move (i := 17) (v := ?_) (by rfl) (by kernel_rfl) (by kernel_rfl) (by kernel_rfl) (by rfl) (by exact fun _ _ _ h => h) (Or.inl ⟨by rfl, ?_⟩) (by assumption) ?_; rotate_left; · (intro w0; go_simp; try with_reducible rfl)
                try simp only [Act.put, List.setIfInBounds_toArray, List.set_cons_zero, List.set_cons_succ]
                refine wpAnyL_move (i := 18) (v := ?_) (by rfl) (by kernel_rfl) (by kernel_rfl) (by kernel_rfl) (by rfl) (by exact fun _ _ _ h => h) (Or.inl ⟨by rfl, ?_⟩) (by assumption) ?_; rotate_left; · (intro w0; go_simp; try with_reducible rfl)
                try simp only [Act.put, List.setIfInBounds_toArray, List.set_cons_zero, List.set_cons_succ]
                refine wpAnyL_loadT 25 (i := 19) (v := ?_) (by rfl) (by kernel_rfl) (by kernel_rfl) (by kernel_rfl) (by rfl) (by kernel_rfl) (by kernel_rfl) (by exact fun _ _ _ h => h) (Or.inl ⟨by rfl, ?_⟩) (by assumption) ?_; rotate_left; · (intro w0 hS0; obtain ⟨hS1, hS2, hS3, hS4⟩ := hS0; unfold OneC at hS1 hS2 hS3 hS4; go_simp; try with_reducible rfl)
                try simp only [Act.put, List.setIfInBounds_toArray, List.set_cons_zero, List.set_cons_succ]
                refine wpAnyL_move (i := 20) (v := ?_) (by rfl) (by kernel_rfl) (by kernel_rfl) (by kernel_rfl) (by rfl) (by exact fun _ _ _ h => h) (Or.inl ⟨by rfl, ?_⟩) (by assumption) ?_; rotate_left; · (intro w0; go_simp; try with_reducible rfl)
                try simp only [Act.put, List.setIfInBounds_toArray, List.set_cons_zero, List.set_cons_succ]
                refine wpAnyL_each (rs := [21]) (by kernel_rfl) (by simp) ?_
                refine EachL.cons (by rfl) (by rfl) (fun K hK => ?_) ?_
                · go_simp
                  refine hK.out _ _ ⟨hHeld.1.alloc _, hHeld.2.1.alloc _, hHeld.2.2.1.alloc _, hHeld.2.2.2.alloc _⟩ (fun hHeld => ?_)
                  clear hK K
                  try simp only [Act.put, List.setIfInBounds_toArray, List.set_cons_zero, List.set_cons_succ]
                  refine wpAnyL_each (rs := [22]) (by kernel_rfl) (by simp) ?_
                  refine EachL.cons (by rfl) (by rfl) (fun K hK => ?_) ?_
                  · refine step_append_lies _ (by rfl) _ _ 38 (by rfl) (w4.heap.size + 1) 52 its _ 2 16 Tryz.underlying38 hits hz0 hz1 hz2 rfl (by omega) xd ds.length (cellsL dpC ds) (by rfl) (HQ.out.below ((Below.refl _ _).alloc (Nat.le_refl _) _)).dirty ⟨wr.drew.heap.size, 0, none⟩ 1 1 (dpC (t1, t2)) (by rfl) (by rfl) (World.news_of_block (cs := #[.int .u32 (t1 : Int), .int .u64 (t2 : Int)]) (t := 52) (fr := (0, 0)) (heap_alloc_new wr.drew _)) M3.out (by omega) M1.out M2.out (HQ.out.below ((Below.refl _ _).alloc (Nat.le_refl _) _)).size _ rfl ?_; intro sg sc w6 so sgr sat slt
                    refine hK.out _ _ ⟨((HQ.out.below ((Below.refl _ _).alloc (Nat.le_refl _) _)).grownD sgr).cell 6, (World.cell?_of_block (a := ⟨rb, off + j * 17 + 16, none⟩) (sgr.block rb (by have := HLL.out; simp; omega) (fun e => by have := HXN.out _ e.symm; have := HLL.out; omega))).trans hHeld.2.1, (World.cell?_of_block (a := ⟨tb, toff + k * 2, none⟩) (sgr.block tb (by have := HLL.out; simp; omega) (fun e => by have := HXN.out _ e.symm; have := HLL.out; omega))).trans hHeld.2.2.1, (World.cell?_of_block (a := ⟨tb, toff + k * 2 + 1, none⟩) (sgr.block tb (by have := HLL.out; simp; omega) (fun e => by have := HXN.out _ e.symm; have := HLL.out; omega))).trans hHeld.2.2.2⟩ (fun hHeld => ?_)
                    clear hK K
                    try simp only [Act.put, List.setIfInBounds_toArray, List.set_cons_zero, List.set_cons_succ]
                    refine wpAnyL_move (i := 23) (v := ?_) (by rfl) (by kernel_rfl) (by kernel_rfl) (by kernel_rfl) (by rfl) (by exact fun _ _ _ h => h) (Or.inl ⟨by rfl, ?_⟩) (by assumption) ?_; rotate_left; · (intro w0; go_simp; try with_reducible rfl)
                    try simp only [Act.put, List.setIfInBounds_toArray, List.set_cons_zero, List.set_cons_succ]
                    have q4 : w6.cell? ⟨w4.heap.size, 6, none⟩ = some xd := ((HQ.out.below ((Below.refl _ _).alloc (Nat.le_refl _) _)).grownD sgr).cell 6
                    have f4 : w6.frozen? ⟨w4.heap.size, 6, none⟩ = false := ((HQ.out.below ((Below.refl _ _).alloc (Nat.le_refl _) _)).grownD sgr).frozen 6
                    refine wpAnyL_late (i := 24) (by kernel_rfl) (by rfl) (by rfl) (fun K hK => ?_)
                    go_simp
                    refine hK.out _ _ ?_
                    clear hK K
                    try simp only [Act.put, List.setIfInBounds_toArray, List.set_cons_zero, List.set_cons_succ]
                    refine wpAny_done (by kernel_rfl) ?_ _
                    have R1 := Lib.hid ((HQ.out.below ((Below.refl _ _).alloc (Nat.le_refl _) _)).pushD (t := (t1, t2)) so sgr)
                    clear q4 f4 so sgr sat slt hHeld HQ
                    rw [← HTK.out] at R1
                    have HRES : Hid (XD w4 n r xt (k + 1) (w6.setCell ⟨w4.heap.size, 6, none⟩ (.slice (some ⟨sg, 0, none⟩) (ds.length + 1) sc))) := ⟨_, R1.out⟩
                    clear R1
                    go_wp2_with (fail)
                    go_roundw
                    case rel => exact ⟨k + 1, by go_num, HKL.out, HRES⟩
                    case measure => have := HKL.out; simp [intOf]; omega
                  exact EachL.nil
                exact EachL.nil
              · obtain rfl : k = r.dirty.length := by omega
                have HX2 : Hid (XSt w4 n r xt xd r.txs r.dirty wr) := by
                  have := hX
                  rw [List.take_length] at this
                  exact this
                clear hX HXT hb
                have hqs : qs.length ≤ 60 := by
                  have h1 := HSQ.out.length
                  rw [placed_length] at h1
                  have := HK0.out
                  omega
                obtain ⟨xa, xc, rfl⟩ := own_slice HX2.out.txs
                obtain ⟨ya, yc, rfl⟩ := own_slice HX2.out.dirty
                obtain ⟨qa, qc, hqe⟩ := own_slice HLW4.out.own.row
                cases hqe
                have HB5 : Hid (Below w4.heap.size w4 (wr.alloc (.cells #[Value.int .u64 (n : Int), .int .i64 r.kind, .int .i64 r.tx, .int .u64 (r.next : Int), .int .u32 (r.page : Int), .slice xa r.txs.length xc, .slice ya r.dirty.length yc] 173))) := HX2.out.base.alloc HX2.out.base.size _
                have HR5 : Hid ((wr.alloc (.cells #[Value.int .u64 (n : Int), .int .i64 r.kind, .int .i64 r.tx, .int .u64 (r.next : Int), .int .u32 (r.page : Int), .slice xa r.txs.length xc, .slice ya r.dirty.length yc] 173)).ownsRow w.heap.size 173 7 (.slice va qs.length vc) qs.length (cellsL q19C qs)) := own_same HLW4.out.own.row (fun k hk => HB5.out.block k (HLW4.out.own.row.lt k hk).2)
                have HZ5 : Hid (w.heap.size ≤ (wr.alloc (.cells #[Value.int .u64 (n : Int), .int .i64 r.kind, .int .i64 r.tx, .int .u64 (r.next : Int), .int .u32 (r.page : Int), .slice xa r.txs.length xc, .slice ya r.dirty.length yc] 173)).heap.size) := Nat.le_trans HLW4.out.base.size HB5.out.size
                have HXR : Hid (wr.heap[w4.heap.size]? = some (.cells #[Value.int .u64 (n : Int), .int .i64 r.kind, .int .i64 r.tx, .int .u64 (r.next : Int), .int .u32 (r.page : Int), .slice xa r.txs.length xc, .slice ya r.dirty.length yc] 173 (0, 0))) := HX2.out.box
                obtain ⟨its, hits, hz0, hz1, hz2⟩ := info_parts infoR19
                have M1 : Hid (qs.length + 1 ≤ maxLen) := by show _ ≤ maxLen; simp only [maxLen]; omega
                have M2 : Hid ((qs.length + 1) * 88 ≤ 140737488355328) := by show _ ≤ 140737488355328; omega
                have M3 : Hid (∀ u ∈ [Value.int .u64 (n : Int), .int .i64 r.kind, .int .i64 r.tx, .int .u64 (r.next : Int), .int .u32 (r.page : Int), .slice xa r.txs.length xc, .slice ya r.dirty.length yc], u.oneCell' = true) := fun u hu => by
                  simp only [List.mem_cons, List.not_mem_nil, or_false] at hu
                  rcases hu with rfl | rfl | rfl | rfl | rfl | rfl | rfl <;> rfl
                go_upto_region 24 with (fail)
                refine wp_region_lit ?_
                refine wpList_plain (by rfl) fun K hK => ?_
                go_simp
                refine hK _ _ ?_
                clear hK K
                refine wpList_load_row (by first | rfl | (simp [Region.wanted, yielded])) _ _ (by rfl) w4.heap.size 173 #[Value.int .u64 (n : Int), .int .i64 r.kind, .int .i64 r.tx, .int .u64 (r.next : Int), .int .u32 (r.page : Int), .slice xa r.txs.length xc, .slice ya r.dirty.length yc] _ (by rfl) HXR.out Tryz.underlying173 (by rfl) (by kernel_rfl) ?_
                refine wpList_plain (by rfl) fun K hK => ?_
                go_simp
                refine hK _ _ ?_
                clear hK K
                refine wpList_append_lies _ (by rfl) _ _ 24 (by rfl) w.heap.size 173 its _ 7 88 Tryz.underlying24 hits hz0 hz1 hz2 rfl (by omega) (.slice va qs.length vc) qs.length (cellsL q19C qs) (by rfl) HR5.out ⟨wr.heap.size, 0, none⟩ 1 1 [Value.int .u64 (n : Int), .int .i64 r.kind, .int .i64 r.tx, .int .u64 (r.next : Int), .int .u32 (r.page : Int), .slice xa r.txs.length xc, .slice ya r.dirty.length yc] (by rfl) (by rfl) (World.news_of_block (cs := #[Value.int .u64 (n : Int), .int .i64 r.kind, .int .i64 r.tx, .int .u64 (r.next : Int), .int .u32 (r.page : Int), .slice xa r.txs.length xc, .slice ya r.dirty.length yc]) (t := 173) (fr := (0, 0)) (heap_alloc_new wr _)) M3.out (by omega) M1.out M2.out HZ5.out _ rfl ?_
                intro g4 c4 w6 ho hg hat4 hlt4
                have hstep : Step (LaidK (.slice va qs.length vc) qs) w4 w6 := (Step.below HB5.out).grown hg (fun k hk => .inl (.inl hk))
                have hkb := HLW4.out.kbound
                have hq := HX2.out
                have HRES : Hid (LaidI w b lb rs (j + 1) (.slice (some ⟨g4, 0, none⟩) (qs.length + 1) c4) w6) := by
                  refine ⟨qs ++ [⟨n, r, .slice xa r.txs.length xc, .slice ya r.dirty.length yc⟩], HNX.out.1 _ _, ?_⟩
                  rw [HNX.out.2]
                  have hz6 := hg.size
                  have hwr : (wr.alloc (.cells #[Value.int .u64 (n : Int), .int .i64 r.kind, .int .i64 r.tx, .int .u64 (r.next : Int), .int .u32 (r.page : Int), .slice xa r.txs.length xc, .slice ya r.dirty.length yc] 173)).heap.size = wr.heap.size + 1 := by simp
                  have hsz4 := hq.size
                  have hnt : ∀ k, (Value.slice xa r.txs.length xc).ownBlock = some k → w4.heap.size + 1 ≤ k ∧ k < wr.heap.size := hq.txs.lt
                  have hnd : ∀ k, (Value.slice ya r.dirty.length yc).ownBlock = some k → w4.heap.size + 1 ≤ k ∧ k < wr.heap.size := hq.dirty.lt
                  have hgg : (g4 < w4.heap.size ∧ (Value.slice va qs.length vc).ownBlock = some g4) ∨ g4 = wr.heap.size + 1 := by
                    rcases hat4 with h | h
                    · exact .inl ⟨hkb g4 (.inl h), h⟩
                    · exact .inr (by rw [h, hwr])
                  refine HLW4.out.turn hstep (fun x hx => ?_) ⟨?_, fun q hqm => ?_, fun q hqm k hk => ?_⟩
                  · rcases hx with hx | ⟨q, hqm, hx⟩
                    · have e : g4 = x := by simpa [Value.ownBlock] using hx
                      subst e
                      refine ⟨?_, hlt4⟩
                      rcases hgg with h | h
                      · exact .inl (.inl h.2)
                      · exact .inr (by omega)
                    · rcases List.mem_append.1 hqm with hqm | hqm
                      · have := hkb x (.inr ⟨q, hqm, hx⟩)
                        exact ⟨.inl (.inr ⟨q, hqm, hx⟩), by omega⟩
                      · simp only [List.mem_singleton] at hqm
                        subst hqm
                        rcases hx with hx | hx
                        · have := hnt x hx; exact ⟨.inr (by omega), by omega⟩
                        · have := hnd x hx; exact ⟨.inr (by omega), by omega⟩
                  · have e : (qs ++ [(⟨n, r, .slice xa r.txs.length xc, .slice ya r.dirty.length yc⟩ : Q19)]).length = qs.length + 1 := by simp
                    rw [e, cellsL_snoc]
                    exact ho
                  · rcases List.mem_append.1 hqm with hqm | hqm
                    · obtain ⟨o1, o2, o3, o4, o5⟩ := HLW4.out.own.ok q hqm
                      have hsame : ∀ k, k < w4.heap.size → (Value.slice va qs.length vc).ownBlock ≠ some k → w6.heap[k]? = w4.heap[k]? := fun k hk hn => (hg.block k (by omega) (fun e => hn e.symm)).trans (HB5.out.block k hk)
                      exact ⟨o1, o2, o3, o4.same (fun k hk => hsame k (hkb k (.inr ⟨q, hqm, .inl hk⟩)) (fun e => (HLW4.out.own.sep q hqm k e).1 hk)), o5.same (fun k hk => hsame k (hkb k (.inr ⟨q, hqm, .inr hk⟩)) (fun e => (HLW4.out.own.sep q hqm k e).2 hk))⟩
                    · simp only [List.mem_singleton] at hqm
                      subst hqm
                      have hsame : ∀ k, w4.heap.size + 1 ≤ k → k < wr.heap.size → w6.heap[k]? = wr.heap[k]? := fun k hk hk2 => (hg.block k (by omega) (fun e => by have := hkb k (.inl e.symm); omega)).trans (Below.heap_alloc _ _ _ hk2)
                      exact ⟨HOK.out, HRA4.out.mild, by show n < _; omega, (RdC.of_own tsC_len' hq.txs).same (fun k hk => hsame k (hnt k hk).1 (hnt k hk).2), (RdC.of_own dpC_len' hq.dirty).same (fun k hk => hsame k (hnd k hk).1 (hnd k hk).2)⟩
                  · have e : g4 = k := by simpa [Value.ownBlock] using hk
                    subst e
                    rcases List.mem_append.1 hqm with hqm | hqm
                    · rcases hgg with h | h
                      · exact HLW4.out.own.sep q hqm g4 h.2
                      · exact ⟨fun e => by have := hkb g4 (.inr ⟨q, hqm, .inl e⟩); omega, fun e => by have := hkb g4 (.inr ⟨q, hqm, .inr e⟩); omega⟩
                    · simp only [List.mem_singleton] at hqm
                      subst hqm
                      rcases hgg with h | h
                      · exact ⟨fun e => by have := hnt g4 e; omega, fun e => by have := hnd g4 e; omega⟩
                      · exact ⟨fun e => by have := hnt g4 e; omega, fun e => by have := hnd g4 e; omega⟩
                clear hstep hkb hq ho hg hat4 hlt4 HX2 HLW4 HB5 HR5 HZ5 HXR HRA4 HC4
                go_wp2_with (fail)
                go_roundw
                case rel => exact ⟨j + 1, qs.length + 1, some ⟨g4, 0, none⟩, c4, by go_num, rfl, HJL.out, HJ60.out, HRES⟩
                case measure => have := HJ60.out; simp [intOf]; omega
      · have e1 : r.encE = (⟨#[]⟩, 40) := by unfold Rc.encE; rw [if_neg hok]
        rw [e1] at HEN
        simp only at HEN
        have HRES : ∀ W, Below wc.heap.size wc W → Hid (LaidI w b lb rs (j + 1) (.slice va qn vc) W) := fun W hW => by
          have e2 : keepR (rs.take (j + 1)) = keepR (rs.take j) := by rw [HRJ.out]; exact keepR_no hok
          refine ⟨qs, ?_, ?_⟩
          · rw [e2]; exact HSQ.out
          · rw [e2]; exact HLW.out.below (stable_laid _ _ _) hW
        clear e1 hok
        go_upto_region 9 with (fail)
        refine wp_region_lit ?_
        refine wpList_plain (by rfl) fun K hK => ?_
        go_simp
        refine hK _ _ ?_
        clear hK K
        refine wpList_plain (by rfl) fun K hK => ?_
        go_simp
        refine hK _ _ ?_
        clear hK K
        refine wpList_plain (by rfl) fun K hK => ?_
        go_simp
        refine hK _ _ ?_
        clear hK K
        refine wpList_load_at (by first | rfl | (simp [Region.wanted, yielded])) _ _ (by rfl) ⟨rb, off + j * 17, none⟩ (recC r tv dv) _ (by rfl) (fun i u hu => by rw [add_lit]; exact HCELL.out i u hu) Tryz.underlying63 (by rfl) (by kernel_rfl) ?_
        go_wp2_with (fail)
        refine HEN.out.mono ?_
        rintro e w3 ⟨rfl, hb3⟩
        have HR3 := HRES w3 hb3
        clear hb3 HEN HRES HCELL HLW HSQ
        go_wp2_with (fail)
        go_roundw
        case rel => exact ⟨j + 1, qn, va, vc, by go_num, rfl, HJL.out, HJ60.out, HR3⟩
        case measure => have := HJ60.out; simp [intOf]; omega
    | false =>
      have HTK : Hid (rs.take j = rs.take 60) := by
        show _ = _
        have hn : ¬ (j < nl ∧ j < 60) := fun h => Bool.false_ne_true (hbb.out.2 h)
        rcases Nat.lt_or_ge j 60 with h | h
        · have hl := HLEN.out
          rw [List.take_of_length_le (by omega), List.take_of_length_le (by omega)]
        · rw [show j = 60 by omega]
      have hI := HI.out
      unfold LaidI at hI
      rw [HTK.out] at hI
      obtain ⟨qs, hsq, hLW⟩ := hI
      obtain ⟨ks, hks⟩ : ∃ ks, keepR (rs.take 60) = ks := ⟨_, rfl⟩
      have HKS := Lib.hid hks
      rw [hks] at hsq hLW
      have HKO : Hid (∀ r ∈ ks, r.ok) := fun r hr => by rw [← HKS.out] at hr; exact (keepR_ok hr).2
      have HKL : Hid (ks.length ≤ 60) := by
        have h1 := keepR_len (rs.take 60)
        have h2 := List.length_take_le 60 rs
        rw [hks] at h1
        show _ ≤ _
        omega
      have hend := encs_end ks 1 HKO.out
      have hkl := HKL.out
      obtain ⟨f1, f2⟩ := gOf_flush (encs ks)
      have hfz := frames_size (encs ks) 1
      have HEN : Hid (Calls Tryz.prog 20 #[.pointer (some ⟨lb, 0, none⟩)] wc fun e w' => e = .returned (.int .u64 ((endFrom 1 (encs ks) : Nat) : Int)) ∧ LW w (LaidK (.slice va qn vc) qs) (LaidP w.heap.size (.slice va qn vc) qs) b lb ⟨#[]⟩ 0 (gOf (encs ks)) w') := hLW.gets0 (stable_laid _ _ _) (fun G h1 => lend_c h1)
      have HFL : ∀ W, LW w (LaidK (.slice va qn vc) qs) (LaidP w.heap.size (.slice va qn vc) qs) b lb ⟨#[]⟩ 0 (gOf (encs ks)) W → Hid (Calls Tryz.prog 24 #[.pointer (some ⟨lb, 0, none⟩), .int .u64 ((endFrom 1 (encs ks) : Nat) : Int)] W fun e w' => e = .returned (.int .i64 0) ∧ LW w (LaidK (.slice va qn vc) qs) (LaidP w.heap.size (.slice va qn vc) qs) b lb (frames 1 (encs ks)) 0 (gF (encs ks) 0) w') := fun W hW => by
        have := hW.flush (stable_laid _ _ _) ((endFrom 1 (encs ks) : Nat) : Int) (by show 0 + (frames 1 (encs ks)).size ≤ _; omega)
        rw [f1, f2] at this
        exact this
      obtain ⟨qa, qc, hqe⟩ := own_slice hLW.own.row
      cases hqe
      have HSQ := Lib.hid hsq
      have HQL : Hid (qs.length = ks.length) := by have := hsq.length; rw [placed_length] at this; exact this
      clear hks hend hkl f1 f2 hfz hLW hsq HI hbb
      go_wp2_with (fail)
      refine HEN.out.mono ?_
      rintro e w3 ⟨rfl, hL3⟩
      have HF := HFL _ hL3
      clear hL3 HEN HFL
      go_wp2_with (fail)
      refine HF.out.mono ?_
      rintro e w4 ⟨rfl, hL4⟩
      have HL4 := Lib.hid hL4
      clear hL4 HF
      have hR4 : RdC 7 q19C w4 (.slice va qs.length vc) qs := RdC.of_own q19C_len HL4.out.own.row
      have HEND : Hid (∃ i0, 0 = 0 ∧ LaidPost w rs m (.returned (.tuple #[.pointer (some ⟨lb, 0, none⟩), .slice va qs.length vc, .bool true])) w4 ∨ 0 ≤ m ∧ m < (qs.length : Int) ∧ i0 = 0) := by
        by_cases hx : 0 ≤ m ∧ m < (qs.length : Int)
        · exact ⟨0, .inr ⟨hx.1, hx.2, rfl⟩⟩
        · refine ⟨0, .inl ⟨rfl, ⟨b, lb, _, qs, 0, 0, rfl, ?_, hR4, HL4.out.own.ok, ?_, Nat.zero_le _, ?_, fun _ => ⟨rfl, rfl⟩⟩⟩⟩
          · rw [HKS.out]
            exact HL4.out.free
          · rw [HKS.out]
            exact HSQ.out
          · rfl
      by_cases hm0 : 0 ≤ m
      · by_cases hml : m < (qs.length : Int)
        · clear HEND
          obtain ⟨mn, rfl⟩ : ∃ mn : Nat, m = (mn : Int) := ⟨m.toNat, by omega⟩
          have hmq : mn < qs.length := by omega
          obtain ⟨q, hq⟩ : ∃ q, qs[mn]? = some q := ⟨_, List.getElem?_eq_getElem hmq⟩
          have hmk : mn < (encs ks).length := by unfold encs; rw [List.length_map, ← HQL.out]; exact hmq
          have hat : q.at_ = pl (encs ks) mn := by
            have h1 := placed_at ks 1 mn (by rw [← HQL.out]; exact hmq)
            have h2 : (placed 1 ks)[mn]? = some (q.at_, q.r) := by
              rw [← HSQ.out, List.getElem?_map, hq]
              rfl
            rw [h2] at h1
            exact Option.some.inj h1
          obtain ⟨gb, off, rfl, hqq, g1, g2, hgl, hc⟩ := hR4.at_ hq
          have hlt := pl_lt hmk (Nat.le_refl _)
          rw [show pl (encs ks) (encs ks).length = endFrom 1 (encs ks) by unfold pl; rw [List.take_length]] at hlt
          have hend := encs_end ks 1 HKO.out
          have hkl := HKL.out
          have c0 : w4.cell? ⟨gb, off + mn * 7, none⟩ = some (.int .u64 (q.at_ : Int)) := hc 0 _ rfl
          have HSM := Lib.hid (HL4.out.master19 (stable_laid _ _ _) q.at_ (by omega) (by rw [hat]; exact gF_has hmk) (by rw [gF_flushed]; omega))
          have HAT := Lib.hid hat
          have HQ := Lib.hid hq
          have HMQ := Lib.hid hmq
          clear hR4 hc hqq hgl hlt hend hkl hat hq HL4 hmk
          go_wp2_with (fail)
          refine HSM.out.mono ?_
          rintro e w5 ⟨rfl, hL5⟩
          have HL5 := Lib.hid hL5
          clear hL5 HSM c0
          go_wp2_with (fail)
          have HFIN : Hid (LaidPost w rs (mn : Int) (.returned (.tuple #[.pointer (some ⟨lb, 0, none⟩), .slice (some ⟨gb, off + mn * 7, none⟩) (qs.length - mn) (vc - mn), .bool true])) w5) := by
            have hmk2 : mn < (encs ks).length := by unfold encs; rw [List.length_map, ← HQL.out]; exact HMQ.out
            refine ⟨b, lb, _, qs.drop mn, q.at_, mn, rfl, ?_, RdC.dropN (RdC.of_own q19C_len HL5.out.own.row) mn HMQ.out, fun x hx => HL5.out.own.ok x (List.mem_of_mem_drop hx), ?_, ?_, ?_, fun h => by omega⟩
            · rw [HKS.out]
              exact HL5.out.free
            · rw [HKS.out]
              exact HSQ.out.drop mn
            · rw [HKS.out, ← HQL.out]
              exact Nat.le_of_lt HMQ.out
            · rw [HKS.out, HAT.out]
              have h1 := pl_le (Nat.zero_le mn) (Nat.le_of_lt hmk2)
              rw [pl_zero] at h1
              exact Nat.max_eq_left h1
          rw [← HPOST.out]
          exact HFIN.out
        · have HE : Hid (LaidPost w rs m (.returned (.tuple #[.pointer (some ⟨lb, 0, none⟩), .slice va qs.length vc, .bool true])) w4) := by
            obtain ⟨_, h | h⟩ := HEND.out
            · exact h.2
            · exact absurd h.2.1 hml
          clear HEND
          go_wp2_with (fail)
          rw [← HPOST.out]
          exact HE.out
      · have HE : Hid (LaidPost w rs m (.returned (.tuple #[.pointer (some ⟨lb, 0, none⟩), .slice va qs.length vc, .bool true])) w4) := by
          obtain ⟨_, h | h⟩ := HEND.out
          · exact h.2
          · exact absurd h.1 hm0
        clear HEND
        go_wp2_with (fail)
        rw [← HPOST.out]
        exact HE.out
end
end Go.Proofs.YtpnndlahfllbhaaGreat
