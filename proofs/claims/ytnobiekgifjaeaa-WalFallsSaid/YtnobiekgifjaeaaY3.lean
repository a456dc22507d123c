/-
  The walk of 'WalBack'.
-/
import Derived.Test.YtnobiekgifjaeaaV1
import Derived.Test.YtnobiekgifjaeaaY2
namespace Go.Proofs.Ytnobiekgifjaeaa
open Go.RowKit
attribute [local go_sem ↓] Go.wp_at_zero Go.wp_at_succ

def okRec (s : ByteArray) : Bool := decide (1 ≤ s.size ∧ s.size ≤ 8192)
theorem okRec_iff (s : ByteArray) : okRec s = true ↔ 1 ≤ s.size ∧ s.size ≤ 8192 := decide_eq_true_iff
theorem filter_next (l : List ByteArray) {k : Nat} {s : ByteArray} (h : l[k]? = some s) : (l.take (k + 1)).filter okRec = (l.take k).filter okRec ++ (if okRec s then [s] else []) := by
  rw [List.take_add_one, h, List.filter_append]
  cases hb : okRec s <;> simp [hb]
theorem filter_ok (l : List ByteArray) (k : Nat) : ∀ s ∈ (l.take k).filter okRec, 1 ≤ s.size ∧ s.size ≤ 8192 := fun s hs => (okRec_iff s).1 (List.mem_filter.1 hs).2
theorem filter_length (l : List ByteArray) (k : Nat) : ((l.take k).filter okRec).length ≤ k := Nat.le_trans (List.length_filter_le _ _) (by rw [List.length_take]; omega)

def backG (l : List ByteArray) : Lg := { recs := l, sure := 0, kept := 0, tail := frames 1 l, marks := 0 }
theorem backG_open : openG [] 0 = backG [] := rfl
theorem backG_tight (l : List ByteArray) : (backG l).tight := by
  have := frames_size l 1
  show (frames 1 l).size + 1 ≤ endFrom 1 l
  omega
theorem backG_add (l : List ByteArray) (s : ByteArray) : (backG l).add s = backG (l ++ [s]) := by
  show (⟨l ++ [s], 0, 0, frames 1 l ++ frameB (endFrom 1 l) s, 0⟩ : Lg) = ⟨l ++ [s], 0, 0, frames 1 (l ++ [s]), 0⟩
  rw [frames_snoc]
theorem backG_end (l : List ByteArray) : (backG l).end_ = endFrom 1 l := rfl
theorem back_try {l : List ByteArray} {s : ByteArray} (hl : ∀ x ∈ l, x.size ≤ 8192) (hn : l.length ≤ 60) (hs : 1 ≤ s.size ∧ s.size ≤ 8192) :
    (backG l).tryAdd s (backG l).kept = backG (l ++ [s]) ∧ addV (backG l) s (backG l).kept = .tuple #[.int .u64 (endFrom 1 l : Int), .int .i64 0] := by
  have h1 := endFrom_max l 1 hl
  have hb : ¬ badRec s := by unfold badRec; omega
  have hf : ¬ addFull (backG l) s (backG l).kept := by
    unfold addFull
    rw [backG_end]
    show ¬ _ < _ + _ + (0 : Int)
    omega
  unfold Lg.tryAdd addV
  rw [if_neg hb, if_neg hf, if_neg hb, if_neg hf]
  exact ⟨backG_add l s, rfl⟩

/-- the law's own rows -/
def rowsK (pv uv : Value) : Nat → Prop := fun r => pv.ownBlock = some r ∨ uv.ownBlock = some r
def rowsP (pv uv : Value) (l : List ByteArray) : World → Prop := fun W => W.ownsRow 0 67 1 pv l.length ((places 1 l).map lsn) ∧ W.ownsRow 0 9 1 uv l.length (l.map Value.string)
theorem rows_stable (pv uv : Value) (l : List ByteArray) : Stable (rowsK pv uv) (rowsP pv uv l) := fun _ _ h hk => ⟨own_same h.1 (fun k hg => hk k (.inl hg)), own_same h.2 (fun k hg => hk k (.inr hg))⟩

theorem rows_start (w3 : World) : rowsP (.slice (some ⟨w3.heap.size, 0, none⟩) 0 0) (.slice (some ⟨w3.heap.size + 1, 0, none⟩) 0 0) [] ((w3.alloc (.cells #[] 67)).alloc (.cells #[] 9)) := by
  have h1 := World.ownsRow_lit (base := 0) (e := 67) (size := 1) w3 #[] 0 (Nat.zero_le _) (Nat.zero_le _) rfl
  have h2 := World.ownsRow_lit (base := 0) (e := 9) (size := 1) (w3.alloc (.cells #[] 67)) #[] 0 (Nat.zero_le _) (Nat.zero_le _) rfl
  have e : (w3.alloc (.cells #[] 67)).heap.size = w3.heap.size + 1 := by simp
  rw [e] at h2
  exact ⟨own_same h1 (fun k hk => Below.heap_alloc _ _ k (h1.lt k hk).2), h2⟩
theorem rows_start_K (w3 : World) : ∀ r, rowsK (.slice (some ⟨w3.heap.size, 0, none⟩) 0 0) (.slice (some ⟨w3.heap.size + 1, 0, none⟩) 0 0) r → ((False : Prop) ∨ w3.heap.size ≤ r) ∧ r < ((w3.alloc (.cells #[] 67)).alloc (.cells #[] 9)).heap.size := fun r hr => by
  have : r = w3.heap.size ∨ r = w3.heap.size + 1 := by
    rcases hr with hr | hr
    · left; simpa [Value.ownBlock, eq_comm] using hr
    · right; simpa [Value.ownBlock, eq_comm] using hr
  refine ⟨.inr (by omega), ?_⟩
  simp
  omega
theorem IsStrs.get {w : World} {a : Option Addr} {len cap : Nat} {ss : List ByteArray} (h : IsStrs w a len cap ss) {k : Nat} (hk : k < len) : ss[k]? = some (ss.getD k ByteArray.empty) := by
  rcases h with ⟨_, rfl, _⟩ | ⟨_, _, h1, _, h2, _⟩
  · omega
  · have : k < ss.length := by omega
    simp [List.getD, List.getElem?_eq_getElem this]

theorem row_cell {w : World} {e : TypeId} {v : Value} {n : Nat} {xs : List Value} (h : w.ownsRow 0 e 1 v n xs) {i : Nat} {u : Value} (hi : xs[i]? = some u) :
    ∃ b cap, v = .slice (some ⟨b, 0, none⟩) n cap ∧ n ≤ cap ∧ cap ≤ maxLen ∧ i < n ∧ w.cell? ⟨b, i, none⟩ = some u := by
  have hk : i < xs.length := (List.getElem?_eq_some_iff.1 hi).1
  have hx := h.1
  rw [Nat.mul_one] at hx
  rcases h.2 with ⟨_, h0⟩ | ⟨b, cap, cur, e', _, hh, h1, h2, _⟩
  · omega
  · have := h.cells (g := b) (by rw [e']; rfl) i u hi
    rw [addr_add] at this
    exact ⟨b, cap, e', h1, h2, by omega, this⟩

def BackRel (w : World) (b lb : Nat) (l : List ByteArray) (pv uv : Value) (wr : World) : Prop := LW w (rowsK pv uv) (rowsP pv uv l) b lb ⟨#[]⟩ 0 (backG l) wr

set_option maxRecDepth 100000 in
set_option maxHeartbeats 4000000 in
theorem walBack_w (a : Option Addr) (len cap : Nat) (ss : List ByteArray) (w : World) (h : IsStrs w a len cap ss) :
    Calls Try.prog 8 #[.slice a len cap] w fun e w' => e = .returned (.bool true) ∧ Below w.heap.size w w' := by
  have HN := new_c w 8 (by omega) (by omega)
  generalize hb : w.heap.size + 1 = b at *
  have HO1 : ∀ W, DW w (fun _ => False) (fun _ => True) b ⟨#[]⟩ 0 W → Hid (Calls Try.prog 38 #[.pointer (some ⟨b, 0, none⟩)] W fun e w' => ∃ lb, e = .returned (.tuple #[.pointer (some ⟨lb, 0, none⟩), .int .i64 0, .int .i64 0]) ∧ LW w (fun _ => False) (fun _ => True) b lb ⟨#[]⟩ 0 (backG []) w') := fun W h =>
    h.open_ stable_none (by omega) [] ⟨#[]⟩ (bytes_nil _).symm (by simp) (takenOk_short (by decide) _)
  have HW : ∀ W, Hid (Calls Try.prog 36 #[] W fun e w' => e = .returned (.bool true) ∧ Below W.heap.size W w') := fun W => awake5_c W
  have hlen := h.len
  have HH := Lib.hid h
  clear hb h
  go_enter Try.func8, Try.ntmps8
  go_wp2_with (fail)
  refine HN.mono ?_; rintro e w1 ⟨rfl, l1⟩
  have L1 := HO1 _ (DW.of_live l1)
  clear l1
  go_wp2_with (fail)
  refine L1.out.mono ?_; rintro e w2 ⟨lb, rfl, l2⟩
  have L2 := Lib.hid l2
  clear l2
  go_wp2_with (fail)
  refine (HW _).out.mono ?_; rintro e w3 ⟨rfl, l3⟩
  have L3 : Hid (LW w (fun _ => False) (fun _ => True) b lb ⟨#[]⟩ 0 (backG []) w3) := L2.out.below stable_none l3
  clear l3
  go_wp2_with (fail)
  have HS : Hid (BackRel w b lb [] (.slice (some ⟨w3.heap.size, 0, none⟩) 0 0) (.slice (some ⟨w3.heap.size + 1, 0, none⟩) 0 0) ((w3.alloc (.cells #[] 67)).alloc (.cells #[] 9))) :=
    L3.out.turn (((Step.refl _ _).alloc _).alloc _) (rows_start_K w3) (rows_start w3)
  obtain ⟨is, his, hsz0, hsz1, hsz2⟩ := info_parts infoString
  obtain ⟨ia, hia, haz0, haz1, haz2⟩ := info_parts infoLSN
  clear L1 L2 L3 HN HO1 HW
  go_loopw [8, 9, 10] (fun s8 s9 s10 wr => ∃ (k : Nat) (pv uv : Value), k ≤ len ∧ k ≤ 60 ∧ pv = s8 ∧ uv = s9 ∧ s10 = .int .i64 k ∧ Hid (BackRel w b lb ((ss.take k).filter okRec) pv uv wr)) (fun _ _ i _ => 60 - (intOf i).toNat)
  case atStart => exact ⟨0, _, _, Nat.zero_le _, Nat.zero_le _, rfl, rfl, rfl, HS.out⟩
  case round =>
    obtain ⟨k, pv, uv, hk1, hk2, rfl, rfl, rfl, hR⟩ := hrel
    by_cases hgo : k < len ∧ k < 60
    · obtain ⟨hg1, hg2⟩ := hgo
      have hx := HH.out.get hg1
      obtain ⟨ab, off, s, rfl, hs, hsz, hc⟩ := HH.out.at_ hR.out.base hg1
      rw [← hs] at hx
      have HE := Lib.hid (filter_next ss hx)
      have HX := Lib.hid hx
      have hcl : len ≤ cap ∧ cap ≤ maxLen := by
        rcases HH.out with ⟨h, _⟩ | ⟨_, _, h1, h2, _⟩
        · cases h
        · exact ⟨h1, h2⟩
      obtain ⟨hcl1, hcl2⟩ := hcl
      clear hs hx hsz
      by_cases hv : okRec s = true
      · rw [if_pos hv] at HE
        have hv' := (okRec_iff s).1 hv
        have HL : Hid ((∀ x ∈ (ss.take k).filter okRec, x.size ≤ 8192) ∧ ((ss.take k).filter okRec).length ≤ 60) := ⟨fun x hx => (filter_ok ss k x hx).2, Nat.le_trans (filter_length ss k) hk2⟩
        generalize (ss.take k).filter okRec = recs at *
        obtain ⟨e1, e2⟩ := back_try HL.out.1 HL.out.2 hv'
        have HA := Lib.hid ((show LW w (rowsK pv uv) (rowsP pv uv recs) b lb ⟨#[]⟩ 0 (backG recs) wr from hR.out).logs (rows_stable pv uv recs) (fun G h1 => lappend_c h1 (backG_tight recs) s (by omega)))
        rw [e1, e2] at HA
        obtain ⟨pa, pc, rfl⟩ := own_form (show rowsP pv uv recs wr from hR.out.own).1
        obtain ⟨ua, uc, rfl⟩ := own_form (show rowsP _ uv recs wr from hR.out.own).2
        clear hR e1 e2 hv
        go_wp2_with (fail)
        refine HA.out.mono ?_
        rintro e w4 ⟨rfl, h4⟩
        obtain ⟨ab', off', s', ha', hs', -, hc4⟩ := HH.out.at_ h4.base hg1
        have hab : ab < w.heap.size := by
          have := HH.out.at_ (Below.refl _ _) hg1
          obtain ⟨ab'', off'', s'', ha'', -, -, hc''⟩ := this
          cases ha''
          exact World.block_lt_of_cell? w _ hc''
        cases ha'
        obtain rfl : s' = s := by
          have := HX.out
          rw [HH.out.get hg1, ← hs'] at this
          exact Option.some.inj this
        have HC0 : Hid (OneC ⟨ab, off + k, none⟩ (.string s') w4) := hc4
        have HP : Hid (rowsP (.slice pa recs.length pc) (.slice ua recs.length uc) recs w4) := h4.own
        have PNE : Hid (∀ r, (Value.slice pa recs.length pc).ownBlock = some r → r ≠ ab ∧ r < w4.heap.size) := fun r hr => by have := h4.ranges r (.inl hr); omega
        have UNE : Hid (∀ r, (Value.slice ua recs.length uc).ownBlock = some r → r ≠ ab ∧ r < w4.heap.size) := fun r hr => by have := h4.ranges r (.inr hr); omega
        have UNP : Hid (∀ r, (Value.slice ua recs.length uc).ownBlock = some r → (Value.slice pa recs.length pc).ownBlock ≠ some r) := fun r hr => own_own_ne HP.out.2 HP.out.1 (by decide) hr
        have hrl := HL.out.2
        have N1 : Hid (recs.length + 1 ≤ maxLen) := by show _ ≤ maxLen; simp only [maxLen]; omega
        have N2 : Hid ((recs.length + 1) * 16 ≤ 140737488355328) := by show _ ≤ 140737488355328; omega
        have N3 : Hid ((recs.length + 1) * 8 ≤ 140737488355328) := by show _ ≤ 140737488355328; omega
        have O1 : Hid (∀ u ∈ [Value.string s'], u.oneCell' = true) := fun u hu => by simp at hu; subst hu; rfl
        have O2 : Hid (∀ u ∈ [Value.int .u64 (endFrom 1 recs : Int)], u.oneCell' = true) := fun u hu => by simp at hu; subst hu; rfl
        have H4 := Lib.hid h4
        clear h4 hs' hc hc4 HA
        go_wp2_with (fail)
        refine wp_region_late (S := OneC ⟨ab, off + k, none⟩ (.string s')) (late := []) (by kernel_rfl) HC0.out.drew (fun hHeld => ?_)
        refine wpAnyL_move (i := 0) (v := ?_) (by rfl) (by kernel_rfl) (by kernel_rfl) (by kernel_rfl) (by rfl) (by exact fun _ _ _ h => h) (Or.inl ⟨by rfl, ?_⟩) (by assumption) ?_; rotate_left; · (intro w0; go_simp; try with_reducible rfl)
        try simp only [Act.put, List.setIfInBounds_toArray, List.set_cons_zero, List.set_cons_succ]
        refine wpAnyL_move (i := 1) (v := ?_) (by rfl) (by kernel_rfl) (by kernel_rfl) (by kernel_rfl) (by rfl) (by exact fun _ _ _ h => h) (Or.inl ⟨by rfl, ?_⟩) (by assumption) ?_; rotate_left; · (intro w0; go_simp; try with_reducible rfl)
        try simp only [Act.put, List.setIfInBounds_toArray, List.set_cons_zero, List.set_cons_succ]
        refine wpAnyL_move (i := 4) (v := ?_) (by rfl) (by kernel_rfl) (by kernel_rfl) (by kernel_rfl) (by rfl) (by exact fun _ _ _ h => h) (Or.inl ⟨by rfl, ?_⟩) (by assumption) ?_; rotate_left; · (intro w0; go_simp; try with_reducible rfl)
        try simp only [Act.put, List.setIfInBounds_toArray, List.set_cons_zero, List.set_cons_succ]
        refine wpAnyL_move (i := 5) (v := ?_) (by rfl) (by kernel_rfl) (by kernel_rfl) (by kernel_rfl) (by rfl) (by exact fun _ _ _ h => h) (Or.inl ⟨by rfl, ?_⟩) (by assumption) ?_; rotate_left; · (intro w0; go_simp; try with_reducible rfl)
        try simp only [Act.put, List.setIfInBounds_toArray, List.set_cons_zero, List.set_cons_succ]
        refine wpAnyL_move (i := 6) (v := ?_) (by rfl) (by kernel_rfl) (by kernel_rfl) (by kernel_rfl) (by rfl) (by exact fun _ _ _ h => h) (Or.inl ⟨by rfl, ?_⟩) (by assumption) ?_; rotate_left; · (intro w0; go_simp; try with_reducible rfl)
        try simp only [Act.put, List.setIfInBounds_toArray, List.set_cons_zero, List.set_cons_succ]
        refine wpAnyL_move (i := 7) (v := ?_) (by rfl) (by kernel_rfl) (by kernel_rfl) (by kernel_rfl) (by rfl) (by exact fun _ _ _ h => h) (Or.inl ⟨by rfl, ?_⟩) (by assumption) ?_; rotate_left; · (intro w0; go_simp; try with_reducible rfl)
        try simp only [Act.put, List.setIfInBounds_toArray, List.set_cons_zero, List.set_cons_succ]
        refine wpAnyL_load (i := 8) (v := ?_) (by rfl) (by kernel_rfl) (by kernel_rfl) (by kernel_rfl) (by rfl) (by kernel_rfl) (by exact fun _ _ _ h => h) (Or.inl ⟨by rfl, ?_⟩) (by assumption) ?_; rotate_left; · (intro w0 hS0; have hS1 : w0.cell? ⟨ab, off + k, none⟩ = some (.string s') := hS0; go_simp; try with_reducible rfl)
        try simp only [Act.put, List.setIfInBounds_toArray, List.set_cons_zero, List.set_cons_succ]
        refine wpAnyL_each (rs := [2, 9]) (by kernel_rfl) (by simp) ?_
        refine EachL.cons (by rfl) (by rfl) (fun K hK => ?_) ?_
        · go_simp
          refine hK.out _ _ (hHeld.alloc _) (fun hHeld => ?_)
          clear hK K
          try simp only [Act.put, List.setIfInBounds_toArray, List.set_cons_zero, List.set_cons_succ]
          refine wpAnyL_each (rs := [3, 9]) (by kernel_rfl) (by simp) ?_
          refine EachL.cons (by rfl) (by rfl) (fun K hK => ?_) ?_
          · refine step_append_lies _ (by rfl) _ _ _ (by rfl) 0 67 ia _ 1 8 Try.underlying73 hia haz0 haz1 haz2 rfl (by omega) (.slice pa recs.length pc) recs.length ((places 1 recs).map lsn) (by rfl) (own_far (X := none) HP.out.1 ((Far.refl _ _).drew.alloc _) (fun _ _ => by simp)) _ 1 1 [Value.int .u64 (endFrom 1 recs : Int)] (by rfl) (by rfl) (World.news_of_block (cs := #[Value.int .u64 (endFrom 1 recs : Int)]) (t := 67) (fr := (0, 0)) (show Got _ _ _ from (Got.new _ _ (by simp)))) O2.out (by omega) N1.out N3.out (Nat.zero_le _) _ rfl ?_; intro pxg pxc pxw px_own px_grow px_at px_lt
            refine hK.out _ _ (hHeld.grown px_grow (fun e => (PNE.out _ e.symm).1 rfl)) (fun hHeld => ?_)
            clear hK K
            try simp only [Act.put, List.setIfInBounds_toArray, List.set_cons_zero, List.set_cons_succ]
            refine wpAnyL_each (rs := [9]) (by kernel_rfl) (by simp) ?_
            refine EachL.cons (by rfl) (by rfl) (fun K hK => ?_) ?_
            · go_simp
              refine hK.out _ _ (hHeld.alloc _) (fun hHeld => ?_)
              clear hK K
              try simp only [Act.put, List.setIfInBounds_toArray, List.set_cons_zero, List.set_cons_succ]
              refine wpAnyL_each (rs := [10]) (by kernel_rfl) (by simp) ?_
              refine EachL.cons (by rfl) (by rfl) (fun K hK => ?_) ?_
              · refine step_append_lies _ (by rfl) _ _ _ (by rfl) 0 9 is _ 1 16 Try.underlying51 his hsz0 hsz1 hsz2 rfl (by omega) (.slice ua recs.length uc) recs.length (recs.map Value.string) (by rfl) (own_far (X := (Value.slice pa recs.length pc).ownBlock) HP.out.2 ((((Far.refl _ _).drew.alloc _).grown px_grow).alloc _) (fun r hr => UNP.out r hr)) _ 1 1 [Value.string s'] (by rfl) (by rfl) (World.news_of_block (cs := #[Value.string s']) (t := 9) (fr := (0, 0)) (show Got _ _ _ from (Got.new _ _ (by simp)))) O1.out (by omega) N1.out N2.out (Nat.zero_le _) _ rfl ?_; intro qxg qxc qxw qx_own qx_grow qx_at qx_lt
                refine hK.out _ _ (hHeld.grown qx_grow (fun e => (UNE.out _ e.symm).1 rfl)) (fun hHeld => ?_)
                clear hK K
                try simp only [Act.put, List.setIfInBounds_toArray, List.set_cons_zero, List.set_cons_succ]
                refine wpAnyL_move (i := 11) (v := ?_) (by rfl) (by kernel_rfl) (by kernel_rfl) (by kernel_rfl) (by rfl) (by exact fun _ _ _ h => h) (Or.inl ⟨by rfl, ?_⟩) (by assumption) ?_; rotate_left; · (intro w0; go_simp; try with_reducible rfl)
                try simp only [Act.put, List.setIfInBounds_toArray, List.set_cons_zero, List.set_cons_succ]
                refine wpAnyL_move (i := 12) (v := ?_) (by rfl) (by kernel_rfl) (by kernel_rfl) (by kernel_rfl) (by rfl) (by exact fun _ _ _ h => h) (Or.inl ⟨by rfl, ?_⟩) (by assumption) ?_; rotate_left; · (intro w0; go_simp; try with_reducible rfl)
                try simp only [Act.put, List.setIfInBounds_toArray, List.set_cons_zero, List.set_cons_succ]
                refine wpAnyL_done (by kernel_rfl) ?_ _
                obtain ⟨r1, r2⟩ := two_rows HP.out.1 HP.out.2 (by decide) (show Far none w4 _ from ((Far.refl none w4).drew.alloc _)) px_own px_grow px_at px_lt (show Far none pxw _ from ((Far.refl none pxw).alloc _)) qx_own qx_grow qx_at qx_lt
                have ST : Hid (Step (rowsK (.slice pa recs.length pc) (.slice ua recs.length uc)) w4 qxw) := ((((((Step.refl _ w4).drewN 1).alloc _).grown px_grow (fun k hk => .inl (.inl hk))).alloc _).grown qx_grow (fun k hk => .inl (.inr hk)))
                have R1 : Hid (BackRel w b lb (recs ++ [s']) (.slice (some ⟨pxg, 0, none⟩) (recs.length + 1) pxc) (.slice (some ⟨qxg, 0, none⟩) (recs.length + 1) qxc) qxw) := by
                  have e1 : (recs ++ [s']).length = recs.length + 1 := by simp
                  refine (show LW w _ _ b lb _ 0 (backG (recs ++ [s'])) w4 from H4.out).turn ST.out (fun r hr => r2 r ?_) ⟨?_, ?_⟩
                  · rcases hr with hr | hr
                    · left; simpa [Value.ownBlock, eq_comm] using hr
                    · right; simpa [Value.ownBlock, eq_comm] using hr
                  · rw [e1, places_snoc]
                    simpa [lsn] using r1
                  · rw [e1]
                    simpa using qx_own
                clear r1 r2 px_own px_grow px_at px_lt qx_own qx_grow qx_at qx_lt ST hHeld
                rw [← HE.out] at R1
                go_wp2
                go_roundw
                case rel => exact ⟨k + 1, _, _, by omega, by omega, rfl, rfl, by go_num, R1.out⟩
                case measure => simp [intOf]; omega
              exact EachL.nil
            exact EachL.nil
          refine EachL.cons (by rfl) (by rfl) (fun K hK => ?_) ?_
          · go_simp
            refine hK.out _ _ (hHeld.alloc _) (fun hHeld => ?_)
            clear hK K
            try simp only [Act.put, List.setIfInBounds_toArray, List.set_cons_zero, List.set_cons_succ]
            refine wpAnyL_each (rs := [3]) (by kernel_rfl) (by simp) ?_
            refine EachL.cons (by rfl) (by rfl) (fun K hK => ?_) ?_
            · refine step_append_lies _ (by rfl) _ _ _ (by rfl) 0 67 ia _ 1 8 Try.underlying73 hia haz0 haz1 haz2 rfl (by omega) (.slice pa recs.length pc) recs.length ((places 1 recs).map lsn) (by rfl) (own_far (X := none) HP.out.1 (((Far.refl _ _).drew.alloc _).alloc _) (fun _ _ => by simp)) _ 1 1 [Value.int .u64 (endFrom 1 recs : Int)] (by rfl) (by rfl) (World.news_of_block (cs := #[Value.int .u64 (endFrom 1 recs : Int)]) (t := 67) (fr := (0, 0)) (show Got _ _ _ from ((Got.new _ _ (by simp)).alloc _))) O2.out (by omega) N1.out N3.out (Nat.zero_le _) _ rfl ?_; intro pxg pxc pxw px_own px_grow px_at px_lt
              refine hK.out _ _ (hHeld.grown px_grow (fun e => (PNE.out _ e.symm).1 rfl)) (fun hHeld => ?_)
              clear hK K
              try simp only [Act.put, List.setIfInBounds_toArray, List.set_cons_zero, List.set_cons_succ]
              refine wpAnyL_each (rs := [10]) (by kernel_rfl) (by simp) ?_
              refine EachL.cons (by rfl) (by rfl) (fun K hK => ?_) ?_
              · refine step_append_lies _ (by rfl) _ _ _ (by rfl) 0 9 is _ 1 16 Try.underlying51 his hsz0 hsz1 hsz2 rfl (by omega) (.slice ua recs.length uc) recs.length (recs.map Value.string) (by rfl) (own_far (X := (Value.slice pa recs.length pc).ownBlock) HP.out.2 ((((Far.refl _ _).drew.alloc _).alloc _).grown px_grow) (fun r hr => UNP.out r hr)) _ 1 1 [Value.string s'] (by rfl) (by rfl) (World.news_of_block (cs := #[Value.string s']) (t := 9) (fr := (0, 0)) (show Got _ _ _ from ((Got.new _ _ (by simp)).drew.grown px_grow (fun e => by have := (PNE.out _ e.symm).2; first | omega | (simp at this; done) | (simp at this; omega))))) O1.out (by omega) N1.out N2.out (Nat.zero_le _) _ rfl ?_; intro qxg qxc qxw qx_own qx_grow qx_at qx_lt
                refine hK.out _ _ (hHeld.grown qx_grow (fun e => (UNE.out _ e.symm).1 rfl)) (fun hHeld => ?_)
                clear hK K
                try simp only [Act.put, List.setIfInBounds_toArray, List.set_cons_zero, List.set_cons_succ]
                refine wpAnyL_move (i := 11) (v := ?_) (by rfl) (by kernel_rfl) (by kernel_rfl) (by kernel_rfl) (by rfl) (by exact fun _ _ _ h => h) (Or.inl ⟨by rfl, ?_⟩) (by assumption) ?_; rotate_left; · (intro w0; go_simp; try with_reducible rfl)
                try simp only [Act.put, List.setIfInBounds_toArray, List.set_cons_zero, List.set_cons_succ]
                refine wpAnyL_move (i := 12) (v := ?_) (by rfl) (by kernel_rfl) (by kernel_rfl) (by kernel_rfl) (by rfl) (by exact fun _ _ _ h => h) (Or.inl ⟨by rfl, ?_⟩) (by assumption) ?_; rotate_left; · (intro w0; go_simp; try with_reducible rfl)
                try simp only [Act.put, List.setIfInBounds_toArray, List.set_cons_zero, List.set_cons_succ]
                refine wpAnyL_done (by kernel_rfl) ?_ _
                obtain ⟨r1, r2⟩ := two_rows HP.out.1 HP.out.2 (by decide) (show Far none w4 _ from (((Far.refl none w4).drew.alloc _).alloc _)) px_own px_grow px_at px_lt (show Far none pxw _ from (Far.refl none pxw)) qx_own qx_grow qx_at qx_lt
                have ST : Hid (Step (rowsK (.slice pa recs.length pc) (.slice ua recs.length uc)) w4 qxw) := ((((((Step.refl _ w4).drewN 1).alloc _).alloc _).grown px_grow (fun k hk => .inl (.inl hk))).grown qx_grow (fun k hk => .inl (.inr hk)))
                have R1 : Hid (BackRel w b lb (recs ++ [s']) (.slice (some ⟨pxg, 0, none⟩) (recs.length + 1) pxc) (.slice (some ⟨qxg, 0, none⟩) (recs.length + 1) qxc) qxw) := by
                  have e1 : (recs ++ [s']).length = recs.length + 1 := by simp
                  refine (show LW w _ _ b lb _ 0 (backG (recs ++ [s'])) w4 from H4.out).turn ST.out (fun r hr => r2 r ?_) ⟨?_, ?_⟩
                  · rcases hr with hr | hr
                    · left; simpa [Value.ownBlock, eq_comm] using hr
                    · right; simpa [Value.ownBlock, eq_comm] using hr
                  · rw [e1, places_snoc]
                    simpa [lsn] using r1
                  · rw [e1]
                    simpa using qx_own
                clear r1 r2 px_own px_grow px_at px_lt qx_own qx_grow qx_at qx_lt ST hHeld
                rw [← HE.out] at R1
                go_wp2
                go_roundw
                case rel => exact ⟨k + 1, _, _, by omega, by omega, rfl, rfl, by go_num, R1.out⟩
                case measure => simp [intOf]; omega
              exact EachL.nil
            exact EachL.nil
          exact EachL.nil
        refine EachL.cons (by rfl) (by rfl) (fun K hK => ?_) ?_
        · go_simp
          refine hK.out _ _ (hHeld.alloc _) (fun hHeld => ?_)
          clear hK K
          try simp only [Act.put, List.setIfInBounds_toArray, List.set_cons_zero, List.set_cons_succ]
          refine wpAnyL_each (rs := [2]) (by kernel_rfl) (by simp) ?_
          refine EachL.cons (by rfl) (by rfl) (fun K hK => ?_) ?_
          · go_simp
            refine hK.out _ _ (hHeld.alloc _) (fun hHeld => ?_)
            clear hK K
            try simp only [Act.put, List.setIfInBounds_toArray, List.set_cons_zero, List.set_cons_succ]
            refine wpAnyL_each (rs := [3]) (by kernel_rfl) (by simp) ?_
            refine EachL.cons (by rfl) (by rfl) (fun K hK => ?_) ?_
            · refine step_append_lies _ (by rfl) _ _ _ (by rfl) 0 67 ia _ 1 8 Try.underlying73 hia haz0 haz1 haz2 rfl (by omega) (.slice pa recs.length pc) recs.length ((places 1 recs).map lsn) (by rfl) (own_far (X := none) HP.out.1 (((Far.refl _ _).drew.alloc _).alloc _) (fun _ _ => by simp)) _ 1 1 [Value.int .u64 (endFrom 1 recs : Int)] (by rfl) (by rfl) (World.news_of_block (cs := #[Value.int .u64 (endFrom 1 recs : Int)]) (t := 67) (fr := (0, 0)) (show Got _ _ _ from (Got.new _ _ (by simp)))) O2.out (by omega) N1.out N3.out (Nat.zero_le _) _ rfl ?_; intro pxg pxc pxw px_own px_grow px_at px_lt
              refine hK.out _ _ (hHeld.grown px_grow (fun e => (PNE.out _ e.symm).1 rfl)) (fun hHeld => ?_)
              clear hK K
              try simp only [Act.put, List.setIfInBounds_toArray, List.set_cons_zero, List.set_cons_succ]
              refine wpAnyL_each (rs := [10]) (by kernel_rfl) (by simp) ?_
              refine EachL.cons (by rfl) (by rfl) (fun K hK => ?_) ?_
              · refine step_append_lies _ (by rfl) _ _ _ (by rfl) 0 9 is _ 1 16 Try.underlying51 his hsz0 hsz1 hsz2 rfl (by omega) (.slice ua recs.length uc) recs.length (recs.map Value.string) (by rfl) (own_far (X := (Value.slice pa recs.length pc).ownBlock) HP.out.2 ((((Far.refl _ _).drew.alloc _).alloc _).grown px_grow) (fun r hr => UNP.out r hr)) _ 1 1 [Value.string s'] (by rfl) (by rfl) (World.news_of_block (cs := #[Value.string s']) (t := 9) (fr := (0, 0)) (show Got _ _ _ from (((Got.new _ _ (by simp)).alloc _).drew.grown px_grow (fun e => by have := (PNE.out _ e.symm).2; first | omega | (simp at this; done) | (simp at this; omega))))) O1.out (by omega) N1.out N2.out (Nat.zero_le _) _ rfl ?_; intro qxg qxc qxw qx_own qx_grow qx_at qx_lt
                refine hK.out _ _ (hHeld.grown qx_grow (fun e => (UNE.out _ e.symm).1 rfl)) (fun hHeld => ?_)
                clear hK K
                try simp only [Act.put, List.setIfInBounds_toArray, List.set_cons_zero, List.set_cons_succ]
                refine wpAnyL_move (i := 11) (v := ?_) (by rfl) (by kernel_rfl) (by kernel_rfl) (by kernel_rfl) (by rfl) (by exact fun _ _ _ h => h) (Or.inl ⟨by rfl, ?_⟩) (by assumption) ?_; rotate_left; · (intro w0; go_simp; try with_reducible rfl)
                try simp only [Act.put, List.setIfInBounds_toArray, List.set_cons_zero, List.set_cons_succ]
                refine wpAnyL_move (i := 12) (v := ?_) (by rfl) (by kernel_rfl) (by kernel_rfl) (by kernel_rfl) (by rfl) (by exact fun _ _ _ h => h) (Or.inl ⟨by rfl, ?_⟩) (by assumption) ?_; rotate_left; · (intro w0; go_simp; try with_reducible rfl)
                try simp only [Act.put, List.setIfInBounds_toArray, List.set_cons_zero, List.set_cons_succ]
                refine wpAnyL_done (by kernel_rfl) ?_ _
                obtain ⟨r1, r2⟩ := two_rows HP.out.1 HP.out.2 (by decide) (show Far none w4 _ from (((Far.refl none w4).drew.alloc _).alloc _)) px_own px_grow px_at px_lt (show Far none pxw _ from (Far.refl none pxw)) qx_own qx_grow qx_at qx_lt
                have ST : Hid (Step (rowsK (.slice pa recs.length pc) (.slice ua recs.length uc)) w4 qxw) := ((((((Step.refl _ w4).drewN 1).alloc _).alloc _).grown px_grow (fun k hk => .inl (.inl hk))).grown qx_grow (fun k hk => .inl (.inr hk)))
                have R1 : Hid (BackRel w b lb (recs ++ [s']) (.slice (some ⟨pxg, 0, none⟩) (recs.length + 1) pxc) (.slice (some ⟨qxg, 0, none⟩) (recs.length + 1) qxc) qxw) := by
                  have e1 : (recs ++ [s']).length = recs.length + 1 := by simp
                  refine (show LW w _ _ b lb _ 0 (backG (recs ++ [s'])) w4 from H4.out).turn ST.out (fun r hr => r2 r ?_) ⟨?_, ?_⟩
                  · rcases hr with hr | hr
                    · left; simpa [Value.ownBlock, eq_comm] using hr
                    · right; simpa [Value.ownBlock, eq_comm] using hr
                  · rw [e1, places_snoc]
                    simpa [lsn] using r1
                  · rw [e1]
                    simpa using qx_own
                clear r1 r2 px_own px_grow px_at px_lt qx_own qx_grow qx_at qx_lt ST hHeld
                rw [← HE.out] at R1
                go_wp2
                go_roundw
                case rel => exact ⟨k + 1, _, _, by omega, by omega, rfl, rfl, by go_num, R1.out⟩
                case measure => simp [intOf]; omega
              exact EachL.nil
            exact EachL.nil
          exact EachL.nil
        exact EachL.nil
      · rw [if_neg hv, List.append_nil] at HE
        rw [← HE.out] at hR
        have hv' : s.size < 1 ∨ (¬ s.size < 1 ∧ 8192 < s.size) := by
          have : ¬ (1 ≤ s.size ∧ s.size ≤ 8192) := fun h => hv ((okRec_iff s).2 h)
          omega
        clear hv
        rcases hv' with hv' | ⟨hv1, hv2⟩
        · go_wp2
          go_roundw
          case rel => exact ⟨k + 1, _, _, by omega, by omega, rfl, rfl, by go_num, hR.out⟩
          case measure => simp [intOf]; omega
        · go_wp2
          go_roundw
          case rel => exact ⟨k + 1, _, _, by omega, by omega, rfl, rfl, by go_num, hR.out⟩
          case measure => simp [intOf]; omega
    · have hx : ¬ k < len ∨ (k < len ∧ ¬ k < 60) := by omega
      clear hgo
      have HL : Hid (((ss.take k).filter okRec).length ≤ 60) := Nat.le_trans (filter_length ss k) hk2
      generalize (ss.take k).filter okRec = recs at *
      have HE := Lib.hid ((show LW w (rowsK pv uv) (rowsP pv uv recs) b lb ⟨#[]⟩ 0 (backG recs) wr from hR.out).gets0 (rows_stable pv uv recs) (fun G h1 => lend_c h1))
      obtain ⟨pa, pc, rfl⟩ := own_form (show rowsP pv uv recs wr from hR.out.own).1
      obtain ⟨ua, uc, rfl⟩ := own_form (show rowsP _ uv recs wr from hR.out.own).2
      have hend : (((backG recs).end_ : Nat) : Int) = (pl recs recs.length : Int) := by rw [← pl_end]; rfl
      rw [hend] at HE
      have hn60 := HL.out
      generalize hn : recs.length = n at *
      have HN := Lib.hid hn
      clear hR hend hn
      rcases hx with hx | ⟨hx, hx2⟩
      all_goals
        go_wp2_with (fail)
        refine HE.out.mono ?_
        rintro e w4 ⟨rfl, h4⟩
        have H4 := Lib.hid h4
        clear h4 HE
        go_wp2
        go_loopw [13, 14] (fun s13 s14 wr => ∃ j : Nat, j ≤ n ∧ s13 = .int .u64 (pl recs j : Int) ∧ s14 = .int .i64 ((j : Int) - 1) ∧ Hid (BackRel w b lb recs (.slice pa n pc) (.slice ua n uc) wr)) (fun _ i _ => (intOf i + 1).toNat)
        case atStart => exact ⟨n, Nat.le_refl _, rfl, rfl, H4.out⟩
        case round =>
          obtain ⟨j, hj, rfl, rfl, hR⟩ := hrel
          cases j with
          | zero =>
            have HB := Lib.hid ((show LW w (rowsK _ _) (rowsP _ _ recs) b lb ⟨#[]⟩ 0 (backG recs) _ from hR.out).gets (rows_stable _ _ recs) (fun G h1 => back_first h1))
            rw [pl_zero]
            clear hR
            go_wp2_with (fail)
            refine HB.out.mono ?_
            rintro e w5 ⟨rfl, h5⟩
            have H5 := Lib.hid h5.base
            clear h5
            go_wp2
            go_ret
            exact ⟨rfl, H5.out⟩
          | succ j =>
            obtain ⟨x, hx3⟩ : ∃ x, recs[j]? = some x := ⟨_, List.getElem?_eq_getElem (by rw [HN.out]; omega)⟩
            have HX := Lib.hid hx3
            have HB := Lib.hid ((show LW w (rowsK _ _) (rowsP _ _ recs) b lb ⟨#[]⟩ 0 (backG recs) _ from hR.out).gets (rows_stable _ _ recs) (fun G h1 => back_at h1 (j := j) (show j < recs.length by rw [HN.out]; omega)))
            have HG : ∀ W, BackRel w b lb recs (.slice pa n pc) (.slice ua n uc) W → Hid (Calls Try.prog 42 #[.pointer (some ⟨lb, 0, none⟩), .int .u64 (pl recs j : Int)] W fun e w' => e = .returned (.tuple #[.string x, .int .u64 (pl recs (j + 1) : Int), .bool true]) ∧ BackRel w b lb recs (.slice pa n pc) (.slice ua n uc) w') := fun W hW =>
              (show LW w (rowsK _ _) (rowsP _ _ recs) b lb ⟨#[]⟩ 0 (backG recs) W from hW).gets (rows_stable _ _ recs) (fun G h1 => get_at h1 (show (backG recs).recs[j]? = some x from HX.out))
            have e1 : (((j + 1 : Nat) : Int) - 1) = (j : Int) := by omega
            rw [e1]
            have hxx : (x.toList == x.toList) = true := by simp
            clear hR hx3 e1
            have HBB : Hid (Calls Try.prog 41 #[.pointer (some ⟨lb, 0, none⟩), .int .u64 (pl recs (j + 1) : Int)] _ fun e w' => e = .returned (.tuple #[.int .u64 (pl recs j : Int), .bool true]) ∧ LW w (rowsK (.slice pa n pc) (.slice ua n uc)) (rowsP (.slice pa n pc) (.slice ua n uc) recs) b lb ⟨#[]⟩ 0 (backG recs) w') := HB.out
            clear HB
            have HPJ : Hid ((places 1 recs)[j]? = some (pl recs j)) := pl_get (by rw [HN.out]; omega)
            generalize hpj : pl recs j = pj at *
            have HPE := Lib.hid hpj
            clear hpj
            generalize pl recs (j + 1) = pj1 at *
            go_wp2_with (fail)
            refine HBB.out.mono ?_
            rintro e w5 ⟨rfl, h5⟩
            have HG5 := HG _ h5
            clear h5 HG
            go_wp2_with (fail)
            refine HG5.out.mono ?_
            rintro e w6 ⟨rfl, h6⟩
            obtain ⟨g1, c1, ev1, q1, q2, q3, d1⟩ := row_cell h6.own.1 (i := j) (u := lsn pj) (by rw [List.getElem?_map, HPJ.out]; rfl)
            obtain ⟨g2, c2, ev2, q4, q5, q6, d2⟩ := row_cell h6.own.2 (i := j) (u := .string x) (by rw [List.getElem?_map, HX.out]; rfl)
            rw [HN.out] at ev1 ev2 q1 q4
            simp only [Value.slice.injEq, true_and] at ev1 ev2
            obtain ⟨rfl, rfl⟩ := ev1
            obtain ⟨rfl, rfl⟩ := ev2
            replace d1 : w6.cell? ⟨g1, j, none⟩ = some (.int .u64 (pj : Int)) := d1
            have H6 := Lib.hid h6
            clear h6 q3 q6
            go_wp2
            go_wp2
            go_roundw
            case rel => exact ⟨j, by omega, by rw [HPE.out], by go_num, H6.out⟩
            case measure => simp [intOf]
end Go.Proofs.Ytnobiekgifjaeaa
