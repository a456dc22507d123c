/-
  The walk of analyze's work.told.
-/
import Derived.Test.YtpnndlahfllbhaaGreatUO7
import Derived.Test.YtpnndlahfllbhaaGreatUOS
import Derived.Test.YtpnndlahfllbhaaGreatUN7
import Derived.Maps.RangeWalk
import Derived.Deep.CutRange
namespace Go.Proofs.YtpnndlahfllbhaaGreat
open Go Go.RowKit
attribute [local go_sem ↓] Go.wp_at_zero Go.wp_at_succ

theorem MapT.look1 {w : World} {b : Nat} {l : List (Nat × Value)} (h : MapT w b l) (n : Nat) (hn : n < 4294967296) {z : Value} (hz : (zeroValue 44).run Tryz.prog w = .ok z w) :
    (Instr.lookup 175 (.map (some b)) (.int .i64 (n : Int)) false).run Tryz.prog w = .ok ((getL n l).getD z) w := by
  obtain ⟨v, ps, hrun, hv⟩ := h.own.lookup keyedI Tryz.underlying175 hz (zd := .held z) (zp := []) rfl (keyI_of hn)
  rw [mapT_at] at hv
  unfold anyV at hv
  simp only [Option.some.injEq, Prod.mk.injEq, DataW.held.injEq] at hv
  rw [hrun, hv.1]

/-- while it is told: the answer's block, the copy, the rows -/
structure ToldSt (w : World) (most recs en : Nat) (tv dv kv : Value) (ts : List Ts) (ds : List (Nat × Nat)) (ks : List Nat) (W : World) : Prop where
  base : Below w.heap.size w W
  rbx : Blk W w.heap.size 33 #[.slice none 0 0, .slice none 0 0, .int .u64 0, .int .i64 0, .int .i64 0]
  fbx : Blk W (w.heap.size + 1) 33 #[tv, dv, .int .u64 (en : Int), .int .i64 (most : Int), .int .i64 (recs : Int)]
  txs : W.ownsRow (w.heap.size + 2) 44 4 tv ts.length (cellsL tsC ts)
  dirty : W.ownsRow (w.heap.size + 2) 50 2 dv ds.length (cellsL dpC ds)
  keys : W.ownsRow (w.heap.size + 2) 3 1 kv ks.length (ks.map encT)
section
variable {w W W' : World} {most recs en : Nat} {tv dv kv : Value} {ts : List Ts} {ds : List (Nat × Nat)} {ks : List Nat}
theorem ToldSt.size (h : ToldSt w most recs en tv dv kv ts ds ks W) : w.heap.size + 2 ≤ W.heap.size := h.fbx.lt
theorem ToldSt.below (h : ToldSt w most recs en tv dv kv ts ds ks W) (hb : Below W.heap.size W W') : ToldSt w most recs en tv dv kv ts ds ks W' :=
  ⟨h.base.trans (hb.mono h.base.size), h.rbx.same (hb.block _ h.rbx.lt), h.fbx.same (hb.block _ h.fbx.lt), own_same h.txs (fun k hk => hb.block k (h.txs.lt k hk).2), own_same h.dirty (fun k hk => hb.block k (h.dirty.lt k hk).2), own_same h.keys (fun k hk => hb.block k (h.keys.lt k hk).2)⟩
theorem ToldSt.drewN (h : ToldSt w most recs en tv dv kv ts ds ks W) (n : Nat) : ToldSt w most recs en tv dv kv ts ds ks (W.drewN n) := h.below (below_drewN _ _)
theorem ToldSt.set (h : ToldSt w most recs en tv dv kv ts ds ks W) {en' : Nat} {i : Nat} {v : Value}
    (hv : (#[tv, dv, .int .u64 (en : Int), .int .i64 (most : Int), .int .i64 (recs : Int)] : Array Value).setIfInBounds i v = #[tv, dv, .int .u64 (en' : Int), .int .i64 (most : Int), .int .i64 (recs : Int)]) :
    ToldSt w most recs en' tv dv kv ts ds ks (W.setCell ⟨w.heap.size + 1, i, none⟩ v) := by
  have hS : ∀ q, q ≠ w.heap.size + 1 → (W.setCell ⟨w.heap.size + 1, i, none⟩ v).heap[q]? = W.heap[q]? := fun q hq => Below.heap_setCell _ _ _ q hq
  have hK : ∀ {t : TypeId} {n sz : Nat} {v : Value} {l : List Value}, W.ownsRow (w.heap.size + 2) t sz v n l → ∀ k, v.ownBlock = some k → k ≠ w.heap.size + 1 := fun ho k hk => by have := (ho.lt k hk).1; omega
  refine ⟨h.base.setCell (by simp) _, h.rbx.same (hS _ (by omega)), ?_, own_same h.txs (fun k hk => hS k (hK h.txs k hk)), own_same h.dirty (fun k hk => hS k (hK h.dirty k hk)), own_same h.keys (fun k hk => hS k (hK h.keys k hk))⟩
  have := h.fbx.set_ i v
  rwa [hv] at this
theorem ToldSt.setRedo (h : ToldSt w most recs en tv dv kv ts ds ks W) (n : Nat) : ToldSt w most recs n tv dv kv ts ds ks (W.setCell ⟨w.heap.size + 1, 2, none⟩ (.int .u64 (n : Int))) := h.set (by simp)
theorem ToldSt.grownT (h : ToldSt w most recs en tv dv kv ts ds ks W) (hg : W.grownBy W' tv.ownBlock) : Blk W' (w.heap.size + 1) 33 #[tv, dv, .int .u64 (en : Int), .int .i64 (most : Int), .int .i64 (recs : Int)] :=
  h.fbx.same (hg.block _ h.fbx.lt (fun e => own_blk_ne h.txs h.fbx (by decide) e.symm))
theorem ToldSt.grownD (h : ToldSt w most recs en tv dv kv ts ds ks W) (hg : W.grownBy W' dv.ownBlock) : Blk W' (w.heap.size + 1) 33 #[tv, dv, .int .u64 (en : Int), .int .i64 (most : Int), .int .i64 (recs : Int)] :=
  h.fbx.same (hg.block _ h.fbx.lt (fun e => own_blk_ne h.dirty h.fbx (by decide) e.symm))
theorem own_ne_of {W : World} {B : Nat} {e : TypeId} {size n : Nat} {v : Value} {xs : List Value} {r : Nat} (h : W.ownsRow B e size v n xs) (hr : ∀ t cs, ¬ Blk W r t cs) : ∀ k, v.ownBlock = some k → k ≠ r := by
  rintro k hk rfl
  rcases h.2 with ⟨rfl, _⟩ | ⟨g, cap, cur, rfl, _, hh, _⟩
  · simp [Value.ownBlock] at hk
  · have : g = k := by simpa [Value.ownBlock] using hk
    subst this
    exact hr _ _ hh
theorem ToldSt.other (h : ToldSt w most recs en tv dv kv ts ds ks W) {r : Nat} (hg : W.grownBy W' (some r)) (hr : ∀ t cs, ¬ Blk W r t cs) (hb : w.heap.size ≤ r) : ToldSt w most recs en tv dv kv ts ds ks W' := by
  have hB : ∀ {g' : Nat} {t : TypeId} {cs : Array Value}, Blk W g' t cs → W'.heap[g']? = W.heap[g']? := fun {g' t cs} hb => hg.block g' hb.lt (fun e => by cases e; exact hr _ _ hb)
  have hO : ∀ {t : TypeId} {n sz : Nat} {v : Value} {l : List Value}, W.ownsRow (w.heap.size + 2) t sz v n l → W'.ownsRow (w.heap.size + 2) t sz v n l := fun ho => own_same ho (fun k hk => hg.block k (ho.lt k hk).2 (fun e => own_ne_of ho hr k hk (Option.some.inj e)))
  exact ⟨h.base.grown hg h.base.size (fun k hk => by cases hk; exact hb), h.rbx.same (hB h.rbx), h.fbx.same (hB h.fbx), hO h.txs, hO h.dirty, hO h.keys⟩
theorem iter_ne {H : Type} {k : TypeId} {R : Value → Option (DataW H × List MemPlace)} {b r n : Nat} {D : DataW H} {left : Lit → Bool} {cnt : Nat} (h : W.ranges Tryz.prog k R b r n D left cnt) : ∀ t cs, ¬ Blk W r t cs := by
  obtain ⟨es, clock, since, seen, c0, _, _, _, _, hr, _⟩ := h
  intro t cs hb
  unfold Blk at hb
  rw [hr] at hb
  cases hb
theorem ranges_same {H : Type} {k : TypeId} {R : Value → Option (DataW H × List MemPlace)} {b r n : Nat} {D : DataW H} {left : Lit → Bool} {cnt : Nat} (h : W.ranges Tryz.prog k R b r n D left cnt) (h1 : W'.heap[b]? = W.heap[b]?) (h2 : W'.heap[r]? = W.heap[r]?) : W'.ranges Tryz.prog k R b r n D left cnt := by
  obtain ⟨es, clock, since, seen, c0, hb, F, hs, hD, hr, rest⟩ := h
  exact ⟨es, clock, since, seen, c0, h1.trans hb, F, hs, hD, h2.trans hr, rest⟩
theorem ToldSt.pushT (h : ToldSt w most recs en tv dv kv ts ds ks W) {t : Ts} {g c : Nat} (ho : W'.ownsRow (w.heap.size + 2) 44 4 (.slice (some ⟨g, 0, none⟩) (ts.length + 1) c) (ts.length + 1) (cellsL tsC ts ++ tsC t)) (hg : W.grownBy W' tv.ownBlock) :
    ToldSt w most recs en (.slice (some ⟨g, 0, none⟩) (ts.length + 1) c) dv kv (ts ++ [t]) ds ks (W'.setCell ⟨w.heap.size + 1, 0, none⟩ (.slice (some ⟨g, 0, none⟩) (ts.length + 1) c)) := by
  have e : (ts ++ [t]).length = ts.length + 1 := by simp
  have hB : ∀ {g' : Nat} {t : TypeId} {cs : Array Value}, Blk W g' t cs → 44 ≠ t → W'.heap[g']? = W.heap[g']? := fun {g' t cs} hb hne => hg.block g' hb.lt (fun e => own_blk_ne h.txs hb hne e.symm)
  have hO : ∀ {t : TypeId} {n sz : Nat} {v : Value} {l : List Value}, W.ownsRow (w.heap.size + 2) t sz v n l → t ≠ 44 → W'.ownsRow (w.heap.size + 2) t sz v n l := fun ho' ht => own_same ho' (fun k hk => hg.block k (ho'.lt k hk).2 (fun e => own_own_ne ho' h.txs ht hk e.symm))
  have h0 : ToldSt w most recs en tv dv kv ts ds ks W → True := fun _ => trivial
  have hD := hO h.dirty (by decide)
  have hKy := hO h.keys (by decide)
  have hS : ∀ q, q ≠ w.heap.size + 1 → (W'.setCell ⟨w.heap.size + 1, 0, none⟩ (.slice (some ⟨g, 0, none⟩) (ts.length + 1) c)).heap[q]? = W'.heap[q]? := fun q hq => Below.heap_setCell W' _ _ q hq
  have hK : ∀ {t : TypeId} {n sz : Nat} {v : Value} {l : List Value}, W'.ownsRow (w.heap.size + 2) t sz v n l → ∀ k, v.ownBlock = some k → k ≠ w.heap.size + 1 := fun ho k hk => by have := (ho.lt k hk).1; omega
  refine ⟨(h.base.grown hg h.base.size (fun k hk => by have := (h.txs.lt k hk).1; omega)).setCell (by simp) _, (h.rbx.same (hB h.rbx (by decide))).same (hS _ (by omega)), ?_, ?_, own_same hD (fun k hk => hS k (hK hD k hk)), own_same hKy (fun k hk => hS k (hK hKy k hk))⟩
  · have := (h.grownT hg).set_ 0 (.slice (some ⟨g, 0, none⟩) (ts.length + 1) c)
    simpa using this
  · rw [e, cellsL_snoc]
    exact own_same ho (fun k hk => hS k (hK ho k hk))
theorem ToldSt.pushD (h : ToldSt w most recs en tv dv kv ts ds ks W) {t : Nat × Nat} {g c : Nat} (ho : W'.ownsRow (w.heap.size + 2) 50 2 (.slice (some ⟨g, 0, none⟩) (ds.length + 1) c) (ds.length + 1) (cellsL dpC ds ++ dpC t)) (hg : W.grownBy W' dv.ownBlock) :
    ToldSt w most recs en tv (.slice (some ⟨g, 0, none⟩) (ds.length + 1) c) kv ts (ds ++ [t]) ks (W'.setCell ⟨w.heap.size + 1, 1, none⟩ (.slice (some ⟨g, 0, none⟩) (ds.length + 1) c)) := by
  have e : (ds ++ [t]).length = ds.length + 1 := by simp
  have hB : ∀ {g' : Nat} {t : TypeId} {cs : Array Value}, Blk W g' t cs → 50 ≠ t → W'.heap[g']? = W.heap[g']? := fun {g' t cs} hb hne => hg.block g' hb.lt (fun e => own_blk_ne h.dirty hb hne e.symm)
  have hO : ∀ {t : TypeId} {n sz : Nat} {v : Value} {l : List Value}, W.ownsRow (w.heap.size + 2) t sz v n l → t ≠ 50 → W'.ownsRow (w.heap.size + 2) t sz v n l := fun ho' ht => own_same ho' (fun k hk => hg.block k (ho'.lt k hk).2 (fun e => own_own_ne ho' h.dirty ht hk e.symm))
  have hD := hO h.txs (by decide)
  have hKy := hO h.keys (by decide)
  have hS : ∀ q, q ≠ w.heap.size + 1 → (W'.setCell ⟨w.heap.size + 1, 1, none⟩ (.slice (some ⟨g, 0, none⟩) (ds.length + 1) c)).heap[q]? = W'.heap[q]? := fun q hq => Below.heap_setCell W' _ _ q hq
  have hK : ∀ {t : TypeId} {n sz : Nat} {v : Value} {l : List Value}, W'.ownsRow (w.heap.size + 2) t sz v n l → ∀ k, v.ownBlock = some k → k ≠ w.heap.size + 1 := fun ho k hk => by have := (ho.lt k hk).1; omega
  refine ⟨(h.base.grown hg h.base.size (fun k hk => by have := (h.dirty.lt k hk).1; omega)).setCell (by simp) _, (h.rbx.same (hB h.rbx (by decide))).same (hS _ (by omega)), ?_, own_same hD (fun k hk => hS k (hK hD k hk)), ?_, own_same hKy (fun k hk => hS k (hK hKy k hk))⟩
  · have := (h.grownD hg).set_ 1 (.slice (some ⟨g, 0, none⟩) (ds.length + 1) c)
    simpa using this
  · rw [e, cellsL_snoc]
    exact own_same ho (fun k hk => hS k (hK ho k hk))
end
theorem ownsRow_mono_ {W : World} {B B' : Nat} {e : TypeId} {size n : Nat} {v : Value} {xs : List Value} (h : W.ownsRow B e size v n xs) (hB : B' ≤ B) : W.ownsRow B' e size v n xs := by
  refine ⟨h.1, ?_⟩
  rcases h.2 with h2 | ⟨g, cap, cur, e, hg, r⟩
  · exact .inl h2
  · exact .inr ⟨g, cap, cur, e, Nat.le_trans hB hg, r⟩
theorem own_slice {W : World} {B : Nat} {e : TypeId} {size n : Nat} {v : Value} {xs : List Value} (h : W.ownsRow B e size v n xs) : ∃ a c, v = .slice a n c := by
  rcases h.2 with ⟨rfl, rfl⟩ | ⟨g, cap, cur, rfl, _⟩
  · exact ⟨_, _, rfl⟩
  · exact ⟨_, _, rfl⟩
theorem cellsL_one {α : Type} (f : α → Value) : ∀ l : List α, cellsL (fun x => [f x]) l = l.map f
  | [] => rfl
  | x :: l => by simp [cellsL, cellsL_one f l]
theorem ToldSt.made (w : World) (m r : Nat) : ToldSt w m r 0 (.slice none 0 0) (.slice none 0 0) (.slice none 0 0) [] [] [] ((w.alloc (.cells #[.slice none 0 0, .slice none 0 0, .int .u64 0, .int .i64 0, .int .i64 0] 33)).alloc (.cells #[.slice none 0 0, .slice none 0 0, .int .u64 0, .int .i64 (m : Int), .int .i64 (r : Int)] 33)) := by
  have h1 := Blk.new w 33 #[.slice none 0 0, .slice none 0 0, .int .u64 0, .int .i64 0, .int .i64 0]
  have h2 := Blk.new (w.alloc (.cells #[.slice none 0 0, .slice none 0 0, .int .u64 0, .int .i64 0, .int .i64 0] 33)) 33 #[.slice none 0 0, .slice none 0 0, .int .u64 0, .int .i64 (m : Int), .int .i64 (r : Int)]
  have hz : (w.alloc (.cells #[.slice none 0 0, .slice none 0 0, .int .u64 0, .int .i64 0, .int .i64 0] 33)).heap.size = w.heap.size + 1 := by simp
  rw [hz] at h2
  exact ⟨((Below.refl _ _).alloc (Nat.le_refl _) _).alloc (by simp) _, h1.same (Below.heap_alloc _ _ _ h1.lt), h2, World.ownsRow_nil _ _ _ _, World.ownsRow_nil _ _ _ _, World.ownsRow_nil _ _ _ _⟩
/-- what told leaves -/
structure Told (w : World) (a : An) (en : Nat) (tv dv : Value) (W : World) : Prop where
  base : Below w.heap.size w W
  txs : RdC 4 tsC W tv (sndL a.txs)
  dirty : RdC 2 dpC W dv a.dirty
  tne : ∀ k, tv.ownBlock = some k → w.heap.size ≤ k
  dne : ∀ k, dv.ownBlock = some k → w.heap.size ≤ k
def FoundV (most recs en : Nat) (tv dv : Value) : Value := .agg #[tv, dv, .int .u64 (en : Int), .int .i64 (most : Int), .int .i64 (recs : Int)]
def ToldT (w : World) (a : An) (kv : Value) (k : Nat) (W : World) : Prop := ∃ tv, ToldSt w a.most a.recs 0 tv (.slice none 0 0) kv ((sndL a.txs).take k) [] (a.txs.map (·.1)) W
def valsP (l : List (Nat × Nat)) (ss : List Nat) : List (Nat × Nat) := ss.map fun k => (k, (getL k l).getD 0)
theorem valsP_perm {l : List (Nat × Nat)} {ss : List Nat} (hr : RisingL l) (h : ss.Perm (l.map (·.1))) : (valsP l ss).Perm l := by
  have h1 := h.map fun k => (k, (getL k l).getD 0)
  have h2 : (l.map (·.1)).map (fun k => (k, (getL k l).getD 0)) = l := by
    rw [List.map_map]
    refine (List.map_congr_left fun p hp => ?_).trans (List.map_id l)
    obtain ⟨k, v⟩ := p
    show (k, (getL k l).getD 0) = (k, v)
    rw [getL_of_mem hr hp]; rfl
  rw [h2] at h1
  exact h1
def ToldD (w : World) (a : An) (en : Nat) (tv kv : Value) (ss : List Nat) (W : World) : Prop := ∃ dv, ToldSt w a.most a.recs en tv dv kv (sndL a.txs) (valsP a.dirty ss) (a.txs.map (·.1)) W
def ToldPost (w : World) (a : An) (en : Nat) (e : Ending) (W : World) : Prop := ∃ tv dv, e = .returned (FoundV a.most a.recs (redoOf en a.dirty) tv dv) ∧ Told w a en tv dv W
section
variable {w : World} {wb mb db : Nat} {a : An}
set_option maxRecDepth 100000 in
set_option maxHeartbeats 8000000 in
theorem anTold_w (h : AnIn w wb mb db a) (hok : a.ok) (hl1 : a.txs.length ≤ 1000000000) (hl2 : a.dirty.length ≤ 1000000000) (pl : Value) (en : Nat) (hend : ∀ W, Below w.heap.size w W → Calls Tryz.prog 20 #[pl] W fun e w' => e = .returned (.int .u64 (en : Int)) ∧ w' = W) :
    Calls Tryz.prog 79 #[.pointer (some ⟨wb, 0, none⟩), pl] w (ToldPost w a en) := by
  have c0 : w.cell? ⟨wb, 0, none⟩ = some (.map (some mb)) := h.wk.cell 0
  have c1 : w.cell? ⟨wb, 1, none⟩ = some (.map (some db)) := h.wk.cell 1
  have c2 : w.cell? ⟨wb, 2, none⟩ = some (.slice none 0 0) := h.wk.cell 2
  have c3 : w.cell? ⟨wb, 3, none⟩ = some (.slice none 0 0) := h.wk.cell 3
  have c4 : w.cell? ⟨wb, 4, none⟩ = some (.int .u64 0) := h.wk.cell 4
  have c5 : w.cell? ⟨wb, 5, none⟩ = some (.int .i64 (a.most : Int)) := h.wk.cell 5
  have c6 : w.cell? ⟨wb, 6, none⟩ = some (.int .i64 (a.recs : Int)) := h.wk.cell 6
  have hlt := h.wk.lt
  have HN := Lib.hid h
  have HOK := Lib.hid hok
  have HL1 := Lib.hid hl1
  have HL2 := Lib.hid hl2
  have HEND := Lib.hid hend
  clear h hok hl1 hl2 hend
  generalize hpost : ToldPost w a en = Post
  have HPOST := Lib.hid hpost
  clear hpost
  go_enter Tryz.func79, Tryz.ntmps79
  go_wp2_with (fail)
  obtain ⟨W0, hW0⟩ : ∃ W0, (w.alloc (.cells #[.slice none 0 0, .slice none 0 0, .int .u64 0, .int .i64 0, .int .i64 0] 33)).alloc (.cells #[.slice none 0 0, .slice none 0 0, .int .u64 0, .int .i64 (a.most : Int), .int .i64 (a.recs : Int)] 33) = W0 := ⟨_, rfl⟩
  have HS0 : Hid (ToldSt w a.most a.recs 0 (.slice none 0 0) (.slice none 0 0) (.slice none 0 0) [] [] [] W0) := by
    show ToldSt _ _ _ _ _ _ _ _ _ _ _
    rw [← hW0]
    exact ToldSt.made w _ _
  rw [hW0]
  clear hW0 c0 c1 c2 c3 c4 c5 c6
  refine (keysT_c (some mb) W0).mono ?_
  rintro e w1 ⟨rfl, rfl⟩
  go_wp2_with (fail)
  have HC := Lib.hid (sortedT_c (HN.out.below HS0.out.base).txs (by rw [mapL_length]; exact HL1.out))
  refine HC.out.mono ?_
  clear HC
  rintro e w1 ⟨kv, rfl, hrow, hb⟩
  obtain ⟨n, hn⟩ : ∃ n, a.txs.length = n := ⟨_, rfl⟩
  have hks : (mapL_ tsV a.txs).map (fun p => encT p.1) = (a.txs.map (·.1)).map encT := by unfold mapL_; rw [List.map_map, List.map_map]; rfl
  have hkn : (a.txs.map (·.1)).length = n := by rw [List.length_map, hn]
  rw [mapL_length, hks, hn] at hrow
  obtain ⟨ka, kc, rfl⟩ := own_slice hrow
  have HS1 : Hid (ToldSt w a.most a.recs 0 (.slice none 0 0) (.slice none 0 0) (.slice ka n kc) [] [] (a.txs.map (·.1)) w1) := by
    have h := HS0.out.below (((Below.refl _ _).alloc (Nat.le_refl _) _).trans (hb.mono (Nat.le_succ _)))
    exact ⟨h.base, h.rbx, h.fbx, h.txs, h.dirty, ownsRow_mono_ (show w1.ownsRow (W0.heap.size + 1) 3 1 _ (a.txs.map (·.1)).length ((a.txs.map (·.1)).map encT) by rw [hkn]; exact hrow) (by have := HS0.out.size; omega)⟩
  have HKN := Lib.hid hkn
  have HNN := Lib.hid hn
  have hnl : n ≤ 1000000000 := by have := HL1.out; omega
  clear hrow hb hks hkn HS0 hn
  go_wp2_with (fail)
  go_loopw [21] (fun i wr => ∃ (k : Nat), i = .int .i64 (k : Int) ∧ k ≤ n ∧ Hid (ToldT w a (.slice ka n kc) k wr)) (fun i _ => n - (intOf i).toNat)
  case atStart => exact ⟨0, rfl, Nat.zero_le _, ⟨_, HS1.out⟩⟩
  case round =>
    clear HS1
    obtain ⟨k, rfl, hk, HSE⟩ := hrel
    obtain ⟨tv, hS⟩ := HSE.out
    have HS := Lib.hid hS
    clear HSE hS
    by_cases hkl : k < n
    · obtain ⟨p, hp⟩ : ∃ p, a.txs[k]? = some p := ⟨_, List.getElem?_eq_getElem (by have := HNN.out; omega)⟩
      obtain ⟨x, t⟩ := p
      have hpm := List.mem_of_getElem? hp
      have hx32 : x < 4294967296 := (HN.out.txs.small) (x, tsV t) (List.mem_map.2 ⟨_, hpm, rfl⟩)
      have hR : RdC 1 (fun x => [encT x]) wr (.slice ka n kc) (a.txs.map (·.1)) := by
        have := HS.out.keys
        exact RdC.of_own (B := w.heap.size + 2) (t := 3) (fun _ => rfl) (by rw [cellsL_one]; exact this)
      obtain ⟨kb, off, rfl, hqq, h1, h2, hbl, hc⟩ := hR.at_ (i := k) (x := x) (by rw [List.getElem?_map, hp]; rfl)
      have d0 : wr.cell? ⟨kb, off + k, none⟩ = some (.int .i64 (x : Int)) := by simpa using hc 0 _ rfl
      have hAN := HN.out.below HS.out.base
      obtain ⟨mo, hmo⟩ : ∃ mo, wr.heap[mb]? = some mo := ⟨_, Array.getElem?_eq_getElem hAN.txs.lt⟩
      have HLK : ∀ W : World, W.heap[mb]? = some mo → Hid ((Instr.lookup 175 (.map (some mb)) (.int .i64 (x : Int)) false).run Tryz.prog W = .ok (.agg #[.int .i64 t.tx, .int .i64 t.state, .int .u64 (t.last : Int), .int .u64 (t.next : Int)]) W) := fun W hW => by
        have := (hAN.txs.same (hW.trans hmo.symm)).look1 x (by omega) (zero_tx W)
        rw [mapL_get, getL_of_mem HOK.out.rt hpm] at this
        exact this
      have HTK : Hid ((sndL a.txs).take (k + 1) = (sndL a.txs).take k ++ [t]) := by
        show _ = _
        rw [List.take_add_one]
        congr 1
        unfold sndL
        rw [List.getElem?_map, hp]
        rfl
      have HTL : Hid (((sndL a.txs).take k).length = k) := by
        show _ = _
        rw [List.length_take]
        unfold sndL
        rw [List.length_map]
        have := HNN.out
        omega
      generalize hts : (sndL a.txs).take k = ts at HS HTK HTL
      have CS : Hid (OneC ⟨w.heap.size + 1, 0, none⟩ tv wr ∧ OneC ⟨wb, 0, none⟩ (.map (some mb)) wr ∧ wr.heap[mb]? = some mo) := ⟨HS.out.fbx.cell 0, hAN.wk.cell 0, hmo⟩
      have HQ : Hid (ToldSt w a.most a.recs 0 tv (.slice none 0 0) (.slice (some ⟨kb, off, none⟩) n kc) ts [] (a.txs.map (·.1)) wr.drew) := HS.out.drewN 1
      have HLW : Hid (wb < w.heap.size ∧ mb < w.heap.size ∧ w.heap.size + 2 ≤ wr.heap.size) := ⟨HN.out.lt.1, HN.out.lt.2.1, HS.out.size⟩
      have HNE : Hid (∀ k, tv.ownBlock = some k → w.heap.size + 2 ≤ k) := fun k hk => (HS.out.txs.lt k hk).1
      have M1 : Hid (ts.length + 1 ≤ maxLen) := by have := HTL.out; show _ ≤ maxLen; simp only [maxLen]; omega
      have M2 : Hid ((ts.length + 1) * 32 ≤ 140737488355328) := by have := HTL.out; show _ ≤ 140737488355328; omega
      have M3 : Hid (∀ u ∈ [Value.int .i64 t.tx, Value.int .i64 t.state, Value.int .u64 (t.last : Int), Value.int .u64 (t.next : Int)], u.oneCell' = true) := fun u hu => by
        simp only [List.mem_cons, List.not_mem_nil, or_false] at hu
        rcases hu with rfl | rfl | rfl | rfl <;> rfl
      obtain ⟨its, hits, hz0, hz1, hz2⟩ := info_parts infoTx
      have HKL := Lib.hid hkl
      clear hR hc hp hpm hmo hAN hts HS h1 h2 hqq
      go_upto_region 5 with (fail)
      refine wp_region_late (S := fun W => OneC ⟨w.heap.size + 1, 0, none⟩ tv W ∧ OneC ⟨wb, 0, none⟩ (.map (some mb)) W ∧ W.heap[mb]? = some mo) (late := [11]) (by kernel_rfl) CS.out (fun hHeld => ?_)
      refine wpAnyL_move (i := 0) (v := ?_) (by rfl) (by kernel_rfl) (by kernel_rfl) (by kernel_rfl) (by rfl) (by exact fun _ _ _ h => h) (Or.inl ⟨by rfl, ?_⟩) (by assumption) ?_; rotate_left; · (intro w0; go_simp; try with_reducible rfl)
      try simp only [Act.put, List.setIfInBounds_toArray, List.set_cons_zero, List.set_cons_succ]
      refine wpAnyL_loadT 12 (i := 1) (v := ?_) (by rfl) (by kernel_rfl) (by kernel_rfl) (by kernel_rfl) (by rfl) (by kernel_rfl) (by kernel_rfl) (by exact fun _ _ _ h => h) (Or.inl ⟨by rfl, ?_⟩) (by assumption) ?_; rotate_left; · (intro w0 hS0; obtain ⟨hS1, hS2, hS3⟩ := hS0; unfold OneC at hS1 hS2; go_simp; try with_reducible rfl)
      try simp only [Act.put, List.setIfInBounds_toArray, List.set_cons_zero, List.set_cons_succ]
      refine wpAnyL_move (i := 2) (v := ?_) (by rfl) (by kernel_rfl) (by kernel_rfl) (by kernel_rfl) (by rfl) (by exact fun _ _ _ h => h) (Or.inl ⟨by rfl, ?_⟩) (by assumption) ?_; rotate_left; · (intro w0; go_simp; try with_reducible rfl)
      try simp only [Act.put, List.setIfInBounds_toArray, List.set_cons_zero, List.set_cons_succ]
      refine wpAnyL_move (i := 3) (v := ?_) (by rfl) (by kernel_rfl) (by kernel_rfl) (by kernel_rfl) (by rfl) (by exact fun _ _ _ h => h) (Or.inl ⟨by rfl, ?_⟩) (by assumption) ?_; rotate_left; · (intro w0; go_simp; try with_reducible rfl)
      try simp only [Act.put, List.setIfInBounds_toArray, List.set_cons_zero, List.set_cons_succ]
      refine wpAnyL_move (i := 4) (v := ?_) (by rfl) (by kernel_rfl) (by kernel_rfl) (by kernel_rfl) (by rfl) (by exact fun _ _ _ h => h) (Or.inl ⟨by rfl, ?_⟩) (by assumption) ?_; rotate_left; · (intro w0; go_simp; try with_reducible rfl)
      try simp only [Act.put, List.setIfInBounds_toArray, List.set_cons_zero, List.set_cons_succ]
      refine wpAnyL_loadT 12 (i := 5) (v := ?_) (by rfl) (by kernel_rfl) (by kernel_rfl) (by kernel_rfl) (by rfl) (by kernel_rfl) (by kernel_rfl) (by exact fun _ _ _ h => h) (Or.inl ⟨by rfl, ?_⟩) (by assumption) ?_; rotate_left; · (intro w0 hS0; obtain ⟨hS1, hS2, hS3⟩ := hS0; unfold OneC at hS1 hS2; go_simp; try with_reducible rfl)
      try simp only [Act.put, List.setIfInBounds_toArray, List.set_cons_zero, List.set_cons_succ]
      refine wpAnyL_move (i := 6) (v := ?_) (by rfl) (by kernel_rfl) (by kernel_rfl) (by kernel_rfl) (by rfl) (by exact fun _ _ _ h => h) (Or.inl ⟨by rfl, ?_⟩) (by assumption) ?_; rotate_left; · (intro w0; go_simp; try with_reducible rfl)
      try simp only [Act.put, List.setIfInBounds_toArray, List.set_cons_zero, List.set_cons_succ]
      refine wpAnyL_each (rs := [7]) (by kernel_rfl) (by simp) ?_
      refine EachL.cons (by rfl) (by rfl) (fun K hK => ?_) ?_
      · have hL := (HLK _ hHeld.2.2).out
        go_simp
        refine hK.out _ _ hHeld (fun hHeld => ?_)
        clear hK K
        try simp only [Act.put, List.setIfInBounds_toArray, List.set_cons_zero, List.set_cons_succ]
        refine wpAnyL_each (rs := [8]) (by kernel_rfl) (by simp) ?_
        refine EachL.cons (by rfl) (by rfl) (fun K hK => ?_) ?_
        · go_simp
          refine hK.out _ _ ⟨hHeld.1.alloc _, hHeld.2.1.alloc _, heap_alloc_some2 hHeld.2.2⟩ (fun hHeld => ?_)
          clear hK K
          try simp only [Act.put, List.setIfInBounds_toArray, List.set_cons_zero, List.set_cons_succ]
          refine wpAnyL_each (rs := [9]) (by kernel_rfl) (by simp) ?_
          refine EachL.cons (by rfl) (by rfl) (fun K hK => ?_) ?_
          · refine step_append_lies _ (by rfl) _ _ 28 (by rfl) (w.heap.size + 2) 44 its _ 4 32 Tryz.underlying28 hits hz0 hz1 hz2 rfl (by omega) tv ts.length (cellsL tsC ts) (by rfl) (HQ.out.below ((Below.refl _ _).alloc (Nat.le_refl _) _)).txs ⟨wr.drew.heap.size, 0, none⟩ 1 1 [.int .i64 t.tx, .int .i64 t.state, .int .u64 (t.last : Int), .int .u64 (t.next : Int)] (by rfl) (by rfl) (World.news_of_block (cs := #[.int .i64 t.tx, .int .i64 t.state, .int .u64 (t.last : Int), .int .u64 (t.next : Int)]) (t := 44) (fr := (0, 0)) (heap_alloc_new wr.drew _)) M3.out (by omega) M1.out M2.out (HQ.out.below ((Below.refl _ _).alloc (Nat.le_refl _) _)).size _ rfl ?_; intro sg sc w6 so sgr sat slt
            refine hK.out _ _ ⟨((HQ.out.below ((Below.refl _ _).alloc (Nat.le_refl _) _)).grownT sgr).cell 0, (World.cell?_of_block (a := ⟨wb, 0, none⟩) (sgr.block wb (by have := HLW.out; simp; omega) (fun e => by have := HNE.out _ e.symm; have := HLW.out; omega))).trans hHeld.2.1, (sgr.block mb (by have := HLW.out; simp; omega) (fun e => by have := HNE.out _ e.symm; have := HLW.out; omega)).trans hHeld.2.2⟩ (fun hHeld => ?_)
            clear hK K
            try simp only [Act.put, List.setIfInBounds_toArray, List.set_cons_zero, List.set_cons_succ]
            refine wpAnyL_move (i := 10) (v := ?_) (by rfl) (by kernel_rfl) (by kernel_rfl) (by kernel_rfl) (by rfl) (by exact fun _ _ _ h => h) (Or.inl ⟨by rfl, ?_⟩) (by assumption) ?_; rotate_left; · (intro w0; go_simp; try with_reducible rfl)
            try simp only [Act.put, List.setIfInBounds_toArray, List.set_cons_zero, List.set_cons_succ]
            have q4 : w6.cell? ⟨w.heap.size + 1, 0, none⟩ = some tv := hHeld.1
            have f4 : w6.frozen? ⟨w.heap.size + 1, 0, none⟩ = false := ((HQ.out.below ((Below.refl _ _).alloc (Nat.le_refl _) _)).grownT sgr).frozen 0
            refine wpAnyL_late (i := 11) (by kernel_rfl) (by rfl) (by rfl) (fun K hK => ?_)
            go_simp
            refine hK.out _ _ ?_
            clear hK K
            try simp only [Act.put, List.setIfInBounds_toArray, List.set_cons_zero, List.set_cons_succ]
            refine wpAny_done (by kernel_rfl) ?_ _
            have R1 := Lib.hid ((HQ.out.below ((Below.refl _ _).alloc (Nat.le_refl _) _)).pushT (t := t) so sgr)
            clear q4 f4 so sgr sat slt hHeld HQ
            rw [← HTK.out] at R1
            go_wp2_with (fail)
            go_roundw
            case rel => exact ⟨k + 1, by go_num, HKL.out, ⟨_, R1.out⟩⟩
            case measure => have := HKL.out; simp [intOf]; omega
          exact EachL.nil
        exact EachL.nil
      exact EachL.nil
    · obtain rfl : k = n := by omega
      have HTK : Hid ((sndL a.txs).take k = sndL a.txs) := by
        show _ = _
        apply List.take_of_length_le
        unfold sndL
        rw [List.length_map]
        exact Nat.le_of_eq HNN.out
      have hst := HS.out
      rw [HTK.out] at hst
      have HS2 := Lib.hid hst
      clear HS HTK hst
      have HE := Lib.hid (HEND.out wr HS2.out.base)
      have HFB : Hid (Blk wr (w.heap.size + 1) 33 #[tv, .slice none 0 0, .int .u64 ((0 : Nat) : Int), .int .i64 (a.most : Int), .int .i64 (a.recs : Int)]) := HS2.out.fbx
      have e2 : wr.cell? ⟨w.heap.size + 1, 2, none⟩ = some (.int .u64 ((0 : Nat) : Int)) := HFB.out.cell 2
      have f2 : wr.frozen? ⟨w.heap.size + 1, 2, none⟩ = false := HFB.out.frozen 2
      have HS3 := Lib.hid (HS2.out.setRedo en)
      have HMD := (HN.out.below HS3.out.base)
      clear HFB HS2
      go_wp2_with (fail)
      refine HE.out.mono ?_
      clear HE
      rintro e w2 ⟨rfl, rfl⟩
      go_upto_region 8 with (fail)
      obtain ⟨W2, hW2⟩ : ∃ W2, w2.setCell ⟨w.heap.size + 1, 2, none⟩ (.int .u64 (en : Int)) = W2 := ⟨_, rfl⟩
      rw [hW2] at HS3 HMD ⊢
      clear hW2 e2 f2
      have c1 : W2.cell? ⟨wb, 1, none⟩ = some (.map (some db)) := HMD.wk.cell 1
      obtain ⟨dn, hdn⟩ : ∃ dn, a.dirty.length = dn := ⟨_, rfl⟩
      have hlenD : ∀ ty, (Builtin.len_ #[176] ty #[.map (some db)]).run Tryz.prog W2 = .ok (.int .i64 (dn : Int)) W2 := fun ty => by have := HMD.dirty.lenD ty; rwa [mapL_length, hdn] at this
      have HMD2 := Lib.hid HMD
      have HDN := Lib.hid hdn
      clear HMD hdn
      go_upto_if 45 with (fail)
      clear hlenD
      go_cut [] from 45 to 53 (fun wx => Hid (ToldSt w a.most a.recs (redoOf en a.dirty) tv (.slice none 0 0) (.slice ka k kc) (sndL a.txs) [] (a.txs.map (·.1)) wx))
      case first =>
        by_cases hd : 0 < dn
        · go_wp2_with (fail)
          refine (valuesL_c (some db) W2).mono ?_
          rintro e w3 ⟨rfl, rfl⟩
          go_wp2_with (fail)
          refine (collectLs_c HMD2.out.dirty HL2.out).mono ?_
          rintro e w4 ⟨vv, ss, rfl, hp, hrow, hb⟩
          obtain ⟨x, l, rfl⟩ : ∃ x l, ss = x :: l := by
            cases ss with
            | nil => have := hp.length_eq; rw [List.length_map, HDN.out] at this; simp at this; omega
            | cons x l => exact ⟨_, _, rfl⟩
          have HRE := Lib.hid (redoOf_perm (en := en) hp)
          have hu : ∀ y ∈ x :: l, y < 18446744073709551616 := fun y hy => by
            obtain ⟨p, hp1, rfl⟩ := List.mem_map.1 (hp.subset hy)
            exact (HOK.out.dp p hp1).2
          have hln : l.length < 1000000000 := by
            have h1 := hp.length_eq
            rw [List.length_map, List.length_cons] at h1
            have := HL2.out
            omega
          have HMI := Lib.hid (minLs_c hrow hln hu)
          have HS4 := Lib.hid (HS3.out.below (((Below.refl _ _).alloc (Nat.le_refl _) _).trans (hb.mono (Nat.le_succ _))))
          clear hrow hln hu hp hb HS3
          go_wp2_with (fail)
          refine HMI.out.mono ?_
          rintro e w5 ⟨rfl, rfl⟩
          have e2 : w5.cell? ⟨w.heap.size + 1, 2, none⟩ = some (.int .u64 (en : Int)) := HS4.out.fbx.cell 2
          have f2 : w5.frozen? ⟨w.heap.size + 1, 2, none⟩ = false := HS4.out.fbx.frozen 2
          have HS5 := Lib.hid (HS4.out.setRedo (minL x l))
          rw [HRE.out] at HS5 ⊢
          unfold lsnV
          clear HMI HS4
          go_wp2_with (fail)
          go_meet
          exact HS5
        · have HR : Hid (ToldSt w a.most a.recs (redoOf en a.dirty) tv (.slice none 0 0) (.slice ka k kc) (sndL a.txs) [] (a.txs.map (·.1)) W2) := by
            have h0 : a.dirty = [] := List.eq_nil_of_length_eq_zero (by have := HDN.out; omega)
            rw [h0]
            exact HS3.out
          clear HS3
          go_wp2_with (fail)
          go_meet
          exact HR
      case rest =>
      clear HS3 HMD2
      have HS3 := hcut
      clear hcut c1
      have hAN := HN.out.below HS3.out.base
      have c1 : wc.cell? ⟨wb, 1, none⟩ = some (.map (some db)) := hAN.wk.cell 1
      have hown := hAN.dirty.own
      have hrs := Lib.hid hAN.dirty.rising
      have hml : (mapL_ lsnV a.dirty).length = dn := by rw [mapL_length]; exact HDN.out
      rw [hml] at hown
      clear hAN
      go_wp2_with (first
        | (at_range; refine wpList_range_own _ rfl _ 176 rfl 48 31 keyedP Tryz.underlying176 anyV db dn _ rfl hown ?_; intro w0 hrg0 hg0 hs0)
        | go_in)
      go_frame
      have HS4 := HS3.out.below ((Below.refl _ _).grown hg0 (Nat.le_refl _) (fun k e => by cases e))
      obtain ⟨rb, hrb⟩ : ∃ rb, wc.heap.size = rb := ⟨_, rfl⟩
      have hrb2 := HS3.out.size
      rw [hrb] at hrg0 hrb2 ⊢
      have HRB := Lib.hid hrb2
      have HSD : Hid (ToldD w a (redoOf en a.dirty) tv (.slice ka k kc) [] w0) := ⟨_, HS4⟩
      have HML := Lib.hid hml
      have hCS : Hid (([] : List Nat).length + Maps.size (mapD (mapL_ lsnV a.dirty)) ≤ dn) := by show _ ≤ _; rw [← HML.out]; simp [mapD_size]
      clear hown hml HS3 HS4 hrb hrb2 hg0 hs0
      go_loopw [8] (fun _ wr => ∃ (left : Lit → Bool) (cnt : Nat) (ss : List Nat), wr.ranges Tryz.prog 48 anyV db rb dn (mapD (mapL_ lsnV a.dirty)) left cnt ∧ Hid (ss.length + cnt ≤ dn) ∧ GotK (mapL_ lsnV a.dirty) left ss ∧ Hid (ToldD w a (redoOf en a.dirty) tv (.slice ka k kc) ss wr))
        (fun _ wr => wr.rangeLeft db rb)
      case atStart =>
        exact ⟨_, _, [], hrg0, hCS, GotK.start _, HSD⟩
      case round =>
        clear hCS HSD hrg0 c1
        obtain ⟨left, cnt, ss, hrg, HCS, hC, HSD⟩ := hrel
        go_wp2_with (first
          | (at_next; refine wpList_next_ranges _ rfl _ rfl 48 keyedP anyV encP id (fun key kl hk => by obtain ⟨x, hx, _⟩ := keyOf_page hk; exact ⟨x, hx⟩) (fun v _ _ => ⟨v, rfl⟩) db rb dn _ _ _ rfl hrg ?_ ?_)
          | go_in)
        · intro hc0 hl0
          obtain ⟨dv, HST⟩ := HSD.out
          have hp := valsP_perm HOK.out.rd (by have := hC.done hrs.out hl0; simpa [mapL_, List.map_map, Function.comp_def] using this)
          obtain ⟨da, dc, rfl⟩ := own_slice HST.dirty
          obtain ⟨tn, htn⟩ : ∃ tn, (sndL a.txs).length = tn := ⟨_, rfl⟩
          obtain ⟨ta, tc, rfl⟩ := own_slice HST.txs
          have hll : (valsP a.dirty ss).length ≤ 1000000000 := by rw [hp.length_eq]; exact HL2.out
          have HSF := Lib.hid (sortDirty_c HST.dirty hp HOK.out.rd hll)
          have d1 : wr.cell? ⟨w.heap.size + 1, 1, none⟩ = some (.slice da (valsP a.dirty ss).length dc) := HST.fbx.cell 1
          obtain ⟨vn, hvn⟩ : ∃ vn, (valsP a.dirty ss).length = vn := ⟨_, rfl⟩
          have HS9 := Lib.hid HST
          clear hp hll HST HSD hrg hC hc0 hl0 HCS
          rw [hvn] at d1 HSF HS9
          rw [htn] at HS9
          clear hvn htn
          go_wp2_with (fail)
          refine HSF.out.mono ?_
          rintro e w9 ⟨rfl, hR, hg⟩
          have hF : Blk w9 (w.heap.size + 1) 33 #[.slice ta tn tc, .slice da vn dc, .int .u64 (redoOf en a.dirty : Int), .int .i64 (a.most : Int), .int .i64 (a.recs : Int)] := HS9.out.grownD hg
          have hB := HS9.out.rbx.same (hg.block _ HS9.out.rbx.lt (fun e => own_blk_ne HS9.out.dirty HS9.out.rbx (by decide) e.symm))
          have HT : Hid (Told w a (redoOf en a.dirty) (.slice ta tn tc) (.slice da vn dc) w9) := by
            refine ⟨HS9.out.base.grown hg HS9.out.base.size (fun k hk => ?_), ?_, hR, fun k hk => ?_, fun k hk => ?_⟩
            · have := (HS9.out.dirty.lt k hk).1; omega
            · exact RdC.of_own tsC_len (own_same HS9.out.txs (fun k hk => hg.block k (HS9.out.txs.lt k hk).2 (fun e => own_own_ne HS9.out.txs HS9.out.dirty (by decide) hk e.symm)))
            · have := (HS9.out.txs.lt k hk).1; omega
            · have := (HS9.out.dirty.lt k hk).1; omega
          have HNT : Hid ((∀ k, (Value.slice ta tn tc).ownBlock = some k → k ≠ w.heap.size) ∧ ∀ k, (Value.slice da vn dc).ownBlock = some k → k ≠ w.heap.size) :=
            ⟨fun k hk => by have := (HS9.out.txs.lt k hk).1; omega, fun k hk => by have := (HS9.out.dirty.lt k hk).1; omega⟩
          have HXR : Hid (w9.heap[w.heap.size + 1]? = some (.cells #[.slice ta tn tc, .slice da vn dc, .int .u64 (redoOf en a.dirty : Int), .int .i64 (a.most : Int), .int .i64 (a.recs : Int)] 33 (0, 0))) := hF
          have HZR : Hid (w9.heap[w.heap.size]? = some (.cells #[.slice none 0 0, .slice none 0 0, .int .u64 0, .int .i64 0, .int .i64 0] 33 (0, 0))) := hB
          clear hR hg hF hB d1 HSF HS9
          go_upto_region 15 with (fail)
          refine wp_region_lit ?_
          refine wpList_load_row (by first | rfl | (simp [Region.wanted, yielded])) _ _ (by rfl) (w.heap.size + 1) 33 #[.slice ta tn tc, .slice da vn dc, .int .u64 (redoOf en a.dirty : Int), .int .i64 (a.most : Int), .int .i64 (a.recs : Int)] _ (by rfl) HXR.out Tryz.underlying33 (by rfl) (by kernel_rfl) ?_
          refine wpList_store_row (by rfl) _ _ _ (by rfl) w.heap.size 33 #[.slice ta tn tc, .slice da vn dc, .int .u64 (redoOf en a.dirty : Int), .int .i64 (a.most : Int), .int .i64 (a.recs : Int)] #[.slice none 0 0, .slice none 0 0, .int .u64 0, .int .i64 0, .int .i64 0] (by rfl) (by rfl) HZR.out (by kernel_rfl) (by rfl) (by simp [Value.oneCell']) ?_
          go_wp2_with (fail)
          (try simp only [Exit.inBlock, Exit.then])
          have B9' : Blk (w9.setRow w.heap.size #[.slice ta tn tc, .slice da vn dc, .int .u64 (redoOf en a.dirty : Int), .int .i64 (a.most : Int), .int .i64 (a.recs : Int)]) w.heap.size 33 #[.slice ta tn tc, .slice da vn dc, .int .u64 (redoOf en a.dirty : Int), .int .i64 (a.most : Int), .int .i64 (a.recs : Int)] := setRow_heap w9 w.heap.size _ _ _ _ HZR.out
          have HSO : Hid (∀ q, q ≠ w.heap.size → (w9.setRow w.heap.size #[.slice ta tn tc, .slice da vn dc, .int .u64 (redoOf en a.dirty : Int), .int .i64 (a.most : Int), .int .i64 (a.recs : Int)]).heap[q]? = w9.heap[q]?) := fun q hq => setRow_other _ _ _ _ hq
          have HBB : Hid (Below w.heap.size w (w9.setRow w.heap.size #[.slice ta tn tc, .slice da vn dc, .int .u64 (redoOf en a.dirty : Int), .int .i64 (a.most : Int), .int .i64 (a.recs : Int)])) := belowRow HT.out.base HZR.out
          generalize w9.setRow w.heap.size #[.slice ta tn tc, .slice da vn dc, .int .u64 (redoOf en a.dirty : Int), .int .i64 (a.most : Int), .int .i64 (a.recs : Int)] = wz at *
          have r0 := B9'.cell 0
          have r1 := B9'.cell 1
          have r2 := B9'.cell 2
          have r3 := B9'.cell 3
          have r4 := B9'.cell 4
          simp at r0 r1 r2 r3 r4
          refine bodyPost_ret (v := .agg #[.slice ta tn tc, .slice da vn dc, .int .u64 (redoOf en a.dirty : Int), .int .i64 (a.most : Int), .int .i64 (a.recs : Int)]) (by simp [results, Tryz.results79, go_sem, r0, r1, r2, r3, r4]) rfl ?_
          rw [← HPOST.out]
          exact ⟨_, _, rfl, HBB.out, HT.out.txs.same (fun q hq => HSO.out _ (HNT.out.1 q hq)), HT.out.dirty.same (fun q hq => HSO.out _ (HNT.out.2 q hq)), HT.out.tne, HT.out.dne⟩
        · intro x c kl yd yp w2 cnt2 hkey hlk hv hat hrg2 hlt2 hg2 hs2 hen
          obtain ⟨x', ex, rfl⟩ := keyOf_page hkey
          obtain rfl : x = x' := encP_inj ex
          obtain ⟨rfl, -⟩ : yd = .held c ∧ True := by
            unfold anyV at hv
            simp at hv
            exact ⟨hv.1.symm, trivial⟩
          obtain ⟨hin, hcv⟩ := val_of_at hat
          unfold lsnV at hcv
          subst hcv
          have HC2 := Lib.hid (hC.step hlk hin)
          have e1 : valsP a.dirty (ss ++ [x]) = valsP a.dirty ss ++ [(x, (getL x a.dirty).getD 0)] := by unfold valsP; rw [List.map_append]; rfl
          have hvl : (valsP a.dirty ss).length = ss.length := by unfold valsP; rw [List.length_map]
          have E1 := Lib.hid e1
          clear e1
          obtain ⟨dv, HST⟩ := HSD.out
          generalize (getL x a.dirty).getD 0 = v0 at *
          generalize hds : valsP a.dirty ss = ds at *
          have HDS := Lib.hid hds
          have hdl : ds.length + 1 ≤ 1000000001 := by have := HCS.out; have := HDN.out; have := HL2.out; omega
          have HQ := Lib.hid (HST.other hg2 (iter_ne hrg) (by have := HRB.out; omega))
          have d1 : w2.cell? ⟨w.heap.size + 1, 1, none⟩ = some dv := HQ.out.fbx.cell 1
          obtain ⟨i0, hi, hz0, hz1, hz2⟩ := info_parts infoDirty
          have N1 : Hid (ds.length + 1 ≤ maxLen) := by show _ ≤ maxLen; simp only [maxLen]; omega
          have N2 : Hid ((ds.length + 1) * 16 ≤ 140737488355328) := by show _ ≤ 140737488355328; omega
          have O1 : Hid (∀ u ∈ [encP x, encL v0], u.oneCell' = true) := fun u hu => by simp at hu; rcases hu with rfl | rfl <;> rfl
          have HRG2 := Lib.hid (hrg2.alloc (.cells #[encP x, encL v0] 50))
          have HQ3 := Lib.hid (HQ.out.below ((Below.refl _ _).alloc (Nat.le_refl _) (.cells #[encP x, encL v0] 50)))
          have HNI := Lib.hid (iter_ne HRG2.out)
          have HM : Hid (wr.rangeLeft db rb = cnt) := hrg.left_eq
          have HLT := Lib.hid hlt2
          have HLB : Hid (db < w.heap.size ∧ w.heap.size + 2 ≤ (w2.alloc (.cells #[encP x, encL v0] 50)).heap.size) := ⟨HN.out.lt.2.2, HQ3.out.size⟩
          clear hkey hlk hv hat hin hC hrg2 hg2 hrg hlt2 ex hs2 HQ HST hdl HSD hvl hds
          go_wp2_with (at_builtin; refine wpList_append_lies _ (by rfl) _ _ 29 (by rfl) (w.heap.size + 2) 50 i0 _ 2 16 Tryz.underlying29 hi hz0 hz1 hz2 rfl (by omega) dv ds.length (cellsL dpC ds) (by rfl) HQ3.out.dirty ⟨w2.heap.size, 0, none⟩ 1 1 [encP x, encL v0] (by rfl) (by rfl) (World.news_of_block (cs := #[encP x, encL v0]) (t := 50) (fr := (0, 0)) (heap_alloc_new w2 _)) O1.out (by omega) N1.out N2.out HQ3.out.size _ rfl ?_; intro g4 c4 w4 ho hg hat4 hlt4; have q4 : w4.cell? ⟨w.heap.size + 1, 1, none⟩ = some dv := (HQ3.out.grownD hg).cell 1; have f4 : w4.frozen? ⟨w.heap.size + 1, 1, none⟩ = false := (HQ3.out.grownD hg).frozen 1)
          have hrg4 := ranges_same (HRG2.out.kept hg (fun e => by have := (HQ3.out.dirty.lt _ e.symm).1; have := HLB.out; omega) (fun e => own_ne_of HQ3.out.dirty HNI.out _ e.symm rfl)) (W' := w4.setCell ⟨w.heap.size + 1, 1, none⟩ (.slice (some ⟨g4, 0, none⟩) (ds.length + 1) c4)) (Below.heap_setCell _ _ _ _ (by have := HLB.out; simp only; omega)) (Below.heap_setCell _ _ _ _ (by have := HRB.out; simp only; omega))
          have HRG4 := Lib.hid hrg4
          have HB7 := Lib.hid (HQ3.out.pushD (t := (x, v0)) ho hg)
          have HRES : Hid (ToldD w a (redoOf en a.dirty) tv (.slice ka k kc) (ss ++ [x]) (w4.setCell ⟨w.heap.size + 1, 1, none⟩ (.slice (some ⟨g4, 0, none⟩) (ds.length + 1) c4))) := by
            show ToldD _ _ _ _ _ _ _
            unfold ToldD
            rw [E1.out]
            exact ⟨_, HB7.out⟩
          clear ho hg hat4 hlt4 hrg4 q4 f4 HQ3 HRG2 HB7
          go_roundw
          case rel => exact ⟨_, cnt2, ss ++ [x], HRG4.out, by have := HCS.out; have := HLT.out; show _ ≤ _; simp; omega, HC2.out, HRES⟩
          case measure => rw [HRG4.out.left_eq, HM.out]; exact HLT.out
end
end Go.Proofs.YtpnndlahfllbhaaGreat
