/-
  The walk of 'Plan'.
-/
import Derived.Test.YtnghgkaoopcglaaGreatZ1
namespace Go.Proofs.YtnghgkaoopcglaaGreat
open Go.RowKit
attribute [local go_sem ↓] Go.wp_at_zero Go.wp_at_succ

section
variable {w : World} {F : Nat → Prop} {b : Nat} {m : Dk}
set_option maxRecDepth 100000 in
set_option maxHeartbeats 1000000 in
theorem plan_c (h : DiskAt w F b m) (l : List Fl) (pa : Option Addr) (pn pc : Nat) (HC : Calls Tryz.prog 80 #[.slice pa pn pc] w (CopyPost w l)) :
    Calls Tryz.prog 29 #[.pointer (some ⟨b, 0, none⟩), .slice pa pn pc] w fun e w' => e = .returned (.tuple #[]) ∧ DPost w F b { m with plan := l } w' := by
  obtain ⟨mb, lv, pv, h⟩ := h
  have hb := h.lt b h.fb
  have H := Lib.hid h
  have HCC := Lib.hid HC
  clear h HC
  go_enter Tryz.func29, Tryz.ntmps29
  go_wp2_with (fail)
  refine HCC.out.mono ?_
  rintro e w1 ⟨v, rfl, ho, hbl⟩
  obtain ⟨va, vc, hve⟩ := own_form ho
  subst hve
  generalize hgv : Value.slice va l.length vc = v at *
  have HV := Lib.hid hgv
  have h1 := H.out.below hbl
  have c7 := h1.cells.2.2.2.2.2.2.2.1
  have f7 := h1.cells.2.2.2.2.2.2.2.2.2 7
  have HP : Hid (DPost w F b { m with plan := l } (w1.setCell ⟨b, 7, none⟩ v)) := by
    have hh : ∀ r, r ≠ b → (w1.setCell ⟨b, 7, none⟩ v).heap[r]? = w1.heap[r]? := fun r hr => Below.heap_setCell _ _ _ r hr
    have hsz : (w1.setCell ⟨b, 7, none⟩ v).heap.size = w1.heap.size := by simp [World.setCell]
    have hv : ∀ k, v.ownBlock = some k → w.heap.size ≤ k ∧ k < w1.heap.size := fun k hk => ho.lt k hk
    have ok := H.out.ok
    refine ⟨fun r => F r ∨ v.ownBlock = some r, ⟨mb, lv, v, ?_⟩, ((Step.below hbl).setCell (.inl H.out.fb) v), fun r hr => ?_⟩
    · exact h1.anew (fun r hr _ => hh r hr) (Nat.le_of_eq hsz.symm) (h1.blk.set_ 7 v) rfl (own_same h1.loose (fun g hg => hh g (h1.loose_ne g hg)))
        (own_base (own_same ho (fun k hk => hh k (by have := hv k hk; omega)))) (fun _ h => .inl h) (fun g hg => .inl (h1.fl g hg)) (fun g hg => .inr hg)
        ⟨ok.room1, ok.room2, ok.calls1, ok.calls2, ok.logs, ok.loose, ok.pages⟩ (fun r hr => by
          rw [hsz]
          rcases hr with hr | hr
          · exact h1.lt r hr
          · exact (hv r hr).2)
    · rcases hr with hr | hr
      · exact .inl hr
      · exact .inr (hv r hr).1
  clear ho h1 hbl
  subst hgv
  go_wp2
  go_end0
  exact ⟨rfl, HP.out⟩
theorem copy_nil (w : World) : Calls Tryz.prog 80 #[.slice none 0 0] w (CopyPost w []) := (cloneFall_nil w).mono fun _ _ ⟨he, hb⟩ => ⟨_, he, World.ownsRow_nil _ _ _ _, hb⟩
end
end Go.Proofs.YtnghgkaoopcglaaGreat
