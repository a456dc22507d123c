/-
  The walk of 'WalFull'.
-/
import Derived.Test.YtnobiekgifjaeaaY3
import Derived.Test.YtnobiekgifjaeaaB0
import Derived.Deep.LoopGhost
namespace Go.Proofs.Ytnobiekgifjaeaa
open Go.RowKit
attribute [local go_sem ↓] Go.wp_at_zero Go.wp_at_succ

def zz : ByteArray := ⟨(List.replicate 8192 (0 : UInt8)).toArray⟩
theorem zz_size : zz.size = 8192 := by
  show (List.replicate 8192 (0 : UInt8)).toArray.size = 8192
  rw [List.size_toArray, List.length_replicate]
def zrow : Array Value := rowOf (List.replicate 8192 0)
theorem make_zz (W : World) : (Instr.makeSlice 22 (.int .i64 8192) (.int .i64 8192)).run Try.prog W = .ok (.slice (some ⟨W.heap.size, 0, none⟩) 8192 8192) (W.alloc (.cells zrow 5)) := by
  obtain ⟨i0, hi, hz0, hz1, hz2⟩ := info_parts infoByte
  have h := run_make (P := Try.prog) W 22 5 i0 (.int .u8 0) Try.underlying22 hi hz0 .i64 .i64 8192 8192 (by omega) (by omega) (by rw [hz2]; decide) (by omega)
  have e : madeCells (Value.int .u8 0).cells ((8192 : Int).toNat * i0.size) = zrow := by
    rw [hz1, made_row]
    rfl
  rw [e] at h
  exact h
theorem zz_string (W : World) (B : Nat) (h : Blk W B 5 zrow) : (convert 22 9 (.slice (some ⟨B, 0, none⟩) 8192 8192)).run Try.prog W = .ok (.string zz) W := by
  have h1 := run_convert_bytes_arg (P := Try.prog) W 22 5 Try.underlying22 Try.underlying5 B 0 8192 8192 (List.replicate 8192 ((0 : UInt8).toNat : Int)) (by rw [List.length_replicate]) (fun i hi => by
    rw [h.cell, Nat.zero_add]
    unfold zrow rowOf
    simp only [List.getElem?_toArray, List.getElem?_map, List.getElem?_replicate, if_pos hi, Option.map_some, List.getD]
    rfl) 9 Try.underlying9
  have e : strOfNums (List.replicate 8192 ((0 : UInt8).toNat : Int)) = zz := strOf_rep 0 8192
  rw [e] at h1
  exact h1

def fullG (l : List ByteArray) (k : Int) : Lg := { recs := l, sure := 0, kept := k, tail := frames 1 l, marks := 0 }
theorem fullG_tight (l : List ByteArray) (k : Int) : (fullG l k).tight := backG_tight l
theorem fullG_add (l : List ByteArray) (k : Int) (s : ByteArray) : (fullG l k).add s = fullG (l ++ [s]) k := by
  show (⟨l ++ [s], 0, k, frames 1 l ++ frameB (endFrom 1 l) s, 0⟩ : Lg) = ⟨l ++ [s], 0, k, frames 1 (l ++ [s]), 0⟩
  rw [frames_snoc]
theorem fullG_end (l : List ByteArray) (k : Int) : (fullG l k).end_ = endFrom 1 l := rfl
theorem full_ok {l : List ByteArray} {k : Int} {s : ByteArray} {kept : Int} (hs : 1 ≤ s.size ∧ s.size ≤ 8192) (hf : (s.size : Int) + 12 + kept ≤ 4194305 - (endFrom 1 l : Int)) :
    (fullG l k).tryAdd s kept = fullG (l ++ [s]) k ∧ addV (fullG l k) s kept = .tuple #[.int .u64 (endFrom 1 l : Int), .int .i64 0] := by
  have hb : ¬ badRec s := by unfold badRec; omega
  have hf : ¬ addFull (fullG l k) s kept := by
    unfold addFull
    rw [fullG_end]
    omega
  unfold Lg.tryAdd addV
  rw [if_neg hb, if_neg hf, if_neg hb, if_neg hf]
  exact ⟨fullG_add l k s, rfl⟩
theorem full_no {l : List ByteArray} {k : Int} {s : ByteArray} {kept : Int} (hs : 1 ≤ s.size ∧ s.size ≤ 8192) (hf : 4194305 - (endFrom 1 l : Int) < (s.size : Int) + 12 + kept) :
    (fullG l k).tryAdd s kept = fullG l k ∧ addV (fullG l k) s kept = .tuple #[.int .u64 0, .int .i64 50] := by
  have hb : ¬ badRec s := by unfold badRec; omega
  have hf : addFull (fullG l k) s kept := hf
  unfold Lg.tryAdd addV
  rw [if_neg hb, if_pos hf, if_neg hb, if_pos hf]
  exact ⟨rfl, rfl⟩
theorem full_spend {l : List ByteArray} {k : Int} {s : ByteArray} (hs : 1 ≤ s.size ∧ s.size ≤ 8192) (hf : (s.size : Int) + 12 ≤ 4194305 - (endFrom 1 l : Int)) :
    (fullG l k).spend s = fullG (l ++ [s]) (lessOf k ((s.size : Int) + 12)) := by
  have hb : ¬ badRec s := by unfold badRec; omega
  have hf : ¬ addFull (fullG l k) s 0 := by
    unfold addFull
    rw [fullG_end]
    omega
  unfold Lg.spend
  rw [if_neg hb, if_neg hf, fullG_add]
  rfl
theorem full_keep {l : List ByteArray} {k n : Int} (h0 : 0 ≤ n) (h1 : n ≤ 4194305 - (endFrom 1 l : Int) - k) : (fullG l k).keep n = fullG l (k + n) ∧ keepCode (fullG l k) n = 0 := by
  unfold Lg.keep keepCode
  have h2 : ¬ (4194305 - ((fullG l k).end_ : Int) - (fullG l k).kept < n) := by show ¬ (4194305 - (endFrom 1 l : Int) - k < n); omega
  rw [if_neg (by omega), if_neg h2, if_neg (by omega), if_neg h2]
  exact ⟨rfl, rfl⟩
theorem full_keep_no {l : List ByteArray} {k n : Int} (h0 : 0 ≤ n) (h1 : 4194305 - (endFrom 1 l : Int) - k < n) : (fullG l k).keep n = fullG l k ∧ keepCode (fullG l k) n = 50 := by
  unfold Lg.keep keepCode
  have h2 : 4194305 - ((fullG l k).end_ : Int) - (fullG l k).kept < n := h1
  rw [if_neg (by omega), if_pos h2, if_neg (by omega), if_pos h2]
  exact ⟨rfl, rfl⟩
theorem endFrom_rep (z : ByteArray) : ∀ (k p : Nat), endFrom p (List.replicate k z) = p + (z.size + 12) * k
  | 0, _ => rfl
  | k + 1, p => by
    rw [List.replicate_succ, endFrom, endFrom_rep z k, Nat.mul_succ]
    omega

def FullX (w : World) (b lb : Nat) (l : List ByteArray) (k : Int) (W : World) : Prop := LW w (fun _ => False) (fun _ => True) b lb ⟨#[]⟩ 0 (fullG l k) W
section
variable {w W : World} {b lb : Nat} {l : List ByteArray} {k : Int}
theorem FullX.append (h : FullX w b lb l k W) {s : ByteArray} (hs : 1 ≤ s.size ∧ s.size ≤ 8192) (hf : (s.size : Int) + 12 + k ≤ 4194305 - (endFrom 1 l : Int)) :
    Calls Try.prog 39 #[.pointer (some ⟨lb, 0, none⟩), .string s] W fun e w' => e = .returned (.tuple #[.int .u64 (endFrom 1 l : Int), .int .i64 0]) ∧ FullX w b lb (l ++ [s]) k w' := by
  have := h.logs stable_none (fun G h1 => lappend_c h1 (fullG_tight l k) s (by omega))
  obtain ⟨e1, e2⟩ := full_ok (l := l) (k := k) hs hf
  rw [show (fullG l k).kept = k from rfl, e1, e2] at this
  exact this
theorem FullX.append_no (h : FullX w b lb l k W) {s : ByteArray} (hs : 1 ≤ s.size ∧ s.size ≤ 8192) (hf : 4194305 - (endFrom 1 l : Int) < (s.size : Int) + 12 + k) :
    Calls Try.prog 39 #[.pointer (some ⟨lb, 0, none⟩), .string s] W fun e w' => e = .returned (.tuple #[.int .u64 0, .int .i64 50]) ∧ FullX w b lb l k w' := by
  have := h.logs stable_none (fun G h1 => lappend_c h1 (fullG_tight l k) s (by omega))
  obtain ⟨e1, e2⟩ := full_no (l := l) (k := k) hs hf
  rw [show (fullG l k).kept = k from rfl, e1, e2] at this
  exact this
theorem FullX.spend (h : FullX w b lb l k W) {s : ByteArray} (hs : 1 ≤ s.size ∧ s.size ≤ 8192) (hf : (s.size : Int) + 12 ≤ 4194305 - (endFrom 1 l : Int)) :
    Calls Try.prog 45 #[.pointer (some ⟨lb, 0, none⟩), .string s] W fun e w' => e = .returned (.tuple #[.int .u64 (endFrom 1 l : Int), .int .i64 0]) ∧ FullX w b lb (l ++ [s]) (lessOf k ((s.size : Int) + 12)) w' := by
  have := h.logs stable_none (fun G h1 => lspend_c h1 (fullG_tight l k) s (by omega))
  obtain ⟨e1, e2⟩ := full_ok (l := l) (k := k) (kept := 0) hs (by omega)
  rw [e2, full_spend hs hf] at this
  exact this
theorem FullX.keep (h : FullX w b lb l k W) {n : Int} (h0 : 0 ≤ n) (hn : n ≤ 9223372036854775807) (h1 : n ≤ 4194305 - (endFrom 1 l : Int) - k) :
    Calls Try.prog 43 #[.pointer (some ⟨lb, 0, none⟩), .int .i64 n] W fun e w' => e = .returned (.int .i64 0) ∧ FullX w b lb l (k + n) w' := by
  have := h.logs stable_none (fun G hG => lkeep_c hG n (by omega))
  obtain ⟨e1, e2⟩ := full_keep h0 h1
  rw [e1, e2] at this
  exact this
theorem FullX.keep_no (h : FullX w b lb l k W) {n : Int} (h0 : 0 ≤ n) (hn : n ≤ 9223372036854775807) (h1 : 4194305 - (endFrom 1 l : Int) - k < n) :
    Calls Try.prog 43 #[.pointer (some ⟨lb, 0, none⟩), .int .i64 n] W fun e w' => e = .returned (.int .i64 50) ∧ FullX w b lb l k w' := by
  have := h.logs stable_none (fun G hG => lkeep_c hG n (by omega))
  obtain ⟨e1, e2⟩ := full_keep_no h0 h1
  rw [e1, e2] at this
  exact this
theorem FullX.room (h : FullX w b lb l k W) : Calls Try.prog 44 #[.pointer (some ⟨lb, 0, none⟩)] W fun e w' => e = .returned (.int .i64 (4194305 - (endFrom 1 l : Int))) ∧ FullX w b lb l k w' :=
  h.gets0 stable_none (fun G hG => lroom_c hG)
theorem FullX.kept (h : FullX w b lb l k W) : Calls Try.prog 46 #[.pointer (some ⟨lb, 0, none⟩)] W fun e w' => e = .returned (.int .i64 k) ∧ FullX w b lb l k w' :=
  h.gets0 stable_none (fun G hG => lkept_c hG)
end
end Go.Proofs.Ytnobiekgifjaeaa
