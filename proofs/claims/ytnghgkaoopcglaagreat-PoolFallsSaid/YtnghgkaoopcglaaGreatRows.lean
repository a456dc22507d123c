/-
  No cell of these rows narrows 'for every input' (looked for: loops, veiled, ifaces, maps, wideKeys, modest, calm, conditions, laid).
  DERIVED. THE GIVEN ROWS OF THIS SEAT. 7 by the template 'for every input the law returns true; each argument reads behind the call as it read before'; 0 by the template 'total and deterministic' (their statements: YtnghgkaoopcglaaGreatTotals.lean).
  GIVEN WITH THE SEED: the statements are not yours to turn. If you find one false, say at which input.
  Laid BY PROGRAM, IN A SANDBOX (cutbox-rows.mjs): the forced cells as the released guide's own fill.sh prints them over the translation 3626ef7f24e8743d… (all of the seat's roots in one cut). By AI agents, Wed Nov 11 2026. No macro, syntax, notation, axiom, sorry.
-/
import Derived.Test.YtnghgkaoopcglaaGreatChecked
import GoSem.Claim
import GoSem.ClaimJoined
import GoSem.ClaimMapViews
import Derived.JoinedTies
import Derived.KernelRfl
namespace Go.Proofs.YtnghgkaoopcglaaGreat
/- THE CELL 'sum', in the pinned program and in every row, IS THE sha256 OF THE DUMP (.gsa) THAT YtnghgkaoopcglaaGreatProg.lean LOADS. Nothing in Lean hashes anything: it is a label: what it is worth is what the hold of that sum in a sandbox is worth. -/
noncomputable def Tryz.pinned : Pinned := { name := "ytnghgkaoopcglaagreat", sum := "3626ef7f24e8743dc5272a178a222b69ae12cab0d1ba932554c1ca1c530afcb1", checked := Tryz.checked }
namespace Rows
def none {H : Type} : Left H := { results := [], args := [] }

/-- 'girderlaw19.AnalyzeFinds': WHATEVER THE INPUT: true; the input reads as it did. -/
def analyzeFindsSpec : ChangeSpec := { name := "analyzeFinds", fn := fun _ => fun
  | [d1, d2] => { results := [.lit (.bool true)], args := [d1, d2] }
  | _ => none }
def analyzeFindsRow : OpenClaim := { program := "ytnghgkaoopcglaagreat", sum := "3626ef7f24e8743dc5272a178a222b69ae12cab0d1ba932554c1ca1c530afcb1", func := "girder/girderlaw19.AnalyzeFinds", spec := "analyzeFinds", inPlace := ["internal/abi.NoEscape", "internal/bytealg.MakeNoZero"], unfollowed := true, recurses := true, apart := false }
def AnalyzeFindsSaid : Prop := analyzeFindsRow.holds Tryz.pinned (OpenSpec.ofChange analyzeFindsSpec)

/-- ITS FALSE NEIGHBOUR: 'it returns false'. Refute it at one input. -/
def analyzeFindsWrong : ChangeSpec := { name := "analyzeFinds", fn := fun _ => fun
  | [d1, d2] => { results := [.lit (.bool false)], args := [d1, d2] }
  | _ => none }
def AnalyzeFindsWrongFalsely : Prop := analyzeFindsRow.holds Tryz.pinned (OpenSpec.ofChange analyzeFindsWrong)

/-- 'girderlaw19.AnalyzeWrong': WHATEVER THE INPUT: true; the input reads as it did. -/
def analyzeWrongSpec : ChangeSpec := { name := "analyzeWrong", fn := fun _ => fun
  | [d1, d2] => { results := [.lit (.bool true)], args := [d1, d2] }
  | _ => none }
def analyzeWrongRow : OpenClaim := { program := "ytnghgkaoopcglaagreat", sum := "3626ef7f24e8743dc5272a178a222b69ae12cab0d1ba932554c1ca1c530afcb1", func := "girder/girderlaw19.AnalyzeWrong", spec := "analyzeWrong", inPlace := ["internal/abi.NoEscape", "internal/bytealg.MakeNoZero"], unfollowed := true, recurses := true, apart := false }
def AnalyzeWrongSaid : Prop := analyzeWrongRow.holds Tryz.pinned (OpenSpec.ofChange analyzeWrongSpec)

/-- ITS FALSE NEIGHBOUR: 'it returns false'. Refute it at one input. -/
def analyzeWrongWrong : ChangeSpec := { name := "analyzeWrong", fn := fun _ => fun
  | [d1, d2] => { results := [.lit (.bool false)], args := [d1, d2] }
  | _ => none }
def AnalyzeWrongWrongFalsely : Prop := analyzeWrongRow.holds Tryz.pinned (OpenSpec.ofChange analyzeWrongWrong)

/-- 'girderlaw19.AnalyzeTwice': WHATEVER THE INPUT: true; the input reads as it did. -/
def analyzeTwiceSpec : ChangeSpec := { name := "analyzeTwice", fn := fun _ => fun
  | [d] => { results := [.lit (.bool true)], args := [d] }
  | _ => none }
def analyzeTwiceRow : OpenClaim := { program := "ytnghgkaoopcglaagreat", sum := "3626ef7f24e8743dc5272a178a222b69ae12cab0d1ba932554c1ca1c530afcb1", func := "girder/girderlaw19.AnalyzeTwice", spec := "analyzeTwice", inPlace := ["internal/abi.NoEscape", "internal/bytealg.MakeNoZero"], unfollowed := true, recurses := true, apart := false }
def AnalyzeTwiceSaid : Prop := analyzeTwiceRow.holds Tryz.pinned (OpenSpec.ofChange analyzeTwiceSpec)

/-- ITS FALSE NEIGHBOUR: 'it returns false'. Refute it at one input. -/
def analyzeTwiceWrong : ChangeSpec := { name := "analyzeTwice", fn := fun _ => fun
  | [d] => { results := [.lit (.bool false)], args := [d] }
  | _ => none }
def AnalyzeTwiceWrongFalsely : Prop := analyzeTwiceRow.holds Tryz.pinned (OpenSpec.ofChange analyzeTwiceWrong)

/-- 'girderlaw06.PoolRules': WHATEVER THE INPUT: true; the input reads as it did. -/
def poolRulesSpec : ChangeSpec := { name := "poolRules", fn := fun _ => fun
  | [d] => { results := [.lit (.bool true)], args := [d] }
  | _ => none }
def poolRulesRow : OpenClaim := { program := "ytnghgkaoopcglaagreat", sum := "3626ef7f24e8743dc5272a178a222b69ae12cab0d1ba932554c1ca1c530afcb1", func := "girder/girderlaw06.PoolRules", spec := "poolRules", inPlace := ["internal/abi.NoEscape", "internal/bytealg.MakeNoZero", "internal/bytealg.CountString", "internal/bytealg.IndexByteString", "internal/bytealg.IndexString"], unfollowed := true, recurses := true, named := ["internal/bytealg.MaxLen"], apart := false }
def PoolRulesSaid : Prop := poolRulesRow.holds Tryz.pinned (OpenSpec.ofChange poolRulesSpec)

/-- ITS FALSE NEIGHBOUR: 'it returns false'. Refute it at one input. -/
def poolRulesWrong : ChangeSpec := { name := "poolRules", fn := fun _ => fun
  | [d] => { results := [.lit (.bool false)], args := [d] }
  | _ => none }
def PoolRulesWrongFalsely : Prop := poolRulesRow.holds Tryz.pinned (OpenSpec.ofChange poolRulesWrong)

/-- 'girderlaw06.PoolFalls': WHATEVER THE INPUT: true; the input reads as it did. -/
def poolFallsSpec : ChangeSpec := { name := "poolFalls", fn := fun _ => fun
  | [d1, d2] => { results := [.lit (.bool true)], args := [d1, d2] }
  | _ => none }
def poolFallsRow : OpenClaim := { program := "ytnghgkaoopcglaagreat", sum := "3626ef7f24e8743dc5272a178a222b69ae12cab0d1ba932554c1ca1c530afcb1", func := "girder/girderlaw06.PoolFalls", spec := "poolFalls", inPlace := ["internal/abi.NoEscape", "internal/bytealg.MakeNoZero", "internal/bytealg.CountString", "internal/bytealg.IndexByteString", "internal/bytealg.IndexString"], unfollowed := true, recurses := true, named := ["internal/bytealg.MaxLen"], apart := false }
def PoolFallsSaid : Prop := poolFallsRow.holds Tryz.pinned (OpenSpec.ofChange poolFallsSpec)

/-- ITS FALSE NEIGHBOUR: 'it returns false'. Refute it at one input. -/
def poolFallsWrong : ChangeSpec := { name := "poolFalls", fn := fun _ => fun
  | [d1, d2] => { results := [.lit (.bool false)], args := [d1, d2] }
  | _ => none }
def PoolFallsWrongFalsely : Prop := poolFallsRow.holds Tryz.pinned (OpenSpec.ofChange poolFallsWrong)

/-- 'girderlaw06.PoolSizes': WHATEVER THE INPUT: true; the input reads as it did. -/
def poolSizesSpec : ChangeSpec := { name := "poolSizes", fn := fun _ => fun
  | [d1, d2, d3] => { results := [.lit (.bool true)], args := [d1, d2, d3] }
  | _ => none }
def poolSizesRow : OpenClaim := { program := "ytnghgkaoopcglaagreat", sum := "3626ef7f24e8743dc5272a178a222b69ae12cab0d1ba932554c1ca1c530afcb1", func := "girder/girderlaw06.PoolSizes", spec := "poolSizes", inPlace := ["internal/abi.NoEscape", "internal/bytealg.MakeNoZero", "internal/bytealg.CountString", "internal/bytealg.IndexByteString", "internal/bytealg.IndexString"], unfollowed := true, recurses := true, named := ["internal/bytealg.MaxLen"], apart := false }
def PoolSizesSaid : Prop := poolSizesRow.holds Tryz.pinned (OpenSpec.ofChange poolSizesSpec)

/-- ITS FALSE NEIGHBOUR: 'it returns false'. Refute it at one input. -/
def poolSizesWrong : ChangeSpec := { name := "poolSizes", fn := fun _ => fun
  | [d1, d2, d3] => { results := [.lit (.bool false)], args := [d1, d2, d3] }
  | _ => none }
def PoolSizesWrongFalsely : Prop := poolSizesRow.holds Tryz.pinned (OpenSpec.ofChange poolSizesWrong)

/-- 'girderlaw06.PoolPlays': WHATEVER THE INPUT: true; the input reads as it did. -/
def poolPlaysSpec : ChangeSpec := { name := "poolPlays", fn := fun _ => fun
  | [d1, d2] => { results := [.lit (.bool true)], args := [d1, d2] }
  | _ => none }
def poolPlaysRow : OpenClaim := { program := "ytnghgkaoopcglaagreat", sum := "3626ef7f24e8743dc5272a178a222b69ae12cab0d1ba932554c1ca1c530afcb1", func := "girder/girderlaw06.PoolPlays", spec := "poolPlays", inPlace := ["internal/abi.NoEscape", "internal/bytealg.MakeNoZero", "internal/bytealg.CountString", "internal/bytealg.IndexByteString", "internal/bytealg.IndexString"], unfollowed := true, recurses := true, named := ["internal/bytealg.MaxLen"], apart := false }
def PoolPlaysSaid : Prop := poolPlaysRow.holds Tryz.pinned (OpenSpec.ofChange poolPlaysSpec)

/-- ITS FALSE NEIGHBOUR: 'it returns false'. Refute it at one input. -/
def poolPlaysWrong : ChangeSpec := { name := "poolPlays", fn := fun _ => fun
  | [d1, d2] => { results := [.lit (.bool false)], args := [d1, d2] }
  | _ => none }
def PoolPlaysWrongFalsely : Prop := poolPlaysRow.holds Tryz.pinned (OpenSpec.ofChange poolPlaysWrong)

/- THE SECOND FORM. 'bulk': how many values and letters a reading holds, each counted each time it is reached (what is shared counts as often as it is met; a slice's spare places count too). A statement '..UptoSaid' is the law's where the arguments, and the package variables that the reading takes, are together of bulk at most 1048576: NARROWER than '..Said'. Prove '..Said' where nothing that the law and all that it calls make is longer than what came in: it says more and counts as full. Else prove '..UptoSaid'. A law counts once. -/
mutual
def uptoBulk {H : Type} : DataW H → Nat
  | .lit (.string bytes) => bytes.length + 1
  | .lit _ => 1
  | .nil => 1
  | .ptr d => uptoBulk d + 1
  | .slice elems spare => uptoBulkAll elems + uptoBulkAll spare + 1
  | .agg parts => uptoBulkAll parts + 1
  | .iface _ d => uptoBulk d + 1
  | .map entries => uptoBulkEntries entries + 1
  | .held _ => 1
def uptoBulkAll {H : Type} : List (DataW H) → Nat
  | [] => 0
  | d :: r => uptoBulk d + uptoBulkAll r
def uptoBulkEntries {H : Type} : List (Lit × DataW H) → Nat
  | [] => 0
  | x :: r => uptoBulkEntry x + uptoBulkEntries r
def uptoBulkEntry {H : Type} : Lit × DataW H → Nat
  | (.string bytes, d) => bytes.length + uptoBulk d + 1
  | (_, d) => uptoBulk d + 1
 end
def uptoSmall : (H : Type) → List (DataW H) → Bool := fun _ ds => decide (uptoBulkAll ds ≤ 1048576)
def OpenSpec.upto (s : _root_.Go.ChangeSpec) : _root_.Go.OpenSpec := { _root_.Go.OpenSpec.ofChange s with cond := some uptoSmall }

/-- 'girderlaw19.AnalyzeFinds', WHERE WHAT IT READS IS OF BULK AT MOST 1048576: true; the input reads as it did. -/
def analyzeFindsUptoRow : OpenClaim := { program := "ytnghgkaoopcglaagreat", sum := "3626ef7f24e8743dc5272a178a222b69ae12cab0d1ba932554c1ca1c530afcb1", func := "girder/girderlaw19.AnalyzeFinds", spec := "analyzeFinds", inPlace := ["internal/abi.NoEscape", "internal/bytealg.MakeNoZero"], unfollowed := true, recurses := true, apart := false, narrowed := true }
def AnalyzeFindsUptoSaid : Prop := analyzeFindsUptoRow.holds Tryz.pinned (OpenSpec.upto analyzeFindsSpec)

/-- 'girderlaw19.AnalyzeWrong', WHERE WHAT IT READS IS OF BULK AT MOST 1048576: true; the input reads as it did. -/
def analyzeWrongUptoRow : OpenClaim := { program := "ytnghgkaoopcglaagreat", sum := "3626ef7f24e8743dc5272a178a222b69ae12cab0d1ba932554c1ca1c530afcb1", func := "girder/girderlaw19.AnalyzeWrong", spec := "analyzeWrong", inPlace := ["internal/abi.NoEscape", "internal/bytealg.MakeNoZero"], unfollowed := true, recurses := true, apart := false, narrowed := true }
def AnalyzeWrongUptoSaid : Prop := analyzeWrongUptoRow.holds Tryz.pinned (OpenSpec.upto analyzeWrongSpec)

/-- 'girderlaw19.AnalyzeTwice', WHERE WHAT IT READS IS OF BULK AT MOST 1048576: true; the input reads as it did. -/
def analyzeTwiceUptoRow : OpenClaim := { program := "ytnghgkaoopcglaagreat", sum := "3626ef7f24e8743dc5272a178a222b69ae12cab0d1ba932554c1ca1c530afcb1", func := "girder/girderlaw19.AnalyzeTwice", spec := "analyzeTwice", inPlace := ["internal/abi.NoEscape", "internal/bytealg.MakeNoZero"], unfollowed := true, recurses := true, apart := false, narrowed := true }
def AnalyzeTwiceUptoSaid : Prop := analyzeTwiceUptoRow.holds Tryz.pinned (OpenSpec.upto analyzeTwiceSpec)

/-- 'girderlaw06.PoolRules', WHERE WHAT IT READS IS OF BULK AT MOST 1048576: true; the input reads as it did. -/
def poolRulesUptoRow : OpenClaim := { program := "ytnghgkaoopcglaagreat", sum := "3626ef7f24e8743dc5272a178a222b69ae12cab0d1ba932554c1ca1c530afcb1", func := "girder/girderlaw06.PoolRules", spec := "poolRules", inPlace := ["internal/abi.NoEscape", "internal/bytealg.MakeNoZero", "internal/bytealg.CountString", "internal/bytealg.IndexByteString", "internal/bytealg.IndexString"], unfollowed := true, recurses := true, named := ["internal/bytealg.MaxLen"], apart := false, narrowed := true }
def PoolRulesUptoSaid : Prop := poolRulesUptoRow.holds Tryz.pinned (OpenSpec.upto poolRulesSpec)

/-- 'girderlaw06.PoolFalls', WHERE WHAT IT READS IS OF BULK AT MOST 1048576: true; the input reads as it did. -/
def poolFallsUptoRow : OpenClaim := { program := "ytnghgkaoopcglaagreat", sum := "3626ef7f24e8743dc5272a178a222b69ae12cab0d1ba932554c1ca1c530afcb1", func := "girder/girderlaw06.PoolFalls", spec := "poolFalls", inPlace := ["internal/abi.NoEscape", "internal/bytealg.MakeNoZero", "internal/bytealg.CountString", "internal/bytealg.IndexByteString", "internal/bytealg.IndexString"], unfollowed := true, recurses := true, named := ["internal/bytealg.MaxLen"], apart := false, narrowed := true }
def PoolFallsUptoSaid : Prop := poolFallsUptoRow.holds Tryz.pinned (OpenSpec.upto poolFallsSpec)

/-- 'girderlaw06.PoolSizes', WHERE WHAT IT READS IS OF BULK AT MOST 1048576: true; the input reads as it did. -/
def poolSizesUptoRow : OpenClaim := { program := "ytnghgkaoopcglaagreat", sum := "3626ef7f24e8743dc5272a178a222b69ae12cab0d1ba932554c1ca1c530afcb1", func := "girder/girderlaw06.PoolSizes", spec := "poolSizes", inPlace := ["internal/abi.NoEscape", "internal/bytealg.MakeNoZero", "internal/bytealg.CountString", "internal/bytealg.IndexByteString", "internal/bytealg.IndexString"], unfollowed := true, recurses := true, named := ["internal/bytealg.MaxLen"], apart := false, narrowed := true }
def PoolSizesUptoSaid : Prop := poolSizesUptoRow.holds Tryz.pinned (OpenSpec.upto poolSizesSpec)

/-- 'girderlaw06.PoolPlays', WHERE WHAT IT READS IS OF BULK AT MOST 1048576: true; the input reads as it did. -/
def poolPlaysUptoRow : OpenClaim := { program := "ytnghgkaoopcglaagreat", sum := "3626ef7f24e8743dc5272a178a222b69ae12cab0d1ba932554c1ca1c530afcb1", func := "girder/girderlaw06.PoolPlays", spec := "poolPlays", inPlace := ["internal/abi.NoEscape", "internal/bytealg.MakeNoZero", "internal/bytealg.CountString", "internal/bytealg.IndexByteString", "internal/bytealg.IndexString"], unfollowed := true, recurses := true, named := ["internal/bytealg.MaxLen"], apart := false, narrowed := true }
def PoolPlaysUptoSaid : Prop := poolPlaysUptoRow.holds Tryz.pinned (OpenSpec.upto poolPlaysSpec)

end Rows
end Go.Proofs.YtnghgkaoopcglaaGreat
