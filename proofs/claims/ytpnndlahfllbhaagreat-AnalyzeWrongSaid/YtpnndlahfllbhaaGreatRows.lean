/-
  No cell of these rows narrows 'for every input' (looked for: loops, veiled, ifaces, maps, wideKeys, modest, calm, conditions, laid).
  DERIVED. THE GIVEN ROWS OF THIS SEAT. 13 by the template 'for every input the law returns true; each argument reads behind the call as it read before'; 0 by the template 'total and deterministic' (their statements: YtpnndlahfllbhaaGreatTotals.lean).
  GIVEN WITH THE SEED: the statements are not yours to turn. If you find one false, say at which input.
  Laid BY PROGRAM, IN A SANDBOX (cutbox-rows.mjs): the forced cells as the released guide's own fill.sh prints them over the translation f00643f52522084b… (all of the seat's roots in one cut). By AI agents, Wed Nov 11 2026. No macro, syntax, notation, axiom, sorry.
-/
import Derived.Test.YtpnndlahfllbhaaGreatChecked
import GoSem.Claim
import GoSem.ClaimJoined
import GoSem.ClaimMapViews
import Derived.JoinedTies
import Derived.KernelRfl
namespace Go.Proofs.YtpnndlahfllbhaaGreat
/- THE CELL 'sum', in the pinned program and in every row, IS THE sha256 OF THE DUMP (.gsa) THAT YtpnndlahfllbhaaGreatProg.lean LOADS. Nothing in Lean hashes anything: it is a label: what it is worth is what the hold of that sum in a sandbox is worth. -/
noncomputable def Tryz.pinned : Pinned := { name := "ytpnndlahfllbhaagreat", sum := "f00643f52522084b45cd6107d0bb35464500da2661881318b0ede8347145316f", checked := Tryz.checked }
namespace Rows
def none {H : Type} : Left H := { results := [], args := [] }

/-- 'girderlaw19.AnalyzeFinds': WHATEVER THE INPUT: true; the input reads as it did. -/
def analyzeFindsSpec : ChangeSpec := { name := "analyzeFinds", fn := fun _ => fun
  | [d1, d2] => { results := [.lit (.bool true)], args := [d1, d2] }
  | _ => none }
def analyzeFindsRow : OpenClaim := { program := "ytpnndlahfllbhaagreat", sum := "f00643f52522084b45cd6107d0bb35464500da2661881318b0ede8347145316f", func := "girder/girderlaw19.AnalyzeFinds", spec := "analyzeFinds", inPlace := ["internal/abi.NoEscape", "internal/bytealg.MakeNoZero"], unfollowed := true, recurses := true, plainKeys := false, apart := false }
def AnalyzeFindsSaid : Prop := analyzeFindsRow.holds Tryz.pinned (OpenSpec.ofChange analyzeFindsSpec)

/-- ITS FALSE NEIGHBOUR: 'it returns false'. Refute it at one input. -/
def analyzeFindsWrong : ChangeSpec := { name := "analyzeFinds", fn := fun _ => fun
  | [d1, d2] => { results := [.lit (.bool false)], args := [d1, d2] }
  | _ => none }
def AnalyzeFindsWrongFalsely : Prop := analyzeFindsRow.holds Tryz.pinned (OpenSpec.ofChange analyzeFindsWrong)

/-- 'girderlaw19.AnalyzeWrong': WHATEVER THE INPUT: true; the input reads as it did. -/
def analyzeWrongSpec : ChangeSpec := { name := "analyzeWrong", fn := fun _ => fun
  | [d1, d2] => { results := [.lit (.bool true)], args := [d1, d2] }
  | _ => none }
def analyzeWrongRow : OpenClaim := { program := "ytpnndlahfllbhaagreat", sum := "f00643f52522084b45cd6107d0bb35464500da2661881318b0ede8347145316f", func := "girder/girderlaw19.AnalyzeWrong", spec := "analyzeWrong", inPlace := ["internal/abi.NoEscape", "internal/bytealg.MakeNoZero"], unfollowed := true, recurses := true, plainKeys := false, apart := false }
def AnalyzeWrongSaid : Prop := analyzeWrongRow.holds Tryz.pinned (OpenSpec.ofChange analyzeWrongSpec)

/-- ITS FALSE NEIGHBOUR: 'it returns false'. Refute it at one input. -/
def analyzeWrongWrong : ChangeSpec := { name := "analyzeWrong", fn := fun _ => fun
  | [d1, d2] => { results := [.lit (.bool false)], args := [d1, d2] }
  | _ => none }
def AnalyzeWrongWrongFalsely : Prop := analyzeWrongRow.holds Tryz.pinned (OpenSpec.ofChange analyzeWrongWrong)

/-- 'girderlaw19.AnalyzeTwice': WHATEVER THE INPUT: true; the input reads as it did. -/
def analyzeTwiceSpec : ChangeSpec := { name := "analyzeTwice", fn := fun _ => fun
  | [d] => { results := [.lit (.bool true)], args := [d] }
  | _ => none }
def analyzeTwiceRow : OpenClaim := { program := "ytpnndlahfllbhaagreat", sum := "f00643f52522084b45cd6107d0bb35464500da2661881318b0ede8347145316f", func := "girder/girderlaw19.AnalyzeTwice", spec := "analyzeTwice", inPlace := ["internal/abi.NoEscape", "internal/bytealg.MakeNoZero"], unfollowed := true, recurses := true, plainKeys := false, apart := false }
def AnalyzeTwiceSaid : Prop := analyzeTwiceRow.holds Tryz.pinned (OpenSpec.ofChange analyzeTwiceSpec)

/-- ITS FALSE NEIGHBOUR: 'it returns false'. Refute it at one input. -/
def analyzeTwiceWrong : ChangeSpec := { name := "analyzeTwice", fn := fun _ => fun
  | [d] => { results := [.lit (.bool false)], args := [d] }
  | _ => none }
def AnalyzeTwiceWrongFalsely : Prop := analyzeTwiceRow.holds Tryz.pinned (OpenSpec.ofChange analyzeTwiceWrong)

/-- 'girderlaw06.PoolSizes': WHATEVER THE INPUT: true; the input reads as it did. -/
def poolSizesSpec : ChangeSpec := { name := "poolSizes", fn := fun _ => fun
  | [d1, d2, d3] => { results := [.lit (.bool true)], args := [d1, d2, d3] }
  | _ => none }
def poolSizesRow : OpenClaim := { program := "ytpnndlahfllbhaagreat", sum := "f00643f52522084b45cd6107d0bb35464500da2661881318b0ede8347145316f", func := "girder/girderlaw06.PoolSizes", spec := "poolSizes", inPlace := ["internal/abi.NoEscape", "internal/bytealg.MakeNoZero", "internal/bytealg.CountString", "internal/bytealg.IndexByteString", "internal/bytealg.IndexString"], unfollowed := true, recurses := true, named := ["internal/bytealg.MaxLen"], plainKeys := false, apart := false }
def PoolSizesSaid : Prop := poolSizesRow.holds Tryz.pinned (OpenSpec.ofChange poolSizesSpec)

/-- ITS FALSE NEIGHBOUR: 'it returns false'. Refute it at one input. -/
def poolSizesWrong : ChangeSpec := { name := "poolSizes", fn := fun _ => fun
  | [d1, d2, d3] => { results := [.lit (.bool false)], args := [d1, d2, d3] }
  | _ => none }
def PoolSizesWrongFalsely : Prop := poolSizesRow.holds Tryz.pinned (OpenSpec.ofChange poolSizesWrong)

/-- 'girderlaw06.PoolPlays': WHATEVER THE INPUT: true; the input reads as it did. -/
def poolPlaysSpec : ChangeSpec := { name := "poolPlays", fn := fun _ => fun
  | [d1, d2] => { results := [.lit (.bool true)], args := [d1, d2] }
  | _ => none }
def poolPlaysRow : OpenClaim := { program := "ytpnndlahfllbhaagreat", sum := "f00643f52522084b45cd6107d0bb35464500da2661881318b0ede8347145316f", func := "girder/girderlaw06.PoolPlays", spec := "poolPlays", inPlace := ["internal/abi.NoEscape", "internal/bytealg.MakeNoZero", "internal/bytealg.CountString", "internal/bytealg.IndexByteString", "internal/bytealg.IndexString"], unfollowed := true, recurses := true, named := ["internal/bytealg.MaxLen"], plainKeys := false, apart := false }
def PoolPlaysSaid : Prop := poolPlaysRow.holds Tryz.pinned (OpenSpec.ofChange poolPlaysSpec)

/-- ITS FALSE NEIGHBOUR: 'it returns false'. Refute it at one input. -/
def poolPlaysWrong : ChangeSpec := { name := "poolPlays", fn := fun _ => fun
  | [d1, d2] => { results := [.lit (.bool false)], args := [d1, d2] }
  | _ => none }
def PoolPlaysWrongFalsely : Prop := poolPlaysRow.holds Tryz.pinned (OpenSpec.ofChange poolPlaysWrong)

/-- 'girderlaw13.TreeWrong': WHATEVER THE INPUT: true; the input reads as it did. -/
def treeWrongSpec : ChangeSpec := { name := "treeWrong", fn := fun _ => fun
  | [d1, d2, d3] => { results := [.lit (.bool true)], args := [d1, d2, d3] }
  | _ => none }
def treeWrongRow : OpenClaim := { program := "ytpnndlahfllbhaagreat", sum := "f00643f52522084b45cd6107d0bb35464500da2661881318b0ede8347145316f", func := "girder/girderlaw13.TreeWrong", spec := "treeWrong", inPlace := ["internal/abi.NoEscape", "internal/bytealg.MakeNoZero", "slices.overlaps[string]", "internal/bytealg.CountString", "internal/bytealg.IndexByteString", "internal/bytealg.IndexString"], unfollowed := true, recurses := true, named := ["internal/bytealg.MaxLen"], plainKeys := false, apart := false }
def TreeWrongSaid : Prop := treeWrongRow.holds Tryz.pinned (OpenSpec.ofChange treeWrongSpec)

/-- ITS FALSE NEIGHBOUR: 'it returns false'. Refute it at one input. -/
def treeWrongWrong : ChangeSpec := { name := "treeWrong", fn := fun _ => fun
  | [d1, d2, d3] => { results := [.lit (.bool false)], args := [d1, d2, d3] }
  | _ => none }
def TreeWrongWrongFalsely : Prop := treeWrongRow.holds Tryz.pinned (OpenSpec.ofChange treeWrongWrong)

/-- 'girderlaw13.TreeSeeks': WHATEVER THE INPUT: true; the input reads as it did. -/
def treeSeeksSpec : ChangeSpec := { name := "treeSeeks", fn := fun _ => fun
  | [d1, d2, d3] => { results := [.lit (.bool true)], args := [d1, d2, d3] }
  | _ => none }
def treeSeeksRow : OpenClaim := { program := "ytpnndlahfllbhaagreat", sum := "f00643f52522084b45cd6107d0bb35464500da2661881318b0ede8347145316f", func := "girder/girderlaw13.TreeSeeks", spec := "treeSeeks", inPlace := ["internal/abi.NoEscape", "internal/bytealg.MakeNoZero", "slices.overlaps[string]", "internal/bytealg.CountString", "internal/bytealg.IndexByteString", "internal/bytealg.IndexString"], unfollowed := true, recurses := true, named := ["internal/bytealg.MaxLen"], plainKeys := false, apart := false }
def TreeSeeksSaid : Prop := treeSeeksRow.holds Tryz.pinned (OpenSpec.ofChange treeSeeksSpec)

/-- ITS FALSE NEIGHBOUR: 'it returns false'. Refute it at one input. -/
def treeSeeksWrong : ChangeSpec := { name := "treeSeeks", fn := fun _ => fun
  | [d1, d2, d3] => { results := [.lit (.bool false)], args := [d1, d2, d3] }
  | _ => none }
def TreeSeeksWrongFalsely : Prop := treeSeeksRow.holds Tryz.pinned (OpenSpec.ofChange treeSeeksWrong)

/-- 'girderlaw09.TxnRoom': WHATEVER THE INPUT: true; the input reads as it did. -/
def txnRoomSpec : ChangeSpec := { name := "txnRoom", fn := fun _ => fun
  | [d1, d2, d3] => { results := [.lit (.bool true)], args := [d1, d2, d3] }
  | _ => none }
def txnRoomRow : OpenClaim := { program := "ytpnndlahfllbhaagreat", sum := "f00643f52522084b45cd6107d0bb35464500da2661881318b0ede8347145316f", func := "girder/girderlaw09.TxnRoom", spec := "txnRoom", inPlace := ["internal/abi.NoEscape", "internal/bytealg.MakeNoZero", "internal/bytealg.CountString", "internal/bytealg.IndexByteString", "internal/bytealg.IndexString", "slices.overlaps[string]"], unfollowed := true, recurses := true, named := ["internal/bytealg.MaxLen"], plainKeys := false, apart := false }
def TxnRoomSaid : Prop := txnRoomRow.holds Tryz.pinned (OpenSpec.ofChange txnRoomSpec)

/-- ITS FALSE NEIGHBOUR: 'it returns false'. Refute it at one input. -/
def txnRoomWrong : ChangeSpec := { name := "txnRoom", fn := fun _ => fun
  | [d1, d2, d3] => { results := [.lit (.bool false)], args := [d1, d2, d3] }
  | _ => none }
def TxnRoomWrongFalsely : Prop := txnRoomRow.holds Tryz.pinned (OpenSpec.ofChange txnRoomWrong)

/-- 'girderlaw09.TxnTops': WHATEVER THE INPUT: true; the input reads as it did. -/
def txnTopsSpec : ChangeSpec := { name := "txnTops", fn := fun _ => fun
  | [d1, d2, d3] => { results := [.lit (.bool true)], args := [d1, d2, d3] }
  | _ => none }
def txnTopsRow : OpenClaim := { program := "ytpnndlahfllbhaagreat", sum := "f00643f52522084b45cd6107d0bb35464500da2661881318b0ede8347145316f", func := "girder/girderlaw09.TxnTops", spec := "txnTops", inPlace := ["internal/abi.NoEscape", "internal/bytealg.MakeNoZero", "internal/bytealg.CountString", "internal/bytealg.IndexByteString", "internal/bytealg.IndexString", "slices.overlaps[string]"], unfollowed := true, recurses := true, named := ["internal/bytealg.MaxLen"], plainKeys := false, apart := false }
def TxnTopsSaid : Prop := txnTopsRow.holds Tryz.pinned (OpenSpec.ofChange txnTopsSpec)

/-- ITS FALSE NEIGHBOUR: 'it returns false'. Refute it at one input. -/
def txnTopsWrong : ChangeSpec := { name := "txnTops", fn := fun _ => fun
  | [d1, d2, d3] => { results := [.lit (.bool false)], args := [d1, d2, d3] }
  | _ => none }
def TxnTopsWrongFalsely : Prop := txnTopsRow.holds Tryz.pinned (OpenSpec.ofChange txnTopsWrong)

/-- 'girderlaw09.TxnSaves': WHATEVER THE INPUT: true; the input reads as it did. -/
def txnSavesSpec : ChangeSpec := { name := "txnSaves", fn := fun _ => fun
  | [d1, d2] => { results := [.lit (.bool true)], args := [d1, d2] }
  | _ => none }
def txnSavesRow : OpenClaim := { program := "ytpnndlahfllbhaagreat", sum := "f00643f52522084b45cd6107d0bb35464500da2661881318b0ede8347145316f", func := "girder/girderlaw09.TxnSaves", spec := "txnSaves", inPlace := ["internal/abi.NoEscape", "internal/bytealg.MakeNoZero", "internal/bytealg.CountString", "internal/bytealg.IndexByteString", "internal/bytealg.IndexString", "slices.overlaps[string]"], unfollowed := true, recurses := true, named := ["internal/bytealg.MaxLen"], plainKeys := false, apart := false }
def TxnSavesSaid : Prop := txnSavesRow.holds Tryz.pinned (OpenSpec.ofChange txnSavesSpec)

/-- ITS FALSE NEIGHBOUR: 'it returns false'. Refute it at one input. -/
def txnSavesWrong : ChangeSpec := { name := "txnSaves", fn := fun _ => fun
  | [d1, d2] => { results := [.lit (.bool false)], args := [d1, d2] }
  | _ => none }
def TxnSavesWrongFalsely : Prop := txnSavesRow.holds Tryz.pinned (OpenSpec.ofChange txnSavesWrong)

/-- 'girderlaw09.TxnMany': WHATEVER THE INPUT: true; the input reads as it did. -/
def txnManySpec : ChangeSpec := { name := "txnMany", fn := fun _ => fun
  | [d] => { results := [.lit (.bool true)], args := [d] }
  | _ => none }
def txnManyRow : OpenClaim := { program := "ytpnndlahfllbhaagreat", sum := "f00643f52522084b45cd6107d0bb35464500da2661881318b0ede8347145316f", func := "girder/girderlaw09.TxnMany", spec := "txnMany", inPlace := ["internal/abi.NoEscape", "internal/bytealg.MakeNoZero", "internal/bytealg.CountString", "internal/bytealg.IndexByteString", "internal/bytealg.IndexString", "slices.overlaps[string]"], unfollowed := true, recurses := true, named := ["internal/bytealg.MaxLen"], plainKeys := false, apart := false }
def TxnManySaid : Prop := txnManyRow.holds Tryz.pinned (OpenSpec.ofChange txnManySpec)

/-- ITS FALSE NEIGHBOUR: 'it returns false'. Refute it at one input. -/
def txnManyWrong : ChangeSpec := { name := "txnMany", fn := fun _ => fun
  | [d] => { results := [.lit (.bool false)], args := [d] }
  | _ => none }
def TxnManyWrongFalsely : Prop := txnManyRow.holds Tryz.pinned (OpenSpec.ofChange txnManyWrong)

/-- 'girderlaw09.TxnChains': WHATEVER THE INPUT: true; the input reads as it did. -/
def txnChainsSpec : ChangeSpec := { name := "txnChains", fn := fun _ => fun
  | [d] => { results := [.lit (.bool true)], args := [d] }
  | _ => none }
def txnChainsRow : OpenClaim := { program := "ytpnndlahfllbhaagreat", sum := "f00643f52522084b45cd6107d0bb35464500da2661881318b0ede8347145316f", func := "girder/girderlaw09.TxnChains", spec := "txnChains", inPlace := ["internal/abi.NoEscape", "internal/bytealg.MakeNoZero", "internal/bytealg.CountString", "internal/bytealg.IndexByteString", "internal/bytealg.IndexString", "slices.overlaps[string]"], unfollowed := true, recurses := true, named := ["internal/bytealg.MaxLen"], plainKeys := false, apart := false }
def TxnChainsSaid : Prop := txnChainsRow.holds Tryz.pinned (OpenSpec.ofChange txnChainsSpec)

/-- ITS FALSE NEIGHBOUR: 'it returns false'. Refute it at one input. -/
def txnChainsWrong : ChangeSpec := { name := "txnChains", fn := fun _ => fun
  | [d] => { results := [.lit (.bool false)], args := [d] }
  | _ => none }
def TxnChainsWrongFalsely : Prop := txnChainsRow.holds Tryz.pinned (OpenSpec.ofChange txnChainsWrong)

/-- 'girderlaw09.TxnErrors': WHATEVER THE INPUT: true; the input reads as it did. -/
def txnErrorsSpec : ChangeSpec := { name := "txnErrors", fn := fun _ => fun
  | [d1, d2] => { results := [.lit (.bool true)], args := [d1, d2] }
  | _ => none }
def txnErrorsRow : OpenClaim := { program := "ytpnndlahfllbhaagreat", sum := "f00643f52522084b45cd6107d0bb35464500da2661881318b0ede8347145316f", func := "girder/girderlaw09.TxnErrors", spec := "txnErrors", inPlace := ["internal/abi.NoEscape", "internal/bytealg.MakeNoZero", "internal/bytealg.CountString", "internal/bytealg.IndexByteString", "internal/bytealg.IndexString", "slices.overlaps[string]"], unfollowed := true, recurses := true, named := ["internal/bytealg.MaxLen"], plainKeys := false, apart := false }
def TxnErrorsSaid : Prop := txnErrorsRow.holds Tryz.pinned (OpenSpec.ofChange txnErrorsSpec)

/-- ITS FALSE NEIGHBOUR: 'it returns false'. Refute it at one input. -/
def txnErrorsWrong : ChangeSpec := { name := "txnErrors", fn := fun _ => fun
  | [d1, d2] => { results := [.lit (.bool false)], args := [d1, d2] }
  | _ => none }
def TxnErrorsWrongFalsely : Prop := txnErrorsRow.holds Tryz.pinned (OpenSpec.ofChange txnErrorsWrong)

/- THE SECOND FORM. 'bulk': how many values and letters a reading holds, each counted each time it is reached (what is shared counts as often as it is met; a slice's spare places count too). A statement '..UptoSaid' is the law's where the arguments, and the package variables that the reading takes, are together of bulk at most 1048576: NARROWER than '..Said'. Prove '..Said' where nothing that the law and all that it calls make is longer than what came in: it says more and counts as full. Else prove '..UptoSaid'. A law counts once. -/
mutual
def uptoBulk {H : Type} : DataW H → Nat
  | .lit (.string bytes) => bytes.length + 1
  | .lit _ => 1
  | .nil => 1
  | .ptr d => uptoBulk d + 1
  | .slice elems spare => uptoBulkAll elems + uptoBulkAll spare + 1
  | .agg parts => uptoBulkAll parts + 1
  | .iface _ d => uptoBulk d + 1
  | .map entries => uptoBulkEntries entries + 1
  | .held _ => 1
def uptoBulkAll {H : Type} : List (DataW H) → Nat
  | [] => 0
  | d :: r => uptoBulk d + uptoBulkAll r
def uptoBulkEntries {H : Type} : List (Lit × DataW H) → Nat
  | [] => 0
  | x :: r => uptoBulkEntry x + uptoBulkEntries r
def uptoBulkEntry {H : Type} : Lit × DataW H → Nat
  | (.string bytes, d) => bytes.length + uptoBulk d + 1
  | (_, d) => uptoBulk d + 1
 end
def uptoSmall : (H : Type) → List (DataW H) → Bool := fun _ ds => decide (uptoBulkAll ds ≤ 1048576)
def OpenSpec.upto (s : _root_.Go.ChangeSpec) : _root_.Go.OpenSpec := { _root_.Go.OpenSpec.ofChange s with cond := some uptoSmall }

/-- 'girderlaw19.AnalyzeFinds', WHERE WHAT IT READS IS OF BULK AT MOST 1048576: true; the input reads as it did. -/
def analyzeFindsUptoRow : OpenClaim := { program := "ytpnndlahfllbhaagreat", sum := "f00643f52522084b45cd6107d0bb35464500da2661881318b0ede8347145316f", func := "girder/girderlaw19.AnalyzeFinds", spec := "analyzeFinds", inPlace := ["internal/abi.NoEscape", "internal/bytealg.MakeNoZero"], unfollowed := true, recurses := true, plainKeys := false, apart := false, narrowed := true }
def AnalyzeFindsUptoSaid : Prop := analyzeFindsUptoRow.holds Tryz.pinned (OpenSpec.upto analyzeFindsSpec)

/-- 'girderlaw19.AnalyzeWrong', WHERE WHAT IT READS IS OF BULK AT MOST 1048576: true; the input reads as it did. -/
def analyzeWrongUptoRow : OpenClaim := { program := "ytpnndlahfllbhaagreat", sum := "f00643f52522084b45cd6107d0bb35464500da2661881318b0ede8347145316f", func := "girder/girderlaw19.AnalyzeWrong", spec := "analyzeWrong", inPlace := ["internal/abi.NoEscape", "internal/bytealg.MakeNoZero"], unfollowed := true, recurses := true, plainKeys := false, apart := false, narrowed := true }
def AnalyzeWrongUptoSaid : Prop := analyzeWrongUptoRow.holds Tryz.pinned (OpenSpec.upto analyzeWrongSpec)

/-- 'girderlaw19.AnalyzeTwice', WHERE WHAT IT READS IS OF BULK AT MOST 1048576: true; the input reads as it did. -/
def analyzeTwiceUptoRow : OpenClaim := { program := "ytpnndlahfllbhaagreat", sum := "f00643f52522084b45cd6107d0bb35464500da2661881318b0ede8347145316f", func := "girder/girderlaw19.AnalyzeTwice", spec := "analyzeTwice", inPlace := ["internal/abi.NoEscape", "internal/bytealg.MakeNoZero"], unfollowed := true, recurses := true, plainKeys := false, apart := false, narrowed := true }
def AnalyzeTwiceUptoSaid : Prop := analyzeTwiceUptoRow.holds Tryz.pinned (OpenSpec.upto analyzeTwiceSpec)

/-- 'girderlaw06.PoolSizes', WHERE WHAT IT READS IS OF BULK AT MOST 1048576: true; the input reads as it did. -/
def poolSizesUptoRow : OpenClaim := { program := "ytpnndlahfllbhaagreat", sum := "f00643f52522084b45cd6107d0bb35464500da2661881318b0ede8347145316f", func := "girder/girderlaw06.PoolSizes", spec := "poolSizes", inPlace := ["internal/abi.NoEscape", "internal/bytealg.MakeNoZero", "internal/bytealg.CountString", "internal/bytealg.IndexByteString", "internal/bytealg.IndexString"], unfollowed := true, recurses := true, named := ["internal/bytealg.MaxLen"], plainKeys := false, apart := false, narrowed := true }
def PoolSizesUptoSaid : Prop := poolSizesUptoRow.holds Tryz.pinned (OpenSpec.upto poolSizesSpec)

/-- 'girderlaw06.PoolPlays', WHERE WHAT IT READS IS OF BULK AT MOST 1048576: true; the input reads as it did. -/
def poolPlaysUptoRow : OpenClaim := { program := "ytpnndlahfllbhaagreat", sum := "f00643f52522084b45cd6107d0bb35464500da2661881318b0ede8347145316f", func := "girder/girderlaw06.PoolPlays", spec := "poolPlays", inPlace := ["internal/abi.NoEscape", "internal/bytealg.MakeNoZero", "internal/bytealg.CountString", "internal/bytealg.IndexByteString", "internal/bytealg.IndexString"], unfollowed := true, recurses := true, named := ["internal/bytealg.MaxLen"], plainKeys := false, apart := false, narrowed := true }
def PoolPlaysUptoSaid : Prop := poolPlaysUptoRow.holds Tryz.pinned (OpenSpec.upto poolPlaysSpec)

/-- 'girderlaw13.TreeWrong', WHERE WHAT IT READS IS OF BULK AT MOST 1048576: true; the input reads as it did. -/
def treeWrongUptoRow : OpenClaim := { program := "ytpnndlahfllbhaagreat", sum := "f00643f52522084b45cd6107d0bb35464500da2661881318b0ede8347145316f", func := "girder/girderlaw13.TreeWrong", spec := "treeWrong", inPlace := ["internal/abi.NoEscape", "internal/bytealg.MakeNoZero", "slices.overlaps[string]", "internal/bytealg.CountString", "internal/bytealg.IndexByteString", "internal/bytealg.IndexString"], unfollowed := true, recurses := true, named := ["internal/bytealg.MaxLen"], plainKeys := false, apart := false, narrowed := true }
def TreeWrongUptoSaid : Prop := treeWrongUptoRow.holds Tryz.pinned (OpenSpec.upto treeWrongSpec)

/-- 'girderlaw13.TreeSeeks', WHERE WHAT IT READS IS OF BULK AT MOST 1048576: true; the input reads as it did. -/
def treeSeeksUptoRow : OpenClaim := { program := "ytpnndlahfllbhaagreat", sum := "f00643f52522084b45cd6107d0bb35464500da2661881318b0ede8347145316f", func := "girder/girderlaw13.TreeSeeks", spec := "treeSeeks", inPlace := ["internal/abi.NoEscape", "internal/bytealg.MakeNoZero", "slices.overlaps[string]", "internal/bytealg.CountString", "internal/bytealg.IndexByteString", "internal/bytealg.IndexString"], unfollowed := true, recurses := true, named := ["internal/bytealg.MaxLen"], plainKeys := false, apart := false, narrowed := true }
def TreeSeeksUptoSaid : Prop := treeSeeksUptoRow.holds Tryz.pinned (OpenSpec.upto treeSeeksSpec)

/-- 'girderlaw09.TxnRoom', WHERE WHAT IT READS IS OF BULK AT MOST 1048576: true; the input reads as it did. -/
def txnRoomUptoRow : OpenClaim := { program := "ytpnndlahfllbhaagreat", sum := "f00643f52522084b45cd6107d0bb35464500da2661881318b0ede8347145316f", func := "girder/girderlaw09.TxnRoom", spec := "txnRoom", inPlace := ["internal/abi.NoEscape", "internal/bytealg.MakeNoZero", "internal/bytealg.CountString", "internal/bytealg.IndexByteString", "internal/bytealg.IndexString", "slices.overlaps[string]"], unfollowed := true, recurses := true, named := ["internal/bytealg.MaxLen"], plainKeys := false, apart := false, narrowed := true }
def TxnRoomUptoSaid : Prop := txnRoomUptoRow.holds Tryz.pinned (OpenSpec.upto txnRoomSpec)

/-- 'girderlaw09.TxnTops', WHERE WHAT IT READS IS OF BULK AT MOST 1048576: true; the input reads as it did. -/
def txnTopsUptoRow : OpenClaim := { program := "ytpnndlahfllbhaagreat", sum := "f00643f52522084b45cd6107d0bb35464500da2661881318b0ede8347145316f", func := "girder/girderlaw09.TxnTops", spec := "txnTops", inPlace := ["internal/abi.NoEscape", "internal/bytealg.MakeNoZero", "internal/bytealg.CountString", "internal/bytealg.IndexByteString", "internal/bytealg.IndexString", "slices.overlaps[string]"], unfollowed := true, recurses := true, named := ["internal/bytealg.MaxLen"], plainKeys := false, apart := false, narrowed := true }
def TxnTopsUptoSaid : Prop := txnTopsUptoRow.holds Tryz.pinned (OpenSpec.upto txnTopsSpec)

/-- 'girderlaw09.TxnSaves', WHERE WHAT IT READS IS OF BULK AT MOST 1048576: true; the input reads as it did. -/
def txnSavesUptoRow : OpenClaim := { program := "ytpnndlahfllbhaagreat", sum := "f00643f52522084b45cd6107d0bb35464500da2661881318b0ede8347145316f", func := "girder/girderlaw09.TxnSaves", spec := "txnSaves", inPlace := ["internal/abi.NoEscape", "internal/bytealg.MakeNoZero", "internal/bytealg.CountString", "internal/bytealg.IndexByteString", "internal/bytealg.IndexString", "slices.overlaps[string]"], unfollowed := true, recurses := true, named := ["internal/bytealg.MaxLen"], plainKeys := false, apart := false, narrowed := true }
def TxnSavesUptoSaid : Prop := txnSavesUptoRow.holds Tryz.pinned (OpenSpec.upto txnSavesSpec)

/-- 'girderlaw09.TxnMany', WHERE WHAT IT READS IS OF BULK AT MOST 1048576: true; the input reads as it did. -/
def txnManyUptoRow : OpenClaim := { program := "ytpnndlahfllbhaagreat", sum := "f00643f52522084b45cd6107d0bb35464500da2661881318b0ede8347145316f", func := "girder/girderlaw09.TxnMany", spec := "txnMany", inPlace := ["internal/abi.NoEscape", "internal/bytealg.MakeNoZero", "internal/bytealg.CountString", "internal/bytealg.IndexByteString", "internal/bytealg.IndexString", "slices.overlaps[string]"], unfollowed := true, recurses := true, named := ["internal/bytealg.MaxLen"], plainKeys := false, apart := false, narrowed := true }
def TxnManyUptoSaid : Prop := txnManyUptoRow.holds Tryz.pinned (OpenSpec.upto txnManySpec)

/-- 'girderlaw09.TxnChains', WHERE WHAT IT READS IS OF BULK AT MOST 1048576: true; the input reads as it did. -/
def txnChainsUptoRow : OpenClaim := { program := "ytpnndlahfllbhaagreat", sum := "f00643f52522084b45cd6107d0bb35464500da2661881318b0ede8347145316f", func := "girder/girderlaw09.TxnChains", spec := "txnChains", inPlace := ["internal/abi.NoEscape", "internal/bytealg.MakeNoZero", "internal/bytealg.CountString", "internal/bytealg.IndexByteString", "internal/bytealg.IndexString", "slices.overlaps[string]"], unfollowed := true, recurses := true, named := ["internal/bytealg.MaxLen"], plainKeys := false, apart := false, narrowed := true }
def TxnChainsUptoSaid : Prop := txnChainsUptoRow.holds Tryz.pinned (OpenSpec.upto txnChainsSpec)

/-- 'girderlaw09.TxnErrors', WHERE WHAT IT READS IS OF BULK AT MOST 1048576: true; the input reads as it did. -/
def txnErrorsUptoRow : OpenClaim := { program := "ytpnndlahfllbhaagreat", sum := "f00643f52522084b45cd6107d0bb35464500da2661881318b0ede8347145316f", func := "girder/girderlaw09.TxnErrors", spec := "txnErrors", inPlace := ["internal/abi.NoEscape", "internal/bytealg.MakeNoZero", "internal/bytealg.CountString", "internal/bytealg.IndexByteString", "internal/bytealg.IndexString", "slices.overlaps[string]"], unfollowed := true, recurses := true, named := ["internal/bytealg.MaxLen"], plainKeys := false, apart := false, narrowed := true }
def TxnErrorsUptoSaid : Prop := txnErrorsUptoRow.holds Tryz.pinned (OpenSpec.upto txnErrorsSpec)

end Rows
end Go.Proofs.YtpnndlahfllbhaaGreat
