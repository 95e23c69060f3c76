/-
  NARROWER THAN 'FOR EVERY INPUT', by the rows' own cells (each row's printed sentence says how): FrameHomes: laid · FrameHeavyPathDecomposition: laid · FrameConstruction: laid · FrameHeavyPaths: laid · BalanceTree: laid · BalanceDepth: laid · BalanceBitLen: laid · FrameAddLeaf: laid · BalanceCentroid: laid · BalanceWidth: laid · BalanceSplitters: laid · BalanceCentroidHalves: laid · BalanceSplit: laid.
  DERIVED. THE GIVEN ROWS OF THIS SEAT. 13 by the template 'for every input the law returns true; each argument reads behind the call as it read before'; 0 by the template 'total and deterministic' (their statements: YtnhbkdliljcedaaDoorTotals.lean).
  GIVEN WITH THE SEED: the statements are not yours to turn. If you find one false, say at which input.
  Laid BY PROGRAM, IN A SANDBOX (cutbox-rows.mjs): the forced cells as the released guide's own fill.sh prints them over the translation da08aeaf046a4312… (all of the seat's roots in one cut). By AI agents, Wed Nov 11 2026. No macro, syntax, notation, axiom, sorry.
-/
import Derived.Test.YtnhbkdliljcedaaDoorChecked
import GoSem.Claim
import GoSem.ClaimJoined
import GoSem.ClaimMapViews
import Derived.JoinedTies
import Derived.KernelRfl
namespace Go.Proofs.YtnhbkdliljcedaaDoor
/- THE CELL 'sum', in the pinned program and in every row, IS THE sha256 OF THE DUMP (.gsa) THAT YtnhbkdliljcedaaDoorProg.lean LOADS. Nothing in Lean hashes anything: it is a label: what it is worth is what the hold of that sum in a sandbox is worth. -/
noncomputable def Tryd.pinned : Pinned := { name := "ytnhbkdliljcedaadoor", sum := "da08aeaf046a43128efc0d6b9fffa9be35465df9d13e97f9becd3072a5f73939", checked := Tryd.checked }
namespace Rows
def none {H : Type} : Left H := { results := [], args := [] }

/- WHAT THE LISTED PACKAGE-LEVEL VARIABLES READ AS WHEN THE CALL BEGINS. Each datum BY PROGRAM (the guide's laid-datum.mjs) off the statement by which the dump's own 'gosem.cut.vars' lays the variable. In a bare row this is a premise. The card (YtnhbkdliljcedaaDoorCards.lean) ties it to the program's text. -/
def laid_math_bits_deBruijn64tab {H : Type} : DataW H := .agg [.lit (.int .u8 0), .lit (.int .u8 1), .lit (.int .u8 56), .lit (.int .u8 2), .lit (.int .u8 57), .lit (.int .u8 49), .lit (.int .u8 28), .lit (.int .u8 3), .lit (.int .u8 61), .lit (.int .u8 58), .lit (.int .u8 42), .lit (.int .u8 50), .lit (.int .u8 38), .lit (.int .u8 29), .lit (.int .u8 17), .lit (.int .u8 4), .lit (.int .u8 62), .lit (.int .u8 47), .lit (.int .u8 59), .lit (.int .u8 36), .lit (.int .u8 45), .lit (.int .u8 43), .lit (.int .u8 51), .lit (.int .u8 22), .lit (.int .u8 53), .lit (.int .u8 39), .lit (.int .u8 33), .lit (.int .u8 30), .lit (.int .u8 24), .lit (.int .u8 18), .lit (.int .u8 12), .lit (.int .u8 5), .lit (.int .u8 63), .lit (.int .u8 55), .lit (.int .u8 48), .lit (.int .u8 27), .lit (.int .u8 60), .lit (.int .u8 41), .lit (.int .u8 37), .lit (.int .u8 16), .lit (.int .u8 46), .lit (.int .u8 35), .lit (.int .u8 44), .lit (.int .u8 21), .lit (.int .u8 52), .lit (.int .u8 32), .lit (.int .u8 23), .lit (.int .u8 11), .lit (.int .u8 54), .lit (.int .u8 26), .lit (.int .u8 40), .lit (.int .u8 15), .lit (.int .u8 34), .lit (.int .u8 20), .lit (.int .u8 31), .lit (.int .u8 10), .lit (.int .u8 25), .lit (.int .u8 14), .lit (.int .u8 19), .lit (.int .u8 9), .lit (.int .u8 13), .lit (.int .u8 8), .lit (.int .u8 7), .lit (.int .u8 6)]

/-- 'palmettelaw45.FrameHomes': WHATEVER THE INPUT: true; the input reads as it did. -/
def frameHomesSpec : ChangeSpec := { name := "frameHomes", fn := fun _ => fun
  | [d1, d2, d3] => { results := [.lit (.bool true)], args := [d1, d2, d3] }
  | _ => none }
def frameHomesRow : OpenClaim := { program := "ytnhbkdliljcedaadoor", sum := "da08aeaf046a43128efc0d6b9fffa9be35465df9d13e97f9becd3072a5f73939", func := "palmette/palmettelaw45.FrameHomes", spec := "frameHomes", unfollowed := true, recurses := true, named := ["math/bits.deBruijn64tab"], apart := false, laid := [("math/bits.deBruijn64tab", laid_math_bits_deBruijn64tab)] }
def FrameHomesSaid : Prop := frameHomesRow.holds Tryd.pinned (OpenSpec.ofChange frameHomesSpec)

/-- ITS FALSE NEIGHBOUR: 'it returns false'. Refute it at one input. -/
def frameHomesWrong : ChangeSpec := { name := "frameHomes", fn := fun _ => fun
  | [d1, d2, d3] => { results := [.lit (.bool false)], args := [d1, d2, d3] }
  | _ => none }
def FrameHomesWrongFalsely : Prop := frameHomesRow.holds Tryd.pinned (OpenSpec.ofChange frameHomesWrong)

/-- 'palmettelaw45.FrameHeavyPathDecomposition': WHATEVER THE INPUT: true; the input reads as it did. -/
def frameHeavyPathDecompositionSpec : ChangeSpec := { name := "frameHeavyPathDecomposition", fn := fun _ => fun
  | [d] => { results := [.lit (.bool true)], args := [d] }
  | _ => none }
def frameHeavyPathDecompositionRow : OpenClaim := { program := "ytnhbkdliljcedaadoor", sum := "da08aeaf046a43128efc0d6b9fffa9be35465df9d13e97f9becd3072a5f73939", func := "palmette/palmettelaw45.FrameHeavyPathDecomposition", spec := "frameHeavyPathDecomposition", unfollowed := true, recurses := true, named := ["math/bits.deBruijn64tab"], apart := false, laid := [("math/bits.deBruijn64tab", laid_math_bits_deBruijn64tab)] }
def FrameHeavyPathDecompositionSaid : Prop := frameHeavyPathDecompositionRow.holds Tryd.pinned (OpenSpec.ofChange frameHeavyPathDecompositionSpec)

/-- ITS FALSE NEIGHBOUR: 'it returns false'. Refute it at one input. -/
def frameHeavyPathDecompositionWrong : ChangeSpec := { name := "frameHeavyPathDecomposition", fn := fun _ => fun
  | [d] => { results := [.lit (.bool false)], args := [d] }
  | _ => none }
def FrameHeavyPathDecompositionWrongFalsely : Prop := frameHeavyPathDecompositionRow.holds Tryd.pinned (OpenSpec.ofChange frameHeavyPathDecompositionWrong)

/-- 'palmettelaw45.FrameConstruction': WHATEVER THE INPUT: true; the input reads as it did. -/
def frameConstructionSpec : ChangeSpec := { name := "frameConstruction", fn := fun _ => fun
  | [d] => { results := [.lit (.bool true)], args := [d] }
  | _ => none }
def frameConstructionRow : OpenClaim := { program := "ytnhbkdliljcedaadoor", sum := "da08aeaf046a43128efc0d6b9fffa9be35465df9d13e97f9becd3072a5f73939", func := "palmette/palmettelaw45.FrameConstruction", spec := "frameConstruction", unfollowed := true, recurses := true, named := ["math/bits.deBruijn64tab"], apart := false, laid := [("math/bits.deBruijn64tab", laid_math_bits_deBruijn64tab)] }
def FrameConstructionSaid : Prop := frameConstructionRow.holds Tryd.pinned (OpenSpec.ofChange frameConstructionSpec)

/-- ITS FALSE NEIGHBOUR: 'it returns false'. Refute it at one input. -/
def frameConstructionWrong : ChangeSpec := { name := "frameConstruction", fn := fun _ => fun
  | [d] => { results := [.lit (.bool false)], args := [d] }
  | _ => none }
def FrameConstructionWrongFalsely : Prop := frameConstructionRow.holds Tryd.pinned (OpenSpec.ofChange frameConstructionWrong)

/-- 'palmettelaw45.FrameHeavyPaths': WHATEVER THE INPUT: true; the input reads as it did. -/
def frameHeavyPathsSpec : ChangeSpec := { name := "frameHeavyPaths", fn := fun _ => fun
  | [d1, d2] => { results := [.lit (.bool true)], args := [d1, d2] }
  | _ => none }
def frameHeavyPathsRow : OpenClaim := { program := "ytnhbkdliljcedaadoor", sum := "da08aeaf046a43128efc0d6b9fffa9be35465df9d13e97f9becd3072a5f73939", func := "palmette/palmettelaw45.FrameHeavyPaths", spec := "frameHeavyPaths", unfollowed := true, recurses := true, named := ["math/bits.deBruijn64tab"], apart := false, laid := [("math/bits.deBruijn64tab", laid_math_bits_deBruijn64tab)] }
def FrameHeavyPathsSaid : Prop := frameHeavyPathsRow.holds Tryd.pinned (OpenSpec.ofChange frameHeavyPathsSpec)

/-- ITS FALSE NEIGHBOUR: 'it returns false'. Refute it at one input. -/
def frameHeavyPathsWrong : ChangeSpec := { name := "frameHeavyPaths", fn := fun _ => fun
  | [d1, d2] => { results := [.lit (.bool false)], args := [d1, d2] }
  | _ => none }
def FrameHeavyPathsWrongFalsely : Prop := frameHeavyPathsRow.holds Tryd.pinned (OpenSpec.ofChange frameHeavyPathsWrong)

/-- 'palmettelaw29.BalanceTree': WHATEVER THE INPUT: true; the input reads as it did. -/
def balanceTreeSpec : ChangeSpec := { name := "balanceTree", fn := fun _ => fun
  | [d] => { results := [.lit (.bool true)], args := [d] }
  | _ => none }
def balanceTreeRow : OpenClaim := { program := "ytnhbkdliljcedaadoor", sum := "da08aeaf046a43128efc0d6b9fffa9be35465df9d13e97f9becd3072a5f73939", func := "palmette/palmettelaw29.BalanceTree", spec := "balanceTree", unfollowed := true, recurses := true, named := ["math/bits.deBruijn64tab"], apart := false, laid := [("math/bits.deBruijn64tab", laid_math_bits_deBruijn64tab)] }
def BalanceTreeSaid : Prop := balanceTreeRow.holds Tryd.pinned (OpenSpec.ofChange balanceTreeSpec)

/-- ITS FALSE NEIGHBOUR: 'it returns false'. Refute it at one input. -/
def balanceTreeWrong : ChangeSpec := { name := "balanceTree", fn := fun _ => fun
  | [d] => { results := [.lit (.bool false)], args := [d] }
  | _ => none }
def BalanceTreeWrongFalsely : Prop := balanceTreeRow.holds Tryd.pinned (OpenSpec.ofChange balanceTreeWrong)

/-- 'palmettelaw29.BalanceDepth': WHATEVER THE INPUT: true; the input reads as it did. -/
def balanceDepthSpec : ChangeSpec := { name := "balanceDepth", fn := fun _ => fun
  | [d] => { results := [.lit (.bool true)], args := [d] }
  | _ => none }
def balanceDepthRow : OpenClaim := { program := "ytnhbkdliljcedaadoor", sum := "da08aeaf046a43128efc0d6b9fffa9be35465df9d13e97f9becd3072a5f73939", func := "palmette/palmettelaw29.BalanceDepth", spec := "balanceDepth", unfollowed := true, recurses := true, named := ["math/bits.deBruijn64tab"], apart := false, laid := [("math/bits.deBruijn64tab", laid_math_bits_deBruijn64tab)] }
def BalanceDepthSaid : Prop := balanceDepthRow.holds Tryd.pinned (OpenSpec.ofChange balanceDepthSpec)

/-- ITS FALSE NEIGHBOUR: 'it returns false'. Refute it at one input. -/
def balanceDepthWrong : ChangeSpec := { name := "balanceDepth", fn := fun _ => fun
  | [d] => { results := [.lit (.bool false)], args := [d] }
  | _ => none }
def BalanceDepthWrongFalsely : Prop := balanceDepthRow.holds Tryd.pinned (OpenSpec.ofChange balanceDepthWrong)

/-- 'palmettelaw29.BalanceBitLen': WHATEVER THE INPUT: true; the input reads as it did. -/
def balanceBitLenSpec : ChangeSpec := { name := "balanceBitLen", fn := fun _ => fun
  | [d] => { results := [.lit (.bool true)], args := [d] }
  | _ => none }
def balanceBitLenRow : OpenClaim := { program := "ytnhbkdliljcedaadoor", sum := "da08aeaf046a43128efc0d6b9fffa9be35465df9d13e97f9becd3072a5f73939", func := "palmette/palmettelaw29.BalanceBitLen", spec := "balanceBitLen", unfollowed := true, recurses := true, named := ["math/bits.deBruijn64tab"], apart := false, laid := [("math/bits.deBruijn64tab", laid_math_bits_deBruijn64tab)] }
def BalanceBitLenSaid : Prop := balanceBitLenRow.holds Tryd.pinned (OpenSpec.ofChange balanceBitLenSpec)

/-- ITS FALSE NEIGHBOUR: 'it returns false'. Refute it at one input. -/
def balanceBitLenWrong : ChangeSpec := { name := "balanceBitLen", fn := fun _ => fun
  | [d] => { results := [.lit (.bool false)], args := [d] }
  | _ => none }
def BalanceBitLenWrongFalsely : Prop := balanceBitLenRow.holds Tryd.pinned (OpenSpec.ofChange balanceBitLenWrong)

/-- 'palmettelaw45.FrameAddLeaf': WHATEVER THE INPUT: true; the input reads as it did. -/
def frameAddLeafSpec : ChangeSpec := { name := "frameAddLeaf", fn := fun _ => fun
  | [d1, d2, d3] => { results := [.lit (.bool true)], args := [d1, d2, d3] }
  | _ => none }
def frameAddLeafRow : OpenClaim := { program := "ytnhbkdliljcedaadoor", sum := "da08aeaf046a43128efc0d6b9fffa9be35465df9d13e97f9becd3072a5f73939", func := "palmette/palmettelaw45.FrameAddLeaf", spec := "frameAddLeaf", unfollowed := true, recurses := true, named := ["math/bits.deBruijn64tab"], apart := false, laid := [("math/bits.deBruijn64tab", laid_math_bits_deBruijn64tab)] }
def FrameAddLeafSaid : Prop := frameAddLeafRow.holds Tryd.pinned (OpenSpec.ofChange frameAddLeafSpec)

/-- ITS FALSE NEIGHBOUR: 'it returns false'. Refute it at one input. -/
def frameAddLeafWrong : ChangeSpec := { name := "frameAddLeaf", fn := fun _ => fun
  | [d1, d2, d3] => { results := [.lit (.bool false)], args := [d1, d2, d3] }
  | _ => none }
def FrameAddLeafWrongFalsely : Prop := frameAddLeafRow.holds Tryd.pinned (OpenSpec.ofChange frameAddLeafWrong)

/-- 'palmettelaw29.BalanceCentroid': WHATEVER THE INPUT: true; the input reads as it did. -/
def balanceCentroidSpec : ChangeSpec := { name := "balanceCentroid", fn := fun _ => fun
  | [d1, d2] => { results := [.lit (.bool true)], args := [d1, d2] }
  | _ => none }
def balanceCentroidRow : OpenClaim := { program := "ytnhbkdliljcedaadoor", sum := "da08aeaf046a43128efc0d6b9fffa9be35465df9d13e97f9becd3072a5f73939", func := "palmette/palmettelaw29.BalanceCentroid", spec := "balanceCentroid", unfollowed := true, recurses := true, named := ["math/bits.deBruijn64tab"], apart := false, laid := [("math/bits.deBruijn64tab", laid_math_bits_deBruijn64tab)] }
def BalanceCentroidSaid : Prop := balanceCentroidRow.holds Tryd.pinned (OpenSpec.ofChange balanceCentroidSpec)

/-- ITS FALSE NEIGHBOUR: 'it returns false'. Refute it at one input. -/
def balanceCentroidWrong : ChangeSpec := { name := "balanceCentroid", fn := fun _ => fun
  | [d1, d2] => { results := [.lit (.bool false)], args := [d1, d2] }
  | _ => none }
def BalanceCentroidWrongFalsely : Prop := balanceCentroidRow.holds Tryd.pinned (OpenSpec.ofChange balanceCentroidWrong)

/-- 'palmettelaw29.BalanceWidth': WHATEVER THE INPUT: true; the input reads as it did. -/
def balanceWidthSpec : ChangeSpec := { name := "balanceWidth", fn := fun _ => fun
  | [d] => { results := [.lit (.bool true)], args := [d] }
  | _ => none }
def balanceWidthRow : OpenClaim := { program := "ytnhbkdliljcedaadoor", sum := "da08aeaf046a43128efc0d6b9fffa9be35465df9d13e97f9becd3072a5f73939", func := "palmette/palmettelaw29.BalanceWidth", spec := "balanceWidth", unfollowed := true, recurses := true, named := ["math/bits.deBruijn64tab"], apart := false, laid := [("math/bits.deBruijn64tab", laid_math_bits_deBruijn64tab)] }
def BalanceWidthSaid : Prop := balanceWidthRow.holds Tryd.pinned (OpenSpec.ofChange balanceWidthSpec)

/-- ITS FALSE NEIGHBOUR: 'it returns false'. Refute it at one input. -/
def balanceWidthWrong : ChangeSpec := { name := "balanceWidth", fn := fun _ => fun
  | [d] => { results := [.lit (.bool false)], args := [d] }
  | _ => none }
def BalanceWidthWrongFalsely : Prop := balanceWidthRow.holds Tryd.pinned (OpenSpec.ofChange balanceWidthWrong)

/-- 'palmettelaw29.BalanceSplitters': WHATEVER THE INPUT: true; the input reads as it did. -/
def balanceSplittersSpec : ChangeSpec := { name := "balanceSplitters", fn := fun _ => fun
  | [d] => { results := [.lit (.bool true)], args := [d] }
  | _ => none }
def balanceSplittersRow : OpenClaim := { program := "ytnhbkdliljcedaadoor", sum := "da08aeaf046a43128efc0d6b9fffa9be35465df9d13e97f9becd3072a5f73939", func := "palmette/palmettelaw29.BalanceSplitters", spec := "balanceSplitters", unfollowed := true, recurses := true, named := ["math/bits.deBruijn64tab"], apart := false, laid := [("math/bits.deBruijn64tab", laid_math_bits_deBruijn64tab)] }
def BalanceSplittersSaid : Prop := balanceSplittersRow.holds Tryd.pinned (OpenSpec.ofChange balanceSplittersSpec)

/-- ITS FALSE NEIGHBOUR: 'it returns false'. Refute it at one input. -/
def balanceSplittersWrong : ChangeSpec := { name := "balanceSplitters", fn := fun _ => fun
  | [d] => { results := [.lit (.bool false)], args := [d] }
  | _ => none }
def BalanceSplittersWrongFalsely : Prop := balanceSplittersRow.holds Tryd.pinned (OpenSpec.ofChange balanceSplittersWrong)

/-- 'palmettelaw29.BalanceCentroidHalves': WHATEVER THE INPUT: true; the input reads as it did. -/
def balanceCentroidHalvesSpec : ChangeSpec := { name := "balanceCentroidHalves", fn := fun _ => fun
  | [d1, d2, d3] => { results := [.lit (.bool true)], args := [d1, d2, d3] }
  | _ => none }
def balanceCentroidHalvesRow : OpenClaim := { program := "ytnhbkdliljcedaadoor", sum := "da08aeaf046a43128efc0d6b9fffa9be35465df9d13e97f9becd3072a5f73939", func := "palmette/palmettelaw29.BalanceCentroidHalves", spec := "balanceCentroidHalves", unfollowed := true, recurses := true, named := ["math/bits.deBruijn64tab"], apart := false, laid := [("math/bits.deBruijn64tab", laid_math_bits_deBruijn64tab)] }
def BalanceCentroidHalvesSaid : Prop := balanceCentroidHalvesRow.holds Tryd.pinned (OpenSpec.ofChange balanceCentroidHalvesSpec)

/-- ITS FALSE NEIGHBOUR: 'it returns false'. Refute it at one input. -/
def balanceCentroidHalvesWrong : ChangeSpec := { name := "balanceCentroidHalves", fn := fun _ => fun
  | [d1, d2, d3] => { results := [.lit (.bool false)], args := [d1, d2, d3] }
  | _ => none }
def BalanceCentroidHalvesWrongFalsely : Prop := balanceCentroidHalvesRow.holds Tryd.pinned (OpenSpec.ofChange balanceCentroidHalvesWrong)

/-- 'palmettelaw29.BalanceSplit': WHATEVER THE INPUT: true; the input reads as it did. -/
def balanceSplitSpec : ChangeSpec := { name := "balanceSplit", fn := fun _ => fun
  | [d1, d2, d3] => { results := [.lit (.bool true)], args := [d1, d2, d3] }
  | _ => none }
def balanceSplitRow : OpenClaim := { program := "ytnhbkdliljcedaadoor", sum := "da08aeaf046a43128efc0d6b9fffa9be35465df9d13e97f9becd3072a5f73939", func := "palmette/palmettelaw29.BalanceSplit", spec := "balanceSplit", unfollowed := true, recurses := true, named := ["math/bits.deBruijn64tab"], apart := false, laid := [("math/bits.deBruijn64tab", laid_math_bits_deBruijn64tab)] }
def BalanceSplitSaid : Prop := balanceSplitRow.holds Tryd.pinned (OpenSpec.ofChange balanceSplitSpec)

/-- ITS FALSE NEIGHBOUR: 'it returns false'. Refute it at one input. -/
def balanceSplitWrong : ChangeSpec := { name := "balanceSplit", fn := fun _ => fun
  | [d1, d2, d3] => { results := [.lit (.bool false)], args := [d1, d2, d3] }
  | _ => none }
def BalanceSplitWrongFalsely : Prop := balanceSplitRow.holds Tryd.pinned (OpenSpec.ofChange balanceSplitWrong)

/- THE SECOND FORM. 'bulk': how many values and letters a reading holds, each counted each time it is reached (what is shared counts as often as it is met; a slice's spare places count too). A statement '..UptoSaid' is the law's where the arguments, and the package variables that the reading takes, are together of bulk at most 1048576: NARROWER than '..Said'. Prove '..Said' where nothing that the law and all that it calls make is longer than what came in: it says more and counts as full. Else prove '..UptoSaid'. A law counts once. -/
mutual
def uptoBulk {H : Type} : DataW H → Nat
  | .lit (.string bytes) => bytes.length + 1
  | .lit _ => 1
  | .nil => 1
  | .ptr d => uptoBulk d + 1
  | .slice elems spare => uptoBulkAll elems + uptoBulkAll spare + 1
  | .agg parts => uptoBulkAll parts + 1
  | .iface _ d => uptoBulk d + 1
  | .map entries => uptoBulkEntries entries + 1
  | .held _ => 1
def uptoBulkAll {H : Type} : List (DataW H) → Nat
  | [] => 0
  | d :: r => uptoBulk d + uptoBulkAll r
def uptoBulkEntries {H : Type} : List (Lit × DataW H) → Nat
  | [] => 0
  | x :: r => uptoBulkEntry x + uptoBulkEntries r
def uptoBulkEntry {H : Type} : Lit × DataW H → Nat
  | (.string bytes, d) => bytes.length + uptoBulk d + 1
  | (_, d) => uptoBulk d + 1
 end
def uptoSmall : (H : Type) → List (DataW H) → Bool := fun _ ds => decide (uptoBulkAll ds ≤ 1048576)
def OpenSpec.upto (s : _root_.Go.ChangeSpec) : _root_.Go.OpenSpec := { _root_.Go.OpenSpec.ofChange s with cond := some uptoSmall }

/-- 'palmettelaw45.FrameHomes', WHERE WHAT IT READS IS OF BULK AT MOST 1048576: true; the input reads as it did. -/
def frameHomesUptoRow : OpenClaim := { program := "ytnhbkdliljcedaadoor", sum := "da08aeaf046a43128efc0d6b9fffa9be35465df9d13e97f9becd3072a5f73939", func := "palmette/palmettelaw45.FrameHomes", spec := "frameHomes", unfollowed := true, recurses := true, named := ["math/bits.deBruijn64tab"], apart := false, laid := [("math/bits.deBruijn64tab", laid_math_bits_deBruijn64tab)], narrowed := true }
def FrameHomesUptoSaid : Prop := frameHomesUptoRow.holds Tryd.pinned (OpenSpec.upto frameHomesSpec)

/-- 'palmettelaw45.FrameHeavyPathDecomposition', WHERE WHAT IT READS IS OF BULK AT MOST 1048576: true; the input reads as it did. -/
def frameHeavyPathDecompositionUptoRow : OpenClaim := { program := "ytnhbkdliljcedaadoor", sum := "da08aeaf046a43128efc0d6b9fffa9be35465df9d13e97f9becd3072a5f73939", func := "palmette/palmettelaw45.FrameHeavyPathDecomposition", spec := "frameHeavyPathDecomposition", unfollowed := true, recurses := true, named := ["math/bits.deBruijn64tab"], apart := false, laid := [("math/bits.deBruijn64tab", laid_math_bits_deBruijn64tab)], narrowed := true }
def FrameHeavyPathDecompositionUptoSaid : Prop := frameHeavyPathDecompositionUptoRow.holds Tryd.pinned (OpenSpec.upto frameHeavyPathDecompositionSpec)

/-- 'palmettelaw45.FrameConstruction', WHERE WHAT IT READS IS OF BULK AT MOST 1048576: true; the input reads as it did. -/
def frameConstructionUptoRow : OpenClaim := { program := "ytnhbkdliljcedaadoor", sum := "da08aeaf046a43128efc0d6b9fffa9be35465df9d13e97f9becd3072a5f73939", func := "palmette/palmettelaw45.FrameConstruction", spec := "frameConstruction", unfollowed := true, recurses := true, named := ["math/bits.deBruijn64tab"], apart := false, laid := [("math/bits.deBruijn64tab", laid_math_bits_deBruijn64tab)], narrowed := true }
def FrameConstructionUptoSaid : Prop := frameConstructionUptoRow.holds Tryd.pinned (OpenSpec.upto frameConstructionSpec)

/-- 'palmettelaw45.FrameHeavyPaths', WHERE WHAT IT READS IS OF BULK AT MOST 1048576: true; the input reads as it did. -/
def frameHeavyPathsUptoRow : OpenClaim := { program := "ytnhbkdliljcedaadoor", sum := "da08aeaf046a43128efc0d6b9fffa9be35465df9d13e97f9becd3072a5f73939", func := "palmette/palmettelaw45.FrameHeavyPaths", spec := "frameHeavyPaths", unfollowed := true, recurses := true, named := ["math/bits.deBruijn64tab"], apart := false, laid := [("math/bits.deBruijn64tab", laid_math_bits_deBruijn64tab)], narrowed := true }
def FrameHeavyPathsUptoSaid : Prop := frameHeavyPathsUptoRow.holds Tryd.pinned (OpenSpec.upto frameHeavyPathsSpec)

/-- 'palmettelaw29.BalanceTree', WHERE WHAT IT READS IS OF BULK AT MOST 1048576: true; the input reads as it did. -/
def balanceTreeUptoRow : OpenClaim := { program := "ytnhbkdliljcedaadoor", sum := "da08aeaf046a43128efc0d6b9fffa9be35465df9d13e97f9becd3072a5f73939", func := "palmette/palmettelaw29.BalanceTree", spec := "balanceTree", unfollowed := true, recurses := true, named := ["math/bits.deBruijn64tab"], apart := false, laid := [("math/bits.deBruijn64tab", laid_math_bits_deBruijn64tab)], narrowed := true }
def BalanceTreeUptoSaid : Prop := balanceTreeUptoRow.holds Tryd.pinned (OpenSpec.upto balanceTreeSpec)

/-- 'palmettelaw29.BalanceDepth', WHERE WHAT IT READS IS OF BULK AT MOST 1048576: true; the input reads as it did. -/
def balanceDepthUptoRow : OpenClaim := { program := "ytnhbkdliljcedaadoor", sum := "da08aeaf046a43128efc0d6b9fffa9be35465df9d13e97f9becd3072a5f73939", func := "palmette/palmettelaw29.BalanceDepth", spec := "balanceDepth", unfollowed := true, recurses := true, named := ["math/bits.deBruijn64tab"], apart := false, laid := [("math/bits.deBruijn64tab", laid_math_bits_deBruijn64tab)], narrowed := true }
def BalanceDepthUptoSaid : Prop := balanceDepthUptoRow.holds Tryd.pinned (OpenSpec.upto balanceDepthSpec)

/-- 'palmettelaw29.BalanceBitLen', WHERE WHAT IT READS IS OF BULK AT MOST 1048576: true; the input reads as it did. -/
def balanceBitLenUptoRow : OpenClaim := { program := "ytnhbkdliljcedaadoor", sum := "da08aeaf046a43128efc0d6b9fffa9be35465df9d13e97f9becd3072a5f73939", func := "palmette/palmettelaw29.BalanceBitLen", spec := "balanceBitLen", unfollowed := true, recurses := true, named := ["math/bits.deBruijn64tab"], apart := false, laid := [("math/bits.deBruijn64tab", laid_math_bits_deBruijn64tab)], narrowed := true }
def BalanceBitLenUptoSaid : Prop := balanceBitLenUptoRow.holds Tryd.pinned (OpenSpec.upto balanceBitLenSpec)

/-- 'palmettelaw45.FrameAddLeaf', WHERE WHAT IT READS IS OF BULK AT MOST 1048576: true; the input reads as it did. -/
def frameAddLeafUptoRow : OpenClaim := { program := "ytnhbkdliljcedaadoor", sum := "da08aeaf046a43128efc0d6b9fffa9be35465df9d13e97f9becd3072a5f73939", func := "palmette/palmettelaw45.FrameAddLeaf", spec := "frameAddLeaf", unfollowed := true, recurses := true, named := ["math/bits.deBruijn64tab"], apart := false, laid := [("math/bits.deBruijn64tab", laid_math_bits_deBruijn64tab)], narrowed := true }
def FrameAddLeafUptoSaid : Prop := frameAddLeafUptoRow.holds Tryd.pinned (OpenSpec.upto frameAddLeafSpec)

/-- 'palmettelaw29.BalanceCentroid', WHERE WHAT IT READS IS OF BULK AT MOST 1048576: true; the input reads as it did. -/
def balanceCentroidUptoRow : OpenClaim := { program := "ytnhbkdliljcedaadoor", sum := "da08aeaf046a43128efc0d6b9fffa9be35465df9d13e97f9becd3072a5f73939", func := "palmette/palmettelaw29.BalanceCentroid", spec := "balanceCentroid", unfollowed := true, recurses := true, named := ["math/bits.deBruijn64tab"], apart := false, laid := [("math/bits.deBruijn64tab", laid_math_bits_deBruijn64tab)], narrowed := true }
def BalanceCentroidUptoSaid : Prop := balanceCentroidUptoRow.holds Tryd.pinned (OpenSpec.upto balanceCentroidSpec)

/-- 'palmettelaw29.BalanceWidth', WHERE WHAT IT READS IS OF BULK AT MOST 1048576: true; the input reads as it did. -/
def balanceWidthUptoRow : OpenClaim := { program := "ytnhbkdliljcedaadoor", sum := "da08aeaf046a43128efc0d6b9fffa9be35465df9d13e97f9becd3072a5f73939", func := "palmette/palmettelaw29.BalanceWidth", spec := "balanceWidth", unfollowed := true, recurses := true, named := ["math/bits.deBruijn64tab"], apart := false, laid := [("math/bits.deBruijn64tab", laid_math_bits_deBruijn64tab)], narrowed := true }
def BalanceWidthUptoSaid : Prop := balanceWidthUptoRow.holds Tryd.pinned (OpenSpec.upto balanceWidthSpec)

/-- 'palmettelaw29.BalanceSplitters', WHERE WHAT IT READS IS OF BULK AT MOST 1048576: true; the input reads as it did. -/
def balanceSplittersUptoRow : OpenClaim := { program := "ytnhbkdliljcedaadoor", sum := "da08aeaf046a43128efc0d6b9fffa9be35465df9d13e97f9becd3072a5f73939", func := "palmette/palmettelaw29.BalanceSplitters", spec := "balanceSplitters", unfollowed := true, recurses := true, named := ["math/bits.deBruijn64tab"], apart := false, laid := [("math/bits.deBruijn64tab", laid_math_bits_deBruijn64tab)], narrowed := true }
def BalanceSplittersUptoSaid : Prop := balanceSplittersUptoRow.holds Tryd.pinned (OpenSpec.upto balanceSplittersSpec)

/-- 'palmettelaw29.BalanceCentroidHalves', WHERE WHAT IT READS IS OF BULK AT MOST 1048576: true; the input reads as it did. -/
def balanceCentroidHalvesUptoRow : OpenClaim := { program := "ytnhbkdliljcedaadoor", sum := "da08aeaf046a43128efc0d6b9fffa9be35465df9d13e97f9becd3072a5f73939", func := "palmette/palmettelaw29.BalanceCentroidHalves", spec := "balanceCentroidHalves", unfollowed := true, recurses := true, named := ["math/bits.deBruijn64tab"], apart := false, laid := [("math/bits.deBruijn64tab", laid_math_bits_deBruijn64tab)], narrowed := true }
def BalanceCentroidHalvesUptoSaid : Prop := balanceCentroidHalvesUptoRow.holds Tryd.pinned (OpenSpec.upto balanceCentroidHalvesSpec)

/-- 'palmettelaw29.BalanceSplit', WHERE WHAT IT READS IS OF BULK AT MOST 1048576: true; the input reads as it did. -/
def balanceSplitUptoRow : OpenClaim := { program := "ytnhbkdliljcedaadoor", sum := "da08aeaf046a43128efc0d6b9fffa9be35465df9d13e97f9becd3072a5f73939", func := "palmette/palmettelaw29.BalanceSplit", spec := "balanceSplit", unfollowed := true, recurses := true, named := ["math/bits.deBruijn64tab"], apart := false, laid := [("math/bits.deBruijn64tab", laid_math_bits_deBruijn64tab)], narrowed := true }
def BalanceSplitUptoSaid : Prop := balanceSplitUptoRow.holds Tryd.pinned (OpenSpec.upto balanceSplitSpec)

end Rows
end Go.Proofs.YtnhbkdliljcedaaDoor
