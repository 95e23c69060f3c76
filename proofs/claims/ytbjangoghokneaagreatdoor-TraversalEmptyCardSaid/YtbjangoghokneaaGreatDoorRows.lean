/-
  NARROWER THAN 'FOR EVERY INPUT', by the rows' own cells (each row's printed sentence says how): TraversalCuts: laid · TraversalBiconnected: laid · TraversalBipartite: laid · TraversalComponents: laid · TraversalShortestPaths: laid · TraversalShortestCycle: laid · TraversalSpanningForest: laid · TraversalEmpty: laid.
  DERIVED. THE GIVEN ROWS OF THIS SEAT. 8 by the template 'for every input the law returns true; each argument reads behind the call as it read before'; 0 by the template 'total and deterministic' (their statements: YtbjangoghokneaaGreatDoorTotals.lean).
  GIVEN WITH THE SEED: the statements are not yours to turn. If you find one false, say at which input.
  Laid BY PROGRAM, IN A SANDBOX (cutbox-rows.mjs): the forced cells as the released guide's own fill.sh prints them over the translation 52bd5e0b0a7be744… (all of the seat's roots in one cut). By AI agents, Wed Nov 11 2026. No macro, syntax, notation, axiom, sorry.
-/
import Derived.Test.YtbjangoghokneaaGreatDoorChecked
import GoSem.Claim
import GoSem.ClaimJoined
import GoSem.ClaimMapViews
import Derived.JoinedTies
import Derived.KernelRfl
namespace Go.Proofs.YtbjangoghokneaaGreatDoor
/- THE CELL 'sum', in the pinned program and in every row, IS THE sha256 OF THE DUMP (.gsa) THAT YtbjangoghokneaaGreatDoorProg.lean LOADS. Nothing in Lean hashes anything: it is a label: what it is worth is what the hold of that sum in a sandbox is worth. -/
noncomputable def Tryz.pinned : Pinned := { name := "ytbjangoghokneaagreatdoor", sum := "52bd5e0b0a7be744019e1564f1a87228b2353c88c6f5aeb8d417490631d07a62", checked := Tryz.checked }
namespace Rows
def none {H : Type} : Left H := { results := [], args := [] }

/- WHAT THE LISTED PACKAGE-LEVEL VARIABLES READ AS WHEN THE CALL BEGINS. Each datum BY PROGRAM (the guide's laid-datum.mjs) off the statement by which the dump's own 'gosem.cut.vars' lays the variable. In a bare row this is a premise. The card (YtbjangoghokneaaGreatDoorCards.lean) ties it to the program's text. -/
def laid_math_bits_deBruijn64tab {H : Type} : DataW H := .agg [.lit (.int .u8 0), .lit (.int .u8 1), .lit (.int .u8 56), .lit (.int .u8 2), .lit (.int .u8 57), .lit (.int .u8 49), .lit (.int .u8 28), .lit (.int .u8 3), .lit (.int .u8 61), .lit (.int .u8 58), .lit (.int .u8 42), .lit (.int .u8 50), .lit (.int .u8 38), .lit (.int .u8 29), .lit (.int .u8 17), .lit (.int .u8 4), .lit (.int .u8 62), .lit (.int .u8 47), .lit (.int .u8 59), .lit (.int .u8 36), .lit (.int .u8 45), .lit (.int .u8 43), .lit (.int .u8 51), .lit (.int .u8 22), .lit (.int .u8 53), .lit (.int .u8 39), .lit (.int .u8 33), .lit (.int .u8 30), .lit (.int .u8 24), .lit (.int .u8 18), .lit (.int .u8 12), .lit (.int .u8 5), .lit (.int .u8 63), .lit (.int .u8 55), .lit (.int .u8 48), .lit (.int .u8 27), .lit (.int .u8 60), .lit (.int .u8 41), .lit (.int .u8 37), .lit (.int .u8 16), .lit (.int .u8 46), .lit (.int .u8 35), .lit (.int .u8 44), .lit (.int .u8 21), .lit (.int .u8 52), .lit (.int .u8 32), .lit (.int .u8 23), .lit (.int .u8 11), .lit (.int .u8 54), .lit (.int .u8 26), .lit (.int .u8 40), .lit (.int .u8 15), .lit (.int .u8 34), .lit (.int .u8 20), .lit (.int .u8 31), .lit (.int .u8 10), .lit (.int .u8 25), .lit (.int .u8 14), .lit (.int .u8 19), .lit (.int .u8 9), .lit (.int .u8 13), .lit (.int .u8 8), .lit (.int .u8 7), .lit (.int .u8 6)]

/-- 'palmettelaw07.TraversalCuts': WHATEVER THE INPUT: true; the input reads as it did. -/
def traversalCutsSpec : ChangeSpec := { name := "traversalCuts", fn := fun _ => fun
  | [d] => { results := [.lit (.bool true)], args := [d] }
  | _ => none }
def traversalCutsRow : OpenClaim := { program := "ytbjangoghokneaagreatdoor", sum := "52bd5e0b0a7be744019e1564f1a87228b2353c88c6f5aeb8d417490631d07a62", func := "palmette/palmettelaw07.TraversalCuts", spec := "traversalCuts", unfollowed := true, recurses := true, named := ["math/bits.deBruijn64tab"], plainKeys := false, apart := false, laid := [("math/bits.deBruijn64tab", laid_math_bits_deBruijn64tab)] }
def TraversalCutsSaid : Prop := traversalCutsRow.holds Tryz.pinned (OpenSpec.ofChange traversalCutsSpec)

/-- ITS FALSE NEIGHBOUR: 'it returns false'. Refute it at one input. -/
def traversalCutsWrong : ChangeSpec := { name := "traversalCuts", fn := fun _ => fun
  | [d] => { results := [.lit (.bool false)], args := [d] }
  | _ => none }
def TraversalCutsWrongFalsely : Prop := traversalCutsRow.holds Tryz.pinned (OpenSpec.ofChange traversalCutsWrong)

/-- 'palmettelaw07.TraversalBiconnected': WHATEVER THE INPUT: true; the input reads as it did. -/
def traversalBiconnectedSpec : ChangeSpec := { name := "traversalBiconnected", fn := fun _ => fun
  | [d] => { results := [.lit (.bool true)], args := [d] }
  | _ => none }
def traversalBiconnectedRow : OpenClaim := { program := "ytbjangoghokneaagreatdoor", sum := "52bd5e0b0a7be744019e1564f1a87228b2353c88c6f5aeb8d417490631d07a62", func := "palmette/palmettelaw07.TraversalBiconnected", spec := "traversalBiconnected", unfollowed := true, recurses := true, named := ["math/bits.deBruijn64tab"], plainKeys := false, apart := false, laid := [("math/bits.deBruijn64tab", laid_math_bits_deBruijn64tab)] }
def TraversalBiconnectedSaid : Prop := traversalBiconnectedRow.holds Tryz.pinned (OpenSpec.ofChange traversalBiconnectedSpec)

/-- ITS FALSE NEIGHBOUR: 'it returns false'. Refute it at one input. -/
def traversalBiconnectedWrong : ChangeSpec := { name := "traversalBiconnected", fn := fun _ => fun
  | [d] => { results := [.lit (.bool false)], args := [d] }
  | _ => none }
def TraversalBiconnectedWrongFalsely : Prop := traversalBiconnectedRow.holds Tryz.pinned (OpenSpec.ofChange traversalBiconnectedWrong)

/-- 'palmettelaw07.TraversalBipartite': WHATEVER THE INPUT: true; the input reads as it did. -/
def traversalBipartiteSpec : ChangeSpec := { name := "traversalBipartite", fn := fun _ => fun
  | [d] => { results := [.lit (.bool true)], args := [d] }
  | _ => none }
def traversalBipartiteRow : OpenClaim := { program := "ytbjangoghokneaagreatdoor", sum := "52bd5e0b0a7be744019e1564f1a87228b2353c88c6f5aeb8d417490631d07a62", func := "palmette/palmettelaw07.TraversalBipartite", spec := "traversalBipartite", unfollowed := true, recurses := true, named := ["math/bits.deBruijn64tab"], plainKeys := false, apart := false, laid := [("math/bits.deBruijn64tab", laid_math_bits_deBruijn64tab)] }
def TraversalBipartiteSaid : Prop := traversalBipartiteRow.holds Tryz.pinned (OpenSpec.ofChange traversalBipartiteSpec)

/-- ITS FALSE NEIGHBOUR: 'it returns false'. Refute it at one input. -/
def traversalBipartiteWrong : ChangeSpec := { name := "traversalBipartite", fn := fun _ => fun
  | [d] => { results := [.lit (.bool false)], args := [d] }
  | _ => none }
def TraversalBipartiteWrongFalsely : Prop := traversalBipartiteRow.holds Tryz.pinned (OpenSpec.ofChange traversalBipartiteWrong)

/-- 'palmettelaw07.TraversalComponents': WHATEVER THE INPUT: true; the input reads as it did. -/
def traversalComponentsSpec : ChangeSpec := { name := "traversalComponents", fn := fun _ => fun
  | [d1, d2, d3] => { results := [.lit (.bool true)], args := [d1, d2, d3] }
  | _ => none }
def traversalComponentsRow : OpenClaim := { program := "ytbjangoghokneaagreatdoor", sum := "52bd5e0b0a7be744019e1564f1a87228b2353c88c6f5aeb8d417490631d07a62", func := "palmette/palmettelaw07.TraversalComponents", spec := "traversalComponents", unfollowed := true, recurses := true, named := ["math/bits.deBruijn64tab"], plainKeys := false, apart := false, laid := [("math/bits.deBruijn64tab", laid_math_bits_deBruijn64tab)] }
def TraversalComponentsSaid : Prop := traversalComponentsRow.holds Tryz.pinned (OpenSpec.ofChange traversalComponentsSpec)

/-- ITS FALSE NEIGHBOUR: 'it returns false'. Refute it at one input. -/
def traversalComponentsWrong : ChangeSpec := { name := "traversalComponents", fn := fun _ => fun
  | [d1, d2, d3] => { results := [.lit (.bool false)], args := [d1, d2, d3] }
  | _ => none }
def TraversalComponentsWrongFalsely : Prop := traversalComponentsRow.holds Tryz.pinned (OpenSpec.ofChange traversalComponentsWrong)

/-- 'palmettelaw07.TraversalShortestPaths': WHATEVER THE INPUT: true; the input reads as it did. -/
def traversalShortestPathsSpec : ChangeSpec := { name := "traversalShortestPaths", fn := fun _ => fun
  | [d1, d2, d3] => { results := [.lit (.bool true)], args := [d1, d2, d3] }
  | _ => none }
def traversalShortestPathsRow : OpenClaim := { program := "ytbjangoghokneaagreatdoor", sum := "52bd5e0b0a7be744019e1564f1a87228b2353c88c6f5aeb8d417490631d07a62", func := "palmette/palmettelaw07.TraversalShortestPaths", spec := "traversalShortestPaths", unfollowed := true, recurses := true, named := ["math/bits.deBruijn64tab"], plainKeys := false, apart := false, laid := [("math/bits.deBruijn64tab", laid_math_bits_deBruijn64tab)] }
def TraversalShortestPathsSaid : Prop := traversalShortestPathsRow.holds Tryz.pinned (OpenSpec.ofChange traversalShortestPathsSpec)

/-- ITS FALSE NEIGHBOUR: 'it returns false'. Refute it at one input. -/
def traversalShortestPathsWrong : ChangeSpec := { name := "traversalShortestPaths", fn := fun _ => fun
  | [d1, d2, d3] => { results := [.lit (.bool false)], args := [d1, d2, d3] }
  | _ => none }
def TraversalShortestPathsWrongFalsely : Prop := traversalShortestPathsRow.holds Tryz.pinned (OpenSpec.ofChange traversalShortestPathsWrong)

/-- 'palmettelaw07.TraversalShortestCycle': WHATEVER THE INPUT: true; the input reads as it did. -/
def traversalShortestCycleSpec : ChangeSpec := { name := "traversalShortestCycle", fn := fun _ => fun
  | [d] => { results := [.lit (.bool true)], args := [d] }
  | _ => none }
def traversalShortestCycleRow : OpenClaim := { program := "ytbjangoghokneaagreatdoor", sum := "52bd5e0b0a7be744019e1564f1a87228b2353c88c6f5aeb8d417490631d07a62", func := "palmette/palmettelaw07.TraversalShortestCycle", spec := "traversalShortestCycle", unfollowed := true, recurses := true, named := ["math/bits.deBruijn64tab"], plainKeys := false, apart := false, laid := [("math/bits.deBruijn64tab", laid_math_bits_deBruijn64tab)] }
def TraversalShortestCycleSaid : Prop := traversalShortestCycleRow.holds Tryz.pinned (OpenSpec.ofChange traversalShortestCycleSpec)

/-- ITS FALSE NEIGHBOUR: 'it returns false'. Refute it at one input. -/
def traversalShortestCycleWrong : ChangeSpec := { name := "traversalShortestCycle", fn := fun _ => fun
  | [d] => { results := [.lit (.bool false)], args := [d] }
  | _ => none }
def TraversalShortestCycleWrongFalsely : Prop := traversalShortestCycleRow.holds Tryz.pinned (OpenSpec.ofChange traversalShortestCycleWrong)

/-- 'palmettelaw07.TraversalSpanningForest': WHATEVER THE INPUT: true; the input reads as it did. -/
def traversalSpanningForestSpec : ChangeSpec := { name := "traversalSpanningForest", fn := fun _ => fun
  | [d] => { results := [.lit (.bool true)], args := [d] }
  | _ => none }
def traversalSpanningForestRow : OpenClaim := { program := "ytbjangoghokneaagreatdoor", sum := "52bd5e0b0a7be744019e1564f1a87228b2353c88c6f5aeb8d417490631d07a62", func := "palmette/palmettelaw07.TraversalSpanningForest", spec := "traversalSpanningForest", unfollowed := true, recurses := true, named := ["math/bits.deBruijn64tab"], plainKeys := false, apart := false, laid := [("math/bits.deBruijn64tab", laid_math_bits_deBruijn64tab)] }
def TraversalSpanningForestSaid : Prop := traversalSpanningForestRow.holds Tryz.pinned (OpenSpec.ofChange traversalSpanningForestSpec)

/-- ITS FALSE NEIGHBOUR: 'it returns false'. Refute it at one input. -/
def traversalSpanningForestWrong : ChangeSpec := { name := "traversalSpanningForest", fn := fun _ => fun
  | [d] => { results := [.lit (.bool false)], args := [d] }
  | _ => none }
def TraversalSpanningForestWrongFalsely : Prop := traversalSpanningForestRow.holds Tryz.pinned (OpenSpec.ofChange traversalSpanningForestWrong)

/-- 'palmettelaw07.TraversalEmpty': WHATEVER THE INPUT: true; the input reads as it did. -/
def traversalEmptySpec : ChangeSpec := { name := "traversalEmpty", fn := fun _ => fun
  | [d1, d2, d3] => { results := [.lit (.bool true)], args := [d1, d2, d3] }
  | _ => none }
def traversalEmptyRow : OpenClaim := { program := "ytbjangoghokneaagreatdoor", sum := "52bd5e0b0a7be744019e1564f1a87228b2353c88c6f5aeb8d417490631d07a62", func := "palmette/palmettelaw07.TraversalEmpty", spec := "traversalEmpty", inPlace := ["maps.clone"], unfollowed := true, recurses := true, named := ["math/bits.deBruijn64tab"], plainKeys := false, apart := false, laid := [("math/bits.deBruijn64tab", laid_math_bits_deBruijn64tab)] }
def TraversalEmptySaid : Prop := traversalEmptyRow.holds Tryz.pinned (OpenSpec.ofChange traversalEmptySpec)

/-- ITS FALSE NEIGHBOUR: 'it returns false'. Refute it at one input. -/
def traversalEmptyWrong : ChangeSpec := { name := "traversalEmpty", fn := fun _ => fun
  | [d1, d2, d3] => { results := [.lit (.bool false)], args := [d1, d2, d3] }
  | _ => none }
def TraversalEmptyWrongFalsely : Prop := traversalEmptyRow.holds Tryz.pinned (OpenSpec.ofChange traversalEmptyWrong)

/- THE SECOND FORM. 'bulk': how many values and letters a reading holds, each counted each time it is reached (what is shared counts as often as it is met; a slice's spare places count too). A statement '..UptoSaid' is the law's where the arguments, and the package variables that the reading takes, are together of bulk at most 1048576: NARROWER than '..Said'. Prove '..Said' where nothing that the law and all that it calls make is longer than what came in: it says more and counts as full. Else prove '..UptoSaid'. A law counts once. -/
mutual
def uptoBulk {H : Type} : DataW H → Nat
  | .lit (.string bytes) => bytes.length + 1
  | .lit _ => 1
  | .nil => 1
  | .ptr d => uptoBulk d + 1
  | .slice elems spare => uptoBulkAll elems + uptoBulkAll spare + 1
  | .agg parts => uptoBulkAll parts + 1
  | .iface _ d => uptoBulk d + 1
  | .map entries => uptoBulkEntries entries + 1
  | .held _ => 1
def uptoBulkAll {H : Type} : List (DataW H) → Nat
  | [] => 0
  | d :: r => uptoBulk d + uptoBulkAll r
def uptoBulkEntries {H : Type} : List (Lit × DataW H) → Nat
  | [] => 0
  | x :: r => uptoBulkEntry x + uptoBulkEntries r
def uptoBulkEntry {H : Type} : Lit × DataW H → Nat
  | (.string bytes, d) => bytes.length + uptoBulk d + 1
  | (_, d) => uptoBulk d + 1
 end
def uptoSmall : (H : Type) → List (DataW H) → Bool := fun _ ds => decide (uptoBulkAll ds ≤ 1048576)
def OpenSpec.upto (s : _root_.Go.ChangeSpec) : _root_.Go.OpenSpec := { _root_.Go.OpenSpec.ofChange s with cond := some uptoSmall }

/-- 'palmettelaw07.TraversalCuts', WHERE WHAT IT READS IS OF BULK AT MOST 1048576: true; the input reads as it did. -/
def traversalCutsUptoRow : OpenClaim := { program := "ytbjangoghokneaagreatdoor", sum := "52bd5e0b0a7be744019e1564f1a87228b2353c88c6f5aeb8d417490631d07a62", func := "palmette/palmettelaw07.TraversalCuts", spec := "traversalCuts", unfollowed := true, recurses := true, named := ["math/bits.deBruijn64tab"], plainKeys := false, apart := false, laid := [("math/bits.deBruijn64tab", laid_math_bits_deBruijn64tab)], narrowed := true }
def TraversalCutsUptoSaid : Prop := traversalCutsUptoRow.holds Tryz.pinned (OpenSpec.upto traversalCutsSpec)

/-- 'palmettelaw07.TraversalBiconnected', WHERE WHAT IT READS IS OF BULK AT MOST 1048576: true; the input reads as it did. -/
def traversalBiconnectedUptoRow : OpenClaim := { program := "ytbjangoghokneaagreatdoor", sum := "52bd5e0b0a7be744019e1564f1a87228b2353c88c6f5aeb8d417490631d07a62", func := "palmette/palmettelaw07.TraversalBiconnected", spec := "traversalBiconnected", unfollowed := true, recurses := true, named := ["math/bits.deBruijn64tab"], plainKeys := false, apart := false, laid := [("math/bits.deBruijn64tab", laid_math_bits_deBruijn64tab)], narrowed := true }
def TraversalBiconnectedUptoSaid : Prop := traversalBiconnectedUptoRow.holds Tryz.pinned (OpenSpec.upto traversalBiconnectedSpec)

/-- 'palmettelaw07.TraversalBipartite', WHERE WHAT IT READS IS OF BULK AT MOST 1048576: true; the input reads as it did. -/
def traversalBipartiteUptoRow : OpenClaim := { program := "ytbjangoghokneaagreatdoor", sum := "52bd5e0b0a7be744019e1564f1a87228b2353c88c6f5aeb8d417490631d07a62", func := "palmette/palmettelaw07.TraversalBipartite", spec := "traversalBipartite", unfollowed := true, recurses := true, named := ["math/bits.deBruijn64tab"], plainKeys := false, apart := false, laid := [("math/bits.deBruijn64tab", laid_math_bits_deBruijn64tab)], narrowed := true }
def TraversalBipartiteUptoSaid : Prop := traversalBipartiteUptoRow.holds Tryz.pinned (OpenSpec.upto traversalBipartiteSpec)

/-- 'palmettelaw07.TraversalComponents', WHERE WHAT IT READS IS OF BULK AT MOST 1048576: true; the input reads as it did. -/
def traversalComponentsUptoRow : OpenClaim := { program := "ytbjangoghokneaagreatdoor", sum := "52bd5e0b0a7be744019e1564f1a87228b2353c88c6f5aeb8d417490631d07a62", func := "palmette/palmettelaw07.TraversalComponents", spec := "traversalComponents", unfollowed := true, recurses := true, named := ["math/bits.deBruijn64tab"], plainKeys := false, apart := false, laid := [("math/bits.deBruijn64tab", laid_math_bits_deBruijn64tab)], narrowed := true }
def TraversalComponentsUptoSaid : Prop := traversalComponentsUptoRow.holds Tryz.pinned (OpenSpec.upto traversalComponentsSpec)

/-- 'palmettelaw07.TraversalShortestPaths', WHERE WHAT IT READS IS OF BULK AT MOST 1048576: true; the input reads as it did. -/
def traversalShortestPathsUptoRow : OpenClaim := { program := "ytbjangoghokneaagreatdoor", sum := "52bd5e0b0a7be744019e1564f1a87228b2353c88c6f5aeb8d417490631d07a62", func := "palmette/palmettelaw07.TraversalShortestPaths", spec := "traversalShortestPaths", unfollowed := true, recurses := true, named := ["math/bits.deBruijn64tab"], plainKeys := false, apart := false, laid := [("math/bits.deBruijn64tab", laid_math_bits_deBruijn64tab)], narrowed := true }
def TraversalShortestPathsUptoSaid : Prop := traversalShortestPathsUptoRow.holds Tryz.pinned (OpenSpec.upto traversalShortestPathsSpec)

/-- 'palmettelaw07.TraversalShortestCycle', WHERE WHAT IT READS IS OF BULK AT MOST 1048576: true; the input reads as it did. -/
def traversalShortestCycleUptoRow : OpenClaim := { program := "ytbjangoghokneaagreatdoor", sum := "52bd5e0b0a7be744019e1564f1a87228b2353c88c6f5aeb8d417490631d07a62", func := "palmette/palmettelaw07.TraversalShortestCycle", spec := "traversalShortestCycle", unfollowed := true, recurses := true, named := ["math/bits.deBruijn64tab"], plainKeys := false, apart := false, laid := [("math/bits.deBruijn64tab", laid_math_bits_deBruijn64tab)], narrowed := true }
def TraversalShortestCycleUptoSaid : Prop := traversalShortestCycleUptoRow.holds Tryz.pinned (OpenSpec.upto traversalShortestCycleSpec)

/-- 'palmettelaw07.TraversalSpanningForest', WHERE WHAT IT READS IS OF BULK AT MOST 1048576: true; the input reads as it did. -/
def traversalSpanningForestUptoRow : OpenClaim := { program := "ytbjangoghokneaagreatdoor", sum := "52bd5e0b0a7be744019e1564f1a87228b2353c88c6f5aeb8d417490631d07a62", func := "palmette/palmettelaw07.TraversalSpanningForest", spec := "traversalSpanningForest", unfollowed := true, recurses := true, named := ["math/bits.deBruijn64tab"], plainKeys := false, apart := false, laid := [("math/bits.deBruijn64tab", laid_math_bits_deBruijn64tab)], narrowed := true }
def TraversalSpanningForestUptoSaid : Prop := traversalSpanningForestUptoRow.holds Tryz.pinned (OpenSpec.upto traversalSpanningForestSpec)

/-- 'palmettelaw07.TraversalEmpty', WHERE WHAT IT READS IS OF BULK AT MOST 1048576: true; the input reads as it did. -/
def traversalEmptyUptoRow : OpenClaim := { program := "ytbjangoghokneaagreatdoor", sum := "52bd5e0b0a7be744019e1564f1a87228b2353c88c6f5aeb8d417490631d07a62", func := "palmette/palmettelaw07.TraversalEmpty", spec := "traversalEmpty", inPlace := ["maps.clone"], unfollowed := true, recurses := true, named := ["math/bits.deBruijn64tab"], plainKeys := false, apart := false, laid := [("math/bits.deBruijn64tab", laid_math_bits_deBruijn64tab)], narrowed := true }
def TraversalEmptyUptoSaid : Prop := traversalEmptyUptoRow.holds Tryz.pinned (OpenSpec.upto traversalEmptySpec)

end Rows
end Go.Proofs.YtbjangoghokneaaGreatDoor
