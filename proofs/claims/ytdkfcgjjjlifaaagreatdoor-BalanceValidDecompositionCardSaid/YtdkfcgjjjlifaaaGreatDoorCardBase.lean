/-
  XCardBase.
  No condition.
-/
import Derived.Test.YtdkfcgjjjlifaaaGreatDoorCards
import Derived.Test.YtdkfcgjjjlifaaaGreatDoorTie
import Derived.Test.YtdkfcgjjjlifaaaGreatDoorVB
import Derived.Test.YtdkfcgjjjlifaaaGreatDoorVD
import Derived.ProofKit
import Derived.OpenShut
import Derived.ChangeOld
import Derived.Below
import Derived.LaidLaws
import Derived.Handed
import Derived.Lib.LaidTab
import Derived.SevenTiedAt
set_option linter.unusedVariables false
set_option linter.unusedSimpArgs false
namespace Go.Proofs.YtdkfcgjjjlifaaaGreatDoor
open Go Go.ChangeShapes Go.WideShapes Go.ChangeAt Go.RowKit

theorem own : ownKnob Tryz.prog.godebug = none := by kernel_rfl
theorem laidOut : laidOutB Tryz.prog = true := by kernel_rfl
theorem tabG : Tryz.prog.globalNamed "math/bits.deBruijn64tab" = some 0 := by kernel_rfl
theorem tabT : (Tryz.prog.globals[0]?).map (·.type) = some 201 := by kernel_rfl
theorem tabC : Tryz.prog.cellsOf 201 = 64 := by kernel_rfl
theorem tabE : Tryz.prog.cellsOf 5 = 1 := by kernel_rfl
/-- the table, from the row's condition -/
theorem tab_of_laid {W : World} (h : laidMet Tryz.prog [("math/bits.deBruijn64tab", Rows.laid_math_bits_deBruijn64tab)] W) : Mono.Tab W := by
  have h2 := Lib.tabIs_of_head (k := .u8) (zs := Mono.tabZ.map fun n : Nat => (n : Int)) (rest := []) tabG tabT Tryz.underlying201 Tryz.underlying5 tabE tabC (show laidMet Tryz.prog (("math/bits.deBruijn64tab", Lib.tabData .u8 (Mono.tabZ.map fun n : Nat => (n : Int))) :: []) W from h)
  intro i hi
  rw [h2.cell tabG i (by simpa [Mono.tabZ] using hi)]
  congr 2
  simp [List.getD, List.getElem?_map]
  cases Mono.tabZ[i]? <;> rfl
/-- a world in which the table is laid -/
noncomputable def tabWorld (os : Os) : World :=
  let w0 := World.holding Tryz.prog os ⟨#[], #[], []⟩
  { w0 with heap := w0.heap.modify 0 fun
      | .cells _ t frozen => .cells (Mono.tabZ.map fun n : Nat => Value.int .u8 (n : Int)).toArray t frozen
      | o => o }
theorem tab_met (os : Os) (args : Array Value) : laidMet Tryz.prog [("math/bits.deBruijn64tab", Rows.laid_math_bits_deBruijn64tab)] ((tabWorld os).forCall (fun _ _ => 0) ⟨#[], args, []⟩).memory :=
  laidMet_of_run' 8 (by kernel_rfl) (by kernel_rfl)
end Go.Proofs.YtdkfcgjjjlifaaaGreatDoor
