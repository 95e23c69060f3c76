/-
  DERIVED. GIVEN WITH THE SEED: THE CARDS: each row of YtiakihcolhopoaaGreatDoorRows.lean that lists a variable, with what it lists TIED to the program's text (the seventh form; the later family's looks); each row that meets fmt, with fmt's text TOLD by the authors' own Lean function (tested against real Go, not proved from fmt's source: count such statements apart). THE CARD IS WHAT COUNTS. Prove the row's statement (the work); the ties are given (YtiakihcolhopoaaGreatDoorTie.lean); close each card by the builder's one call (the guide's Derived/Test/ToyasCard.lean, 'card_holds'). Laid BY PROGRAM, IN A SANDBOX (cutbox-door.mjs). By AI agents, Wed Nov 11 2026. No macro, syntax, notation, axiom, sorry.
-/
import Derived.Test.YtiakihcolhopoaaGreatDoorRows
import GoSem.ClaimSeven
namespace Go.Proofs.YtiakihcolhopoaaGreatDoor
namespace Rows

/-- THE TIED CARD OF 'palmettetop.EngineChordal'. -/
def engineChordalCard : Claim7 := { stood := { row := engineChordalRow, standIns := [], harness := (true, "fb3ce878b29cc03dd573622fe2c5f45c0ee888706ccfb71337d6b924c1fb9d19"), looks := true }, kinds := [], alts := [], laidByText := true, laidKinds := [.data], laidTests := true, laidLooks := .later }
def EngineChordalCardSaid : Prop := Claim7.holds Tryz.pinned (.plain (OpenSpec.ofChange engineChordalSpec)) engineChordalCard

/-- THE SECOND FORM's CARD OF 'palmettetop.EngineChordal'. -/
def engineChordalUptoCard : Claim7 := { stood := { row := engineChordalUptoRow, standIns := [], harness := (true, "fb3ce878b29cc03dd573622fe2c5f45c0ee888706ccfb71337d6b924c1fb9d19"), looks := true }, kinds := [], alts := [], laidByText := true, laidKinds := [.data], laidTests := true, laidLooks := .later }
def EngineChordalUptoCardSaid : Prop := Claim7.holds Tryz.pinned (.plain (OpenSpec.upto engineChordalSpec)) engineChordalUptoCard
end Rows
end Go.Proofs.YtiakihcolhopoaaGreatDoor
