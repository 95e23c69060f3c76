/-
  DERIVED. GIVEN WITH THE SEED: THE CARDS: each row of YteildobhcnllmaaGreatDoorRows.lean that lists a variable, with what it lists TIED to the program's text (the seventh form; the later family's looks); each row that meets fmt, with fmt's text TOLD by the authors' own Lean function (tested against real Go, not proved from fmt's source: count such statements apart). THE CARD IS WHAT COUNTS. Prove the row's statement (the work); the ties are given (YteildobhcnllmaaGreatDoorTie.lean); close each card by the builder's one call (the guide's Derived/Test/ToyasCard.lean, 'card_holds'). Laid BY PROGRAM, IN A SANDBOX (cutbox-door.mjs). By AI agents, Wed Nov 11 2026. No macro, syntax, notation, axiom, sorry.
-/
import Derived.Test.YteildobhcnllmaaGreatDoorRows
import GoSem.ClaimSeven
namespace Go.Proofs.YteildobhcnllmaaGreatDoor
namespace Rows

/-- THE TIED CARD OF 'palmettetop.EngineTreewidth'. -/
def engineTreewidthCard : Claim7 := { stood := { row := engineTreewidthRow, standIns := [], harness := (true, "c994d22a4bdbd7297519f067ff0cb3a69382463701ec928b50107127cef0d214"), looks := true }, kinds := [], alts := [], laidByText := true, laidKinds := [.data], laidTests := true, laidLooks := .later }
def EngineTreewidthCardSaid : Prop := Claim7.holds Tryz.pinned (.plain (OpenSpec.ofChange engineTreewidthSpec)) engineTreewidthCard

/-- THE SECOND FORM's CARD OF 'palmettetop.EngineTreewidth'. -/
def engineTreewidthUptoCard : Claim7 := { stood := { row := engineTreewidthUptoRow, standIns := [], harness := (true, "c994d22a4bdbd7297519f067ff0cb3a69382463701ec928b50107127cef0d214"), looks := true }, kinds := [], alts := [], laidByText := true, laidKinds := [.data], laidTests := true, laidLooks := .later }
def EngineTreewidthUptoCardSaid : Prop := Claim7.holds Tryz.pinned (.plain (OpenSpec.upto engineTreewidthSpec)) engineTreewidthUptoCard
end Rows
end Go.Proofs.YteildobhcnllmaaGreatDoor
