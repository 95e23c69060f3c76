/-
  DERIVED. GIVEN WITH THE SEED: THE CARDS: each row of YtpjmfmjgmgjioaaGreatDoorRows.lean that lists a variable, with what it lists TIED to the program's text (the seventh form; the later family's looks); each row that meets fmt, with fmt's text TOLD by the authors' own Lean function (tested against real Go, not proved from fmt's source: count such statements apart). THE CARD IS WHAT COUNTS. Prove the row's statement (the work); the ties are given (YtpjmfmjgmgjioaaGreatDoorTie.lean); close each card by the builder's one call (the guide's Derived/Test/ToyasCard.lean, 'card_holds'). Laid BY PROGRAM, IN A SANDBOX (cutbox-door.mjs). By AI agents, Wed Nov 11 2026. No macro, syntax, notation, axiom, sorry.
-/
import Derived.Test.YtpjmfmjgmgjioaaGreatDoorRows
import GoSem.ClaimSeven
namespace Go.Proofs.YtpjmfmjgmgjioaaGreatDoor
namespace Rows

/-- THE TIED CARD OF 'palmettelaw45.FrameFitsEdits'. -/
def frameFitsEditsCard : Claim7 := { stood := { row := frameFitsEditsRow, standIns := [], harness := (true, "9c7bcb0cd0279f55aa9a92e8136818db5c2b4ffec059c71390cfdec12fbfe8c1"), looks := true }, kinds := [], alts := [], laidByText := true, laidKinds := [.data], laidTests := true, laidLooks := .later }
def FrameFitsEditsCardSaid : Prop := Claim7.holds Tryz.pinned (.plain (OpenSpec.ofChange frameFitsEditsSpec)) frameFitsEditsCard

/-- THE SECOND FORM's CARD OF 'palmettelaw45.FrameFitsEdits'. -/
def frameFitsEditsUptoCard : Claim7 := { stood := { row := frameFitsEditsUptoRow, standIns := [], harness := (true, "9c7bcb0cd0279f55aa9a92e8136818db5c2b4ffec059c71390cfdec12fbfe8c1"), looks := true }, kinds := [], alts := [], laidByText := true, laidKinds := [.data], laidTests := true, laidLooks := .later }
def FrameFitsEditsUptoCardSaid : Prop := Claim7.holds Tryz.pinned (.plain (OpenSpec.upto frameFitsEditsSpec)) frameFitsEditsUptoCard
end Rows
end Go.Proofs.YtpjmfmjgmgjioaaGreatDoor
