/-
  DERIVED. GIVEN WITH THE SEED: THE CARDS: each row of YtgklcfipgdbbgaaGreatDoorRows.lean that lists a variable, with what it lists TIED to the program's text (the seventh form; the later family's looks); each row that meets fmt, with fmt's text TOLD by the authors' own Lean function (tested against real Go, not proved from fmt's source: count such statements apart). THE CARD IS WHAT COUNTS. Prove the row's statement (the work); the ties are given (YtgklcfipgdbbgaaGreatDoorTie.lean); close each card by the builder's one call (the guide's Derived/Test/ToyasCard.lean, 'card_holds'). Laid BY PROGRAM, IN A SANDBOX (cutbox-door.mjs). By AI agents, Wed Nov 11 2026. No macro, syntax, notation, axiom, sorry.
-/
import Derived.Test.YtgklcfipgdbbgaaGreatDoorRows
import GoSem.ClaimSeven
namespace Go.Proofs.YtgklcfipgdbbgaaGreatDoor
namespace Rows

/-- THE TIED CARD OF 'chartroomlaw08.ShamirSpec'. -/
def shamirSpecCard : Claim7 := { stood := { row := shamirSpecRow, standIns := [], harness := (true, "146c1fe9764fe2082a6bde4642dc60b610d6c51b8ba935540afa7d7fdaa2273e"), looks := false }, kinds := [], alts := [], laidByText := true, laidKinds := [.data, .data, .sentinel], laidTests := true, laidLooks := .later }
def ShamirSpecCardSaid : Prop := Claim7.holds Tryz.pinned (.plain (OpenSpec.ofChange shamirSpecSpec)) shamirSpecCard

/-- THE SECOND FORM's CARD OF 'chartroomlaw08.ShamirSpec'. -/
def shamirSpecUptoCard : Claim7 := { stood := { row := shamirSpecUptoRow, standIns := [], harness := (true, "146c1fe9764fe2082a6bde4642dc60b610d6c51b8ba935540afa7d7fdaa2273e"), looks := false }, kinds := [], alts := [], laidByText := true, laidKinds := [.data, .data, .sentinel], laidTests := true, laidLooks := .later }
def ShamirSpecUptoCardSaid : Prop := Claim7.holds Tryz.pinned (.plain (OpenSpec.upto shamirSpecSpec)) shamirSpecUptoCard
end Rows
end Go.Proofs.YtgklcfipgdbbgaaGreatDoor
