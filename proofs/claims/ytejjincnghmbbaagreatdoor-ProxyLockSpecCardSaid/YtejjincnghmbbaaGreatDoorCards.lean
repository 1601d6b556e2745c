/-
  DERIVED. GIVEN WITH THE SEED: THE CARDS: each row of YtejjincnghmbbaaGreatDoorRows.lean that lists a variable, with what it lists TIED to the program's text (the seventh form; the later family's looks); each row that meets fmt, with fmt's text TOLD by the authors' own Lean function (tested against real Go, not proved from fmt's source: count such statements apart). THE CARD IS WHAT COUNTS. Prove the row's statement (the work); the ties are given (YtejjincnghmbbaaGreatDoorTie.lean); close each card by the builder's one call (the guide's Derived/Test/ToyasCard.lean, 'card_holds'). Laid BY PROGRAM, IN A SANDBOX (cutbox-door.mjs). By AI agents, Wed Nov 11 2026. No macro, syntax, notation, axiom, sorry.
-/
import Derived.Test.YtejjincnghmbbaaGreatDoorRows
import GoSem.ClaimSeven
namespace Go.Proofs.YtejjincnghmbbaaGreatDoor
namespace Rows

/-- THE TIED CARD OF 'chartroomlaw11.ProxyLockSpec'. -/
def proxyLockSpecCard : Claim7 := { stood := { row := proxyLockSpecRow, standIns := [], harness := (true, "e786ce66ee900ca3bae9dc64c0df14a05cfa71ab7b7929a890bf5a28899efb78"), looks := true }, kinds := [], alts := [], laidByText := true, laidKinds := [.data, .data, .sentinel], laidTests := true, laidLooks := .later }
def ProxyLockSpecCardSaid : Prop := Claim7.holds Tryz.pinned (.plain (OpenSpec.ofChange proxyLockSpecSpec)) proxyLockSpecCard

/-- THE SECOND FORM's CARD OF 'chartroomlaw11.ProxyLockSpec'. -/
def proxyLockSpecUptoCard : Claim7 := { stood := { row := proxyLockSpecUptoRow, standIns := [], harness := (true, "e786ce66ee900ca3bae9dc64c0df14a05cfa71ab7b7929a890bf5a28899efb78"), looks := true }, kinds := [], alts := [], laidByText := true, laidKinds := [.data, .data, .sentinel], laidTests := true, laidLooks := .later }
def ProxyLockSpecUptoCardSaid : Prop := Claim7.holds Tryz.pinned (.plain (OpenSpec.upto proxyLockSpecSpec)) proxyLockSpecUptoCard
end Rows
end Go.Proofs.YtejjincnghmbbaaGreatDoor
