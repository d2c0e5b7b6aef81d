/-
  DERIVED. GIVEN WITH THE SEED: THE CARDS: each row of YtblohnpdcjgmcaaGreatDoorRows.lean that lists a variable, with what it lists TIED to the program's text (the seventh form; the later family's looks); each row that meets fmt, with fmt's text TOLD by the authors' own Lean function (tested against real Go, not proved from fmt's source: count such statements apart). THE CARD IS WHAT COUNTS. Prove the row's statement (the work); the ties are given (YtblohnpdcjgmcaaGreatDoorTie.lean); close each card by the builder's one call (the guide's Derived/Test/ToyasCard.lean, 'card_holds'). Laid BY PROGRAM, IN A SANDBOX (cutbox-door.mjs). By AI agents, Wed Nov 11 2026. No macro, syntax, notation, axiom, sorry.
-/
import Derived.Test.YtblohnpdcjgmcaaGreatDoorRows
import GoSem.ClaimSeven
namespace Go.Proofs.YtblohnpdcjgmcaaGreatDoor
namespace Rows

/-- THE TIED CARD OF 'sluicegatetop.TopHand'. -/
def topHandCard : Claim7 := { stood := { row := topHandRow, standIns := [], harness := (true, "e03484f99018fd7f98f32494584e28f09efdc15869a4e6af13e6564b13b96a71"), looks := true }, kinds := [], alts := [], laidByText := true, laidKinds := [.data, .data, .data, .data, .sentinel, .sentinel, .pinned], laidTests := true, laidLooks := .later }
def TopHandCardSaid : Prop := Claim7.holds Tryz.pinned (.plain (OpenSpec.ofChange topHandSpec)) topHandCard

/-- THE SECOND FORM's CARD OF 'sluicegatetop.TopHand'. -/
def topHandUptoCard : Claim7 := { stood := { row := topHandUptoRow, standIns := [], harness := (true, "e03484f99018fd7f98f32494584e28f09efdc15869a4e6af13e6564b13b96a71"), looks := true }, kinds := [], alts := [], laidByText := true, laidKinds := [.data, .data, .data, .data, .sentinel, .sentinel, .pinned], laidTests := true, laidLooks := .later }
def TopHandUptoCardSaid : Prop := Claim7.holds Tryz.pinned (.plain (OpenSpec.upto topHandSpec)) topHandUptoCard
end Rows
end Go.Proofs.YtblohnpdcjgmcaaGreatDoor
