/-
  DERIVED. GIVEN WITH THE SEED: THE CARDS: each row of YtiolfkmkbccndaaGreatDoorRows.lean that lists a variable, with what it lists TIED to the program's text (the seventh form; the later family's looks); each row that meets fmt, with fmt's text TOLD by the authors' own Lean function (tested against real Go, not proved from fmt's source: count such statements apart). THE CARD IS WHAT COUNTS. Prove the row's statement (the work); the ties are given (YtiolfkmkbccndaaGreatDoorTie.lean); close each card by the builder's one call (the guide's Derived/Test/ToyasCard.lean, 'card_holds'). Laid BY PROGRAM, IN A SANDBOX (cutbox-door.mjs). By AI agents, Wed Nov 11 2026. No macro, syntax, notation, axiom, sorry.
-/
import Derived.Test.YtiolfkmkbccndaaGreatDoorRows
import GoSem.ClaimSeven
namespace Go.Proofs.YtiolfkmkbccndaaGreatDoor
namespace Rows

/-- THE TIED CARD OF 'skywaytop.TopTakeover'. -/
def topTakeoverCard : Claim7 := { stood := { row := topTakeoverRow, standIns := [], harness := (true, "2cde21e066fe9778fa59ed42760620ea4c3f1811166434b4eaf289b40c374aaf"), looks := true }, kinds := [], alts := [], laidByText := true, laidKinds := [.data, .data, .data, .data, .sentinel, .sentinel, .pinned], laidTests := true, laidLooks := .later }
def TopTakeoverCardSaid : Prop := Claim7.holds Tryz.pinned (.plain (OpenSpec.ofChange topTakeoverSpec)) topTakeoverCard

/-- THE SECOND FORM's CARD OF 'skywaytop.TopTakeover'. -/
def topTakeoverUptoCard : Claim7 := { stood := { row := topTakeoverUptoRow, standIns := [], harness := (true, "2cde21e066fe9778fa59ed42760620ea4c3f1811166434b4eaf289b40c374aaf"), looks := true }, kinds := [], alts := [], laidByText := true, laidKinds := [.data, .data, .data, .data, .sentinel, .sentinel, .pinned], laidTests := true, laidLooks := .later }
def TopTakeoverUptoCardSaid : Prop := Claim7.holds Tryz.pinned (.plain (OpenSpec.upto topTakeoverSpec)) topTakeoverUptoCard
end Rows
end Go.Proofs.YtiolfkmkbccndaaGreatDoor
