/-
  DERIVED. GIVEN WITH THE SEED: THE CARDS: each row of YtaognphegancbaaGreatDoorRows.lean that lists a variable, with what it lists TIED to the program's text (the seventh form; the later family's looks); each row that meets fmt, with fmt's text TOLD by the authors' own Lean function (tested against real Go, not proved from fmt's source: count such statements apart). THE CARD IS WHAT COUNTS. Prove the row's statement (the work); the ties are given (YtaognphegancbaaGreatDoorTie.lean); close each card by the builder's one call (the guide's Derived/Test/ToyasCard.lean, 'card_holds'). Laid BY PROGRAM, IN A SANDBOX (cutbox-door.mjs). By AI agents, Wed Nov 11 2026. No macro, syntax, notation, axiom, sorry.
-/
import Derived.Test.YtaognphegancbaaGreatDoorRows
import GoSem.ClaimSeven
namespace Go.Proofs.YtaognphegancbaaGreatDoor
namespace Rows

/-- THE TIED CARD OF 'reparteelaw28.VarsLast'. -/
def varsLastCard : Claim7 := { stood := { row := varsLastRow, standIns := [], harness := (true, "718a7bd3dacd6422deff9a89eccddd984a93d3400083d2421745a0180e76e567"), looks := true }, kinds := [], alts := [], laidByText := true, laidKinds := [.data, .data, .data, .data, .data, .sentinel, .sentinel, .pinned, .pinned, .pinned], laidTests := true, laidLooks := .later }
def VarsLastCardSaid : Prop := Claim7.holds Tryz.pinned (.plain (OpenSpec.ofChange varsLastSpec)) varsLastCard

/-- THE TIED CARD OF 'reparteelaw28.VarsCopies'. -/
def varsCopiesCard : Claim7 := { stood := { row := varsCopiesRow, standIns := [], harness := (true, "718a7bd3dacd6422deff9a89eccddd984a93d3400083d2421745a0180e76e567"), looks := true }, kinds := [], alts := [], laidByText := true, laidKinds := [.data, .data, .data, .data, .data, .sentinel, .sentinel, .pinned, .pinned, .pinned], laidTests := true, laidLooks := .later }
def VarsCopiesCardSaid : Prop := Claim7.holds Tryz.pinned (.plain (OpenSpec.ofChange varsCopiesSpec)) varsCopiesCard

/-- THE TIED CARD OF 'reparteelaw28.VarsWrong'. -/
def varsWrongCard : Claim7 := { stood := { row := varsWrongRow, standIns := [], harness := (true, "718a7bd3dacd6422deff9a89eccddd984a93d3400083d2421745a0180e76e567"), looks := true }, kinds := [], alts := [], laidByText := true, laidKinds := [.data, .data, .data, .data, .data, .sentinel, .sentinel, .pinned, .pinned, .pinned], laidTests := true, laidLooks := .later }
def VarsWrongCardSaid : Prop := Claim7.holds Tryz.pinned (.plain (OpenSpec.ofChange varsWrongSpec)) varsWrongCard

/-- THE SECOND FORM's CARD OF 'reparteelaw28.VarsLast'. -/
def varsLastUptoCard : Claim7 := { stood := { row := varsLastUptoRow, standIns := [], harness := (true, "718a7bd3dacd6422deff9a89eccddd984a93d3400083d2421745a0180e76e567"), looks := true }, kinds := [], alts := [], laidByText := true, laidKinds := [.data, .data, .data, .data, .data, .sentinel, .sentinel, .pinned, .pinned, .pinned], laidTests := true, laidLooks := .later }
def VarsLastUptoCardSaid : Prop := Claim7.holds Tryz.pinned (.plain (OpenSpec.upto varsLastSpec)) varsLastUptoCard

/-- THE SECOND FORM's CARD OF 'reparteelaw28.VarsCopies'. -/
def varsCopiesUptoCard : Claim7 := { stood := { row := varsCopiesUptoRow, standIns := [], harness := (true, "718a7bd3dacd6422deff9a89eccddd984a93d3400083d2421745a0180e76e567"), looks := true }, kinds := [], alts := [], laidByText := true, laidKinds := [.data, .data, .data, .data, .data, .sentinel, .sentinel, .pinned, .pinned, .pinned], laidTests := true, laidLooks := .later }
def VarsCopiesUptoCardSaid : Prop := Claim7.holds Tryz.pinned (.plain (OpenSpec.upto varsCopiesSpec)) varsCopiesUptoCard

/-- THE SECOND FORM's CARD OF 'reparteelaw28.VarsWrong'. -/
def varsWrongUptoCard : Claim7 := { stood := { row := varsWrongUptoRow, standIns := [], harness := (true, "718a7bd3dacd6422deff9a89eccddd984a93d3400083d2421745a0180e76e567"), looks := true }, kinds := [], alts := [], laidByText := true, laidKinds := [.data, .data, .data, .data, .data, .sentinel, .sentinel, .pinned, .pinned, .pinned], laidTests := true, laidLooks := .later }
def VarsWrongUptoCardSaid : Prop := Claim7.holds Tryz.pinned (.plain (OpenSpec.upto varsWrongSpec)) varsWrongUptoCard
end Rows
end Go.Proofs.YtaognphegancbaaGreatDoor
