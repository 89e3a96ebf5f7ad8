/-
  DERIVED. GIVEN WITH THE SEED: THE CARDS: each row of YtabikmkoajdhmabGreatDoorRows.lean that lists a variable, with what it lists TIED to the program's text (the seventh form; the later family's looks); each row that meets fmt, with fmt's text TOLD by the authors' own Lean function (tested against real Go, not proved from fmt's source: count such statements apart). THE CARD IS WHAT COUNTS. Prove the row's statement (the work); the ties are given (YtabikmkoajdhmabGreatDoorTie.lean); close each card by the builder's one call (the guide's Derived/Test/ToyasCard.lean, 'card_holds'). Laid BY PROGRAM, IN A SANDBOX (cutbox-door.mjs). By AI agents, Wed Nov 11 2026. No macro, syntax, notation, axiom, sorry.
-/
import Derived.Test.YtabikmkoajdhmabGreatDoorRows
import GoSem.ClaimSeven
namespace Go.Proofs.YtabikmkoajdhmabGreatDoor
namespace Rows

/-- THE TIED CARD OF 'typerkeep.Chain'. -/
def chainCard : Claim7 := { stood := { row := chainRow, standIns := [], harness := (true, "2dfa50b380392eb0aafcaaec1547a2339158d247c60e1acbed1df90f0e9278da"), looks := true }, kinds := [], alts := [], laidByText := true, laidKinds := [.data, .data, .data, .handle, .sentinel, .sentinel, .sentinel, .sentinel, .sentinel, .sentinel, .sentinel, .sentinel], laidTests := true, laidLooks := .later }
def ChainCardSaid : Prop := Claim7.holds Tryz.pinned (.plain (OpenSpec.ofChange chainSpec)) chainCard

/-- THE TIED CARD OF 'typerkeep.Endless'. -/
def endlessCard : Claim7 := { stood := { row := endlessRow, standIns := [], harness := (true, "2dfa50b380392eb0aafcaaec1547a2339158d247c60e1acbed1df90f0e9278da"), looks := true }, kinds := [], alts := [], laidByText := true, laidKinds := [.data, .data, .data, .handle, .sentinel, .sentinel, .sentinel, .sentinel, .sentinel, .sentinel, .sentinel, .sentinel], laidTests := true, laidLooks := .later }
def EndlessCardSaid : Prop := Claim7.holds Tryz.pinned (.plain (OpenSpec.ofChange endlessSpec)) endlessCard

/-- THE TIED CARD OF 'typerlaw.Watches'. -/
def watchesCard : Claim7 := { stood := { row := watchesRow, standIns := [], harness := (true, "2dfa50b380392eb0aafcaaec1547a2339158d247c60e1acbed1df90f0e9278da"), looks := true }, kinds := [], alts := [], laidByText := true, laidKinds := [.data, .data, .data, .widerDeep, .widerDeep, .handle, .sentinel, .sentinel, .sentinel, .sentinel, .sentinel, .sentinel, .sentinel, .sentinel], laidTests := true, laidLooks := .later }
def WatchesCardSaid : Prop := Claim7.holds Tryz.pinned (.plain (OpenSpec.ofChange watchesSpec)) watchesCard

/-- THE TIED CARD OF 'typerkeep.Known'. -/
def knownCard : Claim7 := { stood := { row := knownRow, standIns := [], harness := (true, "2dfa50b380392eb0aafcaaec1547a2339158d247c60e1acbed1df90f0e9278da"), looks := true }, kinds := [], alts := [], laidByText := true, laidKinds := [.data, .data, .data, .handle, .sentinel, .sentinel, .sentinel, .sentinel, .sentinel, .sentinel, .sentinel, .sentinel], laidTests := true, laidLooks := .later }
def KnownCardSaid : Prop := Claim7.holds Tryz.pinned (.plain (OpenSpec.ofChange knownSpec)) knownCard

/-- THE TIED CARD OF 'typerkeep.Same'. -/
def sameCard : Claim7 := { stood := { row := sameRow, standIns := [], harness := (true, "2dfa50b380392eb0aafcaaec1547a2339158d247c60e1acbed1df90f0e9278da"), looks := true }, kinds := [], alts := [], laidByText := true, laidKinds := [.data, .data, .data, .handle, .sentinel, .sentinel, .sentinel, .sentinel, .sentinel, .sentinel, .sentinel, .sentinel], laidTests := true, laidLooks := .later }
def SameCardSaid : Prop := Claim7.holds Tryz.pinned (.plain (OpenSpec.ofChange sameSpec)) sameCard

/-- THE SECOND FORM's CARD OF 'typerkeep.Chain'. -/
def chainUptoCard : Claim7 := { stood := { row := chainUptoRow, standIns := [], harness := (true, "2dfa50b380392eb0aafcaaec1547a2339158d247c60e1acbed1df90f0e9278da"), looks := true }, kinds := [], alts := [], laidByText := true, laidKinds := [.data, .data, .data, .handle, .sentinel, .sentinel, .sentinel, .sentinel, .sentinel, .sentinel, .sentinel, .sentinel], laidTests := true, laidLooks := .later }
def ChainUptoCardSaid : Prop := Claim7.holds Tryz.pinned (.plain (OpenSpec.upto chainSpec)) chainUptoCard

/-- THE SECOND FORM's CARD OF 'typerkeep.Endless'. -/
def endlessUptoCard : Claim7 := { stood := { row := endlessUptoRow, standIns := [], harness := (true, "2dfa50b380392eb0aafcaaec1547a2339158d247c60e1acbed1df90f0e9278da"), looks := true }, kinds := [], alts := [], laidByText := true, laidKinds := [.data, .data, .data, .handle, .sentinel, .sentinel, .sentinel, .sentinel, .sentinel, .sentinel, .sentinel, .sentinel], laidTests := true, laidLooks := .later }
def EndlessUptoCardSaid : Prop := Claim7.holds Tryz.pinned (.plain (OpenSpec.upto endlessSpec)) endlessUptoCard

/-- THE SECOND FORM's CARD OF 'typerlaw.Watches'. -/
def watchesUptoCard : Claim7 := { stood := { row := watchesUptoRow, standIns := [], harness := (true, "2dfa50b380392eb0aafcaaec1547a2339158d247c60e1acbed1df90f0e9278da"), looks := true }, kinds := [], alts := [], laidByText := true, laidKinds := [.data, .data, .data, .widerDeep, .widerDeep, .handle, .sentinel, .sentinel, .sentinel, .sentinel, .sentinel, .sentinel, .sentinel, .sentinel], laidTests := true, laidLooks := .later }
def WatchesUptoCardSaid : Prop := Claim7.holds Tryz.pinned (.plain (OpenSpec.upto watchesSpec)) watchesUptoCard

/-- THE SECOND FORM's CARD OF 'typerkeep.Known'. -/
def knownUptoCard : Claim7 := { stood := { row := knownUptoRow, standIns := [], harness := (true, "2dfa50b380392eb0aafcaaec1547a2339158d247c60e1acbed1df90f0e9278da"), looks := true }, kinds := [], alts := [], laidByText := true, laidKinds := [.data, .data, .data, .handle, .sentinel, .sentinel, .sentinel, .sentinel, .sentinel, .sentinel, .sentinel, .sentinel], laidTests := true, laidLooks := .later }
def KnownUptoCardSaid : Prop := Claim7.holds Tryz.pinned (.plain (OpenSpec.upto knownSpec)) knownUptoCard

/-- THE SECOND FORM's CARD OF 'typerkeep.Same'. -/
def sameUptoCard : Claim7 := { stood := { row := sameUptoRow, standIns := [], harness := (true, "2dfa50b380392eb0aafcaaec1547a2339158d247c60e1acbed1df90f0e9278da"), looks := true }, kinds := [], alts := [], laidByText := true, laidKinds := [.data, .data, .data, .handle, .sentinel, .sentinel, .sentinel, .sentinel, .sentinel, .sentinel, .sentinel, .sentinel], laidTests := true, laidLooks := .later }
def SameUptoCardSaid : Prop := Claim7.holds Tryz.pinned (.plain (OpenSpec.upto sameSpec)) sameUptoCard
end Rows
end Go.Proofs.YtabikmkoajdhmabGreatDoor
