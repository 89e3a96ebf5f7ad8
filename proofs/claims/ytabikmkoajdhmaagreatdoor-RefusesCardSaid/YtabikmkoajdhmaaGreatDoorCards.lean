/-
  DERIVED. GIVEN WITH THE SEED: THE CARDS: each row of YtabikmkoajdhmaaGreatDoorRows.lean that lists a variable, with what it lists TIED to the program's text (the seventh form; the later family's looks); each row that meets fmt, with fmt's text TOLD by the authors' own Lean function (tested against real Go, not proved from fmt's source: count such statements apart). THE CARD IS WHAT COUNTS. Prove the row's statement (the work); the ties are given (YtabikmkoajdhmaaGreatDoorTie.lean); close each card by the builder's one call (the guide's Derived/Test/ToyasCard.lean, 'card_holds'). Laid BY PROGRAM, IN A SANDBOX (cutbox-door.mjs). By AI agents, Wed Nov 11 2026. No macro, syntax, notation, axiom, sorry.
-/
import Derived.Test.YtabikmkoajdhmaaGreatDoorRows
import GoSem.ClaimSeven
namespace Go.Proofs.YtabikmkoajdhmaaGreatDoor
namespace Rows

/-- THE TIED CARD OF 'typerkeep.Refuses'. -/
def refusesCard : Claim7 := { stood := { row := refusesRow, standIns := [], harness := (true, "573c8ee2d0504bae9175306df9223b47dcb6c8cda52e69304daf20ae8d00d4ee"), looks := true }, kinds := [], alts := [], laidByText := true, laidKinds := [.data, .data, .data, .handle, .sentinel, .sentinel, .sentinel, .sentinel, .sentinel, .sentinel, .sentinel, .sentinel], laidTests := true, laidLooks := .later }
def RefusesCardSaid : Prop := Claim7.holds Tryz.pinned (.plain (OpenSpec.ofChange refusesSpec)) refusesCard

/-- THE TIED CARD OF 'typerkeep.Renamed'. -/
def renamedCard : Claim7 := { stood := { row := renamedRow, standIns := [], harness := (true, "573c8ee2d0504bae9175306df9223b47dcb6c8cda52e69304daf20ae8d00d4ee"), looks := true }, kinds := [], alts := [], laidByText := true, laidKinds := [.data, .data, .data, .handle, .sentinel, .sentinel, .sentinel, .sentinel, .sentinel, .sentinel, .sentinel, .sentinel], laidTests := true, laidLooks := .later }
def RenamedCardSaid : Prop := Claim7.holds Tryz.pinned (.plain (OpenSpec.ofChange renamedSpec)) renamedCard

/-- THE TIED CARD OF 'typerlaw.All'. -/
def allCard : Claim7 := { stood := { row := allRow, standIns := [], harness := (true, "573c8ee2d0504bae9175306df9223b47dcb6c8cda52e69304daf20ae8d00d4ee"), looks := true }, kinds := [], alts := [], laidByText := true, laidKinds := [.data, .data, .data, .widerDeep, .widerDeep, .handle, .sentinel, .sentinel, .sentinel, .sentinel, .sentinel, .sentinel, .sentinel, .sentinel], laidTests := true, laidLooks := .later }
def AllCardSaid : Prop := Claim7.holds Tryz.pinned (.plain (OpenSpec.ofChange allSpec)) allCard

/-- THE TIED CARD OF 'typerlaw.Plain'. -/
def plainCard : Claim7 := { stood := { row := plainRow, standIns := [], harness := (true, "573c8ee2d0504bae9175306df9223b47dcb6c8cda52e69304daf20ae8d00d4ee"), looks := true }, kinds := [], alts := [], laidByText := true, laidKinds := [.data, .data, .data, .widerDeep, .widerDeep, .handle, .sentinel, .sentinel, .sentinel, .sentinel, .sentinel, .sentinel, .sentinel, .sentinel], laidTests := true, laidLooks := .later }
def PlainCardSaid : Prop := Claim7.holds Tryz.pinned (.plain (OpenSpec.ofChange plainSpec)) plainCard

/-- THE TIED CARD OF 'typerlaw.Infers'. -/
def infersCard : Claim7 := { stood := { row := infersRow, standIns := [], harness := (true, "573c8ee2d0504bae9175306df9223b47dcb6c8cda52e69304daf20ae8d00d4ee"), looks := true }, kinds := [], alts := [], laidByText := true, laidKinds := [.data, .data, .data, .widerDeep, .widerDeep, .handle, .sentinel, .sentinel, .sentinel, .sentinel, .sentinel, .sentinel, .sentinel, .sentinel], laidTests := true, laidLooks := .later }
def InfersCardSaid : Prop := Claim7.holds Tryz.pinned (.plain (OpenSpec.ofChange infersSpec)) infersCard

/-- THE TIED CARD OF 'typerlaw.Steady'. -/
def steadyCard : Claim7 := { stood := { row := steadyRow, standIns := [], harness := (true, "573c8ee2d0504bae9175306df9223b47dcb6c8cda52e69304daf20ae8d00d4ee"), looks := true }, kinds := [], alts := [], laidByText := true, laidKinds := [.data, .data, .data, .widerDeep, .widerDeep, .handle, .sentinel, .sentinel, .sentinel, .sentinel, .sentinel, .sentinel, .sentinel, .sentinel], laidTests := true, laidLooks := .later }
def SteadyCardSaid : Prop := Claim7.holds Tryz.pinned (.plain (OpenSpec.ofChange steadySpec)) steadyCard

/-- THE TIED CARD OF 'typerkeep.Times'. -/
def timesCard : Claim7 := { stood := { row := timesRow, standIns := [], harness := (true, "573c8ee2d0504bae9175306df9223b47dcb6c8cda52e69304daf20ae8d00d4ee"), looks := true }, kinds := [], alts := [], laidByText := true, laidKinds := [.data, .data, .data, .handle, .sentinel, .sentinel, .sentinel, .sentinel, .sentinel, .sentinel, .sentinel, .sentinel], laidTests := true, laidLooks := .later }
def TimesCardSaid : Prop := Claim7.holds Tryz.pinned (.plain (OpenSpec.ofChange timesSpec)) timesCard

/-- THE TIED CARD OF 'typerkeep.Path'. -/
def pathCard : Claim7 := { stood := { row := pathRow, standIns := [], harness := (true, "573c8ee2d0504bae9175306df9223b47dcb6c8cda52e69304daf20ae8d00d4ee"), looks := true }, kinds := [], alts := [], laidByText := true, laidKinds := [.data, .data, .data, .handle, .sentinel, .sentinel, .sentinel, .sentinel, .sentinel, .sentinel, .sentinel, .sentinel], laidTests := true, laidLooks := .later }
def PathCardSaid : Prop := Claim7.holds Tryz.pinned (.plain (OpenSpec.ofChange pathSpec)) pathCard

/-- THE SECOND FORM's CARD OF 'typerkeep.Refuses'. -/
def refusesUptoCard : Claim7 := { stood := { row := refusesUptoRow, standIns := [], harness := (true, "573c8ee2d0504bae9175306df9223b47dcb6c8cda52e69304daf20ae8d00d4ee"), looks := true }, kinds := [], alts := [], laidByText := true, laidKinds := [.data, .data, .data, .handle, .sentinel, .sentinel, .sentinel, .sentinel, .sentinel, .sentinel, .sentinel, .sentinel], laidTests := true, laidLooks := .later }
def RefusesUptoCardSaid : Prop := Claim7.holds Tryz.pinned (.plain (OpenSpec.upto refusesSpec)) refusesUptoCard

/-- THE SECOND FORM's CARD OF 'typerkeep.Renamed'. -/
def renamedUptoCard : Claim7 := { stood := { row := renamedUptoRow, standIns := [], harness := (true, "573c8ee2d0504bae9175306df9223b47dcb6c8cda52e69304daf20ae8d00d4ee"), looks := true }, kinds := [], alts := [], laidByText := true, laidKinds := [.data, .data, .data, .handle, .sentinel, .sentinel, .sentinel, .sentinel, .sentinel, .sentinel, .sentinel, .sentinel], laidTests := true, laidLooks := .later }
def RenamedUptoCardSaid : Prop := Claim7.holds Tryz.pinned (.plain (OpenSpec.upto renamedSpec)) renamedUptoCard

/-- THE SECOND FORM's CARD OF 'typerlaw.All'. -/
def allUptoCard : Claim7 := { stood := { row := allUptoRow, standIns := [], harness := (true, "573c8ee2d0504bae9175306df9223b47dcb6c8cda52e69304daf20ae8d00d4ee"), looks := true }, kinds := [], alts := [], laidByText := true, laidKinds := [.data, .data, .data, .widerDeep, .widerDeep, .handle, .sentinel, .sentinel, .sentinel, .sentinel, .sentinel, .sentinel, .sentinel, .sentinel], laidTests := true, laidLooks := .later }
def AllUptoCardSaid : Prop := Claim7.holds Tryz.pinned (.plain (OpenSpec.upto allSpec)) allUptoCard

/-- THE SECOND FORM's CARD OF 'typerlaw.Plain'. -/
def plainUptoCard : Claim7 := { stood := { row := plainUptoRow, standIns := [], harness := (true, "573c8ee2d0504bae9175306df9223b47dcb6c8cda52e69304daf20ae8d00d4ee"), looks := true }, kinds := [], alts := [], laidByText := true, laidKinds := [.data, .data, .data, .widerDeep, .widerDeep, .handle, .sentinel, .sentinel, .sentinel, .sentinel, .sentinel, .sentinel, .sentinel, .sentinel], laidTests := true, laidLooks := .later }
def PlainUptoCardSaid : Prop := Claim7.holds Tryz.pinned (.plain (OpenSpec.upto plainSpec)) plainUptoCard

/-- THE SECOND FORM's CARD OF 'typerlaw.Infers'. -/
def infersUptoCard : Claim7 := { stood := { row := infersUptoRow, standIns := [], harness := (true, "573c8ee2d0504bae9175306df9223b47dcb6c8cda52e69304daf20ae8d00d4ee"), looks := true }, kinds := [], alts := [], laidByText := true, laidKinds := [.data, .data, .data, .widerDeep, .widerDeep, .handle, .sentinel, .sentinel, .sentinel, .sentinel, .sentinel, .sentinel, .sentinel, .sentinel], laidTests := true, laidLooks := .later }
def InfersUptoCardSaid : Prop := Claim7.holds Tryz.pinned (.plain (OpenSpec.upto infersSpec)) infersUptoCard

/-- THE SECOND FORM's CARD OF 'typerlaw.Steady'. -/
def steadyUptoCard : Claim7 := { stood := { row := steadyUptoRow, standIns := [], harness := (true, "573c8ee2d0504bae9175306df9223b47dcb6c8cda52e69304daf20ae8d00d4ee"), looks := true }, kinds := [], alts := [], laidByText := true, laidKinds := [.data, .data, .data, .widerDeep, .widerDeep, .handle, .sentinel, .sentinel, .sentinel, .sentinel, .sentinel, .sentinel, .sentinel, .sentinel], laidTests := true, laidLooks := .later }
def SteadyUptoCardSaid : Prop := Claim7.holds Tryz.pinned (.plain (OpenSpec.upto steadySpec)) steadyUptoCard

/-- THE SECOND FORM's CARD OF 'typerkeep.Times'. -/
def timesUptoCard : Claim7 := { stood := { row := timesUptoRow, standIns := [], harness := (true, "573c8ee2d0504bae9175306df9223b47dcb6c8cda52e69304daf20ae8d00d4ee"), looks := true }, kinds := [], alts := [], laidByText := true, laidKinds := [.data, .data, .data, .handle, .sentinel, .sentinel, .sentinel, .sentinel, .sentinel, .sentinel, .sentinel, .sentinel], laidTests := true, laidLooks := .later }
def TimesUptoCardSaid : Prop := Claim7.holds Tryz.pinned (.plain (OpenSpec.upto timesSpec)) timesUptoCard

/-- THE SECOND FORM's CARD OF 'typerkeep.Path'. -/
def pathUptoCard : Claim7 := { stood := { row := pathUptoRow, standIns := [], harness := (true, "573c8ee2d0504bae9175306df9223b47dcb6c8cda52e69304daf20ae8d00d4ee"), looks := true }, kinds := [], alts := [], laidByText := true, laidKinds := [.data, .data, .data, .handle, .sentinel, .sentinel, .sentinel, .sentinel, .sentinel, .sentinel, .sentinel, .sentinel], laidTests := true, laidLooks := .later }
def PathUptoCardSaid : Prop := Claim7.holds Tryz.pinned (.plain (OpenSpec.upto pathSpec)) pathUptoCard
end Rows
end Go.Proofs.YtabikmkoajdhmaaGreatDoor
