/-
  DERIVED. GIVEN WITH THE SEED: THE CARDS: each row of YtabikmkoajdhmaaDoorRows.lean that lists a variable, with what it lists TIED to the program's text (the seventh form; the later family's looks); each row that meets fmt, with fmt's text TOLD by the authors' own Lean function (tested against real Go, not proved from fmt's source: count such statements apart). THE CARD IS WHAT COUNTS. Prove the row's statement (the work); the ties are given (YtabikmkoajdhmaaDoorTie.lean); close each card by the builder's one call (the guide's Derived/Test/ToyasCard.lean, 'card_holds'). Laid BY PROGRAM, IN A SANDBOX (cutbox-door.mjs). By AI agents, Wed Nov 11 2026. No macro, syntax, notation, axiom, sorry.
-/
import Derived.Test.YtabikmkoajdhmaaDoorRows
import GoSem.ClaimSeven
namespace Go.Proofs.YtabikmkoajdhmaaDoor
namespace Rows

/-- THE TIED CARD OF 'typerlaw.Names'. -/
def namesCard : Claim7 := { stood := { row := namesRow, standIns := [], harness := (true, "10d0585442eacebe41e0862d6423f2153bb6661edee2d5212527483327e2a17c"), looks := true }, kinds := [], alts := [], laidByText := true, laidKinds := [.handle, .sentinel, .sentinel, .sentinel, .sentinel, .sentinel, .sentinel, .sentinel, .sentinel], laidTests := true, laidLooks := .later }
def NamesCardSaid : Prop := Claim7.holds Tryd.pinned (.plain (OpenSpec.ofChange namesSpec)) namesCard

/-- THE TIED CARD OF 'typerlaw.Shows'. -/
def showsCard : Claim7 := { stood := { row := showsRow, standIns := [], harness := (true, "10d0585442eacebe41e0862d6423f2153bb6661edee2d5212527483327e2a17c"), looks := true }, kinds := [], alts := [], laidByText := true, laidKinds := [.widerDeep, .handle, .sentinel, .sentinel, .sentinel, .sentinel, .sentinel, .sentinel, .sentinel, .sentinel], laidTests := true, laidLooks := .later }
def ShowsCardSaid : Prop := Claim7.holds Tryd.pinned (.plain (OpenSpec.ofChange showsSpec)) showsCard

/-- THE TIED CARD OF 'typerlaw.Canons'. -/
def canonsCard : Claim7 := { stood := { row := canonsRow, standIns := [], harness := (true, "10d0585442eacebe41e0862d6423f2153bb6661edee2d5212527483327e2a17c"), looks := true }, kinds := [], alts := [], laidByText := true, laidKinds := [.data, .data, .data, .widerDeep, .handle, .sentinel, .sentinel, .sentinel, .sentinel, .sentinel, .sentinel, .sentinel, .sentinel], laidTests := true, laidLooks := .later }
def CanonsCardSaid : Prop := Claim7.holds Tryd.pinned (.plain (OpenSpec.ofChange canonsSpec)) canonsCard

/-- THE TIED CARD OF 'typerlaw.Instances'. -/
def instancesCard : Claim7 := { stood := { row := instancesRow, standIns := [], harness := (true, "10d0585442eacebe41e0862d6423f2153bb6661edee2d5212527483327e2a17c"), looks := true }, kinds := [], alts := [], laidByText := true, laidKinds := [.widerDeep, .handle, .sentinel, .sentinel, .sentinel, .sentinel, .sentinel, .sentinel, .sentinel, .sentinel], laidTests := true, laidLooks := .later }
def InstancesCardSaid : Prop := Claim7.holds Tryd.pinned (.plain (OpenSpec.ofChange instancesSpec)) instancesCard

/-- THE SECOND FORM's CARD OF 'typerlaw.Names'. -/
def namesUptoCard : Claim7 := { stood := { row := namesUptoRow, standIns := [], harness := (true, "10d0585442eacebe41e0862d6423f2153bb6661edee2d5212527483327e2a17c"), looks := true }, kinds := [], alts := [], laidByText := true, laidKinds := [.handle, .sentinel, .sentinel, .sentinel, .sentinel, .sentinel, .sentinel, .sentinel, .sentinel], laidTests := true, laidLooks := .later }
def NamesUptoCardSaid : Prop := Claim7.holds Tryd.pinned (.plain (OpenSpec.upto namesSpec)) namesUptoCard

/-- THE SECOND FORM's CARD OF 'typerlaw.Shows'. -/
def showsUptoCard : Claim7 := { stood := { row := showsUptoRow, standIns := [], harness := (true, "10d0585442eacebe41e0862d6423f2153bb6661edee2d5212527483327e2a17c"), looks := true }, kinds := [], alts := [], laidByText := true, laidKinds := [.widerDeep, .handle, .sentinel, .sentinel, .sentinel, .sentinel, .sentinel, .sentinel, .sentinel, .sentinel], laidTests := true, laidLooks := .later }
def ShowsUptoCardSaid : Prop := Claim7.holds Tryd.pinned (.plain (OpenSpec.upto showsSpec)) showsUptoCard

/-- THE SECOND FORM's CARD OF 'typerlaw.Canons'. -/
def canonsUptoCard : Claim7 := { stood := { row := canonsUptoRow, standIns := [], harness := (true, "10d0585442eacebe41e0862d6423f2153bb6661edee2d5212527483327e2a17c"), looks := true }, kinds := [], alts := [], laidByText := true, laidKinds := [.data, .data, .data, .widerDeep, .handle, .sentinel, .sentinel, .sentinel, .sentinel, .sentinel, .sentinel, .sentinel, .sentinel], laidTests := true, laidLooks := .later }
def CanonsUptoCardSaid : Prop := Claim7.holds Tryd.pinned (.plain (OpenSpec.upto canonsSpec)) canonsUptoCard

/-- THE SECOND FORM's CARD OF 'typerlaw.Instances'. -/
def instancesUptoCard : Claim7 := { stood := { row := instancesUptoRow, standIns := [], harness := (true, "10d0585442eacebe41e0862d6423f2153bb6661edee2d5212527483327e2a17c"), looks := true }, kinds := [], alts := [], laidByText := true, laidKinds := [.widerDeep, .handle, .sentinel, .sentinel, .sentinel, .sentinel, .sentinel, .sentinel, .sentinel, .sentinel], laidTests := true, laidLooks := .later }
def InstancesUptoCardSaid : Prop := Claim7.holds Tryd.pinned (.plain (OpenSpec.upto instancesSpec)) instancesUptoCard
end Rows
end Go.Proofs.YtabikmkoajdhmaaDoor
