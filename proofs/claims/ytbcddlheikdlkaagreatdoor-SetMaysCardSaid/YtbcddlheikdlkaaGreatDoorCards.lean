/-
  DERIVED. GIVEN WITH THE SEED: THE CARDS: each row of YtbcddlheikdlkaaGreatDoorRows.lean that lists a variable, with what it lists TIED to the program's text (the seventh form; the later family's looks); each row that meets fmt, with fmt's text TOLD by the authors' own Lean function (tested against real Go, not proved from fmt's source: count such statements apart). THE CARD IS WHAT COUNTS. Prove the row's statement (the work); the ties are given (YtbcddlheikdlkaaGreatDoorTie.lean); close each card by the builder's one call (the guide's Derived/Test/ToyasCard.lean, 'card_holds'). Laid BY PROGRAM, IN A SANDBOX (cutbox-door.mjs). By AI agents, Wed Nov 11 2026. No macro, syntax, notation, axiom, sorry.
-/
import Derived.Test.YtbcddlheikdlkaaGreatDoorRows
import GoSem.ClaimSeven
namespace Go.Proofs.YtbcddlheikdlkaaGreatDoor
namespace Rows

/-- THE TIED CARD OF 'stolelaw16.Templates'. -/
def templatesCard : Claim7 := { stood := { row := templatesRow, standIns := [], harness := (true, "3383314eabbc1fdc314a5a9ee25a571345d79700d224d7a630afb6874ae33578"), looks := true }, kinds := [], alts := [], laidByText := true, laidKinds := [.data, .pinned], laidTests := true, laidLooks := .later }
def TemplatesCardSaid : Prop := Claim7.holds Tryz.pinned (.plain (OpenSpec.ofChange templatesSpec)) templatesCard

/-- THE TIED CARD OF 'stolelaw17.Sets'. -/
def setsCard : Claim7 := { stood := { row := setsRow, standIns := [], harness := (true, "3383314eabbc1fdc314a5a9ee25a571345d79700d224d7a630afb6874ae33578"), looks := true }, kinds := [], alts := [], laidByText := true, laidKinds := [.data, .pinned], laidTests := true, laidLooks := .later }
def SetsCardSaid : Prop := Claim7.holds Tryz.pinned (.plain (OpenSpec.ofChange setsSpec)) setsCard

/-- THE TIED CARD OF 'stolelaw17.SetReads'. -/
def setReadsCard : Claim7 := { stood := { row := setReadsRow, standIns := [], harness := (true, "3383314eabbc1fdc314a5a9ee25a571345d79700d224d7a630afb6874ae33578"), looks := true }, kinds := [], alts := [], laidByText := true, laidKinds := [.data, .pinned], laidTests := true, laidLooks := .later }
def SetReadsCardSaid : Prop := Claim7.holds Tryz.pinned (.plain (OpenSpec.ofChange setReadsSpec)) setReadsCard

/-- THE TIED CARD OF 'stolelaw17.SetForms'. -/
def setFormsCard : Claim7 := { stood := { row := setFormsRow, standIns := [], harness := (true, "3383314eabbc1fdc314a5a9ee25a571345d79700d224d7a630afb6874ae33578"), looks := true }, kinds := [], alts := [], laidByText := true, laidKinds := [.data, .pinned], laidTests := true, laidLooks := .later }
def SetFormsCardSaid : Prop := Claim7.holds Tryz.pinned (.plain (OpenSpec.ofChange setFormsSpec)) setFormsCard

/-- THE TIED CARD OF 'stolelaw17.SetMays'. -/
def setMaysCard : Claim7 := { stood := { row := setMaysRow, standIns := [], harness := (true, "3383314eabbc1fdc314a5a9ee25a571345d79700d224d7a630afb6874ae33578"), looks := true }, kinds := [], alts := [], laidByText := true, laidKinds := [.data, .pinned], laidTests := true, laidLooks := .later }
def SetMaysCardSaid : Prop := Claim7.holds Tryz.pinned (.plain (OpenSpec.ofChange setMaysSpec)) setMaysCard

/-- THE SECOND FORM's CARD OF 'stolelaw16.Templates'. -/
def templatesUptoCard : Claim7 := { stood := { row := templatesUptoRow, standIns := [], harness := (true, "3383314eabbc1fdc314a5a9ee25a571345d79700d224d7a630afb6874ae33578"), looks := true }, kinds := [], alts := [], laidByText := true, laidKinds := [.data, .pinned], laidTests := true, laidLooks := .later }
def TemplatesUptoCardSaid : Prop := Claim7.holds Tryz.pinned (.plain (OpenSpec.upto templatesSpec)) templatesUptoCard

/-- THE SECOND FORM's CARD OF 'stolelaw17.Sets'. -/
def setsUptoCard : Claim7 := { stood := { row := setsUptoRow, standIns := [], harness := (true, "3383314eabbc1fdc314a5a9ee25a571345d79700d224d7a630afb6874ae33578"), looks := true }, kinds := [], alts := [], laidByText := true, laidKinds := [.data, .pinned], laidTests := true, laidLooks := .later }
def SetsUptoCardSaid : Prop := Claim7.holds Tryz.pinned (.plain (OpenSpec.upto setsSpec)) setsUptoCard

/-- THE SECOND FORM's CARD OF 'stolelaw17.SetReads'. -/
def setReadsUptoCard : Claim7 := { stood := { row := setReadsUptoRow, standIns := [], harness := (true, "3383314eabbc1fdc314a5a9ee25a571345d79700d224d7a630afb6874ae33578"), looks := true }, kinds := [], alts := [], laidByText := true, laidKinds := [.data, .pinned], laidTests := true, laidLooks := .later }
def SetReadsUptoCardSaid : Prop := Claim7.holds Tryz.pinned (.plain (OpenSpec.upto setReadsSpec)) setReadsUptoCard

/-- THE SECOND FORM's CARD OF 'stolelaw17.SetForms'. -/
def setFormsUptoCard : Claim7 := { stood := { row := setFormsUptoRow, standIns := [], harness := (true, "3383314eabbc1fdc314a5a9ee25a571345d79700d224d7a630afb6874ae33578"), looks := true }, kinds := [], alts := [], laidByText := true, laidKinds := [.data, .pinned], laidTests := true, laidLooks := .later }
def SetFormsUptoCardSaid : Prop := Claim7.holds Tryz.pinned (.plain (OpenSpec.upto setFormsSpec)) setFormsUptoCard

/-- THE SECOND FORM's CARD OF 'stolelaw17.SetMays'. -/
def setMaysUptoCard : Claim7 := { stood := { row := setMaysUptoRow, standIns := [], harness := (true, "3383314eabbc1fdc314a5a9ee25a571345d79700d224d7a630afb6874ae33578"), looks := true }, kinds := [], alts := [], laidByText := true, laidKinds := [.data, .pinned], laidTests := true, laidLooks := .later }
def SetMaysUptoCardSaid : Prop := Claim7.holds Tryz.pinned (.plain (OpenSpec.upto setMaysSpec)) setMaysUptoCard
end Rows
end Go.Proofs.YtbcddlheikdlkaaGreatDoor
