/-
  DERIVED. GIVEN WITH THE SEED: THE CARDS: each row of YtdaffedbboofjaaGreatDoorRows.lean that lists a variable, with what it lists TIED to the program's text (the seventh form; the later family's looks); each row that meets fmt, with fmt's text TOLD by the authors' own Lean function (tested against real Go, not proved from fmt's source: count such statements apart). THE CARD IS WHAT COUNTS. Prove the row's statement (the work); the ties are given (YtdaffedbboofjaaGreatDoorTie.lean); close each card by the builder's one call (the guide's Derived/Test/ToyasCard.lean, 'card_holds'). Laid BY PROGRAM, IN A SANDBOX (cutbox-door.mjs). By AI agents, Wed Nov 11 2026. No macro, syntax, notation, axiom, sorry.
-/
import Derived.Test.YtdaffedbboofjaaGreatDoorRows
import GoSem.ClaimSeven
namespace Go.Proofs.YtdaffedbboofjaaGreatDoor
namespace Rows

/-- THE TIED CARD OF 'stolelaw16.Templates'. -/
def templatesCard : Claim7 := { stood := { row := templatesRow, standIns := [], harness := (true, "d299ddf9f5a0680ed3804ca2d9c92e693885b81af4e6189b2182cc02d52230b3"), looks := true }, kinds := [], alts := [], laidByText := true, laidKinds := [.data, .pinned], laidTests := true, laidLooks := .later }
def TemplatesCardSaid : Prop := Claim7.holds Tryz.pinned (.plain (OpenSpec.ofChange templatesSpec)) templatesCard

/-- THE TIED CARD OF 'stolelaw16.TemplateNests'. -/
def templateNestsCard : Claim7 := { stood := { row := templateNestsRow, standIns := [], harness := (true, "d299ddf9f5a0680ed3804ca2d9c92e693885b81af4e6189b2182cc02d52230b3"), looks := true }, kinds := [], alts := [], laidByText := true, laidKinds := [.data, .pinned], laidTests := true, laidLooks := .later }
def TemplateNestsCardSaid : Prop := Claim7.holds Tryz.pinned (.plain (OpenSpec.ofChange templateNestsSpec)) templateNestsCard

/-- THE TIED CARD OF 'stolelaw16.TemplateForms'. -/
def templateFormsCard : Claim7 := { stood := { row := templateFormsRow, standIns := [], harness := (true, "d299ddf9f5a0680ed3804ca2d9c92e693885b81af4e6189b2182cc02d52230b3"), looks := true }, kinds := [], alts := [], laidByText := true, laidKinds := [.data, .pinned], laidTests := true, laidLooks := .later }
def TemplateFormsCardSaid : Prop := Claim7.holds Tryz.pinned (.plain (OpenSpec.ofChange templateFormsSpec)) templateFormsCard

/-- THE TIED CARD OF 'stolelaw16.TemplateRows'. -/
def templateRowsCard : Claim7 := { stood := { row := templateRowsRow, standIns := [], harness := (true, "d299ddf9f5a0680ed3804ca2d9c92e693885b81af4e6189b2182cc02d52230b3"), looks := true }, kinds := [], alts := [], laidByText := true, laidKinds := [.data, .pinned], laidTests := true, laidLooks := .later }
def TemplateRowsCardSaid : Prop := Claim7.holds Tryz.pinned (.plain (OpenSpec.ofChange templateRowsSpec)) templateRowsCard

/-- THE TIED CARD OF 'stolelaw16.TemplateMany'. -/
def templateManyCard : Claim7 := { stood := { row := templateManyRow, standIns := [], harness := (true, "d299ddf9f5a0680ed3804ca2d9c92e693885b81af4e6189b2182cc02d52230b3"), looks := true }, kinds := [], alts := [], laidByText := true, laidKinds := [.data, .pinned], laidTests := true, laidLooks := .later }
def TemplateManyCardSaid : Prop := Claim7.holds Tryz.pinned (.plain (OpenSpec.ofChange templateManySpec)) templateManyCard

/-- THE TIED CARD OF 'stolelaw17.Sets'. -/
def setsCard : Claim7 := { stood := { row := setsRow, standIns := [], harness := (true, "d299ddf9f5a0680ed3804ca2d9c92e693885b81af4e6189b2182cc02d52230b3"), looks := true }, kinds := [], alts := [], laidByText := true, laidKinds := [.data, .pinned], laidTests := true, laidLooks := .later }
def SetsCardSaid : Prop := Claim7.holds Tryz.pinned (.plain (OpenSpec.ofChange setsSpec)) setsCard

/-- THE TIED CARD OF 'stolelaw17.SetReads'. -/
def setReadsCard : Claim7 := { stood := { row := setReadsRow, standIns := [], harness := (true, "d299ddf9f5a0680ed3804ca2d9c92e693885b81af4e6189b2182cc02d52230b3"), looks := true }, kinds := [], alts := [], laidByText := true, laidKinds := [.data, .pinned], laidTests := true, laidLooks := .later }
def SetReadsCardSaid : Prop := Claim7.holds Tryz.pinned (.plain (OpenSpec.ofChange setReadsSpec)) setReadsCard

/-- THE TIED CARD OF 'stolelaw17.SetForms'. -/
def setFormsCard : Claim7 := { stood := { row := setFormsRow, standIns := [], harness := (true, "d299ddf9f5a0680ed3804ca2d9c92e693885b81af4e6189b2182cc02d52230b3"), looks := true }, kinds := [], alts := [], laidByText := true, laidKinds := [.data, .pinned], laidTests := true, laidLooks := .later }
def SetFormsCardSaid : Prop := Claim7.holds Tryz.pinned (.plain (OpenSpec.ofChange setFormsSpec)) setFormsCard

/-- THE TIED CARD OF 'stolelaw17.SetMays'. -/
def setMaysCard : Claim7 := { stood := { row := setMaysRow, standIns := [], harness := (true, "d299ddf9f5a0680ed3804ca2d9c92e693885b81af4e6189b2182cc02d52230b3"), looks := true }, kinds := [], alts := [], laidByText := true, laidKinds := [.data, .pinned], laidTests := true, laidLooks := .later }
def SetMaysCardSaid : Prop := Claim7.holds Tryz.pinned (.plain (OpenSpec.ofChange setMaysSpec)) setMaysCard

/-- THE SECOND FORM's CARD OF 'stolelaw16.Templates'. -/
def templatesUptoCard : Claim7 := { stood := { row := templatesUptoRow, standIns := [], harness := (true, "d299ddf9f5a0680ed3804ca2d9c92e693885b81af4e6189b2182cc02d52230b3"), looks := true }, kinds := [], alts := [], laidByText := true, laidKinds := [.data, .pinned], laidTests := true, laidLooks := .later }
def TemplatesUptoCardSaid : Prop := Claim7.holds Tryz.pinned (.plain (OpenSpec.upto templatesSpec)) templatesUptoCard

/-- THE SECOND FORM's CARD OF 'stolelaw16.TemplateNests'. -/
def templateNestsUptoCard : Claim7 := { stood := { row := templateNestsUptoRow, standIns := [], harness := (true, "d299ddf9f5a0680ed3804ca2d9c92e693885b81af4e6189b2182cc02d52230b3"), looks := true }, kinds := [], alts := [], laidByText := true, laidKinds := [.data, .pinned], laidTests := true, laidLooks := .later }
def TemplateNestsUptoCardSaid : Prop := Claim7.holds Tryz.pinned (.plain (OpenSpec.upto templateNestsSpec)) templateNestsUptoCard

/-- THE SECOND FORM's CARD OF 'stolelaw16.TemplateForms'. -/
def templateFormsUptoCard : Claim7 := { stood := { row := templateFormsUptoRow, standIns := [], harness := (true, "d299ddf9f5a0680ed3804ca2d9c92e693885b81af4e6189b2182cc02d52230b3"), looks := true }, kinds := [], alts := [], laidByText := true, laidKinds := [.data, .pinned], laidTests := true, laidLooks := .later }
def TemplateFormsUptoCardSaid : Prop := Claim7.holds Tryz.pinned (.plain (OpenSpec.upto templateFormsSpec)) templateFormsUptoCard

/-- THE SECOND FORM's CARD OF 'stolelaw16.TemplateRows'. -/
def templateRowsUptoCard : Claim7 := { stood := { row := templateRowsUptoRow, standIns := [], harness := (true, "d299ddf9f5a0680ed3804ca2d9c92e693885b81af4e6189b2182cc02d52230b3"), looks := true }, kinds := [], alts := [], laidByText := true, laidKinds := [.data, .pinned], laidTests := true, laidLooks := .later }
def TemplateRowsUptoCardSaid : Prop := Claim7.holds Tryz.pinned (.plain (OpenSpec.upto templateRowsSpec)) templateRowsUptoCard

/-- THE SECOND FORM's CARD OF 'stolelaw16.TemplateMany'. -/
def templateManyUptoCard : Claim7 := { stood := { row := templateManyUptoRow, standIns := [], harness := (true, "d299ddf9f5a0680ed3804ca2d9c92e693885b81af4e6189b2182cc02d52230b3"), looks := true }, kinds := [], alts := [], laidByText := true, laidKinds := [.data, .pinned], laidTests := true, laidLooks := .later }
def TemplateManyUptoCardSaid : Prop := Claim7.holds Tryz.pinned (.plain (OpenSpec.upto templateManySpec)) templateManyUptoCard

/-- THE SECOND FORM's CARD OF 'stolelaw17.Sets'. -/
def setsUptoCard : Claim7 := { stood := { row := setsUptoRow, standIns := [], harness := (true, "d299ddf9f5a0680ed3804ca2d9c92e693885b81af4e6189b2182cc02d52230b3"), looks := true }, kinds := [], alts := [], laidByText := true, laidKinds := [.data, .pinned], laidTests := true, laidLooks := .later }
def SetsUptoCardSaid : Prop := Claim7.holds Tryz.pinned (.plain (OpenSpec.upto setsSpec)) setsUptoCard

/-- THE SECOND FORM's CARD OF 'stolelaw17.SetReads'. -/
def setReadsUptoCard : Claim7 := { stood := { row := setReadsUptoRow, standIns := [], harness := (true, "d299ddf9f5a0680ed3804ca2d9c92e693885b81af4e6189b2182cc02d52230b3"), looks := true }, kinds := [], alts := [], laidByText := true, laidKinds := [.data, .pinned], laidTests := true, laidLooks := .later }
def SetReadsUptoCardSaid : Prop := Claim7.holds Tryz.pinned (.plain (OpenSpec.upto setReadsSpec)) setReadsUptoCard

/-- THE SECOND FORM's CARD OF 'stolelaw17.SetForms'. -/
def setFormsUptoCard : Claim7 := { stood := { row := setFormsUptoRow, standIns := [], harness := (true, "d299ddf9f5a0680ed3804ca2d9c92e693885b81af4e6189b2182cc02d52230b3"), looks := true }, kinds := [], alts := [], laidByText := true, laidKinds := [.data, .pinned], laidTests := true, laidLooks := .later }
def SetFormsUptoCardSaid : Prop := Claim7.holds Tryz.pinned (.plain (OpenSpec.upto setFormsSpec)) setFormsUptoCard

/-- THE SECOND FORM's CARD OF 'stolelaw17.SetMays'. -/
def setMaysUptoCard : Claim7 := { stood := { row := setMaysUptoRow, standIns := [], harness := (true, "d299ddf9f5a0680ed3804ca2d9c92e693885b81af4e6189b2182cc02d52230b3"), looks := true }, kinds := [], alts := [], laidByText := true, laidKinds := [.data, .pinned], laidTests := true, laidLooks := .later }
def SetMaysUptoCardSaid : Prop := Claim7.holds Tryz.pinned (.plain (OpenSpec.upto setMaysSpec)) setMaysUptoCard
end Rows
end Go.Proofs.YtdaffedbboofjaaGreatDoor
