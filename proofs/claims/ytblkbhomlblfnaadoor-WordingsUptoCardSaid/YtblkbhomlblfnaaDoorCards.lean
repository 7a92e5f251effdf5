/-
  DERIVED. GIVEN WITH THE SEED: THE CARDS: each row of YtblkbhomlblfnaaDoorRows.lean that lists a variable, with what it lists TIED to the program's text (the seventh form; the later family's looks); each row that meets fmt, with fmt's text TOLD by the authors' own Lean function (tested against real Go, not proved from fmt's source: count such statements apart). THE CARD IS WHAT COUNTS. Prove the row's statement (the work); the ties are given (YtblkbhomlblfnaaDoorTie.lean); close each card by the builder's one call (the guide's Derived/Test/ToyasCard.lean, 'card_holds'). Laid BY PROGRAM, IN A SANDBOX (cutbox-door.mjs). By AI agents, Wed Nov 11 2026. No macro, syntax, notation, axiom, sorry.
-/
import Derived.Test.YtblkbhomlblfnaaDoorRows
import GoSem.ClaimSeven
namespace Go.Proofs.YtblkbhomlblfnaaDoor
namespace Rows

/-- THE TIED CARD OF 'stolelaw11.Escapes'. -/
def escapesCard : Claim7 := { stood := { row := escapesRow, standIns := [], harness := (true, "bd3338502817e00e65d292b267586268890dea9c29e65e062d40a12eb1b1bb56"), looks := true }, kinds := [], alts := [], laidByText := true, laidKinds := [.data, .pinned], laidTests := true, laidLooks := .later }
def EscapesCardSaid : Prop := Claim7.holds Tryd.pinned (.plain (OpenSpec.ofChange escapesSpec)) escapesCard

/-- THE TIED CARD OF 'stolelaw11.EscapeBytes'. -/
def escapeBytesCard : Claim7 := { stood := { row := escapeBytesRow, standIns := [], harness := (true, "bd3338502817e00e65d292b267586268890dea9c29e65e062d40a12eb1b1bb56"), looks := true }, kinds := [], alts := [], laidByText := true, laidKinds := [.data, .pinned], laidTests := true, laidLooks := .later }
def EscapeBytesCardSaid : Prop := Claim7.holds Tryd.pinned (.plain (OpenSpec.ofChange escapeBytesSpec)) escapeBytesCard

/-- THE TIED CARD OF 'stolelaw14.Wordings'. -/
def wordingsCard : Claim7 := { stood := { row := wordingsRow, standIns := [], harness := (true, "bd3338502817e00e65d292b267586268890dea9c29e65e062d40a12eb1b1bb56"), looks := true }, kinds := [], alts := [], laidByText := true, laidKinds := [.data, .pinned], laidTests := true, laidLooks := .later }
def WordingsCardSaid : Prop := Claim7.holds Tryd.pinned (.plain (OpenSpec.ofChange wordingsSpec)) wordingsCard

/-- THE TIED CARD OF 'stolelaw14.WordBack'. -/
def wordBackCard : Claim7 := { stood := { row := wordBackRow, standIns := [], harness := (true, "bd3338502817e00e65d292b267586268890dea9c29e65e062d40a12eb1b1bb56"), looks := true }, kinds := [], alts := [], laidByText := true, laidKinds := [.data, .pinned], laidTests := true, laidLooks := .later }
def WordBackCardSaid : Prop := Claim7.holds Tryd.pinned (.plain (OpenSpec.ofChange wordBackSpec)) wordBackCard

/-- THE TIED CARD OF 'stolelaw14.WordForms'. -/
def wordFormsCard : Claim7 := { stood := { row := wordFormsRow, standIns := [], harness := (true, "bd3338502817e00e65d292b267586268890dea9c29e65e062d40a12eb1b1bb56"), looks := true }, kinds := [], alts := [], laidByText := true, laidKinds := [.data, .pinned], laidTests := true, laidLooks := .later }
def WordFormsCardSaid : Prop := Claim7.holds Tryd.pinned (.plain (OpenSpec.ofChange wordFormsSpec)) wordFormsCard

/-- THE TIED CARD OF 'stolelaw14.WordInts'. -/
def wordIntsCard : Claim7 := { stood := { row := wordIntsRow, standIns := [], harness := (true, "bd3338502817e00e65d292b267586268890dea9c29e65e062d40a12eb1b1bb56"), looks := true }, kinds := [], alts := [], laidByText := true, laidKinds := [.data, .pinned], laidTests := true, laidLooks := .later }
def WordIntsCardSaid : Prop := Claim7.holds Tryd.pinned (.plain (OpenSpec.ofChange wordIntsSpec)) wordIntsCard

/-- THE TIED CARD OF 'stolelaw13.Splits'. -/
def splitsCard : Claim7 := { stood := { row := splitsRow, standIns := [], harness := (true, "bd3338502817e00e65d292b267586268890dea9c29e65e062d40a12eb1b1bb56"), looks := true }, kinds := [], alts := [], laidByText := true, laidKinds := [.data, .pinned], laidTests := true, laidLooks := .later }
def SplitsCardSaid : Prop := Claim7.holds Tryd.pinned (.plain (OpenSpec.ofChange splitsSpec)) splitsCard

/-- THE TIED CARD OF 'stolelaw13.SplitPlain'. -/
def splitPlainCard : Claim7 := { stood := { row := splitPlainRow, standIns := [], harness := (true, "bd3338502817e00e65d292b267586268890dea9c29e65e062d40a12eb1b1bb56"), looks := true }, kinds := [], alts := [], laidByText := true, laidKinds := [.data, .pinned], laidTests := true, laidLooks := .later }
def SplitPlainCardSaid : Prop := Claim7.holds Tryd.pinned (.plain (OpenSpec.ofChange splitPlainSpec)) splitPlainCard

/-- THE TIED CARD OF 'stolelaw13.SplitTrims'. -/
def splitTrimsCard : Claim7 := { stood := { row := splitTrimsRow, standIns := [], harness := (true, "bd3338502817e00e65d292b267586268890dea9c29e65e062d40a12eb1b1bb56"), looks := true }, kinds := [], alts := [], laidByText := true, laidKinds := [.data, .pinned], laidTests := true, laidLooks := .later }
def SplitTrimsCardSaid : Prop := Claim7.holds Tryd.pinned (.plain (OpenSpec.ofChange splitTrimsSpec)) splitTrimsCard

/-- THE TIED CARD OF 'stolelaw13.SplitOne'. -/
def splitOneCard : Claim7 := { stood := { row := splitOneRow, standIns := [], harness := (true, "bd3338502817e00e65d292b267586268890dea9c29e65e062d40a12eb1b1bb56"), looks := true }, kinds := [], alts := [], laidByText := true, laidKinds := [.data, .pinned], laidTests := true, laidLooks := .later }
def SplitOneCardSaid : Prop := Claim7.holds Tryd.pinned (.plain (OpenSpec.ofChange splitOneSpec)) splitOneCard

/-- THE TIED CARD OF 'stolelaw13.SplitForms'. -/
def splitFormsCard : Claim7 := { stood := { row := splitFormsRow, standIns := [], harness := (true, "bd3338502817e00e65d292b267586268890dea9c29e65e062d40a12eb1b1bb56"), looks := true }, kinds := [], alts := [], laidByText := true, laidKinds := [.data, .pinned], laidTests := true, laidLooks := .later }
def SplitFormsCardSaid : Prop := Claim7.holds Tryd.pinned (.plain (OpenSpec.ofChange splitFormsSpec)) splitFormsCard

/-- THE TIED CARD OF 'stolelaw11.EscapeBack'. -/
def escapeBackCard : Claim7 := { stood := { row := escapeBackRow, standIns := [], harness := (true, "bd3338502817e00e65d292b267586268890dea9c29e65e062d40a12eb1b1bb56"), looks := true }, kinds := [], alts := [], laidByText := true, laidKinds := [.data, .pinned], laidTests := true, laidLooks := .later }
def EscapeBackCardSaid : Prop := Claim7.holds Tryd.pinned (.plain (OpenSpec.ofChange escapeBackSpec)) escapeBackCard

/-- THE SECOND FORM's CARD OF 'stolelaw11.Escapes'. -/
def escapesUptoCard : Claim7 := { stood := { row := escapesUptoRow, standIns := [], harness := (true, "bd3338502817e00e65d292b267586268890dea9c29e65e062d40a12eb1b1bb56"), looks := true }, kinds := [], alts := [], laidByText := true, laidKinds := [.data, .pinned], laidTests := true, laidLooks := .later }
def EscapesUptoCardSaid : Prop := Claim7.holds Tryd.pinned (.plain (OpenSpec.upto escapesSpec)) escapesUptoCard

/-- THE SECOND FORM's CARD OF 'stolelaw11.EscapeBytes'. -/
def escapeBytesUptoCard : Claim7 := { stood := { row := escapeBytesUptoRow, standIns := [], harness := (true, "bd3338502817e00e65d292b267586268890dea9c29e65e062d40a12eb1b1bb56"), looks := true }, kinds := [], alts := [], laidByText := true, laidKinds := [.data, .pinned], laidTests := true, laidLooks := .later }
def EscapeBytesUptoCardSaid : Prop := Claim7.holds Tryd.pinned (.plain (OpenSpec.upto escapeBytesSpec)) escapeBytesUptoCard

/-- THE SECOND FORM's CARD OF 'stolelaw14.Wordings'. -/
def wordingsUptoCard : Claim7 := { stood := { row := wordingsUptoRow, standIns := [], harness := (true, "bd3338502817e00e65d292b267586268890dea9c29e65e062d40a12eb1b1bb56"), looks := true }, kinds := [], alts := [], laidByText := true, laidKinds := [.data, .pinned], laidTests := true, laidLooks := .later }
def WordingsUptoCardSaid : Prop := Claim7.holds Tryd.pinned (.plain (OpenSpec.upto wordingsSpec)) wordingsUptoCard

/-- THE SECOND FORM's CARD OF 'stolelaw14.WordBack'. -/
def wordBackUptoCard : Claim7 := { stood := { row := wordBackUptoRow, standIns := [], harness := (true, "bd3338502817e00e65d292b267586268890dea9c29e65e062d40a12eb1b1bb56"), looks := true }, kinds := [], alts := [], laidByText := true, laidKinds := [.data, .pinned], laidTests := true, laidLooks := .later }
def WordBackUptoCardSaid : Prop := Claim7.holds Tryd.pinned (.plain (OpenSpec.upto wordBackSpec)) wordBackUptoCard

/-- THE SECOND FORM's CARD OF 'stolelaw14.WordForms'. -/
def wordFormsUptoCard : Claim7 := { stood := { row := wordFormsUptoRow, standIns := [], harness := (true, "bd3338502817e00e65d292b267586268890dea9c29e65e062d40a12eb1b1bb56"), looks := true }, kinds := [], alts := [], laidByText := true, laidKinds := [.data, .pinned], laidTests := true, laidLooks := .later }
def WordFormsUptoCardSaid : Prop := Claim7.holds Tryd.pinned (.plain (OpenSpec.upto wordFormsSpec)) wordFormsUptoCard

/-- THE SECOND FORM's CARD OF 'stolelaw14.WordInts'. -/
def wordIntsUptoCard : Claim7 := { stood := { row := wordIntsUptoRow, standIns := [], harness := (true, "bd3338502817e00e65d292b267586268890dea9c29e65e062d40a12eb1b1bb56"), looks := true }, kinds := [], alts := [], laidByText := true, laidKinds := [.data, .pinned], laidTests := true, laidLooks := .later }
def WordIntsUptoCardSaid : Prop := Claim7.holds Tryd.pinned (.plain (OpenSpec.upto wordIntsSpec)) wordIntsUptoCard

/-- THE SECOND FORM's CARD OF 'stolelaw13.Splits'. -/
def splitsUptoCard : Claim7 := { stood := { row := splitsUptoRow, standIns := [], harness := (true, "bd3338502817e00e65d292b267586268890dea9c29e65e062d40a12eb1b1bb56"), looks := true }, kinds := [], alts := [], laidByText := true, laidKinds := [.data, .pinned], laidTests := true, laidLooks := .later }
def SplitsUptoCardSaid : Prop := Claim7.holds Tryd.pinned (.plain (OpenSpec.upto splitsSpec)) splitsUptoCard

/-- THE SECOND FORM's CARD OF 'stolelaw13.SplitPlain'. -/
def splitPlainUptoCard : Claim7 := { stood := { row := splitPlainUptoRow, standIns := [], harness := (true, "bd3338502817e00e65d292b267586268890dea9c29e65e062d40a12eb1b1bb56"), looks := true }, kinds := [], alts := [], laidByText := true, laidKinds := [.data, .pinned], laidTests := true, laidLooks := .later }
def SplitPlainUptoCardSaid : Prop := Claim7.holds Tryd.pinned (.plain (OpenSpec.upto splitPlainSpec)) splitPlainUptoCard

/-- THE SECOND FORM's CARD OF 'stolelaw13.SplitTrims'. -/
def splitTrimsUptoCard : Claim7 := { stood := { row := splitTrimsUptoRow, standIns := [], harness := (true, "bd3338502817e00e65d292b267586268890dea9c29e65e062d40a12eb1b1bb56"), looks := true }, kinds := [], alts := [], laidByText := true, laidKinds := [.data, .pinned], laidTests := true, laidLooks := .later }
def SplitTrimsUptoCardSaid : Prop := Claim7.holds Tryd.pinned (.plain (OpenSpec.upto splitTrimsSpec)) splitTrimsUptoCard

/-- THE SECOND FORM's CARD OF 'stolelaw13.SplitOne'. -/
def splitOneUptoCard : Claim7 := { stood := { row := splitOneUptoRow, standIns := [], harness := (true, "bd3338502817e00e65d292b267586268890dea9c29e65e062d40a12eb1b1bb56"), looks := true }, kinds := [], alts := [], laidByText := true, laidKinds := [.data, .pinned], laidTests := true, laidLooks := .later }
def SplitOneUptoCardSaid : Prop := Claim7.holds Tryd.pinned (.plain (OpenSpec.upto splitOneSpec)) splitOneUptoCard

/-- THE SECOND FORM's CARD OF 'stolelaw13.SplitForms'. -/
def splitFormsUptoCard : Claim7 := { stood := { row := splitFormsUptoRow, standIns := [], harness := (true, "bd3338502817e00e65d292b267586268890dea9c29e65e062d40a12eb1b1bb56"), looks := true }, kinds := [], alts := [], laidByText := true, laidKinds := [.data, .pinned], laidTests := true, laidLooks := .later }
def SplitFormsUptoCardSaid : Prop := Claim7.holds Tryd.pinned (.plain (OpenSpec.upto splitFormsSpec)) splitFormsUptoCard

/-- THE SECOND FORM's CARD OF 'stolelaw11.EscapeBack'. -/
def escapeBackUptoCard : Claim7 := { stood := { row := escapeBackUptoRow, standIns := [], harness := (true, "bd3338502817e00e65d292b267586268890dea9c29e65e062d40a12eb1b1bb56"), looks := true }, kinds := [], alts := [], laidByText := true, laidKinds := [.data, .pinned], laidTests := true, laidLooks := .later }
def EscapeBackUptoCardSaid : Prop := Claim7.holds Tryd.pinned (.plain (OpenSpec.upto escapeBackSpec)) escapeBackUptoCard
end Rows
end Go.Proofs.YtblkbhomlblfnaaDoor
