/-
  DERIVED. GIVEN WITH THE SEED: THE CARDS: each row of YtafkfamfhagokaaGreatDoorRows.lean that lists a variable, with what it lists TIED to the program's text (the seventh form; the later family's looks); each row that meets fmt, with fmt's text TOLD by the authors' own Lean function (tested against real Go, not proved from fmt's source: count such statements apart). THE CARD IS WHAT COUNTS. Prove the row's statement (the work); the ties are given (YtafkfamfhagokaaGreatDoorTie.lean); close each card by the builder's one call (the guide's Derived/Test/ToyasCard.lean, 'card_holds'). Laid BY PROGRAM, IN A SANDBOX (cutbox-door.mjs). By AI agents, Wed Nov 11 2026. No macro, syntax, notation, axiom, sorry.
-/
import Derived.Test.YtafkfamfhagokaaGreatDoorRows
import GoSem.ClaimSeven
namespace Go.Proofs.YtafkfamfhagokaaGreatDoor
namespace Rows

/-- THE TIED CARD OF 'stolelaw20.Contexts'. -/
def contextsCard : Claim7 := { stood := { row := contextsRow, standIns := [], harness := (true, "d628cfd90ffb09817d3903f079157b6c137715ea49b0956722667661d7738e62"), looks := true }, kinds := [], alts := [], laidByText := true, laidKinds := [.data, .data, .data, .data, .pinned], laidTests := true, laidLooks := .later }
def ContextsCardSaid : Prop := Claim7.holds Tryz.pinned (.plain (OpenSpec.ofChange contextsSpec)) contextsCard

/-- THE TIED CARD OF 'stolelaw20.ContextWalks'. -/
def contextWalksCard : Claim7 := { stood := { row := contextWalksRow, standIns := [], harness := (true, "d628cfd90ffb09817d3903f079157b6c137715ea49b0956722667661d7738e62"), looks := true }, kinds := [], alts := [], laidByText := true, laidKinds := [.data, .data, .data, .data, .pinned], laidTests := true, laidLooks := .later }
def ContextWalksCardSaid : Prop := Claim7.holds Tryz.pinned (.plain (OpenSpec.ofChange contextWalksSpec)) contextWalksCard

/-- THE TIED CARD OF 'stolelaw20.ContextParts'. -/
def contextPartsCard : Claim7 := { stood := { row := contextPartsRow, standIns := [], harness := (true, "d628cfd90ffb09817d3903f079157b6c137715ea49b0956722667661d7738e62"), looks := true }, kinds := [], alts := [], laidByText := true, laidKinds := [.data, .data, .data, .data, .pinned], laidTests := true, laidLooks := .later }
def ContextPartsCardSaid : Prop := Claim7.holds Tryz.pinned (.plain (OpenSpec.ofChange contextPartsSpec)) contextPartsCard

/-- THE TIED CARD OF 'stolelaw20.EscapeKeeps'. -/
def escapeKeepsCard : Claim7 := { stood := { row := escapeKeepsRow, standIns := [], harness := (true, "d628cfd90ffb09817d3903f079157b6c137715ea49b0956722667661d7738e62"), looks := true }, kinds := [], alts := [], laidByText := true, laidKinds := [.data, .data, .data, .data, .pinned], laidTests := true, laidLooks := .later }
def EscapeKeepsCardSaid : Prop := Claim7.holds Tryz.pinned (.plain (OpenSpec.ofChange escapeKeepsSpec)) escapeKeepsCard

/-- THE TIED CARD OF 'stolelaw20.EscapeSafe'. -/
def escapeSafeCard : Claim7 := { stood := { row := escapeSafeRow, standIns := [], harness := (true, "d628cfd90ffb09817d3903f079157b6c137715ea49b0956722667661d7738e62"), looks := true }, kinds := [], alts := [], laidByText := true, laidKinds := [.data, .data, .data, .data, .pinned], laidTests := true, laidLooks := .later }
def EscapeSafeCardSaid : Prop := Claim7.holds Tryz.pinned (.plain (OpenSpec.ofChange escapeSafeSpec)) escapeSafeCard

/-- THE TIED CARD OF 'stolelaw20.HoleStates'. -/
def holeStatesCard : Claim7 := { stood := { row := holeStatesRow, standIns := [], harness := (true, "d628cfd90ffb09817d3903f079157b6c137715ea49b0956722667661d7738e62"), looks := true }, kinds := [], alts := [], laidByText := true, laidKinds := [.data, .data, .data, .data, .pinned], laidTests := true, laidLooks := .later }
def HoleStatesCardSaid : Prop := Claim7.holds Tryz.pinned (.plain (OpenSpec.ofChange holeStatesSpec)) holeStatesCard

/-- THE TIED CARD OF 'stolelaw20.ContextForms'. -/
def contextFormsCard : Claim7 := { stood := { row := contextFormsRow, standIns := [], harness := (true, "d628cfd90ffb09817d3903f079157b6c137715ea49b0956722667661d7738e62"), looks := true }, kinds := [], alts := [], laidByText := true, laidKinds := [.data, .data, .data, .data, .pinned], laidTests := true, laidLooks := .later }
def ContextFormsCardSaid : Prop := Claim7.holds Tryz.pinned (.plain (OpenSpec.ofChange contextFormsSpec)) contextFormsCard

/-- THE TIED CARD OF 'stolelaw20.ContextHeld'. -/
def contextHeldCard : Claim7 := { stood := { row := contextHeldRow, standIns := [], harness := (true, "d628cfd90ffb09817d3903f079157b6c137715ea49b0956722667661d7738e62"), looks := true }, kinds := [], alts := [], laidByText := true, laidKinds := [.data, .data, .data, .data, .pinned], laidTests := true, laidLooks := .later }
def ContextHeldCardSaid : Prop := Claim7.holds Tryz.pinned (.plain (OpenSpec.ofChange contextHeldSpec)) contextHeldCard

/-- THE TIED CARD OF 'stolelaw20.ContextTexts'. -/
def contextTextsCard : Claim7 := { stood := { row := contextTextsRow, standIns := [], harness := (true, "d628cfd90ffb09817d3903f079157b6c137715ea49b0956722667661d7738e62"), looks := true }, kinds := [], alts := [], laidByText := true, laidKinds := [.data, .data, .data, .data, .pinned], laidTests := true, laidLooks := .later }
def ContextTextsCardSaid : Prop := Claim7.holds Tryz.pinned (.plain (OpenSpec.ofChange contextTextsSpec)) contextTextsCard

/-- THE TIED CARD OF 'stolelaw20.ContextPaths'. -/
def contextPathsCard : Claim7 := { stood := { row := contextPathsRow, standIns := [], harness := (true, "d628cfd90ffb09817d3903f079157b6c137715ea49b0956722667661d7738e62"), looks := true }, kinds := [], alts := [], laidByText := true, laidKinds := [.data, .data, .data, .data, .pinned], laidTests := true, laidLooks := .later }
def ContextPathsCardSaid : Prop := Claim7.holds Tryz.pinned (.plain (OpenSpec.ofChange contextPathsSpec)) contextPathsCard

/-- THE SECOND FORM's CARD OF 'stolelaw20.Contexts'. -/
def contextsUptoCard : Claim7 := { stood := { row := contextsUptoRow, standIns := [], harness := (true, "d628cfd90ffb09817d3903f079157b6c137715ea49b0956722667661d7738e62"), looks := true }, kinds := [], alts := [], laidByText := true, laidKinds := [.data, .data, .data, .data, .pinned], laidTests := true, laidLooks := .later }
def ContextsUptoCardSaid : Prop := Claim7.holds Tryz.pinned (.plain (OpenSpec.upto contextsSpec)) contextsUptoCard

/-- THE SECOND FORM's CARD OF 'stolelaw20.ContextWalks'. -/
def contextWalksUptoCard : Claim7 := { stood := { row := contextWalksUptoRow, standIns := [], harness := (true, "d628cfd90ffb09817d3903f079157b6c137715ea49b0956722667661d7738e62"), looks := true }, kinds := [], alts := [], laidByText := true, laidKinds := [.data, .data, .data, .data, .pinned], laidTests := true, laidLooks := .later }
def ContextWalksUptoCardSaid : Prop := Claim7.holds Tryz.pinned (.plain (OpenSpec.upto contextWalksSpec)) contextWalksUptoCard

/-- THE SECOND FORM's CARD OF 'stolelaw20.ContextParts'. -/
def contextPartsUptoCard : Claim7 := { stood := { row := contextPartsUptoRow, standIns := [], harness := (true, "d628cfd90ffb09817d3903f079157b6c137715ea49b0956722667661d7738e62"), looks := true }, kinds := [], alts := [], laidByText := true, laidKinds := [.data, .data, .data, .data, .pinned], laidTests := true, laidLooks := .later }
def ContextPartsUptoCardSaid : Prop := Claim7.holds Tryz.pinned (.plain (OpenSpec.upto contextPartsSpec)) contextPartsUptoCard

/-- THE SECOND FORM's CARD OF 'stolelaw20.EscapeKeeps'. -/
def escapeKeepsUptoCard : Claim7 := { stood := { row := escapeKeepsUptoRow, standIns := [], harness := (true, "d628cfd90ffb09817d3903f079157b6c137715ea49b0956722667661d7738e62"), looks := true }, kinds := [], alts := [], laidByText := true, laidKinds := [.data, .data, .data, .data, .pinned], laidTests := true, laidLooks := .later }
def EscapeKeepsUptoCardSaid : Prop := Claim7.holds Tryz.pinned (.plain (OpenSpec.upto escapeKeepsSpec)) escapeKeepsUptoCard

/-- THE SECOND FORM's CARD OF 'stolelaw20.EscapeSafe'. -/
def escapeSafeUptoCard : Claim7 := { stood := { row := escapeSafeUptoRow, standIns := [], harness := (true, "d628cfd90ffb09817d3903f079157b6c137715ea49b0956722667661d7738e62"), looks := true }, kinds := [], alts := [], laidByText := true, laidKinds := [.data, .data, .data, .data, .pinned], laidTests := true, laidLooks := .later }
def EscapeSafeUptoCardSaid : Prop := Claim7.holds Tryz.pinned (.plain (OpenSpec.upto escapeSafeSpec)) escapeSafeUptoCard

/-- THE SECOND FORM's CARD OF 'stolelaw20.HoleStates'. -/
def holeStatesUptoCard : Claim7 := { stood := { row := holeStatesUptoRow, standIns := [], harness := (true, "d628cfd90ffb09817d3903f079157b6c137715ea49b0956722667661d7738e62"), looks := true }, kinds := [], alts := [], laidByText := true, laidKinds := [.data, .data, .data, .data, .pinned], laidTests := true, laidLooks := .later }
def HoleStatesUptoCardSaid : Prop := Claim7.holds Tryz.pinned (.plain (OpenSpec.upto holeStatesSpec)) holeStatesUptoCard

/-- THE SECOND FORM's CARD OF 'stolelaw20.ContextForms'. -/
def contextFormsUptoCard : Claim7 := { stood := { row := contextFormsUptoRow, standIns := [], harness := (true, "d628cfd90ffb09817d3903f079157b6c137715ea49b0956722667661d7738e62"), looks := true }, kinds := [], alts := [], laidByText := true, laidKinds := [.data, .data, .data, .data, .pinned], laidTests := true, laidLooks := .later }
def ContextFormsUptoCardSaid : Prop := Claim7.holds Tryz.pinned (.plain (OpenSpec.upto contextFormsSpec)) contextFormsUptoCard

/-- THE SECOND FORM's CARD OF 'stolelaw20.ContextHeld'. -/
def contextHeldUptoCard : Claim7 := { stood := { row := contextHeldUptoRow, standIns := [], harness := (true, "d628cfd90ffb09817d3903f079157b6c137715ea49b0956722667661d7738e62"), looks := true }, kinds := [], alts := [], laidByText := true, laidKinds := [.data, .data, .data, .data, .pinned], laidTests := true, laidLooks := .later }
def ContextHeldUptoCardSaid : Prop := Claim7.holds Tryz.pinned (.plain (OpenSpec.upto contextHeldSpec)) contextHeldUptoCard

/-- THE SECOND FORM's CARD OF 'stolelaw20.ContextTexts'. -/
def contextTextsUptoCard : Claim7 := { stood := { row := contextTextsUptoRow, standIns := [], harness := (true, "d628cfd90ffb09817d3903f079157b6c137715ea49b0956722667661d7738e62"), looks := true }, kinds := [], alts := [], laidByText := true, laidKinds := [.data, .data, .data, .data, .pinned], laidTests := true, laidLooks := .later }
def ContextTextsUptoCardSaid : Prop := Claim7.holds Tryz.pinned (.plain (OpenSpec.upto contextTextsSpec)) contextTextsUptoCard

/-- THE SECOND FORM's CARD OF 'stolelaw20.ContextPaths'. -/
def contextPathsUptoCard : Claim7 := { stood := { row := contextPathsUptoRow, standIns := [], harness := (true, "d628cfd90ffb09817d3903f079157b6c137715ea49b0956722667661d7738e62"), looks := true }, kinds := [], alts := [], laidByText := true, laidKinds := [.data, .data, .data, .data, .pinned], laidTests := true, laidLooks := .later }
def ContextPathsUptoCardSaid : Prop := Claim7.holds Tryz.pinned (.plain (OpenSpec.upto contextPathsSpec)) contextPathsUptoCard
end Rows
end Go.Proofs.YtafkfamfhagokaaGreatDoor
