/-
  NARROWER THAN 'FOR EVERY INPUT', by the rows' own cells (each row's printed sentence says how): Templates: laid · Sets: loops, laid · SetReads: laid · SetForms: laid · SetMays: laid.
  DERIVED. THE GIVEN ROWS OF THIS SEAT. 5 by the template 'for every input the law returns true; each argument reads behind the call as it read before'; 0 by the template 'total and deterministic' (their statements: YtbcddlheikdlkaaGreatDoorTotals.lean).
  GIVEN WITH THE SEED: the statements are not yours to turn. If you find one false, say at which input.
  Laid BY PROGRAM, IN A SANDBOX (cutbox-rows.mjs): the forced cells as the released guide's own fill.sh prints them over the translation 2b89b8b1a69c80ff… (all of the seat's roots in one cut). By AI agents, Wed Nov 11 2026. No macro, syntax, notation, axiom, sorry.
-/
import Derived.Test.YtbcddlheikdlkaaGreatDoorChecked
import GoSem.PinnedTables
import GoSem.Claim
import GoSem.ClaimJoined
import GoSem.ClaimMapViews
import Derived.JoinedTies
import Derived.KernelRfl
namespace Go.Proofs.YtbcddlheikdlkaaGreatDoor
/- THE CELL 'sum', in the pinned program and in every row, IS THE sha256 OF THE DUMP (.gsa) THAT YtbcddlheikdlkaaGreatDoorProg.lean LOADS. Nothing in Lean hashes anything: it is a label: what it is worth is what the hold of that sum in a sandbox is worth. -/
noncomputable def Tryz.pinned : Pinned := { name := "ytbcddlheikdlkaagreatdoor", sum := "2b89b8b1a69c80ff9d23f4b01f0bba8a85e68e390f6b96d01832d11bd5369561", checked := Tryz.checked }
namespace Rows
def none {H : Type} : Left H := { results := [], args := [] }

/- WHAT THE LISTED PACKAGE-LEVEL VARIABLES READ AS WHEN THE CALL BEGINS. Each datum BY PROGRAM (the guide's laid-datum.mjs) off the statement by which the dump's own 'gosem.cut.vars' lays the variable. In a bare row this is a premise. The card (YtbcddlheikdlkaaGreatDoorCards.lean) ties it to the program's text. -/
def laid_unicode_utf8_acceptRanges {H : Type} : DataW H := .agg [.agg [.lit (.int .u8 128), .lit (.int .u8 191)], .agg [.lit (.int .u8 160), .lit (.int .u8 191)], .agg [.lit (.int .u8 128), .lit (.int .u8 159)], .agg [.lit (.int .u8 144), .lit (.int .u8 191)], .agg [.lit (.int .u8 128), .lit (.int .u8 143)], .agg [.lit (.int .u8 0), .lit (.int .u8 0)], .agg [.lit (.int .u8 0), .lit (.int .u8 0)], .agg [.lit (.int .u8 0), .lit (.int .u8 0)], .agg [.lit (.int .u8 0), .lit (.int .u8 0)], .agg [.lit (.int .u8 0), .lit (.int .u8 0)], .agg [.lit (.int .u8 0), .lit (.int .u8 0)], .agg [.lit (.int .u8 0), .lit (.int .u8 0)], .agg [.lit (.int .u8 0), .lit (.int .u8 0)], .agg [.lit (.int .u8 0), .lit (.int .u8 0)], .agg [.lit (.int .u8 0), .lit (.int .u8 0)], .agg [.lit (.int .u8 0), .lit (.int .u8 0)]]
/-- One of Go's own tables, pinned by name: the form's constant. -/
def laid_unicode_utf8_first : DataW Unit := Go.Pinned.utf8First

/-- 'stolelaw16.Templates': WHATEVER THE INPUT: true; the input reads as it did. -/
def templatesSpec : ChangeSpec := { name := "templates", fn := fun _ => fun
  | [d] => { results := [.lit (.bool true)], args := [d] }
  | _ => none }
def templatesRow : OpenClaim := { program := "ytbcddlheikdlkaagreatdoor", sum := "2b89b8b1a69c80ff9d23f4b01f0bba8a85e68e390f6b96d01832d11bd5369561", func := "stole/stolelaw16.Templates", spec := "templates", inPlace := ["internal/bytealg.CountString", "internal/bytealg.IndexByteString", "internal/bytealg.IndexString", "internal/abi.NoEscape", "internal/bytealg.MakeNoZero"], unfollowed := true, recurses := true, named := ["internal/bytealg.MaxLen", "unicode/utf8.first", "unicode/utf8.acceptRanges"], apart := false, laid := [("unicode/utf8.acceptRanges", laid_unicode_utf8_acceptRanges), ("unicode/utf8.first", laid_unicode_utf8_first)] }
def TemplatesSaid : Prop := templatesRow.holds Tryz.pinned (OpenSpec.ofChange templatesSpec)

/-- ITS FALSE NEIGHBOUR: 'it returns false'. Refute it at one input. -/
def templatesWrong : ChangeSpec := { name := "templates", fn := fun _ => fun
  | [d] => { results := [.lit (.bool false)], args := [d] }
  | _ => none }
def TemplatesWrongFalsely : Prop := templatesRow.holds Tryz.pinned (OpenSpec.ofChange templatesWrong)

/-- 'stolelaw17.Sets': WHATEVER THE INPUT: true; the input reads as it did. -/
def setsSpec : ChangeSpec := { name := "sets", fn := fun _ => fun
  | [d1, d2] => { results := [.lit (.bool true)], args := [d1, d2] }
  | _ => none }
def setsRow : OpenClaim := { program := "ytbcddlheikdlkaagreatdoor", sum := "2b89b8b1a69c80ff9d23f4b01f0bba8a85e68e390f6b96d01832d11bd5369561", func := "stole/stolelaw17.Sets", spec := "sets", inPlace := ["internal/bytealg.IndexByteString", "internal/bytealg.CountString", "internal/bytealg.IndexString", "internal/abi.NoEscape", "internal/bytealg.MakeNoZero"], unfollowed := true, recurses := true, named := ["internal/bytealg.MaxLen", "unicode/utf8.first", "unicode/utf8.acceptRanges"], loops := true, apart := false, laid := [("unicode/utf8.acceptRanges", laid_unicode_utf8_acceptRanges), ("unicode/utf8.first", laid_unicode_utf8_first)] }
def SetsSaid : Prop := setsRow.holds Tryz.pinned (OpenSpec.ofChange setsSpec)

/-- ITS FALSE NEIGHBOUR: 'it returns false'. Refute it at one input. -/
def setsWrong : ChangeSpec := { name := "sets", fn := fun _ => fun
  | [d1, d2] => { results := [.lit (.bool false)], args := [d1, d2] }
  | _ => none }
def SetsWrongFalsely : Prop := setsRow.holds Tryz.pinned (OpenSpec.ofChange setsWrong)

/-- 'stolelaw17.SetReads': WHATEVER THE INPUT: true; the input reads as it did. -/
def setReadsSpec : ChangeSpec := { name := "setReads", fn := fun _ => fun
  | [d1, d2] => { results := [.lit (.bool true)], args := [d1, d2] }
  | _ => none }
def setReadsRow : OpenClaim := { program := "ytbcddlheikdlkaagreatdoor", sum := "2b89b8b1a69c80ff9d23f4b01f0bba8a85e68e390f6b96d01832d11bd5369561", func := "stole/stolelaw17.SetReads", spec := "setReads", inPlace := ["internal/bytealg.IndexByteString", "internal/bytealg.CountString", "internal/bytealg.IndexString", "internal/abi.NoEscape", "internal/bytealg.MakeNoZero"], unfollowed := true, recurses := true, named := ["internal/bytealg.MaxLen", "unicode/utf8.first", "unicode/utf8.acceptRanges"], apart := false, laid := [("unicode/utf8.acceptRanges", laid_unicode_utf8_acceptRanges), ("unicode/utf8.first", laid_unicode_utf8_first)] }
def SetReadsSaid : Prop := setReadsRow.holds Tryz.pinned (OpenSpec.ofChange setReadsSpec)

/-- ITS FALSE NEIGHBOUR: 'it returns false'. Refute it at one input. -/
def setReadsWrong : ChangeSpec := { name := "setReads", fn := fun _ => fun
  | [d1, d2] => { results := [.lit (.bool false)], args := [d1, d2] }
  | _ => none }
def SetReadsWrongFalsely : Prop := setReadsRow.holds Tryz.pinned (OpenSpec.ofChange setReadsWrong)

/-- 'stolelaw17.SetForms': WHATEVER THE INPUT: true; the input reads as it did. -/
def setFormsSpec : ChangeSpec := { name := "setForms", fn := fun _ => fun
  | [d1, d2] => { results := [.lit (.bool true)], args := [d1, d2] }
  | _ => none }
def setFormsRow : OpenClaim := { program := "ytbcddlheikdlkaagreatdoor", sum := "2b89b8b1a69c80ff9d23f4b01f0bba8a85e68e390f6b96d01832d11bd5369561", func := "stole/stolelaw17.SetForms", spec := "setForms", inPlace := ["internal/bytealg.IndexByteString", "internal/bytealg.CountString", "internal/bytealg.IndexString", "internal/abi.NoEscape", "internal/bytealg.MakeNoZero"], unfollowed := true, recurses := true, named := ["internal/bytealg.MaxLen", "unicode/utf8.first", "unicode/utf8.acceptRanges"], apart := false, laid := [("unicode/utf8.acceptRanges", laid_unicode_utf8_acceptRanges), ("unicode/utf8.first", laid_unicode_utf8_first)] }
def SetFormsSaid : Prop := setFormsRow.holds Tryz.pinned (OpenSpec.ofChange setFormsSpec)

/-- ITS FALSE NEIGHBOUR: 'it returns false'. Refute it at one input. -/
def setFormsWrong : ChangeSpec := { name := "setForms", fn := fun _ => fun
  | [d1, d2] => { results := [.lit (.bool false)], args := [d1, d2] }
  | _ => none }
def SetFormsWrongFalsely : Prop := setFormsRow.holds Tryz.pinned (OpenSpec.ofChange setFormsWrong)

/-- 'stolelaw17.SetMays': WHATEVER THE INPUT: true; the input reads as it did. -/
def setMaysSpec : ChangeSpec := { name := "setMays", fn := fun _ => fun
  | [d1, d2] => { results := [.lit (.bool true)], args := [d1, d2] }
  | _ => none }
def setMaysRow : OpenClaim := { program := "ytbcddlheikdlkaagreatdoor", sum := "2b89b8b1a69c80ff9d23f4b01f0bba8a85e68e390f6b96d01832d11bd5369561", func := "stole/stolelaw17.SetMays", spec := "setMays", inPlace := ["internal/bytealg.IndexByteString", "internal/bytealg.CountString", "internal/bytealg.IndexString", "internal/abi.NoEscape", "internal/bytealg.MakeNoZero"], unfollowed := true, recurses := true, named := ["internal/bytealg.MaxLen", "unicode/utf8.first", "unicode/utf8.acceptRanges"], apart := false, laid := [("unicode/utf8.acceptRanges", laid_unicode_utf8_acceptRanges), ("unicode/utf8.first", laid_unicode_utf8_first)] }
def SetMaysSaid : Prop := setMaysRow.holds Tryz.pinned (OpenSpec.ofChange setMaysSpec)

/-- ITS FALSE NEIGHBOUR: 'it returns false'. Refute it at one input. -/
def setMaysWrong : ChangeSpec := { name := "setMays", fn := fun _ => fun
  | [d1, d2] => { results := [.lit (.bool false)], args := [d1, d2] }
  | _ => none }
def SetMaysWrongFalsely : Prop := setMaysRow.holds Tryz.pinned (OpenSpec.ofChange setMaysWrong)

/- THE SECOND FORM. 'bulk': how many values and letters a reading holds, each counted each time it is reached (what is shared counts as often as it is met; a slice's spare places count too). A statement '..UptoSaid' is the law's where the arguments, and the package variables that the reading takes, are together of bulk at most 1048576: NARROWER than '..Said'. Prove '..Said' where nothing that the law and all that it calls make is longer than what came in: it says more and counts as full. Else prove '..UptoSaid'. A law counts once. -/
mutual
def uptoBulk {H : Type} : DataW H → Nat
  | .lit (.string bytes) => bytes.length + 1
  | .lit _ => 1
  | .nil => 1
  | .ptr d => uptoBulk d + 1
  | .slice elems spare => uptoBulkAll elems + uptoBulkAll spare + 1
  | .agg parts => uptoBulkAll parts + 1
  | .iface _ d => uptoBulk d + 1
  | .map entries => uptoBulkEntries entries + 1
  | .held _ => 1
def uptoBulkAll {H : Type} : List (DataW H) → Nat
  | [] => 0
  | d :: r => uptoBulk d + uptoBulkAll r
def uptoBulkEntries {H : Type} : List (Lit × DataW H) → Nat
  | [] => 0
  | x :: r => uptoBulkEntry x + uptoBulkEntries r
def uptoBulkEntry {H : Type} : Lit × DataW H → Nat
  | (.string bytes, d) => bytes.length + uptoBulk d + 1
  | (_, d) => uptoBulk d + 1
 end
def uptoSmall : (H : Type) → List (DataW H) → Bool := fun _ ds => decide (uptoBulkAll ds ≤ 1048576)
def OpenSpec.upto (s : _root_.Go.ChangeSpec) : _root_.Go.OpenSpec := { _root_.Go.OpenSpec.ofChange s with cond := some uptoSmall }

/-- 'stolelaw16.Templates', WHERE WHAT IT READS IS OF BULK AT MOST 1048576: true; the input reads as it did. -/
def templatesUptoRow : OpenClaim := { program := "ytbcddlheikdlkaagreatdoor", sum := "2b89b8b1a69c80ff9d23f4b01f0bba8a85e68e390f6b96d01832d11bd5369561", func := "stole/stolelaw16.Templates", spec := "templates", inPlace := ["internal/bytealg.CountString", "internal/bytealg.IndexByteString", "internal/bytealg.IndexString", "internal/abi.NoEscape", "internal/bytealg.MakeNoZero"], unfollowed := true, recurses := true, named := ["internal/bytealg.MaxLen", "unicode/utf8.first", "unicode/utf8.acceptRanges"], apart := false, laid := [("unicode/utf8.acceptRanges", laid_unicode_utf8_acceptRanges), ("unicode/utf8.first", laid_unicode_utf8_first)], narrowed := true }
def TemplatesUptoSaid : Prop := templatesUptoRow.holds Tryz.pinned (OpenSpec.upto templatesSpec)

/-- 'stolelaw17.Sets', WHERE WHAT IT READS IS OF BULK AT MOST 1048576: true; the input reads as it did. -/
def setsUptoRow : OpenClaim := { program := "ytbcddlheikdlkaagreatdoor", sum := "2b89b8b1a69c80ff9d23f4b01f0bba8a85e68e390f6b96d01832d11bd5369561", func := "stole/stolelaw17.Sets", spec := "sets", inPlace := ["internal/bytealg.IndexByteString", "internal/bytealg.CountString", "internal/bytealg.IndexString", "internal/abi.NoEscape", "internal/bytealg.MakeNoZero"], unfollowed := true, recurses := true, named := ["internal/bytealg.MaxLen", "unicode/utf8.first", "unicode/utf8.acceptRanges"], loops := true, apart := false, laid := [("unicode/utf8.acceptRanges", laid_unicode_utf8_acceptRanges), ("unicode/utf8.first", laid_unicode_utf8_first)], narrowed := true }
def SetsUptoSaid : Prop := setsUptoRow.holds Tryz.pinned (OpenSpec.upto setsSpec)

/-- 'stolelaw17.SetReads', WHERE WHAT IT READS IS OF BULK AT MOST 1048576: true; the input reads as it did. -/
def setReadsUptoRow : OpenClaim := { program := "ytbcddlheikdlkaagreatdoor", sum := "2b89b8b1a69c80ff9d23f4b01f0bba8a85e68e390f6b96d01832d11bd5369561", func := "stole/stolelaw17.SetReads", spec := "setReads", inPlace := ["internal/bytealg.IndexByteString", "internal/bytealg.CountString", "internal/bytealg.IndexString", "internal/abi.NoEscape", "internal/bytealg.MakeNoZero"], unfollowed := true, recurses := true, named := ["internal/bytealg.MaxLen", "unicode/utf8.first", "unicode/utf8.acceptRanges"], apart := false, laid := [("unicode/utf8.acceptRanges", laid_unicode_utf8_acceptRanges), ("unicode/utf8.first", laid_unicode_utf8_first)], narrowed := true }
def SetReadsUptoSaid : Prop := setReadsUptoRow.holds Tryz.pinned (OpenSpec.upto setReadsSpec)

/-- 'stolelaw17.SetForms', WHERE WHAT IT READS IS OF BULK AT MOST 1048576: true; the input reads as it did. -/
def setFormsUptoRow : OpenClaim := { program := "ytbcddlheikdlkaagreatdoor", sum := "2b89b8b1a69c80ff9d23f4b01f0bba8a85e68e390f6b96d01832d11bd5369561", func := "stole/stolelaw17.SetForms", spec := "setForms", inPlace := ["internal/bytealg.IndexByteString", "internal/bytealg.CountString", "internal/bytealg.IndexString", "internal/abi.NoEscape", "internal/bytealg.MakeNoZero"], unfollowed := true, recurses := true, named := ["internal/bytealg.MaxLen", "unicode/utf8.first", "unicode/utf8.acceptRanges"], apart := false, laid := [("unicode/utf8.acceptRanges", laid_unicode_utf8_acceptRanges), ("unicode/utf8.first", laid_unicode_utf8_first)], narrowed := true }
def SetFormsUptoSaid : Prop := setFormsUptoRow.holds Tryz.pinned (OpenSpec.upto setFormsSpec)

/-- 'stolelaw17.SetMays', WHERE WHAT IT READS IS OF BULK AT MOST 1048576: true; the input reads as it did. -/
def setMaysUptoRow : OpenClaim := { program := "ytbcddlheikdlkaagreatdoor", sum := "2b89b8b1a69c80ff9d23f4b01f0bba8a85e68e390f6b96d01832d11bd5369561", func := "stole/stolelaw17.SetMays", spec := "setMays", inPlace := ["internal/bytealg.IndexByteString", "internal/bytealg.CountString", "internal/bytealg.IndexString", "internal/abi.NoEscape", "internal/bytealg.MakeNoZero"], unfollowed := true, recurses := true, named := ["internal/bytealg.MaxLen", "unicode/utf8.first", "unicode/utf8.acceptRanges"], apart := false, laid := [("unicode/utf8.acceptRanges", laid_unicode_utf8_acceptRanges), ("unicode/utf8.first", laid_unicode_utf8_first)], narrowed := true }
def SetMaysUptoSaid : Prop := setMaysUptoRow.holds Tryz.pinned (OpenSpec.upto setMaysSpec)

end Rows
end Go.Proofs.YtbcddlheikdlkaaGreatDoor
