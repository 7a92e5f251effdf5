/-
  FROM A ROW's LIST TO 'Env': what utf8's two tables hold when the call begins, and a world for the witness.
-/
import Derived.Test.YthmcacgkhpigaaaDoorRows
import Derived.Test.YthmcacgkhpigaaaDoorEnv
import Derived.Test.YthmcacgkhpigaaaDoorShelf
import Derived.Lib.LaidU8
import Derived.MakeChecks
import Derived.Deep.DeepHandedRow
import Derived.ProofKit
import Derived.OpenShut
namespace Go.Proofs.YthmcacgkhpigaaaDoor.S
open Go.ChangeShapes Go.WideShapes Go.ChangeAt Go.RowKit

theorem own : ownKnob Tryd.prog.godebug = none := by kernel_rfl
theorem u8X : U8Extra Tryd.prog Tryd.lays260_ren := { n3 := by kernel_rfl, n4 := by kernel_rfl, y3 := by kernel_rfl, y4 := by kernel_rfl, c5 := by kernel_rfl, c119 := by kernel_rfl, c138 := by kernel_rfl }
theorem first_same : Rows.laid_unicode_utf8_first = Lib.firstData := by kernel_rfl
theorem accept_same : (Rows.laid_unicode_utf8_acceptRanges : DataW Unit) = Lib.acceptData := by kernel_rfl
theorem env_of {W : World} {l : List (String × DataW Unit)} (hp : (l.all fun x => x.2.handleName?.isNone) = true) (hL : laidMetH Tryd.prog l W) (hS : W.ShapedOpen Tryd.prog)
    (h1 : ("unicode/utf8.first", Rows.laid_unicode_utf8_first) ∈ l) (h2 : ("unicode/utf8.acceptRanges", Rows.laid_unicode_utf8_acceptRanges) ∈ l) : Env W := by
  rw [Go.MakeChecks.laidMetH_plain _ _ _ hp] at hL
  refine ⟨utf8Tabs_of_reads Tryd.lays260 u8X ?_ ?_, Tryd.laysM143.s1_3 W hS⟩
  · have := Lib.laidMet.reads hL h1; rwa [first_same] at this
  · have := Lib.laidMet.reads hL h2; rwa [accept_same] at this

def layCells (cs : List Value) : Obj → Obj
  | .cells _ t frozen => .cells cs.toArray t frozen
  | o => o
/-- A WORLD FOR THE WITNESS: the settled one, the two tables as their initialisers lay them. -/
noncomputable def laidWorld (os : Os) : World :=
  { World.holding Tryd.prog os ⟨#[], #[], []⟩ with heap := ((World.holding Tryd.prog os ⟨#[], #[], []⟩).heap.modify 0 (layCells (Go.Pinned.utf8FirstZ.map fun (n : Nat) => Value.int .u8 (n : Int)))).modify 1 (layCells ((List.range 16).flatMap fun i => [Value.int .u8 (Lib.accLo i), Value.int .u8 (Lib.accHi i)])) }
end Go.Proofs.YthmcacgkhpigaaaDoor.S
