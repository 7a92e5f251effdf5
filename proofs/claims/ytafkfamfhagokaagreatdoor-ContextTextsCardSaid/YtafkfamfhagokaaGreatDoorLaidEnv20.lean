/-
  A WORLD FOR THE WITNESS of chapter 20's rows: the five tables that these rows list, as their initialisers lay them.
-/
import Derived.Test.YtafkfamfhagokaaGreatDoorLaidEnv
namespace Go.Proofs.YtafkfamfhagokaaGreatDoor.S
open Go.ChangeShapes Go.WideShapes Go.ChangeAt Go.RowKit

def litCells : DataW Unit → List Value
  | .agg ds => ds.filterMap fun d => match d with | .lit (.int k z) => some (.int k z) | _ => none
  | _ => []
noncomputable def laidWorld20 (os : Os) : World :=
  { laidWorld os with heap := (((laidWorld os).heap.modify 6 (layCells (litCells Rows.laid_math_bits_deBruijn32tab))).modify 2 (layCells (litCells Rows.laid_math_bits_deBruijn64tab))).modify 5 (layCells (litCells Rows.laid_internal_strconv_uint64pow10)) }
theorem met20 (os : Os) : laidMet Tryz.prog Rows.holeStatesRow.laid ((laidWorld20 os).forCall (fun _ _ => 0) ⟨#[], #[.int .i64 0], []⟩).memory :=
  laidMet_of_run' 8 (by kernel_rfl) (by kernel_rfl)
end Go.Proofs.YtafkfamfhagokaaGreatDoor.S
