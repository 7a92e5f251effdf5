/-
  PLAIN: blocks within blocks: source 3, case by case, by the kernel.
-/
import Derived.Test.YtdaffedbboofjaaGreatDoorNests
set_option linter.unusedVariables false
set_option linter.unusedSimpArgs false
namespace Go.Proofs.YtdaffedbboofjaaGreatDoor.S
open Go.RowKit

set_option maxRecDepth 1000000 in
theorem nest3 (c : Nat) (o : Bool) (hc : c ≤ 2) : (List.range 33).map (fun k => tmplL (src3 c o k)) = (List.range 33).map res3 := by
  have hr : c = 0 ∨ c = 1 ∨ c = 2 := by omega
  rcases hr with rfl | rfl | rfl <;> cases o
  all_goals (show _ = _; kernel_rfl)
end Go.Proofs.YtdaffedbboofjaaGreatDoor.S
