/-
  THE WALK of stolelaw11.Escapes.
-/
import Derived.Test.YthmcacgkhpigaaaDoorLaw11
import Derived.Test.YthmcacgkhpigaaaDoorRefEsc
set_option linter.unusedVariables false
namespace Go.Proofs.YthmcacgkhpigaaaDoor.S
open Go.RowKit
theorem escape_same (l : List UInt8) : escapeL l = escR (norm l) := esc_law (norm l)
end Go.Proofs.YthmcacgkhpigaaaDoor.S
