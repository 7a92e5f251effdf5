/-
  THE WALK of the reference's Norm: it gives what 'norm' tells.
-/
import Derived.Test.YtbcddlheikdlkaaGreatDoorRefUWalks
import Derived.Test.YtbcddlheikdlkaaGreatDoorUtfWalks
import Derived.Test.YtbcddlheikdlkaaGreatDoorOwn
set_option linter.unusedVariables false
set_option linter.unusedSimpArgs false
namespace Go.Proofs.YtbcddlheikdlkaaGreatDoor.S
open Go.RowKit

theorem drop_cons (s : ByteArray) (i : Nat) (h : i < s.size) : s.data.toList.drop i = s[i] :: s.data.toList.drop (i + 1) := by
  rw [List.drop_eq_getElem_cons (show i < s.data.toList.length from h)]
  rfl
theorem byte_getD (s : ByteArray) (i : Nat) (h : i < s.size) : s[i] = s.data.toList.getD i 0 := by
  rw [List.getD_eq_getElem?_getD, List.getElem?_eq_getElem (show i < s.data.toList.length from h)]
  rfl
end Go.Proofs.YtbcddlheikdlkaaGreatDoor.S
