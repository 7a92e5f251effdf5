/-
  THE WALKS of package ctx (contexts): may, words.
-/
import Derived.Test.YtafkfamfhagokaaGreatDoorCtxW3
set_option linter.unusedVariables false
set_option linter.unusedSimpArgs false
namespace Go.Proofs.YtafkfamfhagokaaGreatDoor.S
open Go.RowKit

abbrev cxCells (c : Cx) : List Value := [.int .i64 c.st.pl, .string ⟨c.st.nm.toArray⟩, .bool c.st.fin, .string ⟨c.st.attr.toArray⟩, .string ⟨c.st.held.toArray⟩, .int .i64 c.st.rd, .bool c.ref, .int .i64 c.kd, .int .i64 c.url, .int .i64 c.lang]
theorem cx_st {g : Nat} {c : Cx} {w : World} (h : Blk g 25 (cxCells c) w) : StAt g c.st w := StAt.of (r := [.bool c.ref, .int .i64 c.kd, .int .i64 c.url, .int .i64 c.lang]) h
end Go.Proofs.YtafkfamfhagokaaGreatDoor.S
