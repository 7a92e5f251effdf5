/-
  WHAT THE WALKS ASK OF THE WORLD: unicode/utf8's two tables, and the package variable MaxLen of Go's library; it lives on where only new memory was made.
-/
import Derived.Test.YthmcacgkhpigaaaDoorProg
import Derived.Shelf.Unicode.DecodeSlow
import Derived.Below
import Derived.OwnWalk
import Derived.Deep.Draws
import Derived.Maps.AppendAt
namespace Go.Proofs.YthmcacgkhpigaaaDoor.S
open Go.RowKit
structure Env (w : World) : Prop where
  tabs : Lib.Utf8Tabs 0 1 w
  maxLen : ∃ m, w.cell? ⟨2, 0, none⟩ = some (.int .i64 m)
theorem Env.cells {w w' : World} (h : Env w) (hb : ∀ a v, w.cell? a = some v → w'.cell? a = some v) : Env w' :=
  ⟨⟨fun c hc => hb _ _ (h.tabs.1 c hc), fun i hi => ⟨hb _ _ (h.tabs.2 i hi).1, hb _ _ (h.tabs.2 i hi).2⟩⟩, let ⟨m, hm⟩ := h.maxLen; ⟨m, hb _ _ hm⟩⟩
theorem Env.below {w w' : World} (h : Env w) (hb : Below w.heap.size w w') : Env w' :=
  h.cells fun a _ hv => (hb.cell (World.block_lt_of_cell? w a hv)).trans hv
end Go.Proofs.YthmcacgkhpigaaaDoor.S
