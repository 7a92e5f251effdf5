/-
  THE WALKS of package ctx (contexts): may, all that may be.
-/
import Derived.Test.YtafkfamfhagokaaGreatDoorCtxW40
import Derived.Test.YtafkfamfhagokaaGreatDoorCtxW41
import Derived.Test.YtafkfamfhagokaaGreatDoorCtxW42
import Derived.Test.YtafkfamfhagokaaGreatDoorCtxW43
set_option linter.unusedVariables false
set_option linter.unusedSimpArgs false
namespace Go.Proofs.YtafkfamfhagokaaGreatDoor.S
open Go.RowKit

theorem cxMay_true (g : Nat) (c : Cx) (w : World) (hB : Blk g 25 (cxCells c) w) (h : mayX c = true) : Calls Tryz.prog 28 #[.pointer (some ⟨g, 0, none⟩)] w fun e w' => e = .returned (.bool true) ∧ Below w.heap.size w w' := by
  obtain ⟨h1, h2, h3, h4, h5, ⟨h6, h7⟩, ⟨h8, h9⟩⟩ := (mayX_iff c).1 h
  have e2 : (c.kd == (kindX c.st : Int)) = true := beq_iff_eq.2 h2
  have t1 := decide_eq_true h6
  have t2 := decide_eq_true h7
  have t3 := decide_eq_true h8
  have t4 := decide_eq_true h9
  cases hr : c.ref with
  | true =>
    rcases (show c.kd = 1 ∨ c.kd = 2 ∨ c.kd = 3 ∨ (c.kd ≠ 1 ∧ c.kd ≠ 2 ∧ c.kd ≠ 3) by omega) with hk | hk | hk | hk
    · exact cxMay_t1r g c w hB hk h1 e2 t1 t2 t3 t4 (beq_iff_eq.2 (by omega)) hr (h3 hr)
    · exact cxMay_t2r g c w hB hk h1 e2 t1 t2 t3 t4 (beq_iff_eq.2 (by omega)) hr (h3 hr)
    · exact cxMay_t3r g c w hB hk h1 e2 t1 t2 t3 t4 (beq_iff_eq.2 (by omega)) hr (h3 hr)
    · exact cxMay_t0r g c w hB hk h1 e2 t1 t2 t3 t4 (beq_iff_eq.2 (by omega)) (beq_iff_eq.2 (by omega)) hr (h3 hr)
  | false =>
    rcases (show c.kd = 1 ∨ c.kd = 2 ∨ c.kd = 3 ∨ (c.kd ≠ 1 ∧ c.kd ≠ 2 ∧ c.kd ≠ 3) by omega) with hk | hk | hk | hk
    · exact cxMay_t1 g c w hB hk h1 e2 t1 t2 t3 t4 (beq_iff_eq.2 (by omega)) hr
    · exact cxMay_t2 g c w hB hk h1 e2 t1 t2 t3 t4 (beq_iff_eq.2 (by omega)) hr
    · exact cxMay_t3 g c w hB hk h1 e2 t1 t2 t3 t4 (beq_iff_eq.2 (by omega)) hr
    · exact cxMay_t0 g c w hB hk h1 e2 t1 t2 t3 t4 (beq_iff_eq.2 (by omega)) (beq_iff_eq.2 (by omega)) hr
end Go.Proofs.YtafkfamfhagokaaGreatDoor.S
