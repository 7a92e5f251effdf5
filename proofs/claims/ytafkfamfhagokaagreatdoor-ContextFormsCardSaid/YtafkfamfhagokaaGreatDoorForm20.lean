/-
  CONTEXTS THAT ARE NONE: what ctx's may says of each of the fourteen contexts of the law ContextForms (chapter 20).
-/
import Derived.Test.YtafkfamfhagokaaGreatDoorAt20
import Derived.Test.YtafkfamfhagokaaGreatDoorCtxW4n
import Derived.Test.YtafkfamfhagokaaGreatDoorCtxW4b1
import Derived.Test.YtafkfamfhagokaaGreatDoorCtxW4b2
set_option linter.unusedVariables false
set_option linter.unusedSimpArgs false
namespace Go.Proofs.YtafkfamfhagokaaGreatDoor.S
open Go.RowKit

def stateNo (n : Nat) : Bool := n == 0 || n == 1 || n == 2 || n == 3 || n == 4 || n == 11
def kindNo (n : Nat) : Bool := n == 5 || n == 8 || n == 9 || n == 10 || n == 12
theorem form_b1 : ∀ n : Fin 14, ∀ d : Fin 32, stateNo n.val = true → stateMayX (formC n.val (1 + d.val)).st = false := by decide +kernel
theorem form_b2 : ∀ n : Fin 14, ∀ d : Fin 32, kindNo n.val = true → stateMayX (formC n.val (1 + d.val)).st = true ∧ ((formC n.val (1 + d.val)).kd == (kindX (formC n.val (1 + d.val)).st : Int)) = false := by decide +kernel
theorem form_b7 : ∀ d : Fin 32, stateMayX (formC 6 (1 + d.val)).st = true ∧ ((formC 6 (1 + d.val)).kd == (kindX (formC 6 (1 + d.val)).st : Int)) = true ∧ decide (0 ≤ (formC 6 (1 + d.val)).url) = true ∧ decide ((formC 6 (1 + d.val)).url ≤ 4) = false := by decide +kernel
theorem form_b5 : stateMayX (formC 7 1).st = true ∧ ((formC 7 1).kd == (kindX (formC 7 1).st : Int)) = true := by decide +kernel
theorem form_b3 : stateMayX (formC 13 1).st = true ∧ ((formC 13 1).kd == (kindX (formC 13 1).st : Int)) = true ∧ referredX (formC 13 1).st = false := by decide +kernel
theorem form_may (n d : Nat) (hn : n ≤ 13) (h1 : 1 ≤ d) (h2 : d ≤ 32) : MayOk (formC n d) := by
  intro g W hB
  rw [form_no n d hn h1 h2]
  obtain ⟨m, rfl, hm⟩ : ∃ m, d = 1 + m ∧ m < 32 := ⟨d - 1, by omega, by omega⟩
  by_cases hs : stateNo n = true
  · exact cxMay_b1 g _ W hB (form_b1 ⟨n, by omega⟩ ⟨m, hm⟩ hs)
  by_cases hk : kindNo n = true
  · have h := form_b2 ⟨n, by omega⟩ ⟨m, hm⟩ hk
    exact cxMay_b2 g _ W hB h.1 h.2
  have h3 : n = 6 ∨ n = 7 ∨ n = 13 := by
    simp [stateNo] at hs
    simp [kindNo] at hk
    omega
  rcases h3 with rfl | rfl | rfl
  · have h := form_b7 ⟨m, hm⟩
    exact cxMay_b7 g _ W hB rfl h.1 h.2.1 rfl rfl h.2.2.1 h.2.2.2
  · exact cxMay_b5 g _ W hB rfl form_b5.1 form_b5.2 rfl rfl
  · exact cxMay_b3 g _ W hB ⟨(by show (0 : Int) ≠ 1; decide), (by show (0 : Int) ≠ 2; decide), (by show (0 : Int) ≠ 3; decide)⟩ form_b3.1 form_b3.2.1 rfl form_b3.2.2
end Go.Proofs.YtafkfamfhagokaaGreatDoor.S
