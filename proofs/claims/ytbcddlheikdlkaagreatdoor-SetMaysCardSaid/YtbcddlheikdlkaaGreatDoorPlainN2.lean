/-
  PLAIN: what is left of a walk's bounds only falls.
-/
import Derived.Test.YtbcddlheikdlkaaGreatDoorPlainN
set_option linter.unusedVariables false
set_option linter.unusedSimpArgs false
namespace Go.Proofs.YtbcddlheikdlkaaGreatDoor.S
open Go.RowKit

theorem may_le (ns : List (List UInt8)) : ∀ (N : Nat),
    (∀ (i : It), SizeOf.sizeOf i ≤ N → ∀ d l n m n' m', may1 ns i d l n m = some (n', m') → n' ≤ n ∧ m' ≤ m) ∧
    (∀ (is : List It), SizeOf.sizeOf is ≤ N → ∀ d l n m n' m', mayR ns is d l n m = some (n', m') → n' ≤ n ∧ m' ≤ m) := by
  intro N
  induction N with
  | zero =>
    refine ⟨fun i hi => ?_, fun is hi => ?_⟩
    · cases i; simp at hi
    · cases is <;> simp at hi
  | succ N ih =>
    obtain ⟨ih1, ihR⟩ := ih
    refine ⟨fun i hi => ?_, fun is hi => ?_⟩
    · obtain ⟨k, t, p, th, el⟩ := i
      intro d l n m n' m' h
      rw [It.mk.sizeOf_spec] at hi
      rw [may1] at h
      split at h
      · cases h
      split at h
      · cases h
      split at h
      · split at h
        · simp only [Option.some.injEq, Prod.mk.injEq] at h; omega
        · cases h
      split at h
      · split at h
        · simp only [Option.some.injEq, Prod.mk.injEq] at h; omega
        · cases h
      split at h
      · split at h
        · simp only [Option.some.injEq, Prod.mk.injEq] at h; omega
        · cases h
      split at h
      · split at h
        · simp only [Option.some.injEq, Prod.mk.injEq] at h; omega
        · cases h
      split at h
      · split at h
        · simp only [Option.some.injEq, Prod.mk.injEq] at h; omega
        · cases h
      split at h
      · split at h
        · split at h
          · cases h
          · rename_i n1 m1 h1
            have e1 := ihR th (by omega) _ _ _ _ _ _ h1
            have e2 := ihR el (by omega) _ _ _ _ _ _ h
            omega
        · cases h
      · cases h
    · intro d l n m n' m' h
      cases is with
      | nil =>
        rw [mayR] at h
        simp only [Option.some.injEq, Prod.mk.injEq] at h
        omega
      | cons i r =>
        rw [List.cons.sizeOf_spec] at hi
        rw [mayR] at h
        split at h
        · cases h
        · rename_i n1 m1 h1
          have e1 := ih1 i (by omega) _ _ _ _ _ _ h1
          have e2 := ihR r (by omega) _ _ _ _ _ _ h
          omega
theorem mayR_le {ns : List (List UInt8)} {is : List It} {d : Nat} {l : Bool} {n m n' m' : Nat} (h : mayR ns is d l n m = some (n', m')) : n' ≤ n ∧ m' ≤ m := (may_le ns _).2 is (Nat.le_refl _) _ _ _ _ _ _ h
theorem may1_le {ns : List (List UInt8)} {i : It} {d : Nat} {l : Bool} {n m n' m' : Nat} (h : may1 ns i d l n m = some (n', m')) : n' ≤ n ∧ m' ≤ m := (may_le ns _).1 i (Nat.le_refl _) _ _ _ _ _ _ h
end Go.Proofs.YtbcddlheikdlkaaGreatDoor.S
