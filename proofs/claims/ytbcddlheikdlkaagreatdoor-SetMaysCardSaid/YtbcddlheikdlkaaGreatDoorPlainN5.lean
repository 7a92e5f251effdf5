/-
  PLAIN: the law SetForms (chapter 17): names, sets that are none.
-/
import Derived.Test.YtbcddlheikdlkaaGreatDoorDecimal
import Derived.Test.YtbcddlheikdlkaaGreatDoorReadG
import Derived.Test.YtbcddlheikdlkaaGreatDoorSetW6
set_option linter.unusedVariables false
set_option linter.unusedSimpArgs false
namespace Go.Proofs.YtbcddlheikdlkaaGreatDoor.S
open Go.RowKit

def dG (i : Nat) : List UInt8 := if i < 10 then [UInt8.ofNat (48 + i)] else [UInt8.ofNat (48 + i / 10), UInt8.ofNat (48 + i % 10)]
theorem dec_dG (i : Nat) (h : i < 100) : decL i = dG i := by
  unfold decL dG
  by_cases h1 : i < 10
  · rw [if_pos h1, decR_step i [] (.inr rfl), show i / 10 = 0 by omega, decR_zero, if_neg (by simp), show i % 10 = i by omega]
  · rw [if_neg h1, decR_step i [] (.inr rfl), decR_step (i / 10) _ (.inl (by omega)), show i / 10 / 10 = 0 by omega, decR_zero, if_neg (by simp), show i / 10 % 10 = i / 10 by omega]
def badN : List (List UInt8) := [[], [97, 32, 98], [97, 47, 98], [195, 169], List.replicate 33 0, [97, 0]]
def goodN : List (List UInt8) := [[97], [65, 45, 98, 95, 99, 46, 49], [48]]
theorem bad_read (n : Nat) (h : n ≤ 5) : readL [(badN.getD n [], [])] = .error 1700 := by
  rcases (show n = 0 ∨ n = 1 ∨ n = 2 ∨ n = 3 ∨ n = 4 ∨ n = 5 by omega) with rfl | rfl | rfl | rfl | rfl | rfl <;> kernel_rfl
theorem good_read (n : Nat) (h : n ≤ 2) : readL [(goodN.getD n [], [120])] = .ok [(goodN.getD n [], [.mk 0 [120] [] [] []])] := by
  rcases (show n = 0 ∨ n = 1 ∨ n = 2 by omega) with rfl | rfl | rfl <;> kernel_rfl
def formS (k i : Nat) : Tp := ([110] ++ dG i, [123, 123, 116, 101, 109, 112, 108, 97, 116, 101, 32, 34, 110] ++ dG (k - 1 - i) ++ [34, 125, 125])
def formT (k i : Nat) : List Tp := (List.range i).map (formS k)
theorem formT_succ (k i : Nat) : formT k (i + 1) = formT k i ++ [formS k i] := by
  unfold formT
  rw [List.range_succ, List.map_append]
  rfl
theorem formT_len (k i : Nat) : (formT k i).length = i := by simp [formT]
def formN (k : Nat) : List Nm := (List.range k).map fun i => ([110] ++ dG i, [It.mk 6 ([110] ++ dG (k - 1 - i)) [] [] []])
theorem f17_read (k : Nat) (h1 : 10 ≤ k) (h2 : k ≤ 16) : readL (formT k k) = .ok (formN k) := by
  rcases (show k = 10 ∨ k = 11 ∨ k = 12 ∨ k = 13 ∨ k = 14 ∨ k = 15 ∨ k = 16 by omega) with rfl | rfl | rfl | rfl | rfl | rfl | rfl <;> kernel_rfl
theorem f17_may (k : Nat) (h1 : 10 ≤ k) (h2 : k ≤ 16) : mayL (formN k) = true := by
  rcases (show k = 10 ∨ k = 11 ∨ k = 12 ∨ k = 13 ∨ k = 14 ∨ k = 15 ∨ k = 16 by omega) with rfl | rfl | rfl | rfl | rfl | rfl | rfl <;> kernel_rfl
theorem f17_big (k : Nat) (h : 16 < k) : readL (formT k k) = .error 1700 := readL_form (.inr (.inl (by rw [formT_len]; exact h)))
theorem dG_le (i : Nat) : (dG i).length ≤ 2 := by unfold dG; split <;> simp
theorem f17_ok (k : Nat) : ∀ n ∈ formN k, ∀ i ∈ n.2, ItOk i := by
  intro n hn i hi
  unfold formN at hn
  obtain ⟨j, -, rfl⟩ := List.mem_map.1 hn
  have hi : i ∈ [It.mk 6 ([110] ++ dG (k - 1 - j)) [] [] []] := hi
  rw [List.mem_singleton.1 hi]
  refine .mk _ _ _ _ _ (fun c hc => by cases hc) (by decide) ?_ (fun i hi => by cases hi) (fun i hi => by cases hi)
  have := dG_le (k - 1 - j)
  simp; omega
theorem f17_names (k : Nat) : ∀ n ∈ formN k, n.1.length ≤ 9223372036854775807 := by
  intro n hn
  unfold formN at hn
  obtain ⟨j, -, rfl⟩ := List.mem_map.1 hn
  have := dG_le j
  show ([110] ++ dG j).length ≤ _
  simp; omega
end Go.Proofs.YtbcddlheikdlkaaGreatDoor.S
