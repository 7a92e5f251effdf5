/-
  PLAIN LEAN: bytes: letters, digits, small letters; what a script's text lets stay (chapter 11).
-/
import Derived.Lib.DecodeN
namespace Go.Proofs.YthmcacgkhpigaaaDoor.S
def lowI (c : Int) : Int := if 65 ≤ c ∧ c ≤ 90 then c + 32 else c
def letterI (c : Int) : Bool := (65 ≤ c && c ≤ 90) || (97 ≤ c && c ≤ 122)
def digitI (c : Int) : Bool := 48 ≤ c && c ≤ 57
theorem letterI_true {c : Int} : letterI c = true ↔ (65 ≤ c ∧ c ≤ 90) ∨ (97 ≤ c ∧ c ≤ 122) := by simp [letterI]
theorem digitI_true {c : Int} : digitI c = true ↔ 48 ≤ c ∧ c ≤ 57 := by simp [digitI]
theorem letterI_false {c : Int} : letterI c = false ↔ ¬ ((65 ≤ c ∧ c ≤ 90) ∨ (97 ≤ c ∧ c ≤ 122)) := by rw [← letterI_true]; simp
theorem digitI_false {c : Int} : digitI c = false ↔ ¬ (48 ≤ c ∧ c ≤ 57) := by rw [← digitI_true]; simp
/-- the signs that stay in a script's text, beside letters and digits -/
def signJ (c : Int) : Bool := [32, 33, 35, 36, 37, 40, 41, 42, 43, 44, 45, 46, 47, 58, 59, 61, 63, 64, 91, 93, 94, 95, 123, 124, 125, 126].contains c
def stayJ (c : Int) : Bool := decide (128 ≤ c) || letterI c || digitI c || signJ c
def hexd (n : Nat) : UInt8 := [48, 49, 50, 51, 52, 53, 54, 55, 56, 57, 97, 98, 99, 100, 101, 102].getD n 0
def escJ (c : UInt8) : List UInt8 := if stayJ c.toNat then [c] else [92, 117, 48, 48, hexd (c.toNat / 16), hexd (c.toNat % 16)]
theorem escJ_len (c : UInt8) : (escJ c).length ≤ 6 := by unfold escJ; split <;> simp
end Go.Proofs.YthmcacgkhpigaaaDoor.S
