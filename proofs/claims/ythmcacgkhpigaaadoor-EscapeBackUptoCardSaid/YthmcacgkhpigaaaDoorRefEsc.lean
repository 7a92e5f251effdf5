/-
  THE WALKS of the reference's in and Escape.
-/
import Derived.Test.YthmcacgkhpigaaaDoorRefNorm
import Derived.Test.YthmcacgkhpigaaaDoorPlainE
import Derived.Deep.RegionLaw
import Derived.Deep.RegionHeld3
import Derived.StillTailTactics
import Derived.Deep.RegionWith
import Derived.Laws.BitsLemmas
set_option linter.unusedVariables false
set_option linter.unusedSimpArgs false
namespace Go.Proofs.YthmcacgkhpigaaaDoor.S
open Go.RowKit

/-- is a byte among a text's? -/
def inL (c : Nat) (l : List UInt8) : Bool := l.any fun b => b.toNat == c
theorem in_signJ (c : Nat) (h : c < 256) : inL c [32, 33, 35, 36, 37, 40, 41, 42, 43, 44, 45, 46, 47, 58, 59, 61, 63, 64, 91, 93, 94, 95, 123, 124, 125, 126] = signJ c := by
  have e := (by decide +kernel : ∀ c : Fin 256, inL c.val [32, 33, 35, 36, 37, 40, 41, 42, 43, 44, 45, 46, 47, 58, 59, 61, 63, 64, 91, 93, 94, 95, 123, 124, 125, 126] = signJ c.val)
  exact e ⟨c, h⟩
theorem stay_low (c : Nat) (h : c < 256) : (letterI c || digitI c || signJ c) = true → c < 128 := by
  have e := (by decide +kernel : ∀ c : Fin 256, (letterI c.val || digitI c.val || signJ c.val) = true → c.val < 128)
  exact e ⟨c, h⟩
theorem round_one {acc x l l' L : List UInt8} (ha : acc ++ escR l = L) (he : escR l = x ++ escR l') : Hid ((acc ++ x) ++ escR l' = L) := by
  show _ = _
  rw [List.append_assoc, ← he, ha]
theorem pat_of (t : ByteArray) (i : Nat) (z : UInt8) (r' : List UInt8) {c : Nat} (hc : c = 226) (hr : t.data.toList.drop (i + 1) = 128 :: z :: r') (hz : z = 168 ∨ z = 169) :
    c = 226 ∧ i + 2 < t.size ∧ t.data.toList.getD (i + 1) 0 = 128 ∧ (t.data.toList.getD (i + 2) 0 = 168 ∨ t.data.toList.getD (i + 2) 0 = 169) := by
  have hl := congrArg List.length hr
  simp only [List.length_drop, List.length_cons, size_list] at hl
  have g : ∀ j, (t.data.toList.drop (i + 1)).getD j 0 = t.data.toList.getD (i + 1 + j) 0 := fun j => by
    rw [List.getD_eq_getElem?_getD, List.getD_eq_getElem?_getD, List.getElem?_drop]
  have g0 := g 0
  have g1 := g 1
  rw [hr] at g0 g1
  refine ⟨hc, by omega, g0.symm, ?_⟩
  rw [show i + 2 = i + 1 + 1 from rfl, ← g1]
  exact hz
/-- the great digits of sixteen -/
def digH (n : Nat) : Nat := [48, 49, 50, 51, 52, 53, 54, 55, 56, 57, 65, 66, 67, 68, 69, 70].getD n 0
theorem dig_byte (n : Nat) (h : n < 16) : ∀ h : n < (⟨#[48, 49, 50, 51, 52, 53, 54, 55, 56, 57, 65, 66, 67, 68, 69, 70]⟩ : ByteArray).size, (((⟨#[48, 49, 50, 51, 52, 53, 54, 55, 56, 57, 65, 66, 67, 68, 69, 70]⟩ : ByteArray)[n]'h).toNat : Nat) = digH n := by
  have := (by decide : ∀ k : Fin 16, ((⟨#[48, 49, 50, 51, 52, 53, 54, 55, 56, 57, 65, 66, 67, 68, 69, 70]⟩ : ByteArray)[k.val]'(k.isLt)).toNat = digH k.val)
  exact fun _ => this ⟨n, h⟩
theorem dig_byte' (x : Int) (m : Nat) (hx : x.toNat = m) (h : m < 16) : ∀ h : x.toNat < (⟨#[48, 49, 50, 51, 52, 53, 54, 55, 56, 57, 65, 66, 67, 68, 69, 70]⟩ : ByteArray).size, (((⟨#[48, 49, 50, 51, 52, 53, 54, 55, 56, 57, 65, 66, 67, 68, 69, 70]⟩ : ByteArray)[x.toNat]'h).toNat : Nat) = digH m := by
  subst hx
  exact dig_byte _ h
theorem dig_or (n : Nat) (h : n < 16) : bits .or .u8 (digH n : Int) 32 = ((hexd n).toNat : Int) := by
  have e := (by decide +kernel : ∀ n : Fin 16, bits .or .u8 (digH n.val : Int) 32 = ((hexd n.val).toNat : Int))
  exact e ⟨n, h⟩
theorem dig_low (n : Nat) (h : n < 16) : lowI (digH n : Int) = ((hexd n).toNat : Int) ∧ digH n < 256 := by
  have e := (by decide +kernel : ∀ n : Fin 16, lowI (digH n.val : Int) = ((hexd n.val).toNat : Int) ∧ digH n.val < 256)
  exact e ⟨n, h⟩
theorem escR_plain (c : UInt8) (r : List UInt8) (h : c = 226 → (∀ r', r ≠ 128 :: 168 :: r') ∧ ∀ r', r ≠ 128 :: 169 :: r') : escR (c :: r) = escJ c ++ escR r := by
  rw [escR]
  · intro r' hc; exact (h hc).1 r'
  · intro r' hc; exact (h hc).2 r'

end Go.Proofs.YthmcacgkhpigaaaDoor.S
