/-
  THE WALKS of package utf: sign, Norm.
-/
import Derived.Test.YtbcddlheikdlkaaGreatDoorEnv
import Derived.Test.YtbcddlheikdlkaaGreatDoorPlainU
import Derived.Test.YtbcddlheikdlkaaGreatDoorBuilder
import Derived.Test.YtbcddlheikdlkaaGreatDoorShelf
import Derived.WalkKit
import Derived.BigCall
import Derived.Outline
import Derived.Lib.Hide
set_option linter.unusedVariables false
namespace Go.Proofs.YtbcddlheikdlkaaGreatDoor.S
open Go.RowKit

theorem get_toList (s : ByteArray) (i : Nat) : s.get! i = s.data.toList.getD i 0 := by
  show s.data[i]! = _
  simp [Array.getElem!_eq_getD, List.getD_eq_getElem?_getD]
  rfl
theorem sign_decode (s : ByteArray) : sign s.data.toList = if (Lib.decodeGo s).1 = 0 ∨ ((Lib.decodeGo s).1 = 65533 ∧ (Lib.decodeGo s).2 = 1) then 0 else (Lib.decodeGo s).2 := by
  unfold Lib.decodeGo
  have hz : s.size = s.data.toList.length := rfl
  by_cases h : s.size = 0
  · rw [if_pos h]
    rw [List.eq_nil_of_length_eq_zero (hz.symm.trans h)]
    rfl
  · rw [if_neg h, Lib.decode_at]
    simp only [get_toList, Nat.sub_zero, hz]
    rw [hz] at h
    cases hl : s.data.toList with
    | nil => rw [hl] at h; exact absurd rfl h
    | cons b r => rfl

theorem size_list (s : ByteArray) : s.data.toList.length = s.size := rfl
theorem list_mk (l : List UInt8) : ByteArray.data ⟨l.toArray⟩ = l.toArray := rfl
/-- how long a value that is a text is -/
def vlen : Value → Nat
  | .string t => t.size
  | _ => 0
@[simp] theorem vlen_string (t : ByteArray) : vlen (.string t) = t.size := rfl
theorem nil_of_size {t : ByteArray} (h : t.size = 0) : t.data.toList = [] := List.eq_nil_of_length_eq_zero h
theorem empty_test {t : ByteArray} (h : t.size = 0) : t.toList.isEmpty = true := by rw [Lib.toList_data, nil_of_size h]; rfl
theorem nonempty_test {t : ByteArray} (h : ¬ t.size = 0) : t.toList.isEmpty = false := by
  rw [Lib.toList_data]
  cases hl : t.data.toList with
  | nil => exact absurd (congrArg List.length hl) h
  | cons b r => rfl

/-- one sign of 'norm' -/
theorem norm_step (l : List UInt8) (h : l ≠ []) : norm l = (if sign l = 0 then bad else l.take (sign l)) ++ norm (l.drop (if sign l = 0 then 1 else sign l)) := by
  cases l with
  | nil => exact absurd rfl h
  | cons b r => rw [norm_cons]; split <;> rfl

theorem StrIs.size {r : ByteArray} {l : List UInt8} (h : StrIs r l) : r.size = l.length := congrArg List.length h
theorem StrIs.eq {r : ByteArray} {l : List UInt8} (h : StrIs r l) : r = ⟨l.toArray⟩ := by
  obtain ⟨⟨x⟩⟩ := r
  exact congrArg (fun y : List UInt8 => (⟨y.toArray⟩ : ByteArray)) h
theorem ret_str {r : ByteArray} {l : List UInt8} (h : StrIs r l) : Ending.returned (.string r) = .returned (.string ⟨l.toArray⟩) := by rw [h.eq]
theorem replaceAll_calls (s old new : ByteArray) (w : World) (hE : Env w) (hs : s.size < 4294967281) (h1 : 1 ≤ old.size) (hlen : s.size + s.size * new.size ≤ 140737488355328) :
    Calls Tryz.prog 76 #[.string s, .string old, .string new] w fun e w' => ∃ r : ByteArray, e = .returned (.string r) ∧ StrIs r (Lib.replaceAll s.data.toList old.data.toList new.data.toList) ∧ Below w.heap.size w w' := by
  obtain ⟨m, hm⟩ := hE.maxLen
  have h := Nat.mul_le_mul_right new.size (Lib.countB_le old h1 s.size s (Nat.le_refl _))
  exact (Tryz.strings_ReplaceAll s old new m w hs hm h1 (by omega)).mono fun _ _ ⟨he, hb⟩ => ⟨_, he, rfl, hb⟩
end Go.Proofs.YtbcddlheikdlkaaGreatDoor.S
