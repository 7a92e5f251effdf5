/-
  THE WALKS of utf's functions on bytes: LowerByte, Letter, Digit.
-/
import Derived.Test.YthmcacgkhpigaaaDoorProg
import Derived.Test.YthmcacgkhpigaaaDoorPlainB
import Derived.WalkKit
import Derived.BigCall
import Derived.Outline
import Derived.Lib.Hide
set_option linter.unusedVariables false
namespace Go.Proofs.YthmcacgkhpigaaaDoor.S
open Go.RowKit

theorem ret_int {k : IntKind} {a b : Int} (h : a = b) : Ending.returned (.int k a) = .returned (.int k b) := by rw [h]
theorem ret_bool {a b : Bool} (h : a = b) : Ending.returned (.bool a) = .returned (.bool b) := by rw [h]

theorem lower_calls (c : Int) (w : World) (h0 : 0 ≤ c) (h1 : c < 256) :
    Calls Tryd.prog 21 #[.int .u8 c] w fun e w' => e = .returned (.int .u8 (lowI c)) ∧ w = w' := by
  unfold lowI
  split
  · go_enter Tryd.func21, Tryd.ntmps21
    go_wp2
    all_goals go_ret
    all_goals exact ⟨ret_int (by omega), rfl⟩
  · go_enter Tryd.func21, Tryd.ntmps21
    go_wp2
    all_goals go_ret
    all_goals exact ⟨rfl, rfl⟩
theorem digit_calls (c : Int) (w : World) (h0 : 0 ≤ c) (h1 : c < 256) :
    Calls Tryd.prog 12 #[.int .u8 c] w fun e w' => e = .returned (.bool (digitI c)) ∧ w = w' := by
  cases h : digitI c
  · rw [digitI_false] at h
    go_enter Tryd.func12, Tryd.ntmps12
    go_wp2
    all_goals go_ret
    all_goals exact ⟨ret_bool (by simp <;> omega), rfl⟩
  · rw [digitI_true] at h
    go_enter Tryd.func12, Tryd.ntmps12
    go_wp2
    all_goals go_ret
    all_goals exact ⟨rfl, rfl⟩
theorem letter_lowI {c : Int} : letterI c = true ↔ 97 ≤ lowI c ∧ lowI c ≤ 122 := by
  rw [letterI_true]; unfold lowI; split <;> omega
theorem lowI_range {c : Int} (h0 : 0 ≤ c) (h1 : c < 256) : 0 ≤ lowI c ∧ lowI c < 256 := by unfold lowI; split <;> omega
theorem letter_calls (c : Int) (w : World) (h0 : 0 ≤ c) (h1 : c < 256) :
    Calls Tryd.prog 11 #[.int .u8 c] w fun e w' => e = .returned (.bool (letterI c)) ∧ w = w' := by
  have hr := lowI_range h0 h1
  cases h : letterI c
  · have h' : ¬ (97 ≤ lowI c ∧ lowI c ≤ 122) := fun x => by rw [letter_lowI.2 x] at h; cases h
    clear h
    have hl := fun W => lower_calls c W h0 h1
    generalize lowI c = d at *
    have HL := Lib.hid hl
    clear hl
    go_enter Tryd.func11, Tryd.ntmps11
    go_wp2_with (go_at_call 21; refine (HL.out _).mono ?_; rintro e w' ⟨rfl, rfl⟩)
    all_goals go_ret
    all_goals exact ⟨ret_bool (by simp <;> omega), rfl⟩
  · have h' := letter_lowI.1 h
    clear h
    have hl := fun W => lower_calls c W h0 h1
    generalize lowI c = d at *
    have HL := Lib.hid hl
    clear hl
    go_enter Tryd.func11, Tryd.ntmps11
    go_wp2_with (go_at_call 21; refine (HL.out _).mono ?_; rintro e w' ⟨rfl, rfl⟩)
    all_goals go_ret
    all_goals exact ⟨ret_bool (by simp <;> omega), rfl⟩
end Go.Proofs.YthmcacgkhpigaaaDoor.S
