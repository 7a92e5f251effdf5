/-
  THE WALKS of the reference's texts (stoleref1): Low, Letter, Digit, Size.
-/
import Derived.Test.YtbcddlheikdlkaaGreatDoorByteWalks
import Derived.Test.YtbcddlheikdlkaaGreatDoorPlainU
import Derived.LoopTactic
import Derived.Deep.LoopGhost
import Derived.Deep.DeepCutAuto
set_option linter.unusedVariables false
set_option linter.unusedSimpArgs false
namespace Go.Proofs.YtbcddlheikdlkaaGreatDoor.S
open Go.RowKit

theorem rlow_calls (c : Int) (w : World) (h0 : 0 ≤ c) (h1 : c < 256) :
    Calls Tryz.prog 96 #[.int .u8 c] w fun e w' => e = .returned (.int .u8 (lowI c)) ∧ w = w' := by
  unfold lowI
  split
  · go_enter Tryz.func96, Tryz.ntmps96
    go_wp2
    all_goals go_ret
    all_goals exact ⟨ret_int (by omega), rfl⟩
  · go_enter Tryz.func96, Tryz.ntmps96
    go_wp2
    all_goals go_ret
    all_goals exact ⟨rfl, rfl⟩
theorem rdigit_calls (c : Int) (w : World) (h0 : 0 ≤ c) (h1 : c < 256) :
    Calls Tryz.prog 73 #[.int .u8 c] w fun e w' => e = .returned (.bool (digitI c)) ∧ w = w' := by
  cases h : digitI c
  · rw [digitI_false] at h
    go_enter Tryz.func73, Tryz.ntmps73
    go_wp2
    all_goals go_ret
    all_goals exact ⟨ret_bool (by simp <;> omega), rfl⟩
  · rw [digitI_true] at h
    go_enter Tryz.func73, Tryz.ntmps73
    go_wp2
    all_goals go_ret
    all_goals exact ⟨rfl, rfl⟩
theorem rletter_calls (c : Int) (w : World) (h0 : 0 ≤ c) (h1 : c < 256) :
    Calls Tryz.prog 72 #[.int .u8 c] w fun e w' => e = .returned (.bool (letterI c)) ∧ w = w' := by
  have hr := lowI_range h0 h1
  cases h : letterI c
  · have h' : ¬ (97 ≤ lowI c ∧ lowI c ≤ 122) := fun x => by rw [letter_lowI.2 x] at h; cases h
    clear h
    have hl := fun W => rlow_calls c W h0 h1
    generalize lowI c = d at *
    have HL := Lib.hid hl
    clear hl
    go_enter Tryz.func72, Tryz.ntmps72
    go_wp2_with (go_at_call 96; refine (HL.out _).mono ?_; rintro e w' ⟨rfl, rfl⟩)
    all_goals go_ret
    all_goals exact ⟨ret_bool (by simp <;> omega), rfl⟩
  · have h' := letter_lowI.1 h
    clear h
    have hl := fun W => rlow_calls c W h0 h1
    generalize lowI c = d at *
    have HL := Lib.hid hl
    clear hl
    go_enter Tryz.func72, Tryz.ntmps72
    go_wp2_with (go_at_call 96; refine (HL.out _).mono ?_; rintro e w' ⟨rfl, rfl⟩)
    all_goals go_ret
    all_goals exact ⟨ret_bool (by simp <;> omega), rfl⟩

end Go.Proofs.YtbcddlheikdlkaaGreatDoor.S
