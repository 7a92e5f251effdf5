/-
  THE WALK of chapter 20's awake.
-/
import Derived.Test.YtafkfamfhagokaaGreatDoorAt20
set_option linter.unusedVariables false
set_option linter.unusedSimpArgs false
namespace Go.Proofs.YtafkfamfhagokaaGreatDoor.S
open Go.RowKit

theorem lt_small : (escapeL [60]).length ≤ 1000 := by decide +kernel
theorem esc_lt (w : World) (hE : Env w) : Calls Tryz.prog 17 #[.int .i64 6, lfV 4 0 ⟨#[60]⟩] w fun e w' => e = .returned (.tuple #[.string ⟨#[32, 38, 113, 117, 111, 116, 59, 92, 117, 48, 48, 51, 99, 38, 113, 117, 111, 116, 59, 32]⟩, .int .i64 0]) ∧ Below w.heap.size w w' := by
  refine (cxEscape_txt ⟨#[60]⟩ w hE (by show 1 ≤ _; omega) lt_small).mono ?_
  rintro e w' ⟨r, rfl, hr, hb⟩
  have h : StrIs r [32, 38, 113, 117, 111, 116, 59, 92, 117, 48, 48, 51, 99, 38, 113, 117, 111, 116, 59, 32] := hr.trans (by kernel_rfl)
  rw [h.eq]
  exact ⟨rfl, hb⟩
theorem ho20_0 : holeOfL [60, 112, 32, 116, 105, 116, 108, 101, 61, 39] = (0, 0) := by kernel_rfl
theorem ho20_1 : holeOfL [60, 97, 32, 104, 114, 101, 102, 61, 34] = (1, 0) := by kernel_rfl
theorem ho20_2 : holeOfL [60, 115, 99, 114, 105, 112, 116, 62, 120, 61] = (3, 0) := by kernel_rfl
theorem ho20_3 : holeOfL [60, 112, 32] = (0, 2001) := by kernel_rfl
theorem ho20_4 : holeOfL [97, 38, 98] = (0, 2002) := by kernel_rfl
theorem ho20_5 : holeOfL [60, 97, 32, 104, 114, 101, 102, 61, 39, 106, 97, 118, 97] = (0, 2003) := by kernel_rfl
set_option maxRecDepth 100000 in
set_option maxHeartbeats 8000000 in
theorem awake20_calls (w : World) (hE : Env w) :
    Calls Tryz.prog 21 #[] w fun e w' => e = .returned (.bool true) ∧ Below w.heap.size w w' := by
  have HE := Lib.hid hE
  clear hE
  have HX := Lib.hid (fun W h => esc_lt W h)
  have H0 := Lib.hid (fun W => holeOf20_calls ⟨#[60, 112, 32, 116, 105, 116, 108, 101, 61, 39]⟩ [60, 112, 32, 116, 105, 116, 108, 101, 61, 39] rfl (by show 10 ≤ _; omega) W)
  rw [ho20_0] at H0
  have H1 := Lib.hid (fun W => holeOf20_calls ⟨#[60, 97, 32, 104, 114, 101, 102, 61, 34]⟩ [60, 97, 32, 104, 114, 101, 102, 61, 34] rfl (by show 9 ≤ _; omega) W)
  rw [ho20_1] at H1
  have H2 := Lib.hid (fun W => holeOf20_calls ⟨#[60, 115, 99, 114, 105, 112, 116, 62, 120, 61]⟩ [60, 115, 99, 114, 105, 112, 116, 62, 120, 61] rfl (by show 10 ≤ _; omega) W)
  rw [ho20_2] at H2
  have H3 := Lib.hid (fun W => holeOf20_calls ⟨#[60, 112, 32]⟩ [60, 112, 32] rfl (by show 3 ≤ _; omega) W)
  rw [ho20_3] at H3
  have H4 := Lib.hid (fun W => holeOf20_calls ⟨#[97, 38, 98]⟩ [97, 38, 98] rfl (by show 3 ≤ _; omega) W)
  rw [ho20_4] at H4
  have H5 := Lib.hid (fun W => holeOf20_calls ⟨#[60, 97, 32, 104, 114, 101, 102, 61, 39, 106, 97, 118, 97]⟩ [60, 97, 32, 104, 114, 101, 102, 61, 39, 106, 97, 118, 97] rfl (by show 13 ≤ _; omega) W)
  rw [ho20_5] at H5
  go_enter Tryz.func21, Tryz.ntmps21
  go_upto_region 2 with (go_at_call 25; refine (H0.out _).mono ?_; rintro e u0 ⟨rfl, hb0⟩)
  have hbw := hb0
  clear hb0
  go_upto_region 3 with (go_at_call 25; refine (H1.out _).mono ?_; rintro e u1 ⟨rfl, hb1⟩)
  have hbw := hbw.trans (hb1.mono hbw.size)
  clear hb1
  go_upto_region 4 with (go_at_call 25; refine (H2.out _).mono ?_; rintro e u2 ⟨rfl, hb2⟩)
  have hbw := hbw.trans (hb2.mono hbw.size)
  clear hb2
  go_upto_region 5 with (go_at_call 25; refine (H3.out _).mono ?_; rintro e u3 ⟨rfl, hb3⟩)
  have hbw := hbw.trans (hb3.mono hbw.size)
  clear hb3
  go_upto_region 6 with (go_at_call 25; refine (H4.out _).mono ?_; rintro e u4 ⟨rfl, hb4⟩)
  have hbw := hbw.trans (hb4.mono hbw.size)
  clear hb4
  go_upto_region 7 with (go_at_call 25; refine (H5.out _).mono ?_; rintro e u5 ⟨rfl, hb5⟩)
  have hbw := hbw.trans (hb5.mono hbw.size)
  clear hb5
  go_upto_region 8 with (first | (go_at_call 26; refine (text20_calls _ _).mono ?_; rintro e u6 ⟨rfl, hb6⟩; have hbw := hbw.trans (hb6.mono hbw.size)) | (go_at_call 17; refine (HX.out _ (HE.out.below hbw)).mono ?_; rintro e u7 ⟨rfl, hb7⟩))
  have hbw := hbw.trans (hb7.mono hbw.size)
  go_wp2_with (first | (go_at_call 17; refine (cxEscape_lst _).mono ?_; rintro e u8 ⟨rfl, hb8⟩) | (go_at_call 19; go_in))
  have hbw := hbw.trans (hb8.mono hbw.size)
  go_ret
  exact ⟨rfl, hbw⟩
end Go.Proofs.YtafkfamfhagokaaGreatDoor.S
