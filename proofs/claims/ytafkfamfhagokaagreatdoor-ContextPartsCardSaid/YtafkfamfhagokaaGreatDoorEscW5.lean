/-
  THE WALKS of package ctx: Escape at the values that the laws hand in, whole.
-/
import Derived.Test.YtafkfamfhagokaaGreatDoorEscW4
set_option linter.unusedVariables false
set_option linter.unusedSimpArgs false
namespace Go.Proofs.YtafkfamfhagokaaGreatDoor.S
open Go.RowKit

set_option maxRecDepth 100000 in
set_option maxHeartbeats 8000000 in
theorem cxEscape_txt (s : ByteArray) (w : World) (hE : Env w) (hs : s.size ≤ 65536) (hq : (escapeL s.data.toList).length ≤ 1000) :
    Calls Tryz.prog 17 #[.int .i64 6, lfV 4 0 s] w fun e w' => ∃ r : ByteArray, e = .returned (.tuple #[.string r, .int .i64 0]) ∧ StrIs r (encL ([32] ++ ([34] ++ escapeL s.data.toList ++ [34]) ++ [32])) ∧ Below w.heap.size w w' := by
  have HQ := Lib.hid hq
  have HM := Lib.hid (fun W => vMay_txt s hs W)
  have HE := Lib.hid hE
  clear hq hE
  have hbT := (Below.refl w.heap.size w).alloc (Nat.le_refl _) (.cells #[.int .i64 4, .int .i64 0, .int .u64 0, .string s, .slice none 0 0, .slice none 0 0] 30)
  have hL0 : LfAt w.heap.size 4 0 s (w.alloc (.cells #[.int .i64 4, .int .i64 0, .int .u64 0, .string s, .slice none 0 0, .slice none 0 0] 30)) := lf_of (Blk.new w [.int .i64 4, .int .i64 0, .int .u64 0, .string s, .slice none 0 0, .slice none 0 0] 30)
  go_enter Tryz.func17, Tryz.ntmps17
  go_upto_region 1 with (fail)
  generalize w.alloc (.cells #[.int .i64 4, .int .i64 0, .int .u64 0, .string s, .slice none 0 0, .slice none 0 0] 30) = w0 at *
  have hbL := Below.refl w0.heap.size w0
  have hz0 := hbT.size
  go_upto_region 2 with (first | (go_at_call 36; (with_reducible refine (eSaid_calls (.func 37) #[] #[] _).mono ?_); rintro e wA ⟨bA, rfl, hcA, hb⟩; have hbT := hbT.trans (hb.mono hbT.size); have hbL := hbL.trans (hb.mono hbL.size); have hbA := Below.refl wA.heap.size wA) | (go_at_call 38; (with_reducible refine (eWithin_calls (.func 41) #[] #[] _).mono ?_); rintro e wJ ⟨bJ, rfl, hcJ, hb⟩; have hbT := hbT.trans (hb.mono hbT.size); have hbL := hbL.trans (hb.mono hbL.size); have hbA := hbA.trans (hb.mono hbA.size); have hbJ := Below.refl wJ.heap.size wJ) | (go_at_call 36; refine (eSaid_calls _ _ _ _).mono ?_; rintro e wB ⟨b, rfl, hc, hb⟩; have hbT := hbT.trans (hb.mono hbT.size); have hbL := hbL.trans (hb.mono hbL.size); have hbA := hbA.trans (hb.mono hbA.size); first | (have hbJ := hbJ.trans (hb.mono hbJ.size)) | skip) | (go_at_call 38; refine (eWithin_calls _ _ _ _).mono ?_; rintro e wC ⟨b, rfl, hc, hb⟩; have hbT := hbT.trans (hb.mono hbT.size); have hbL := hbL.trans (hb.mono hbL.size); have hbA := hbA.trans (hb.mono hbA.size); first | (have hbJ := hbJ.trans (hb.mono hbJ.size)) | skip))
  refine wp_at_world ?_
  intro w2 hw2
  obtain ⟨cs, hAr, ha0, ha6⟩ : ∃ cs, Blk wC.heap.size 79 cs w2 ∧ cs[0]? = some (.func (.func 82) #[] #[.pointer (some ⟨bA, 0, none⟩)]) ∧ cs[6]? = some (.func (.func 89) #[] #[.pointer (some ⟨bJ, 0, none⟩)]) := ⟨_, by rw [hw2]; exact Blk.new wC _ _, rfl, rfl⟩
  have hba : Below wC.heap.size wC w2 := by rw [hw2]; exact (Below.refl _ wC).alloc (Nat.le_refl _) _
  clear hw2
  have k0 := hAr.cell 0 _ ha0
  have k6 := hAr.cell 6 _ ha6
  have kA := cellK hba (cellK hbA hcA)
  have kJ := cellK hba (cellK hbJ hcJ)
  have hbw := hbT.trans (hba.mono hbT.size)
  have hL2 := (hL0.below hbL).below hba
  have HL := Lib.hid hL2
  have HC := Lib.hid (fun W hbn (hx : Below w2.heap.size w2 W) => eWithinJ_calls w.heap.size bJ s W hbn hs HQ.out (HL.out.below hx) (cellK hx kJ))
  obtain ⟨l0, l1, l2, l3, l4, l5⟩ := hL2
  clear hL0 hba hbA hbJ hbL hbT hAr kA kJ k0
  go_upto_region 4 with (go_at_call 44; refine (HM.out _).mono ?_; rintro e w3 ⟨rfl, hb3⟩)
  have k6 := cellK hb3 k6
  have hbw := hbw.trans (hb3.mono hbw.size)
  have HC2 := Lib.hid (HC.out w3 (HE.out.below hbw) hb3)
  go_wp2_with (go_at_call 89; refine HC2.out.mono ?_; rintro e w4 ⟨r, rfl, hr, hb4⟩)
  go_ret2
  exact ⟨r, rfl, hr, hbw.trans (hb4.mono hbw.size)⟩
set_option maxRecDepth 100000 in
set_option maxHeartbeats 8000000 in
theorem cxEscape_lst (w : World) :
    Calls Tryz.prog 17 #[.int .i64 0, lfV 5 0 ⟨#[]⟩] w fun e w' => e = .returned (.tuple #[.string ⟨#[]⟩, .int .i64 402]) ∧ Below w.heap.size w w' := by
  have HM := Lib.hid (fun W => vMay_lst W)
  have hbT := (Below.refl w.heap.size w).alloc (Nat.le_refl _) (.cells #[.int .i64 5, .int .i64 0, .int .u64 0, .string ⟨#[]⟩, .slice none 0 0, .slice none 0 0] 30)
  have hL0 : LfAt w.heap.size 5 0 ⟨#[]⟩ (w.alloc (.cells #[.int .i64 5, .int .i64 0, .int .u64 0, .string ⟨#[]⟩, .slice none 0 0, .slice none 0 0] 30)) := lf_of (Blk.new w [.int .i64 5, .int .i64 0, .int .u64 0, .string ⟨#[]⟩, .slice none 0 0, .slice none 0 0] 30)
  go_enter Tryz.func17, Tryz.ntmps17
  go_upto_region 1 with (fail)
  generalize w.alloc (.cells #[.int .i64 5, .int .i64 0, .int .u64 0, .string ⟨#[]⟩, .slice none 0 0, .slice none 0 0] 30) = w0 at *
  have hbL := Below.refl w0.heap.size w0
  have hz0 := hbT.size
  go_upto_region 2 with (first | (go_at_call 36; (with_reducible refine (eSaid_calls (.func 37) #[] #[] _).mono ?_); rintro e wA ⟨bA, rfl, hcA, hb⟩; have hbT := hbT.trans (hb.mono hbT.size); have hbL := hbL.trans (hb.mono hbL.size); have hbA := Below.refl wA.heap.size wA) | (go_at_call 38; (with_reducible refine (eWithin_calls (.func 41) #[] #[] _).mono ?_); rintro e wJ ⟨bJ, rfl, hcJ, hb⟩; have hbT := hbT.trans (hb.mono hbT.size); have hbL := hbL.trans (hb.mono hbL.size); have hbA := hbA.trans (hb.mono hbA.size); have hbJ := Below.refl wJ.heap.size wJ) | (go_at_call 36; refine (eSaid_calls _ _ _ _).mono ?_; rintro e wB ⟨b, rfl, hc, hb⟩; have hbT := hbT.trans (hb.mono hbT.size); have hbL := hbL.trans (hb.mono hbL.size); have hbA := hbA.trans (hb.mono hbA.size); first | (have hbJ := hbJ.trans (hb.mono hbJ.size)) | skip) | (go_at_call 38; refine (eWithin_calls _ _ _ _).mono ?_; rintro e wC ⟨b, rfl, hc, hb⟩; have hbT := hbT.trans (hb.mono hbT.size); have hbL := hbL.trans (hb.mono hbL.size); have hbA := hbA.trans (hb.mono hbA.size); first | (have hbJ := hbJ.trans (hb.mono hbJ.size)) | skip))
  refine wp_at_world ?_
  intro w2 hw2
  obtain ⟨cs, hAr, ha0, ha6⟩ : ∃ cs, Blk wC.heap.size 79 cs w2 ∧ cs[0]? = some (.func (.func 82) #[] #[.pointer (some ⟨bA, 0, none⟩)]) ∧ cs[6]? = some (.func (.func 89) #[] #[.pointer (some ⟨bJ, 0, none⟩)]) := ⟨_, by rw [hw2]; exact Blk.new wC _ _, rfl, rfl⟩
  have hba : Below wC.heap.size wC w2 := by rw [hw2]; exact (Below.refl _ wC).alloc (Nat.le_refl _) _
  clear hw2
  have k0 := hAr.cell 0 _ ha0
  have k6 := hAr.cell 6 _ ha6
  have kA := cellK hba (cellK hbA hcA)
  have kJ := cellK hba (cellK hbJ hcJ)
  have hbw := hbT.trans (hba.mono hbT.size)
  have hL2 := (hL0.below hbL).below hba
  have HL := Lib.hid hL2
  have HC := Lib.hid (fun W (hx : Below w2.heap.size w2 W) => eSaidL_calls w.heap.size bA W (HL.out.below hx))
  obtain ⟨l0, l1, l2, l3, l4, l5⟩ := hL2
  clear hL0 hba hbA hbJ hbL hbT hAr kA kJ k6
  go_upto_region 4 with (go_at_call 44; refine (HM.out _).mono ?_; rintro e w3 ⟨rfl, hb3⟩)
  have k0 := cellK hb3 k0
  have hbw := hbw.trans (hb3.mono hbw.size)
  have HC2 := Lib.hid (HC.out w3 hb3)
  go_wp2_with (go_at_call 82; refine HC2.out.mono ?_; rintro e w4 ⟨rfl, rfl⟩)
  go_ret2
  exact ⟨rfl, hbw⟩
set_option maxRecDepth 100000 in
set_option maxHeartbeats 8000000 in
theorem cxEscape_neg (x k n : Int) (t : ByteArray) (w : World) (hx : x < 0) :
    Calls Tryz.prog 17 #[.int .i64 x, lfV k n t] w fun e w' => e = .returned (.tuple #[.string ⟨#[]⟩, .int .i64 2000]) ∧ Below w.heap.size w w' := by
  have HX := Lib.hid hx
  clear hx
  have hbT := (Below.refl w.heap.size w).alloc (Nat.le_refl _) (.cells #[.int .i64 k, .int .i64 n, .int .u64 0, .string t, .slice none 0 0, .slice none 0 0] 30)
  have hL0 : LfAt w.heap.size k n t (w.alloc (.cells #[.int .i64 k, .int .i64 n, .int .u64 0, .string t, .slice none 0 0, .slice none 0 0] 30)) := lf_of (Blk.new w [.int .i64 k, .int .i64 n, .int .u64 0, .string t, .slice none 0 0, .slice none 0 0] 30)
  go_enter Tryz.func17, Tryz.ntmps17
  go_upto_region 1 with (fail)
  generalize w.alloc (.cells #[.int .i64 k, .int .i64 n, .int .u64 0, .string t, .slice none 0 0, .slice none 0 0] 30) = w0 at *
  have hbL := Below.refl w0.heap.size w0
  have hz0 := hbT.size
  go_upto_region 2 with (first | (go_at_call 36; (with_reducible refine (eSaid_calls (.func 37) #[] #[] _).mono ?_); rintro e wA ⟨bA, rfl, hcA, hb⟩; have hbT := hbT.trans (hb.mono hbT.size); have hbL := hbL.trans (hb.mono hbL.size); have hbA := Below.refl wA.heap.size wA) | (go_at_call 38; (with_reducible refine (eWithin_calls (.func 41) #[] #[] _).mono ?_); rintro e wJ ⟨bJ, rfl, hcJ, hb⟩; have hbT := hbT.trans (hb.mono hbT.size); have hbL := hbL.trans (hb.mono hbL.size); have hbA := hbA.trans (hb.mono hbA.size); have hbJ := Below.refl wJ.heap.size wJ) | (go_at_call 36; refine (eSaid_calls _ _ _ _).mono ?_; rintro e wB ⟨b, rfl, hc, hb⟩; have hbT := hbT.trans (hb.mono hbT.size); have hbL := hbL.trans (hb.mono hbL.size); have hbA := hbA.trans (hb.mono hbA.size); first | (have hbJ := hbJ.trans (hb.mono hbJ.size)) | skip) | (go_at_call 38; refine (eWithin_calls _ _ _ _).mono ?_; rintro e wC ⟨b, rfl, hc, hb⟩; have hbT := hbT.trans (hb.mono hbT.size); have hbL := hbL.trans (hb.mono hbL.size); have hbA := hbA.trans (hb.mono hbA.size); first | (have hbJ := hbJ.trans (hb.mono hbJ.size)) | skip))
  refine wp_at_world ?_
  intro w2 hw2
  obtain ⟨cs, hAr, ha0, ha6⟩ : ∃ cs, Blk wC.heap.size 79 cs w2 ∧ cs[0]? = some (.func (.func 82) #[] #[.pointer (some ⟨bA, 0, none⟩)]) ∧ cs[6]? = some (.func (.func 89) #[] #[.pointer (some ⟨bJ, 0, none⟩)]) := ⟨_, by rw [hw2]; exact Blk.new wC _ _, rfl, rfl⟩
  have hba : Below wC.heap.size wC w2 := by rw [hw2]; exact (Below.refl _ wC).alloc (Nat.le_refl _) _
  clear hw2
  have k0 := hAr.cell 0 _ ha0
  have k6 := hAr.cell 6 _ ha6
  have kA := cellK hba (cellK hbA hcA)
  have kJ := cellK hba (cellK hbJ hcJ)
  have hbw := hbT.trans (hba.mono hbT.size)
  have hx := HX.out
  have d1 : decide (x < 0) = true := decide_eq_true (by omega)
  clear hL0 hba hbA hbJ hbL hbT hAr kA kJ k6 k0
  go_wp2_with (fail)
  go_ret2
  exact ⟨rfl, hbw⟩
set_option maxRecDepth 100000 in
set_option maxHeartbeats 8000000 in
theorem cxEscape_big (x k n : Int) (t : ByteArray) (w : World) (hx : 9 ≤ x) :
    Calls Tryz.prog 17 #[.int .i64 x, lfV k n t] w fun e w' => e = .returned (.tuple #[.string ⟨#[]⟩, .int .i64 2000]) ∧ Below w.heap.size w w' := by
  have HX := Lib.hid hx
  clear hx
  have hbT := (Below.refl w.heap.size w).alloc (Nat.le_refl _) (.cells #[.int .i64 k, .int .i64 n, .int .u64 0, .string t, .slice none 0 0, .slice none 0 0] 30)
  have hL0 : LfAt w.heap.size k n t (w.alloc (.cells #[.int .i64 k, .int .i64 n, .int .u64 0, .string t, .slice none 0 0, .slice none 0 0] 30)) := lf_of (Blk.new w [.int .i64 k, .int .i64 n, .int .u64 0, .string t, .slice none 0 0, .slice none 0 0] 30)
  go_enter Tryz.func17, Tryz.ntmps17
  go_upto_region 1 with (fail)
  generalize w.alloc (.cells #[.int .i64 k, .int .i64 n, .int .u64 0, .string t, .slice none 0 0, .slice none 0 0] 30) = w0 at *
  have hbL := Below.refl w0.heap.size w0
  have hz0 := hbT.size
  go_upto_region 2 with (first | (go_at_call 36; (with_reducible refine (eSaid_calls (.func 37) #[] #[] _).mono ?_); rintro e wA ⟨bA, rfl, hcA, hb⟩; have hbT := hbT.trans (hb.mono hbT.size); have hbL := hbL.trans (hb.mono hbL.size); have hbA := Below.refl wA.heap.size wA) | (go_at_call 38; (with_reducible refine (eWithin_calls (.func 41) #[] #[] _).mono ?_); rintro e wJ ⟨bJ, rfl, hcJ, hb⟩; have hbT := hbT.trans (hb.mono hbT.size); have hbL := hbL.trans (hb.mono hbL.size); have hbA := hbA.trans (hb.mono hbA.size); have hbJ := Below.refl wJ.heap.size wJ) | (go_at_call 36; refine (eSaid_calls _ _ _ _).mono ?_; rintro e wB ⟨b, rfl, hc, hb⟩; have hbT := hbT.trans (hb.mono hbT.size); have hbL := hbL.trans (hb.mono hbL.size); have hbA := hbA.trans (hb.mono hbA.size); first | (have hbJ := hbJ.trans (hb.mono hbJ.size)) | skip) | (go_at_call 38; refine (eWithin_calls _ _ _ _).mono ?_; rintro e wC ⟨b, rfl, hc, hb⟩; have hbT := hbT.trans (hb.mono hbT.size); have hbL := hbL.trans (hb.mono hbL.size); have hbA := hbA.trans (hb.mono hbA.size); first | (have hbJ := hbJ.trans (hb.mono hbJ.size)) | skip))
  refine wp_at_world ?_
  intro w2 hw2
  obtain ⟨cs, hAr, ha0, ha6⟩ : ∃ cs, Blk wC.heap.size 79 cs w2 ∧ cs[0]? = some (.func (.func 82) #[] #[.pointer (some ⟨bA, 0, none⟩)]) ∧ cs[6]? = some (.func (.func 89) #[] #[.pointer (some ⟨bJ, 0, none⟩)]) := ⟨_, by rw [hw2]; exact Blk.new wC _ _, rfl, rfl⟩
  have hba : Below wC.heap.size wC w2 := by rw [hw2]; exact (Below.refl _ wC).alloc (Nat.le_refl _) _
  clear hw2
  have k0 := hAr.cell 0 _ ha0
  have k6 := hAr.cell 6 _ ha6
  have kA := cellK hba (cellK hbA hcA)
  have kJ := cellK hba (cellK hbJ hcJ)
  have hbw := hbT.trans (hba.mono hbT.size)
  have hx := HX.out
  have d1 : decide (x < 0) = false := decide_eq_false (by omega)
  have d2 : decide (9 ≤ x) = true := decide_eq_true (by omega)
  clear hL0 hba hbA hbJ hbL hbT hAr kA kJ k6 k0
  go_wp2_with (fail)
  go_ret2
  exact ⟨rfl, hbw⟩
set_option maxRecDepth 100000 in
set_option maxHeartbeats 8000000 in
theorem cxEscape_int (x : Int) (w : World) (hx : 9007199254740991 < x) :
    Calls Tryz.prog 17 #[.int .i64 0, lfV 2 x ⟨#[]⟩] w fun e w' => e = .returned (.tuple #[.string ⟨#[]⟩, .int .i64 2000]) ∧ Below w.heap.size w w' := by
  have HM := Lib.hid (fun W => vMay_int x hx W)
  clear hx
  have hbT := (Below.refl w.heap.size w).alloc (Nat.le_refl _) (.cells #[.int .i64 2, .int .i64 x, .int .u64 0, .string ⟨#[]⟩, .slice none 0 0, .slice none 0 0] 30)
  have hL0 : LfAt w.heap.size 2 x ⟨#[]⟩ (w.alloc (.cells #[.int .i64 2, .int .i64 x, .int .u64 0, .string ⟨#[]⟩, .slice none 0 0, .slice none 0 0] 30)) := lf_of (Blk.new w [.int .i64 2, .int .i64 x, .int .u64 0, .string ⟨#[]⟩, .slice none 0 0, .slice none 0 0] 30)
  go_enter Tryz.func17, Tryz.ntmps17
  go_upto_region 1 with (fail)
  generalize w.alloc (.cells #[.int .i64 2, .int .i64 x, .int .u64 0, .string ⟨#[]⟩, .slice none 0 0, .slice none 0 0] 30) = w0 at *
  have hbL := Below.refl w0.heap.size w0
  have hz0 := hbT.size
  go_upto_region 2 with (first | (go_at_call 36; (with_reducible refine (eSaid_calls (.func 37) #[] #[] _).mono ?_); rintro e wA ⟨bA, rfl, hcA, hb⟩; have hbT := hbT.trans (hb.mono hbT.size); have hbL := hbL.trans (hb.mono hbL.size); have hbA := Below.refl wA.heap.size wA) | (go_at_call 38; (with_reducible refine (eWithin_calls (.func 41) #[] #[] _).mono ?_); rintro e wJ ⟨bJ, rfl, hcJ, hb⟩; have hbT := hbT.trans (hb.mono hbT.size); have hbL := hbL.trans (hb.mono hbL.size); have hbA := hbA.trans (hb.mono hbA.size); have hbJ := Below.refl wJ.heap.size wJ) | (go_at_call 36; refine (eSaid_calls _ _ _ _).mono ?_; rintro e wB ⟨b, rfl, hc, hb⟩; have hbT := hbT.trans (hb.mono hbT.size); have hbL := hbL.trans (hb.mono hbL.size); have hbA := hbA.trans (hb.mono hbA.size); first | (have hbJ := hbJ.trans (hb.mono hbJ.size)) | skip) | (go_at_call 38; refine (eWithin_calls _ _ _ _).mono ?_; rintro e wC ⟨b, rfl, hc, hb⟩; have hbT := hbT.trans (hb.mono hbT.size); have hbL := hbL.trans (hb.mono hbL.size); have hbA := hbA.trans (hb.mono hbA.size); first | (have hbJ := hbJ.trans (hb.mono hbJ.size)) | skip))
  refine wp_at_world ?_
  intro w2 hw2
  obtain ⟨cs, hAr, ha0, ha6⟩ : ∃ cs, Blk wC.heap.size 79 cs w2 ∧ cs[0]? = some (.func (.func 82) #[] #[.pointer (some ⟨bA, 0, none⟩)]) ∧ cs[6]? = some (.func (.func 89) #[] #[.pointer (some ⟨bJ, 0, none⟩)]) := ⟨_, by rw [hw2]; exact Blk.new wC _ _, rfl, rfl⟩
  have hba : Below wC.heap.size wC w2 := by rw [hw2]; exact (Below.refl _ wC).alloc (Nat.le_refl _) _
  clear hw2
  have k0 := hAr.cell 0 _ ha0
  have k6 := hAr.cell 6 _ ha6
  have kA := cellK hba (cellK hbA hcA)
  have kJ := cellK hba (cellK hbJ hcJ)
  have hbw := hbT.trans (hba.mono hbT.size)
  have hL2 := (hL0.below hbL).below hba
  obtain ⟨l0, l1, l2, l3, l4, l5⟩ := hL2
  clear hL0 hba hbA hbJ hbL hbT hAr kA kJ k6 k0
  go_wp2_with (go_at_call 44; refine (HM.out _).mono ?_; rintro e w3 ⟨rfl, hb3⟩)
  go_ret2
  exact ⟨rfl, hbw.trans (hb3.mono hbw.size)⟩
end Go.Proofs.YtafkfamfhagokaaGreatDoor.S
