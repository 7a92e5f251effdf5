/-
  EscW3, EscW4, EscW5, At20, Awake20, Law20a: merged.
-/
import Derived.Test.YtafkfamfhagokaaGreatDoorEscW2
import Derived.Test.YtafkfamfhagokaaGreatDoorCtxW7
import Derived.Test.YtafkfamfhagokaaGreatDoorCtxW4t
import Derived.Test.YtafkfamfhagokaaGreatDoorPlainC3
import Derived.Deep.RegionWith
/-
  THE WALKS of package json: Put at a text; ctx: jsoned.
-/
set_option linter.unusedVariables false
set_option linter.unusedSimpArgs false
namespace Go.Proofs.YtafkfamfhagokaaGreatDoor.S
open Go.RowKit

theorem wrap_join (b : UInt8) (r : ByteArray) (h : r.size ≤ 100000) : (∀ W, (Op.stringOp .add ⟨#[b]⟩ r).run Tryz.prog W = .ok (.string (⟨#[b]⟩ ++ r)) W) ∧ (∀ W, (Op.stringOp .add (⟨#[b]⟩ ++ r) ⟨#[b]⟩).run Tryz.prog W = .ok (.string (⟨#[b]⟩ ++ r ++ ⟨#[b]⟩)) W) ∧ (⟨#[b]⟩ ++ r ++ ⟨#[b]⟩ : ByteArray).size = r.size + 2 ∧ (⟨#[b]⟩ ++ r ++ ⟨#[b]⟩ : ByteArray).data.toList = [b] ++ r.data.toList ++ [b] := by
  have h1 : (⟨#[b]⟩ : ByteArray).size = 1 := rfl
  have h2 : (⟨#[b]⟩ ++ r : ByteArray).size = r.size + 1 := by rw [ByteArray.size_append, h1]; omega
  refine ⟨fun W => run_string_add_sum W _ _ (by omega), fun W => run_string_add_sum W _ _ (by omega), by rw [ByteArray.size_append, h2, h1], by simp [ByteArray.data_append]⟩
set_option maxRecDepth 100000 in
set_option maxHeartbeats 2000000 in
theorem jwText_calls (base g : Nat) (s : ByteArray) (w : World) (hE : Env w) (hs : s.size ≤ 65536) (hq : (escapeL s.data.toList).length ≤ 1000) (h : WrAt base g [] w) (hb : base ≤ w.heap.size) :
    Calls Tryz.prog 201 #[.pointer (some ⟨g, 0, none⟩), .string s] w fun e w' => e = .returned (.tuple #[]) ∧ WrAt base g ([34] ++ escapeL s.data.toList ++ [34]) w' ∧ Below base w w' := by
  have HQ := Lib.hid hq
  have HW := Lib.hid h
  clear hq h
  have HX := Lib.hid (escape_calls' s w hE (by omega))
  go_enter Tryz.func201, Tryz.ntmps201
  go_wp2_with (first | (go_at_call 42; refine HX.out.mono ?_; rintro e w1 ⟨r, rfl, hr, hb1⟩; have hrs : r.size ≤ 1000 := (by rw [hr.size]; exact HQ.out); obtain ⟨j1, j2, j3, j4⟩ := wrap_join 34 r (by omega); have HJ := Lib.hid j4; have HRR := Lib.hid hr; clear j4 hr; have HW1 := Lib.hid (HW.out.below hb1)) | (go_at_call 199; refine (jwAdd_calls base g [] _ _ HW1.out (by simp only [List.length_nil]; omega)).mono ?_; rintro e w2 ⟨rfl, hw2, hb2⟩))
  go_end0
  refine ⟨rfl, ?_, (hb1.mono hb).trans hb2⟩
  rw [List.nil_append, HJ.out] at hw2
  have hr := HRR.out
  unfold StrIs at hr
  rw [hr] at hw2
  exact hw2
set_option maxRecDepth 100000 in
set_option maxHeartbeats 2000000 in
theorem jwValue_calls (base g m : Nat) (s : ByteArray) (w : World) (hE : Env w) (hs : s.size ≤ 65536) (hq : (escapeL s.data.toList).length ≤ 1000) (h : WrAt base g [] w) (hb : base ≤ w.heap.size) (hL : LfAt m 4 0 s w) :
    Calls Tryz.prog 160 #[.pointer (some ⟨g, 0, none⟩), .pointer (some ⟨m, 0, none⟩)] w fun e w' => e = .returned (.tuple #[]) ∧ WrAt base g ([34] ++ escapeL s.data.toList ++ [34]) w' ∧ Below base w w' := by
  have HC := Lib.hid (jwText_calls base g s w hE hs hq h hb)
  obtain ⟨l0, l1, l2, l3, l4, l5⟩ := hL
  clear hq h
  go_enter Tryz.func160, Tryz.ntmps160
  go_wp2_with (go_at_call 201; refine HC.out.mono ?_; rintro e w2 ⟨rfl, hw2, hb2⟩)
  go_end0
  exact ⟨rfl, hw2, hb2⟩
set_option maxRecDepth 100000 in
set_option maxHeartbeats 2000000 in
theorem jwFull_calls (base g : Nat) (l : List UInt8) (w : World) (h : WrAt base g l w) (hl : l.length ≤ 65536) :
    Calls Tryz.prog 161 #[.pointer (some ⟨g, 0, none⟩)] w fun e w' => e = .returned (.bool false) ∧ w = w' := by
  obtain ⟨-, v, hB, hv⟩ := h
  obtain ⟨va, vc, rfl, -⟩ := own_slice hv
  have c0 := hB.cell 0 _ rfl
  have g1 : decide ((65536 : Int) < (l.length : Int)) = false := decide_eq_false (by omega)
  go_enter Tryz.func161, Tryz.ntmps161
  go_wp2
  go_ret
  exact ⟨rfl, rfl⟩
set_option maxRecDepth 100000 in
set_option maxHeartbeats 4000000 in
theorem jPut_txt (s : ByteArray) (w : World) (hE : Env w) (hs : s.size ≤ 65536) (hq : (escapeL s.data.toList).length ≤ 1000) :
    Calls Tryz.prog 94 #[lfV 4 0 s] w fun e w' => ∃ r : ByteArray, e = .returned (.tuple #[.string r, .int .i64 0]) ∧ StrIs r ([34] ++ escapeL s.data.toList ++ [34]) ∧ Below w.heap.size w w' := by
  have HQ := Lib.hid hq
  clear hq
  have HM := Lib.hid (fun W => vMay_txt s hs W)
  have b1 := (Below.refl w.heap.size w).alloc (Nat.le_refl _) (.cells #[.int .i64 4, .int .i64 0, .int .u64 0, .string s, .slice none 0 0, .slice none 0 0] 30)
  have h1 : LfAt w.heap.size 4 0 s (w.alloc (.cells #[.int .i64 4, .int .i64 0, .int .u64 0, .string s, .slice none 0 0, .slice none 0 0] 30)) := lf_of (Blk.new w [.int .i64 4, .int .i64 0, .int .u64 0, .string s, .slice none 0 0, .slice none 0 0] 30)
  go_enter Tryz.func94, Tryz.ntmps94
  go_upto_region 1 with (fail)
  generalize w.alloc (.cells #[.int .i64 4, .int .i64 0, .int .u64 0, .string s, .slice none 0 0, .slice none 0 0] 30) = w0 at *
  have HL0 := Lib.hid h1
  obtain ⟨l0, l1, l2, l3, l4, l5⟩ := h1
  go_upto_region 4 with (go_at_call 44; refine (HM.out _).mono ?_; rintro e w1 ⟨rfl, hb1⟩)
  clear l0 l1 l2 l3 l4 l5 HM
  refine wp_at_world ?_
  intro w2 hw2
  have hB2 : Blk w1.heap.size 142 [.slice none 0 0] w2 := by rw [hw2]; exact Blk.new w1 [.slice none 0 0] 142
  have hba : Below w1.heap.size w1 w2 := by rw [hw2]; exact (Below.refl _ w1).alloc (Nat.le_refl _) _
  clear hw2
  have hz0 := b1.size
  have hz1 := hb1.size
  have hWr : WrAt w1.heap.size w1.heap.size [] w2 := ⟨Nat.le_refl _, _, hB2, own_nil _ _ _ _⟩
  have hbw : Below w.heap.size w w2 := (b1.trans (hb1.mono hz0)).trans (hba.mono (by omega))
  have hL2 := (HL0.out.below hb1).below hba
  have HV := Lib.hid (jwValue_calls w1.heap.size w1.heap.size w.heap.size s w2 (hE.below hbw) hs HQ.out hWr hba.size hL2)
  have hzz := hba.size
  clear hWr hL2 hB2 hba HL0
  generalize w1.heap.size = g at *
  go_upto_region 5 with (go_at_call 160; refine HV.out.mono ?_; rintro e w3 ⟨rfl, hw3, hb3⟩)
  have HF := Lib.hid (jwFull_calls g g _ w3 hw3 (by have := HQ.out; simp; omega))
  obtain ⟨-, v, hB3, hv3⟩ := hw3
  have hcv := bytes_string hv3
  obtain ⟨va, vc, rfl, -⟩ := own_slice hv3
  have c0 := hB3.cell 0 _ rfl
  generalize hPP : [34] ++ escapeL s.data.toList ++ [34] = pp at *
  have HPP := Lib.hid hPP
  clear hPP
  go_wp2_with (go_at_call 161; refine HF.out.mono ?_; rintro e w4 ⟨rfl, rfl⟩)
  go_ret2
  exact ⟨_, rfl, by have h := HPP.out; rw [← h]; rfl, hbw.trans (hb3.mono (by omega))⟩
set_option maxRecDepth 100000 in
set_option maxHeartbeats 2000000 in
theorem cxJsoned_txt (m : Nat) (s : ByteArray) (w : World) (hE : Env w) (hs : s.size ≤ 65536) (hq : (escapeL s.data.toList).length ≤ 1000) (hL : LfAt m 4 0 s w) :
    Calls Tryz.prog 41 #[.pointer (some ⟨m, 0, none⟩)] w fun e w' => ∃ r : ByteArray, e = .returned (.tuple #[.string r, .int .i64 0]) ∧ StrIs r ([32] ++ ([34] ++ escapeL s.data.toList ++ [34]) ++ [32]) ∧ Below w.heap.size w w' := by
  have HQ := Lib.hid hq
  have HP := Lib.hid (jPut_txt s w hE hs hq)
  obtain ⟨l0, l1, l2, l3, l4, l5⟩ := hL
  clear hq
  go_enter Tryz.func41, Tryz.ntmps41
  go_wp2_with (go_at_call 94; refine HP.out.mono ?_; rintro e w1 ⟨r, rfl, hr, hb1⟩; have hrs : r.size ≤ 1002 := (by rw [hr.size]; have := HQ.out; simp; omega); obtain ⟨j1, j2, -, j4⟩ := wrap_join 32 r (by omega); have HJ := Lib.hid j4; have HRR := Lib.hid hr; clear j4 hr)
  go_ret2
  refine ⟨_, rfl, ?_, hb1⟩
  have hr := HRR.out
  unfold StrIs at *
  rw [HJ.out, hr]
  first | rfl | simp
end Go.Proofs.YtafkfamfhagokaaGreatDoor.S

/-
  THE WALKS of package ctx: Escape at the values that the laws hand in.
-/
set_option linter.unusedVariables false
set_option linter.unusedSimpArgs false
namespace Go.Proofs.YtafkfamfhagokaaGreatDoor.S
open Go.RowKit

set_option maxRecDepth 100000 in
set_option maxHeartbeats 2000000 in
theorem eSaid_calls (fn : Fn) (x y : Array Value) (w : World) : Calls Tryz.prog 36 #[.func fn x y] w fun e w' => ∃ b : Nat, e = .returned (.func (.func 82) #[] #[.pointer (some ⟨b, 0, none⟩)]) ∧ w'.cell? ⟨b, 0, none⟩ = some (.func fn x y) ∧ Below w.heap.size w w' := by
  go_enter Tryz.func36, Tryz.ntmps36
  go_wp2
  go_ret
  exact ⟨w.heap.size, rfl, (Blk.new w [.func fn x y] 77).cell 0 _ rfl, (Below.refl _ _).alloc (Nat.le_refl _) _⟩
set_option maxRecDepth 100000 in
set_option maxHeartbeats 2000000 in
theorem eWithin_calls (fn : Fn) (x y : Array Value) (w : World) : Calls Tryz.prog 38 #[.func fn x y] w fun e w' => ∃ b : Nat, e = .returned (.func (.func 89) #[] #[.pointer (some ⟨b, 0, none⟩)]) ∧ w'.cell? ⟨b, 0, none⟩ = some (.func fn x y) ∧ Below w.heap.size w w' := by
  go_enter Tryz.func38, Tryz.ntmps38
  go_wp2
  go_ret
  exact ⟨w.heap.size, rfl, (Blk.new w [.func fn x y] 75).cell 0 _ rfl, (Below.refl _ _).alloc (Nat.le_refl _) _⟩
set_option maxRecDepth 100000 in
set_option maxHeartbeats 2000000 in
theorem eWithinJ_calls (m b : Nat) (s : ByteArray) (w : World) (hE : Env w) (hs : s.size ≤ 65536) (hq : (escapeL s.data.toList).length ≤ 1000) (hL : LfAt m 4 0 s w) (hc : w.cell? ⟨b, 0, none⟩ = some (.func (.func 41) #[] #[])) :
    Calls Tryz.prog 89 #[.pointer (some ⟨m, 0, none⟩), .pointer (some ⟨b, 0, none⟩)] w fun e w' => ∃ r : ByteArray, e = .returned (.tuple #[.string r, .int .i64 0]) ∧ StrIs r (encL ([32] ++ ([34] ++ escapeL s.data.toList ++ [34]) ++ [32])) ∧ Below w.heap.size w w' := by
  have HQ := Lib.hid hq
  have HJ := Lib.hid (cxJsoned_txt m s w hE hs hq hL)
  clear hq hL
  go_enter Tryz.func89, Tryz.ntmps89
  go_upto_region 2 with (go_at_call 41; refine HJ.out.mono ?_; rintro e w1 ⟨r, rfl, hr, hb1⟩)
  have hrs : r.size ≤ 1004 := by rw [hr.size]; have := HQ.out; simp; omega
  have hX := rfEncode_calls r w1 (hE.below hb1) (by omega)
  unfold StrIs at hr
  rw [hr] at hX
  have HX := Lib.hid hX
  clear hX hr
  go_wp2_with (go_at_call 37; refine HX.out.mono ?_; rintro e w2 ⟨r2, rfl, hr2, hb2⟩)
  go_ret2
  exact ⟨r2, rfl, hr2, hb1.trans (hb2.mono hb1.size)⟩
set_option maxRecDepth 100000 in
set_option maxHeartbeats 2000000 in
theorem eSaid_lst (m : Nat) (w : World) (hL : LfAt m 5 0 ⟨#[]⟩ w) : Calls Tryz.prog 83 #[.pointer (some ⟨m, 0, none⟩)] w fun e w' => e = .returned (.tuple #[.string ⟨#[]⟩, .int .i64 402]) ∧ w = w' := by
  obtain ⟨l0, l1, l2, l3, l4, l5⟩ := hL
  go_enter Tryz.func83, Tryz.ntmps83
  go_wp2
  go_ret2
  exact ⟨rfl, rfl⟩
set_option maxRecDepth 100000 in
set_option maxHeartbeats 2000000 in
theorem eSaidL_calls (m b : Nat) (w : World) (hL : LfAt m 5 0 ⟨#[]⟩ w) : Calls Tryz.prog 82 #[.pointer (some ⟨m, 0, none⟩), .pointer (some ⟨b, 0, none⟩)] w fun e w' => e = .returned (.tuple #[.string ⟨#[]⟩, .int .i64 402]) ∧ w = w' := by
  have HS := Lib.hid (eSaid_lst m w hL)
  clear hL
  go_enter Tryz.func82, Tryz.ntmps82
  go_wp2_with (go_at_call 83; refine HS.out.mono ?_; rintro e w1 ⟨rfl, rfl⟩)
  go_ret2
  exact ⟨rfl, rfl⟩
end Go.Proofs.YtafkfamfhagokaaGreatDoor.S

/-
  THE WALKS of package ctx: Escape at the values that the laws hand in, whole.
-/
set_option linter.unusedVariables false
set_option linter.unusedSimpArgs false
namespace Go.Proofs.YtafkfamfhagokaaGreatDoor.S
open Go.RowKit

set_option maxRecDepth 100000 in
set_option maxHeartbeats 8000000 in
theorem cxEscape_txt (s : ByteArray) (w : World) (hE : Env w) (hs : s.size ≤ 65536) (hq : (escapeL s.data.toList).length ≤ 1000) :
    Calls Tryz.prog 17 #[.int .i64 6, lfV 4 0 s] w fun e w' => ∃ r : ByteArray, e = .returned (.tuple #[.string r, .int .i64 0]) ∧ StrIs r (encL ([32] ++ ([34] ++ escapeL s.data.toList ++ [34]) ++ [32])) ∧ Below w.heap.size w w' := by
  have HQ := Lib.hid hq
  have HM := Lib.hid (fun W => vMay_txt s hs W)
  have HE := Lib.hid hE
  clear hq hE
  have hbT := (Below.refl w.heap.size w).alloc (Nat.le_refl _) (.cells #[.int .i64 4, .int .i64 0, .int .u64 0, .string s, .slice none 0 0, .slice none 0 0] 30)
  have hL0 : LfAt w.heap.size 4 0 s (w.alloc (.cells #[.int .i64 4, .int .i64 0, .int .u64 0, .string s, .slice none 0 0, .slice none 0 0] 30)) := lf_of (Blk.new w [.int .i64 4, .int .i64 0, .int .u64 0, .string s, .slice none 0 0, .slice none 0 0] 30)
  go_enter Tryz.func17, Tryz.ntmps17
  go_upto_region 1 with (fail)
  generalize w.alloc (.cells #[.int .i64 4, .int .i64 0, .int .u64 0, .string s, .slice none 0 0, .slice none 0 0] 30) = w0 at *
  have hbL := Below.refl w0.heap.size w0
  have hz0 := hbT.size
  go_upto_region 2 with (first | (go_at_call 36; (with_reducible refine (eSaid_calls (.func 37) #[] #[] _).mono ?_); rintro e wA ⟨bA, rfl, hcA, hb⟩; have hbT := hbT.trans (hb.mono hbT.size); have hbL := hbL.trans (hb.mono hbL.size); have hbA := Below.refl wA.heap.size wA) | (go_at_call 38; (with_reducible refine (eWithin_calls (.func 41) #[] #[] _).mono ?_); rintro e wJ ⟨bJ, rfl, hcJ, hb⟩; have hbT := hbT.trans (hb.mono hbT.size); have hbL := hbL.trans (hb.mono hbL.size); have hbA := hbA.trans (hb.mono hbA.size); have hbJ := Below.refl wJ.heap.size wJ) | (go_at_call 36; refine (eSaid_calls _ _ _ _).mono ?_; rintro e wB ⟨b, rfl, hc, hb⟩; have hbT := hbT.trans (hb.mono hbT.size); have hbL := hbL.trans (hb.mono hbL.size); have hbA := hbA.trans (hb.mono hbA.size); first | (have hbJ := hbJ.trans (hb.mono hbJ.size)) | skip) | (go_at_call 38; refine (eWithin_calls _ _ _ _).mono ?_; rintro e wC ⟨b, rfl, hc, hb⟩; have hbT := hbT.trans (hb.mono hbT.size); have hbL := hbL.trans (hb.mono hbL.size); have hbA := hbA.trans (hb.mono hbA.size); first | (have hbJ := hbJ.trans (hb.mono hbJ.size)) | skip))
  refine wp_at_world ?_
  intro w2 hw2
  obtain ⟨cs, hAr, ha0, ha6⟩ : ∃ cs, Blk wC.heap.size 79 cs w2 ∧ cs[0]? = some (.func (.func 82) #[] #[.pointer (some ⟨bA, 0, none⟩)]) ∧ cs[6]? = some (.func (.func 89) #[] #[.pointer (some ⟨bJ, 0, none⟩)]) := ⟨_, by rw [hw2]; exact Blk.new wC _ _, rfl, rfl⟩
  have hba : Below wC.heap.size wC w2 := by rw [hw2]; exact (Below.refl _ wC).alloc (Nat.le_refl _) _
  clear hw2
  have k0 := hAr.cell 0 _ ha0
  have k6 := hAr.cell 6 _ ha6
  have kA := cellK hba (cellK hbA hcA)
  have kJ := cellK hba (cellK hbJ hcJ)
  have hbw := hbT.trans (hba.mono hbT.size)
  have hL2 := (hL0.below hbL).below hba
  have HL := Lib.hid hL2
  have HC := Lib.hid (fun W hbn (hx : Below w2.heap.size w2 W) => eWithinJ_calls w.heap.size bJ s W hbn hs HQ.out (HL.out.below hx) (cellK hx kJ))
  obtain ⟨l0, l1, l2, l3, l4, l5⟩ := hL2
  clear hL0 hba hbA hbJ hbL hbT hAr kA kJ k0
  go_upto_region 4 with (go_at_call 44; refine (HM.out _).mono ?_; rintro e w3 ⟨rfl, hb3⟩)
  have k6 := cellK hb3 k6
  have hbw := hbw.trans (hb3.mono hbw.size)
  have HC2 := Lib.hid (HC.out w3 (HE.out.below hbw) hb3)
  go_wp2_with (go_at_call 89; refine HC2.out.mono ?_; rintro e w4 ⟨r, rfl, hr, hb4⟩)
  go_ret2
  exact ⟨r, rfl, hr, hbw.trans (hb4.mono hbw.size)⟩
set_option maxRecDepth 100000 in
set_option maxHeartbeats 8000000 in
theorem cxEscape_lst (w : World) :
    Calls Tryz.prog 17 #[.int .i64 0, lfV 5 0 ⟨#[]⟩] w fun e w' => e = .returned (.tuple #[.string ⟨#[]⟩, .int .i64 402]) ∧ Below w.heap.size w w' := by
  have HM := Lib.hid (fun W => vMay_lst W)
  have hbT := (Below.refl w.heap.size w).alloc (Nat.le_refl _) (.cells #[.int .i64 5, .int .i64 0, .int .u64 0, .string ⟨#[]⟩, .slice none 0 0, .slice none 0 0] 30)
  have hL0 : LfAt w.heap.size 5 0 ⟨#[]⟩ (w.alloc (.cells #[.int .i64 5, .int .i64 0, .int .u64 0, .string ⟨#[]⟩, .slice none 0 0, .slice none 0 0] 30)) := lf_of (Blk.new w [.int .i64 5, .int .i64 0, .int .u64 0, .string ⟨#[]⟩, .slice none 0 0, .slice none 0 0] 30)
  go_enter Tryz.func17, Tryz.ntmps17
  go_upto_region 1 with (fail)
  generalize w.alloc (.cells #[.int .i64 5, .int .i64 0, .int .u64 0, .string ⟨#[]⟩, .slice none 0 0, .slice none 0 0] 30) = w0 at *
  have hbL := Below.refl w0.heap.size w0
  have hz0 := hbT.size
  go_upto_region 2 with (first | (go_at_call 36; (with_reducible refine (eSaid_calls (.func 37) #[] #[] _).mono ?_); rintro e wA ⟨bA, rfl, hcA, hb⟩; have hbT := hbT.trans (hb.mono hbT.size); have hbL := hbL.trans (hb.mono hbL.size); have hbA := Below.refl wA.heap.size wA) | (go_at_call 38; (with_reducible refine (eWithin_calls (.func 41) #[] #[] _).mono ?_); rintro e wJ ⟨bJ, rfl, hcJ, hb⟩; have hbT := hbT.trans (hb.mono hbT.size); have hbL := hbL.trans (hb.mono hbL.size); have hbA := hbA.trans (hb.mono hbA.size); have hbJ := Below.refl wJ.heap.size wJ) | (go_at_call 36; refine (eSaid_calls _ _ _ _).mono ?_; rintro e wB ⟨b, rfl, hc, hb⟩; have hbT := hbT.trans (hb.mono hbT.size); have hbL := hbL.trans (hb.mono hbL.size); have hbA := hbA.trans (hb.mono hbA.size); first | (have hbJ := hbJ.trans (hb.mono hbJ.size)) | skip) | (go_at_call 38; refine (eWithin_calls _ _ _ _).mono ?_; rintro e wC ⟨b, rfl, hc, hb⟩; have hbT := hbT.trans (hb.mono hbT.size); have hbL := hbL.trans (hb.mono hbL.size); have hbA := hbA.trans (hb.mono hbA.size); first | (have hbJ := hbJ.trans (hb.mono hbJ.size)) | skip))
  refine wp_at_world ?_
  intro w2 hw2
  obtain ⟨cs, hAr, ha0, ha6⟩ : ∃ cs, Blk wC.heap.size 79 cs w2 ∧ cs[0]? = some (.func (.func 82) #[] #[.pointer (some ⟨bA, 0, none⟩)]) ∧ cs[6]? = some (.func (.func 89) #[] #[.pointer (some ⟨bJ, 0, none⟩)]) := ⟨_, by rw [hw2]; exact Blk.new wC _ _, rfl, rfl⟩
  have hba : Below wC.heap.size wC w2 := by rw [hw2]; exact (Below.refl _ wC).alloc (Nat.le_refl _) _
  clear hw2
  have k0 := hAr.cell 0 _ ha0
  have k6 := hAr.cell 6 _ ha6
  have kA := cellK hba (cellK hbA hcA)
  have kJ := cellK hba (cellK hbJ hcJ)
  have hbw := hbT.trans (hba.mono hbT.size)
  have hL2 := (hL0.below hbL).below hba
  have HL := Lib.hid hL2
  have HC := Lib.hid (fun W (hx : Below w2.heap.size w2 W) => eSaidL_calls w.heap.size bA W (HL.out.below hx))
  obtain ⟨l0, l1, l2, l3, l4, l5⟩ := hL2
  clear hL0 hba hbA hbJ hbL hbT hAr kA kJ k6
  go_upto_region 4 with (go_at_call 44; refine (HM.out _).mono ?_; rintro e w3 ⟨rfl, hb3⟩)
  have k0 := cellK hb3 k0
  have hbw := hbw.trans (hb3.mono hbw.size)
  have HC2 := Lib.hid (HC.out w3 hb3)
  go_wp2_with (go_at_call 82; refine HC2.out.mono ?_; rintro e w4 ⟨rfl, rfl⟩)
  go_ret2
  exact ⟨rfl, hbw⟩
set_option maxRecDepth 100000 in
set_option maxHeartbeats 8000000 in
theorem cxEscape_neg (x k n : Int) (t : ByteArray) (w : World) (hx : x < 0) :
    Calls Tryz.prog 17 #[.int .i64 x, lfV k n t] w fun e w' => e = .returned (.tuple #[.string ⟨#[]⟩, .int .i64 2000]) ∧ Below w.heap.size w w' := by
  have HX := Lib.hid hx
  clear hx
  have hbT := (Below.refl w.heap.size w).alloc (Nat.le_refl _) (.cells #[.int .i64 k, .int .i64 n, .int .u64 0, .string t, .slice none 0 0, .slice none 0 0] 30)
  have hL0 : LfAt w.heap.size k n t (w.alloc (.cells #[.int .i64 k, .int .i64 n, .int .u64 0, .string t, .slice none 0 0, .slice none 0 0] 30)) := lf_of (Blk.new w [.int .i64 k, .int .i64 n, .int .u64 0, .string t, .slice none 0 0, .slice none 0 0] 30)
  go_enter Tryz.func17, Tryz.ntmps17
  go_upto_region 1 with (fail)
  generalize w.alloc (.cells #[.int .i64 k, .int .i64 n, .int .u64 0, .string t, .slice none 0 0, .slice none 0 0] 30) = w0 at *
  have hbL := Below.refl w0.heap.size w0
  have hz0 := hbT.size
  go_upto_region 2 with (first | (go_at_call 36; (with_reducible refine (eSaid_calls (.func 37) #[] #[] _).mono ?_); rintro e wA ⟨bA, rfl, hcA, hb⟩; have hbT := hbT.trans (hb.mono hbT.size); have hbL := hbL.trans (hb.mono hbL.size); have hbA := Below.refl wA.heap.size wA) | (go_at_call 38; (with_reducible refine (eWithin_calls (.func 41) #[] #[] _).mono ?_); rintro e wJ ⟨bJ, rfl, hcJ, hb⟩; have hbT := hbT.trans (hb.mono hbT.size); have hbL := hbL.trans (hb.mono hbL.size); have hbA := hbA.trans (hb.mono hbA.size); have hbJ := Below.refl wJ.heap.size wJ) | (go_at_call 36; refine (eSaid_calls _ _ _ _).mono ?_; rintro e wB ⟨b, rfl, hc, hb⟩; have hbT := hbT.trans (hb.mono hbT.size); have hbL := hbL.trans (hb.mono hbL.size); have hbA := hbA.trans (hb.mono hbA.size); first | (have hbJ := hbJ.trans (hb.mono hbJ.size)) | skip) | (go_at_call 38; refine (eWithin_calls _ _ _ _).mono ?_; rintro e wC ⟨b, rfl, hc, hb⟩; have hbT := hbT.trans (hb.mono hbT.size); have hbL := hbL.trans (hb.mono hbL.size); have hbA := hbA.trans (hb.mono hbA.size); first | (have hbJ := hbJ.trans (hb.mono hbJ.size)) | skip))
  refine wp_at_world ?_
  intro w2 hw2
  obtain ⟨cs, hAr, ha0, ha6⟩ : ∃ cs, Blk wC.heap.size 79 cs w2 ∧ cs[0]? = some (.func (.func 82) #[] #[.pointer (some ⟨bA, 0, none⟩)]) ∧ cs[6]? = some (.func (.func 89) #[] #[.pointer (some ⟨bJ, 0, none⟩)]) := ⟨_, by rw [hw2]; exact Blk.new wC _ _, rfl, rfl⟩
  have hba : Below wC.heap.size wC w2 := by rw [hw2]; exact (Below.refl _ wC).alloc (Nat.le_refl _) _
  clear hw2
  have k0 := hAr.cell 0 _ ha0
  have k6 := hAr.cell 6 _ ha6
  have kA := cellK hba (cellK hbA hcA)
  have kJ := cellK hba (cellK hbJ hcJ)
  have hbw := hbT.trans (hba.mono hbT.size)
  have hx := HX.out
  have d1 : decide (x < 0) = true := decide_eq_true (by omega)
  clear hL0 hba hbA hbJ hbL hbT hAr kA kJ k6 k0
  go_wp2_with (fail)
  go_ret2
  exact ⟨rfl, hbw⟩
set_option maxRecDepth 100000 in
set_option maxHeartbeats 8000000 in
theorem cxEscape_big (x k n : Int) (t : ByteArray) (w : World) (hx : 9 ≤ x) :
    Calls Tryz.prog 17 #[.int .i64 x, lfV k n t] w fun e w' => e = .returned (.tuple #[.string ⟨#[]⟩, .int .i64 2000]) ∧ Below w.heap.size w w' := by
  have HX := Lib.hid hx
  clear hx
  have hbT := (Below.refl w.heap.size w).alloc (Nat.le_refl _) (.cells #[.int .i64 k, .int .i64 n, .int .u64 0, .string t, .slice none 0 0, .slice none 0 0] 30)
  have hL0 : LfAt w.heap.size k n t (w.alloc (.cells #[.int .i64 k, .int .i64 n, .int .u64 0, .string t, .slice none 0 0, .slice none 0 0] 30)) := lf_of (Blk.new w [.int .i64 k, .int .i64 n, .int .u64 0, .string t, .slice none 0 0, .slice none 0 0] 30)
  go_enter Tryz.func17, Tryz.ntmps17
  go_upto_region 1 with (fail)
  generalize w.alloc (.cells #[.int .i64 k, .int .i64 n, .int .u64 0, .string t, .slice none 0 0, .slice none 0 0] 30) = w0 at *
  have hbL := Below.refl w0.heap.size w0
  have hz0 := hbT.size
  go_upto_region 2 with (first | (go_at_call 36; (with_reducible refine (eSaid_calls (.func 37) #[] #[] _).mono ?_); rintro e wA ⟨bA, rfl, hcA, hb⟩; have hbT := hbT.trans (hb.mono hbT.size); have hbL := hbL.trans (hb.mono hbL.size); have hbA := Below.refl wA.heap.size wA) | (go_at_call 38; (with_reducible refine (eWithin_calls (.func 41) #[] #[] _).mono ?_); rintro e wJ ⟨bJ, rfl, hcJ, hb⟩; have hbT := hbT.trans (hb.mono hbT.size); have hbL := hbL.trans (hb.mono hbL.size); have hbA := hbA.trans (hb.mono hbA.size); have hbJ := Below.refl wJ.heap.size wJ) | (go_at_call 36; refine (eSaid_calls _ _ _ _).mono ?_; rintro e wB ⟨b, rfl, hc, hb⟩; have hbT := hbT.trans (hb.mono hbT.size); have hbL := hbL.trans (hb.mono hbL.size); have hbA := hbA.trans (hb.mono hbA.size); first | (have hbJ := hbJ.trans (hb.mono hbJ.size)) | skip) | (go_at_call 38; refine (eWithin_calls _ _ _ _).mono ?_; rintro e wC ⟨b, rfl, hc, hb⟩; have hbT := hbT.trans (hb.mono hbT.size); have hbL := hbL.trans (hb.mono hbL.size); have hbA := hbA.trans (hb.mono hbA.size); first | (have hbJ := hbJ.trans (hb.mono hbJ.size)) | skip))
  refine wp_at_world ?_
  intro w2 hw2
  obtain ⟨cs, hAr, ha0, ha6⟩ : ∃ cs, Blk wC.heap.size 79 cs w2 ∧ cs[0]? = some (.func (.func 82) #[] #[.pointer (some ⟨bA, 0, none⟩)]) ∧ cs[6]? = some (.func (.func 89) #[] #[.pointer (some ⟨bJ, 0, none⟩)]) := ⟨_, by rw [hw2]; exact Blk.new wC _ _, rfl, rfl⟩
  have hba : Below wC.heap.size wC w2 := by rw [hw2]; exact (Below.refl _ wC).alloc (Nat.le_refl _) _
  clear hw2
  have k0 := hAr.cell 0 _ ha0
  have k6 := hAr.cell 6 _ ha6
  have kA := cellK hba (cellK hbA hcA)
  have kJ := cellK hba (cellK hbJ hcJ)
  have hbw := hbT.trans (hba.mono hbT.size)
  have hx := HX.out
  have d1 : decide (x < 0) = false := decide_eq_false (by omega)
  have d2 : decide (9 ≤ x) = true := decide_eq_true (by omega)
  clear hL0 hba hbA hbJ hbL hbT hAr kA kJ k6 k0
  go_wp2_with (fail)
  go_ret2
  exact ⟨rfl, hbw⟩
set_option maxRecDepth 100000 in
set_option maxHeartbeats 8000000 in
theorem cxEscape_int (x : Int) (w : World) (hx : 9007199254740991 < x) :
    Calls Tryz.prog 17 #[.int .i64 0, lfV 2 x ⟨#[]⟩] w fun e w' => e = .returned (.tuple #[.string ⟨#[]⟩, .int .i64 2000]) ∧ Below w.heap.size w w' := by
  have HM := Lib.hid (fun W => vMay_int x hx W)
  clear hx
  have hbT := (Below.refl w.heap.size w).alloc (Nat.le_refl _) (.cells #[.int .i64 2, .int .i64 x, .int .u64 0, .string ⟨#[]⟩, .slice none 0 0, .slice none 0 0] 30)
  have hL0 : LfAt w.heap.size 2 x ⟨#[]⟩ (w.alloc (.cells #[.int .i64 2, .int .i64 x, .int .u64 0, .string ⟨#[]⟩, .slice none 0 0, .slice none 0 0] 30)) := lf_of (Blk.new w [.int .i64 2, .int .i64 x, .int .u64 0, .string ⟨#[]⟩, .slice none 0 0, .slice none 0 0] 30)
  go_enter Tryz.func17, Tryz.ntmps17
  go_upto_region 1 with (fail)
  generalize w.alloc (.cells #[.int .i64 2, .int .i64 x, .int .u64 0, .string ⟨#[]⟩, .slice none 0 0, .slice none 0 0] 30) = w0 at *
  have hbL := Below.refl w0.heap.size w0
  have hz0 := hbT.size
  go_upto_region 2 with (first | (go_at_call 36; (with_reducible refine (eSaid_calls (.func 37) #[] #[] _).mono ?_); rintro e wA ⟨bA, rfl, hcA, hb⟩; have hbT := hbT.trans (hb.mono hbT.size); have hbL := hbL.trans (hb.mono hbL.size); have hbA := Below.refl wA.heap.size wA) | (go_at_call 38; (with_reducible refine (eWithin_calls (.func 41) #[] #[] _).mono ?_); rintro e wJ ⟨bJ, rfl, hcJ, hb⟩; have hbT := hbT.trans (hb.mono hbT.size); have hbL := hbL.trans (hb.mono hbL.size); have hbA := hbA.trans (hb.mono hbA.size); have hbJ := Below.refl wJ.heap.size wJ) | (go_at_call 36; refine (eSaid_calls _ _ _ _).mono ?_; rintro e wB ⟨b, rfl, hc, hb⟩; have hbT := hbT.trans (hb.mono hbT.size); have hbL := hbL.trans (hb.mono hbL.size); have hbA := hbA.trans (hb.mono hbA.size); first | (have hbJ := hbJ.trans (hb.mono hbJ.size)) | skip) | (go_at_call 38; refine (eWithin_calls _ _ _ _).mono ?_; rintro e wC ⟨b, rfl, hc, hb⟩; have hbT := hbT.trans (hb.mono hbT.size); have hbL := hbL.trans (hb.mono hbL.size); have hbA := hbA.trans (hb.mono hbA.size); first | (have hbJ := hbJ.trans (hb.mono hbJ.size)) | skip))
  refine wp_at_world ?_
  intro w2 hw2
  obtain ⟨cs, hAr, ha0, ha6⟩ : ∃ cs, Blk wC.heap.size 79 cs w2 ∧ cs[0]? = some (.func (.func 82) #[] #[.pointer (some ⟨bA, 0, none⟩)]) ∧ cs[6]? = some (.func (.func 89) #[] #[.pointer (some ⟨bJ, 0, none⟩)]) := ⟨_, by rw [hw2]; exact Blk.new wC _ _, rfl, rfl⟩
  have hba : Below wC.heap.size wC w2 := by rw [hw2]; exact (Below.refl _ wC).alloc (Nat.le_refl _) _
  clear hw2
  have k0 := hAr.cell 0 _ ha0
  have k6 := hAr.cell 6 _ ha6
  have kA := cellK hba (cellK hbA hcA)
  have kJ := cellK hba (cellK hbJ hcJ)
  have hbw := hbT.trans (hba.mono hbT.size)
  have hL2 := (hL0.below hbL).below hba
  obtain ⟨l0, l1, l2, l3, l4, l5⟩ := hL2
  clear hL0 hba hbA hbJ hbL hbT hAr kA kJ k6 k0
  go_wp2_with (go_at_call 44; refine (HM.out _).mono ?_; rintro e w3 ⟨rfl, hb3⟩)
  go_ret2
  exact ⟨rfl, hbw.trans (hb3.mono hbw.size)⟩
end Go.Proofs.YtafkfamfhagokaaGreatDoor.S

/-
  THE WALKS of chapter 20's helpers: at, holeOf, text, awake.
-/
set_option linter.unusedVariables false
set_option linter.unusedSimpArgs false
namespace Go.Proofs.YtafkfamfhagokaaGreatDoor.S
open Go.RowKit

theorem mayOk_true {c : Cx} (h : mayX c = true) : MayOk c := fun g W hB => (cxMay_true g c W hB h).mono (fun e w' h' => ⟨by rw [h]; exact h'.1, h'.2⟩)
theorem TxPost.one {R : Except Nat Cx} {w w' : World} {e : Ending} (h : TxPost R w e w') : ∃ (d : Cx) (k : Nat), e = .returned (.tuple #[cxV d, .int .i64 k]) ∧ Below w.heap.size w w' ∧ (R = .ok d ∧ k = 0 ∨ R = .error k ∧ d = cx0) := by
  obtain ⟨h1, h2, h3⟩ := h
  cases R with
  | ok d => exact ⟨d, 0, h1 d rfl, h3, .inl ⟨rfl, rfl⟩⟩
  | error k => exact ⟨cx0, k, h2 k rfl, h3, .inr ⟨rfl, rfl⟩⟩
theorem HlPost.one {R : Except Nat (Nat × Cx)} {w w' : World} {e : Ending} (h : HlPost R w e w') : ∃ (x : Nat) (d : Cx) (k : Nat), e = .returned (.tuple #[.int .i64 x, cxV d, .int .i64 k]) ∧ Below w.heap.size w w' ∧ (R = .ok (x, d) ∧ k = 0 ∨ R = .error k ∧ x = 0 ∧ d = cx0) := by
  obtain ⟨h1, h2, h3⟩ := h
  cases R with
  | ok d => obtain ⟨x, d⟩ := d; exact ⟨x, d, 0, h1 x d rfl, h3, .inl ⟨rfl, rfl⟩⟩
  | error k => exact ⟨0, cx0, k, h2 k rfl, h3, .inr ⟨rfl, rfl, rfl⟩⟩
theorem steps_err {l : List UInt8} : ∀ {c : Cx} {k : Nat}, stepsC c l = .error k → k = 2003 := by
  induction l with
  | nil => intro c k h; cases h
  | cons b r ih =>
    intro c k h
    rw [stepsC] at h
    cases hs : stepC c b.toNat with
    | error e => rw [hs] at h; cases h; exact stepC_err hs
    | ok d => rw [hs] at h; exact ih h
set_option maxRecDepth 100000 in
set_option maxHeartbeats 4000000 in
theorem at20_calls (s : ByteArray) (l : List UInt8) (hl : StrIs s l) (hs : s.size ≤ 9223372036854775807) (w : World) :
    Calls Tryz.prog 22 #[.string s] w fun e w' => ∃ (d : Cx) (k : Nat), e = .returned (.tuple #[cxV d, .int .i64 k]) ∧ Below w.heap.size w w' ∧ (textC cx0 l = .ok d ∧ k = 0 ∨ textC cx0 l = .error k ∧ d = cx0) := by
  have HT := Lib.hid (fun W => (cxText_calls cx0 s l hl hs W (mayOk_true mayX_0)).mono (fun e w' h => h.one))
  go_enter Tryz.func22, Tryz.ntmps22
  go_upto_region 1 with (fail)
  refine wp_at_world ?_
  intro w0 hw0
  have hB0 : Blk w.heap.size 25 cxZ w0 := by rw [hw0]; exact Blk.new w cxZ _
  have hb0 : Below w.heap.size w w0 := by rw [hw0]; exact (Below.refl _ w).alloc (Nat.le_refl _) _
  have hz0 := hb0.size
  clear hw0
  go_upto_region 2 with (first | (go_at_call 20; refine (cxStart_calls _).mono ?_; rintro e w1 ⟨rfl, hb1⟩) | (go_at_call 13; refine (HT.out _).mono ?_; rintro e w2 ⟨d, k, rfl, hb2, hR⟩; have HRR := Lib.hid hR; clear hR))
  refine wp_at_world ?_
  intro w3 hw3
  have hB3 : Blk w2.heap.size 25 (cxCells d) w3 := by rw [hw3]; exact Blk.new w2 (cxCells d) _
  have hb3 : Below w2.heap.size w2 w3 := by rw [hw3]; exact (Below.refl _ w2).alloc (Nat.le_refl _) _
  clear hw3
  have hB := ((hB0.below hb1).below hb2).below hb3
  have hbw := hb0.trans (hb1.mono hz0)
  have hbw := hbw.trans (hb2.mono hbw.size)
  have hbw := hbw.trans (hb3.mono hbw.size)
  clear hB0 hb0 hb1 hb2 hb3 hz0 HT
  generalize w2.heap.size = g at *
  have c0 := hB3.cell 0 _ rfl
  have c1 := hB3.cell 1 _ rfl
  have c2 := hB3.cell 2 _ rfl
  have c3 := hB3.cell 3 _ rfl
  have c4 := hB3.cell 4 _ rfl
  have c5 := hB3.cell 5 _ rfl
  have c6 := hB3.cell 6 _ rfl
  have c7 := hB3.cell 7 _ rfl
  have c8 := hB3.cell 8 _ rfl
  have c9 := hB3.cell 9 _ rfl
  have d0 := hB.cell 0 _ rfl
  have d1 := hB.cell 1 _ rfl
  have d2 := hB.cell 2 _ rfl
  have d3 := hB.cell 3 _ rfl
  have d4 := hB.cell 4 _ rfl
  have d5 := hB.cell 5 _ rfl
  have d6 := hB.cell 6 _ rfl
  have d7 := hB.cell 7 _ rfl
  have d8 := hB.cell 8 _ rfl
  have d9 := hB.cell 9 _ rfl
  have f0 := hB.free 0
  have f1 := hB.free 1
  have f2 := hB.free 2
  have f3 := hB.free 3
  have f4 := hB.free 4
  have f5 := hB.free 5
  have f6 := hB.free 6
  have f7 := hB.free 7
  have f8 := hB.free 8
  have f9 := hB.free 9
  go_region_with (go_at_call 19; go_in)
  all_goals go_wp2
  all_goals exact bodyPost_ret (v := .tuple #[cxV d, .int .i64 k]) (by simp [results, Tryz.results22, go_sem, d0, d1, d2, d3, d4, d5, d6, d7, d8, d9]) rfl ⟨d, k, rfl, (below10 hbw (Nat.le_refl _) _ _ _ _ _ _ _ _ _ _).drew, HRR.out⟩
def hoV (R : Int × Nat) : Value := .tuple #[.int .i64 R.1, .int .i64 R.2]
set_option maxRecDepth 100000 in
set_option maxHeartbeats 4000000 in
theorem holeOf20_calls (s : ByteArray) (l : List UInt8) (hl : StrIs s l) (hs : s.size ≤ 9223372036854775807) (w : World) :
    Calls Tryz.prog 25 #[.string s] w fun e w' => e = .returned (.tuple #[.int .i64 (holeOfL l).1, .int .i64 (holeOfL l).2]) ∧ Below w.heap.size w w' := by
  obtain ⟨R, hR⟩ : ∃ R, R = holeOfL l := ⟨_, rfl⟩
  rw [← hR]
  have HR := Lib.hid hR
  clear hR
  have HT := Lib.hid (fun W => at20_calls s l hl hs W)
  go_enter Tryz.func25, Tryz.ntmps25
  go_upto_region 2 with (go_at_call 22; refine (HT.out _).mono ?_; rintro e w1 ⟨d, k, rfl, hb1, hT⟩)
  refine wp_at_world ?_
  intro w3 hw3
  have hB3 : Blk w1.heap.size 25 (cxCells d) w3 := by rw [hw3]; exact Blk.new w1 (cxCells d) _
  have hb3 : Below w1.heap.size w1 w3 := by rw [hw3]; exact (Below.refl _ w1).alloc (Nat.le_refl _) _
  clear hw3 HT
  have hbw := hb1.trans (hb3.mono hb1.size)
  rcases hT with ⟨hT, rfl⟩ | ⟨hT, rfl⟩
  · have hm : mayX d = true := by rw [textC_0] at hT; exact mayX_steps mayX_0 hT
    have t0 : (((0 : Nat) : Int) != 0) = false := rfl
    have HRR := Lib.hid (show R = match holeC d with | .ok p => ((p.1 : Int), 0) | .error e => (0, e) by rw [HR.out]; unfold holeOfL; rw [hT]; dsimp only; cases holeC d <;> rfl)
    have HH := Lib.hid (fun W => (cxHole_calls d W (mayOk_true hm)).mono (fun e w' h => h.one))
    clear hm hT HR hb1 hb3
    generalize w1.heap.size = g at *
    have c0 := hB3.cell 0 _ rfl
    have c1 := hB3.cell 1 _ rfl
    have c2 := hB3.cell 2 _ rfl
    have c3 := hB3.cell 3 _ rfl
    have c4 := hB3.cell 4 _ rfl
    have c5 := hB3.cell 5 _ rfl
    have c6 := hB3.cell 6 _ rfl
    have c7 := hB3.cell 7 _ rfl
    have c8 := hB3.cell 8 _ rfl
    have c9 := hB3.cell 9 _ rfl
    go_wp2_with (first | (go_at_call 15; refine (HH.out _).mono ?_; rintro e w4 ⟨x, d2, k2, rfl, hb4, hH⟩; have HHH := Lib.hid hH; clear hH) | (go_at_call 19; go_in))
    have hb4 := hbw.trans (hb4.mono hbw.size)
    have hRv : R = ((x : Int), k2) := by
      rw [HRR.out]
      rcases HHH.out with ⟨h, h'⟩ | ⟨h, h', -⟩ <;> rw [h] <;> subst h' <;> rfl
    have HRV := Lib.hid hRv
    clear hRv HRR
    go_ret2
    rw [HRV.out]
    exact ⟨rfl, hb4.trans ((Below.refl _ w4).alloc (Nat.le_refl _) _ |>.mono hb4.size)⟩
  · have hk0 : k ≠ 0 := by
      intro h0
      subst h0
      rw [textC_0] at hT
      have := steps_err hT; omega
    have t1 : ((k : Int) != 0) = true := bne_iff_ne.2 (by omega)
    have hRv : R = (-1, k) := by rw [HR.out]; unfold holeOfL; rw [hT]
    have HRV := Lib.hid hRv
    clear hT HR hRv
    go_wp2
    go_ret2
    rw [HRV.out]
    exact ⟨rfl, hbw⟩
set_option maxRecDepth 100000 in
set_option maxHeartbeats 4000000 in
theorem text20_calls (s : ByteArray) (w : World) : Calls Tryz.prog 26 #[.string s] w fun e w' => e = .returned (lfV 4 0 s) ∧ Below w.heap.size w w' := by
  go_enter Tryz.func26, Tryz.ntmps26
  go_upto_region 1 with (fail)
  refine wp_at_world ?_
  intro w0 hw0
  have hB : Blk w.heap.size 30 [.int .i64 0, .int .i64 0, .int .u64 0, .string ⟨#[]⟩, .slice none 0 0, .slice none 0 0] w0 := by rw [hw0]; exact Blk.new w [.int .i64 0, .int .i64 0, .int .u64 0, .string ⟨#[]⟩, .slice none 0 0, .slice none 0 0] _
  have hb0 : Below w.heap.size w w0 := by rw [hw0]; exact (Below.refl _ w).alloc (Nat.le_refl _) _
  clear hw0
  have d0 := hB.cell 0 _ rfl
  have d1 := hB.cell 1 _ rfl
  have d2 := hB.cell 2 _ rfl
  have d3 := hB.cell 3 _ rfl
  have d4 := hB.cell 4 _ rfl
  have d5 := hB.cell 5 _ rfl
  have f0 := hB.free 0
  have f1 := hB.free 1
  have f2 := hB.free 2
  have f3 := hB.free 3
  have f4 := hB.free 4
  have f5 := hB.free 5
  go_wp2
  exact bodyPost_ret (v := lfV 4 0 s) (by simp [results, Tryz.results26, go_sem, d0, d1, d2, d3, d4, d5]) rfl ⟨rfl, below6 hb0 _ _ _ _ _ _⟩
end Go.Proofs.YtafkfamfhagokaaGreatDoor.S

/-
  THE WALK of chapter 20's awake.
-/
set_option linter.unusedVariables false
set_option linter.unusedSimpArgs false
namespace Go.Proofs.YtafkfamfhagokaaGreatDoor.S
open Go.RowKit

theorem lt_small : (escapeL [60]).length ≤ 1000 := by decide +kernel
theorem esc_lt (w : World) (hE : Env w) : Calls Tryz.prog 17 #[.int .i64 6, lfV 4 0 ⟨#[60]⟩] w fun e w' => e = .returned (.tuple #[.string ⟨#[32, 38, 113, 117, 111, 116, 59, 92, 117, 48, 48, 51, 99, 38, 113, 117, 111, 116, 59, 32]⟩, .int .i64 0]) ∧ Below w.heap.size w w' := by
  refine (cxEscape_txt ⟨#[60]⟩ w hE (by show 1 ≤ _; omega) lt_small).mono ?_
  rintro e w' ⟨r, rfl, hr, hb⟩
  have h : StrIs r [32, 38, 113, 117, 111, 116, 59, 92, 117, 48, 48, 51, 99, 38, 113, 117, 111, 116, 59, 32] := hr.trans (by kernel_rfl)
  rw [h.eq]
  exact ⟨rfl, hb⟩
theorem ho20_0 : holeOfL [60, 112, 32, 116, 105, 116, 108, 101, 61, 39] = (0, 0) := by kernel_rfl
theorem ho20_1 : holeOfL [60, 97, 32, 104, 114, 101, 102, 61, 34] = (1, 0) := by kernel_rfl
theorem ho20_2 : holeOfL [60, 115, 99, 114, 105, 112, 116, 62, 120, 61] = (3, 0) := by kernel_rfl
theorem ho20_3 : holeOfL [60, 112, 32] = (0, 2001) := by kernel_rfl
theorem ho20_4 : holeOfL [97, 38, 98] = (0, 2002) := by kernel_rfl
theorem ho20_5 : holeOfL [60, 97, 32, 104, 114, 101, 102, 61, 39, 106, 97, 118, 97] = (0, 2003) := by kernel_rfl
set_option maxRecDepth 100000 in
set_option maxHeartbeats 8000000 in
theorem awake20_calls (w : World) (hE : Env w) :
    Calls Tryz.prog 21 #[] w fun e w' => e = .returned (.bool true) ∧ Below w.heap.size w w' := by
  have HE := Lib.hid hE
  clear hE
  have HX := Lib.hid (fun W h => esc_lt W h)
  have H0 := Lib.hid (fun W => holeOf20_calls ⟨#[60, 112, 32, 116, 105, 116, 108, 101, 61, 39]⟩ [60, 112, 32, 116, 105, 116, 108, 101, 61, 39] rfl (by show 10 ≤ _; omega) W)
  rw [ho20_0] at H0
  have H1 := Lib.hid (fun W => holeOf20_calls ⟨#[60, 97, 32, 104, 114, 101, 102, 61, 34]⟩ [60, 97, 32, 104, 114, 101, 102, 61, 34] rfl (by show 9 ≤ _; omega) W)
  rw [ho20_1] at H1
  have H2 := Lib.hid (fun W => holeOf20_calls ⟨#[60, 115, 99, 114, 105, 112, 116, 62, 120, 61]⟩ [60, 115, 99, 114, 105, 112, 116, 62, 120, 61] rfl (by show 10 ≤ _; omega) W)
  rw [ho20_2] at H2
  have H3 := Lib.hid (fun W => holeOf20_calls ⟨#[60, 112, 32]⟩ [60, 112, 32] rfl (by show 3 ≤ _; omega) W)
  rw [ho20_3] at H3
  have H4 := Lib.hid (fun W => holeOf20_calls ⟨#[97, 38, 98]⟩ [97, 38, 98] rfl (by show 3 ≤ _; omega) W)
  rw [ho20_4] at H4
  have H5 := Lib.hid (fun W => holeOf20_calls ⟨#[60, 97, 32, 104, 114, 101, 102, 61, 39, 106, 97, 118, 97]⟩ [60, 97, 32, 104, 114, 101, 102, 61, 39, 106, 97, 118, 97] rfl (by show 13 ≤ _; omega) W)
  rw [ho20_5] at H5
  go_enter Tryz.func21, Tryz.ntmps21
  go_upto_region 2 with (go_at_call 25; refine (H0.out _).mono ?_; rintro e u0 ⟨rfl, hb0⟩)
  have hbw := hb0
  clear hb0
  go_upto_region 3 with (go_at_call 25; refine (H1.out _).mono ?_; rintro e u1 ⟨rfl, hb1⟩)
  have hbw := hbw.trans (hb1.mono hbw.size)
  clear hb1
  go_upto_region 4 with (go_at_call 25; refine (H2.out _).mono ?_; rintro e u2 ⟨rfl, hb2⟩)
  have hbw := hbw.trans (hb2.mono hbw.size)
  clear hb2
  go_upto_region 5 with (go_at_call 25; refine (H3.out _).mono ?_; rintro e u3 ⟨rfl, hb3⟩)
  have hbw := hbw.trans (hb3.mono hbw.size)
  clear hb3
  go_upto_region 6 with (go_at_call 25; refine (H4.out _).mono ?_; rintro e u4 ⟨rfl, hb4⟩)
  have hbw := hbw.trans (hb4.mono hbw.size)
  clear hb4
  go_upto_region 7 with (go_at_call 25; refine (H5.out _).mono ?_; rintro e u5 ⟨rfl, hb5⟩)
  have hbw := hbw.trans (hb5.mono hbw.size)
  clear hb5
  go_upto_region 8 with (first | (go_at_call 26; refine (text20_calls _ _).mono ?_; rintro e u6 ⟨rfl, hb6⟩; have hbw := hbw.trans (hb6.mono hbw.size)) | (go_at_call 17; refine (HX.out _ (HE.out.below hbw)).mono ?_; rintro e u7 ⟨rfl, hb7⟩))
  have hbw := hbw.trans (hb7.mono hbw.size)
  go_wp2_with (first | (go_at_call 17; refine (cxEscape_lst _).mono ?_; rintro e u8 ⟨rfl, hb8⟩) | (go_at_call 19; go_in))
  have hbw := hbw.trans (hb8.mono hbw.size)
  go_ret
  exact ⟨rfl, hbw⟩
end Go.Proofs.YtafkfamfhagokaaGreatDoor.S

/-
  THE WALK of the law HoleStates (chapter 20).
-/
set_option linter.unusedVariables false
set_option linter.unusedSimpArgs false
namespace Go.Proofs.YtafkfamfhagokaaGreatDoor.S
open Go.RowKit

theorem two_rows (W : World) (a b : Array Value) (S T : TypeId) : Blk W.heap.size S a.toList ((W.alloc (.cells a S)).alloc (.cells b T)) ∧ Blk (W.heap.size + 1) T b.toList ((W.alloc (.cells a S)).alloc (.cells b T)) ∧ Below W.heap.size W ((W.alloc (.cells a S)).alloc (.cells b T)) := by
  have h1 : Blk W.heap.size S a.toList (W.alloc (.cells a S)) := Blk.new W _ _
  have z1 : (W.alloc (.cells a S)).heap.size = W.heap.size + 1 := by simp
  have b1 := (Below.refl W.heap.size W).alloc (Nat.le_refl _) (.cells a S)
  generalize W.alloc (.cells a S) = w1 at *
  have h2 : Blk w1.heap.size T b.toList (w1.alloc (.cells b T)) := Blk.new w1 _ _
  have b2 := (Below.refl w1.heap.size w1).alloc (Nat.le_refl _) (.cells b T)
  rw [z1] at h2
  exact ⟨h1.below b2, h2, b1.trans (b2.mono (by omega))⟩
def pageV : List Value := pagesL.map fun l => .string ⟨l.toArray⟩
def escV : List Value := escsL.map fun x => .int .i64 x
theorem page_cell (n : Nat) (h : n ≤ 60) : pageV[n]? = some (.string ⟨(pageL n).toArray⟩) := by
  have hl : n < pagesL.length := by have : pagesL.length = 61 := by kernel_rfl
                                    omega
  unfold pageV pageL
  rw [List.getElem?_map, List.getElem?_eq_getElem hl, List.getD_eq_getElem?_getD, List.getElem?_eq_getElem hl]
  rfl
theorem esc_cell (n : Nat) (h : n ≤ 23) : escV[n]? = some (.int .i64 (escsL.getD n 0)) := by
  have hl : n < escsL.length := by have : escsL.length = 24 := by kernel_rfl
                                   omega
  unfold escV
  rw [List.getElem?_map, List.getElem?_eq_getElem hl, List.getD_eq_getElem?_getD, List.getElem?_eq_getElem hl]
  rfl
theorem pages_len : ∀ l ∈ pagesL, l.length ≤ 64 := by decide +kernel
theorem page_len (n : Nat) (h : n ≤ 60) : (pageL n).length ≤ 64 := by
  have hl : n < pagesL.length := by have : pagesL.length = 61 := by kernel_rfl
                                    omega
  unfold pageL
  rw [List.getD_eq_getElem?_getD, List.getElem?_eq_getElem hl]
  exact pages_len _ (List.getElem_mem hl)
theorem page_hole (n : Nat) (h : n ≤ 60) (W : World) : Calls Tryz.prog 25 #[.string ⟨(pageL n).toArray⟩] W fun e w' => e = .returned (.tuple #[.int .i64 (wantH n).1, .int .i64 (wantH n).2]) ∧ Below W.heap.size W w' := by
  have hz : (⟨(pageL n).toArray⟩ : ByteArray).size ≤ 9223372036854775807 := by
    have := page_len n h
    show (pageL n).toArray.size ≤ _
    rw [List.size_toArray]
    omega
  have hC := holeOf20_calls ⟨(pageL n).toArray⟩ (pageL n) rfl hz W
  rw [holes_plain n h] at hC
  exact hC
set_option maxRecDepth 100000 in
set_option maxHeartbeats 8000000 in
theorem holeStates_calls (which : Int) (w : World) (hE : Env w) :
    Calls Tryz.prog 8 #[.int .i64 which] w fun e w' => e = .returned (.bool true) ∧ Below w.heap.size w w' := by
  go_enter Tryz.func8, Tryz.ntmps8
  go_upto_region 3 with (go_at_call 21; refine (awake20_calls _ hE).mono ?_; rintro e w1 ⟨rfl, hb1⟩)
  obtain ⟨n, hn, hn60⟩ : ∃ n : Nat, wrap64 ((IntKind.u64.wrap which).tmod 61) = (n : Int) ∧ n ≤ 60 := by
    have h0 : 0 ≤ which % 18446744073709551616 := Int.emod_nonneg _ (by decide)
    refine ⟨((which % 18446744073709551616) % 61).toNat, ?_, by omega⟩
    rw [IntKind.wrap_u64, Int.tmod_eq_emod_of_nonneg h0]
    unfold wrap64
    omega
  go_upto_region 6 with (fail)
  refine wp_at_world ?_
  intro w2 hw2
  obtain ⟨hP, hW, hb2⟩ : Blk w1.heap.size 9 pageV w2 ∧ Blk (w1.heap.size + 1) 3 escV w2 ∧ Below w1.heap.size w1 w2 := by
    rw [hw2]
    exact two_rows w1 pageV.toArray escV.toArray _ _
  clear hw2
  have c0 := hP.cell n _ (page_cell n hn60)
  have hbw := hb1.trans (hb2.mono hb1.size)
  clear hb1 hb2
  have HC := Lib.hid (fun W => page_hole n hn60 W)
  generalize hgg : w1.heap.size = g at *
  clear hgg hP
  obtain ⟨y, hy⟩ : ∃ y : ByteArray, y = ⟨(pageL n).toArray⟩ := ⟨_, rfl⟩
  rw [← hy] at c0 HC
  clear hy
  have hr : n < 24 ∨ (24 ≤ n ∧ n < 28) ∨ (28 ≤ n ∧ n < 48) ∨ (48 ≤ n ∧ n < 50) ∨ 50 ≤ n := by omega
  rcases hr with h | h | h | h | h
  · have he : (wantH n).2 = 0 := by unfold wantH; rw [if_pos h]
    have d24 : decide ((n : Int) < 24) = true := decide_eq_true (by omega)
    have hx : (wantH n).1 = escsL.getD n 0 := by unfold wantH; rw [if_pos h]
    have c1 := hW.cell n _ (esc_cell n (by omega))
    rw [← hx] at c1
    clear hx
    have t0 : (((0 : Nat) : Int) == 0) = true := rfl
    rw [he] at HC
    clear hW he
    generalize (wantH n).1 = x at *
    go_wp2_with (go_at_call 25; refine (HC.out _).mono ?_; rintro e w3 ⟨rfl, hb3⟩; have c1 := cellK hb3 c1)
    go_ret
    exact ⟨by first | rfl | simp, hbw.trans (hb3.mono hbw.size)⟩
  · have he : (wantH n).2 = 2002 := by unfold wantH; rw [if_neg (by omega), if_pos (by omega)]
    have d24 : decide ((n : Int) < 24) = false := decide_eq_false (by omega)
    have d28 : decide ((n : Int) < 28) = true := decide_eq_true (by omega)
    rw [he] at HC
    clear hW he h
    generalize (wantH n).1 = x at *
    go_wp2_with (go_at_call 25; refine (HC.out _).mono ?_; rintro e w3 ⟨rfl, hb3⟩)
    go_ret
    exact ⟨by first | rfl | simp, hbw.trans (hb3.mono hbw.size)⟩
  · have he : (wantH n).2 = 2001 := by unfold wantH; rw [if_neg (by omega), if_neg (by omega), if_pos (by omega)]
    have d24 : decide ((n : Int) < 24) = false := decide_eq_false (by omega)
    have d28 : decide ((n : Int) < 28) = false := decide_eq_false (by omega)
    have d48 : decide ((n : Int) < 48) = true := decide_eq_true (by omega)
    rw [he] at HC
    clear hW he h
    generalize (wantH n).1 = x at *
    go_wp2_with (go_at_call 25; refine (HC.out _).mono ?_; rintro e w3 ⟨rfl, hb3⟩)
    go_ret
    exact ⟨by first | rfl | simp, hbw.trans (hb3.mono hbw.size)⟩
  · have he : (wantH n).2 = 2003 := by have h8 : n = 48 ∨ n = 49 := (by omega); clear c0 HC hn; rcases h8 with rfl | rfl <;> rfl
    have d24 : decide ((n : Int) < 24) = false := decide_eq_false (by omega)
    have d28 : decide ((n : Int) < 28) = false := decide_eq_false (by omega)
    have d48 : decide ((n : Int) < 48) = false := decide_eq_false (by omega)
    have d50 : decide ((n : Int) < 50) = true := decide_eq_true (by omega)
    rw [he] at HC
    clear hW he h
    generalize (wantH n).1 = x at *
    go_wp2_with (go_at_call 25; refine (HC.out _).mono ?_; rintro e w3 ⟨rfl, hb3⟩)
    go_ret
    exact ⟨by first | rfl | simp, hbw.trans (hb3.mono hbw.size)⟩
  · have he : (wantH n).2 = 2004 := by unfold wantH; rw [if_neg (by omega), if_neg (by omega), if_neg (by omega), if_neg (by omega), if_neg (by omega)]
    have d24 : decide ((n : Int) < 24) = false := decide_eq_false (by omega)
    have d28 : decide ((n : Int) < 28) = false := decide_eq_false (by omega)
    have d48 : decide ((n : Int) < 48) = false := decide_eq_false (by omega)
    have d50 : decide ((n : Int) < 50) = false := decide_eq_false (by omega)
    rw [he] at HC
    clear hW he h
    generalize (wantH n).1 = x at *
    go_wp2_with (go_at_call 25; refine (HC.out _).mono ?_; rintro e w3 ⟨rfl, hb3⟩)
    go_ret
    exact ⟨by first | rfl | simp, hbw.trans (hb3.mono hbw.size)⟩
end Go.Proofs.YtafkfamfhagokaaGreatDoor.S

