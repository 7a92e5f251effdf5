/-
  THE WALKS of package json: Put at a text; ctx: jsoned.
-/
import Derived.Test.YtafkfamfhagokaaGreatDoorEscW2
set_option linter.unusedVariables false
set_option linter.unusedSimpArgs false
namespace Go.Proofs.YtafkfamfhagokaaGreatDoor.S
open Go.RowKit

theorem wrap_join (b : UInt8) (r : ByteArray) (h : r.size ≤ 100000) : (∀ W, (Op.stringOp .add ⟨#[b]⟩ r).run Tryz.prog W = .ok (.string (⟨#[b]⟩ ++ r)) W) ∧ (∀ W, (Op.stringOp .add (⟨#[b]⟩ ++ r) ⟨#[b]⟩).run Tryz.prog W = .ok (.string (⟨#[b]⟩ ++ r ++ ⟨#[b]⟩)) W) ∧ (⟨#[b]⟩ ++ r ++ ⟨#[b]⟩ : ByteArray).size = r.size + 2 ∧ (⟨#[b]⟩ ++ r ++ ⟨#[b]⟩ : ByteArray).data.toList = [b] ++ r.data.toList ++ [b] := by
  have h1 : (⟨#[b]⟩ : ByteArray).size = 1 := rfl
  have h2 : (⟨#[b]⟩ ++ r : ByteArray).size = r.size + 1 := by rw [ByteArray.size_append, h1]; omega
  refine ⟨fun W => run_string_add_sum W _ _ (by omega), fun W => run_string_add_sum W _ _ (by omega), by rw [ByteArray.size_append, h2, h1], by simp [ByteArray.data_append]⟩
set_option maxRecDepth 100000 in
set_option maxHeartbeats 2000000 in
theorem jwText_calls (base g : Nat) (s : ByteArray) (w : World) (hE : Env w) (hs : s.size ≤ 65536) (hq : (escapeL s.data.toList).length ≤ 1000) (h : WrAt base g [] w) (hb : base ≤ w.heap.size) :
    Calls Tryz.prog 201 #[.pointer (some ⟨g, 0, none⟩), .string s] w fun e w' => e = .returned (.tuple #[]) ∧ WrAt base g ([34] ++ escapeL s.data.toList ++ [34]) w' ∧ Below base w w' := by
  have HQ := Lib.hid hq
  have HW := Lib.hid h
  clear hq h
  have HX := Lib.hid (escape_calls' s w hE (by omega))
  go_enter Tryz.func201, Tryz.ntmps201
  go_wp2_with (first | (go_at_call 42; refine HX.out.mono ?_; rintro e w1 ⟨r, rfl, hr, hb1⟩; have hrs : r.size ≤ 1000 := (by rw [hr.size]; exact HQ.out); obtain ⟨j1, j2, j3, j4⟩ := wrap_join 34 r (by omega); have HJ := Lib.hid j4; have HRR := Lib.hid hr; clear j4 hr; have HW1 := Lib.hid (HW.out.below hb1)) | (go_at_call 199; refine (jwAdd_calls base g [] _ _ HW1.out (by simp only [List.length_nil]; omega)).mono ?_; rintro e w2 ⟨rfl, hw2, hb2⟩))
  go_end0
  refine ⟨rfl, ?_, (hb1.mono hb).trans hb2⟩
  rw [List.nil_append, HJ.out] at hw2
  have hr := HRR.out
  unfold StrIs at hr
  rw [hr] at hw2
  exact hw2
set_option maxRecDepth 100000 in
set_option maxHeartbeats 2000000 in
theorem jwValue_calls (base g m : Nat) (s : ByteArray) (w : World) (hE : Env w) (hs : s.size ≤ 65536) (hq : (escapeL s.data.toList).length ≤ 1000) (h : WrAt base g [] w) (hb : base ≤ w.heap.size) (hL : LfAt m 4 0 s w) :
    Calls Tryz.prog 160 #[.pointer (some ⟨g, 0, none⟩), .pointer (some ⟨m, 0, none⟩)] w fun e w' => e = .returned (.tuple #[]) ∧ WrAt base g ([34] ++ escapeL s.data.toList ++ [34]) w' ∧ Below base w w' := by
  have HC := Lib.hid (jwText_calls base g s w hE hs hq h hb)
  obtain ⟨l0, l1, l2, l3, l4, l5⟩ := hL
  clear hq h
  go_enter Tryz.func160, Tryz.ntmps160
  go_wp2_with (go_at_call 201; refine HC.out.mono ?_; rintro e w2 ⟨rfl, hw2, hb2⟩)
  go_end0
  exact ⟨rfl, hw2, hb2⟩
set_option maxRecDepth 100000 in
set_option maxHeartbeats 2000000 in
theorem jwFull_calls (base g : Nat) (l : List UInt8) (w : World) (h : WrAt base g l w) (hl : l.length ≤ 65536) :
    Calls Tryz.prog 161 #[.pointer (some ⟨g, 0, none⟩)] w fun e w' => e = .returned (.bool false) ∧ w = w' := by
  obtain ⟨-, v, hB, hv⟩ := h
  obtain ⟨va, vc, rfl, -⟩ := own_slice hv
  have c0 := hB.cell 0 _ rfl
  have g1 : decide ((65536 : Int) < (l.length : Int)) = false := decide_eq_false (by omega)
  go_enter Tryz.func161, Tryz.ntmps161
  go_wp2
  go_ret
  exact ⟨rfl, rfl⟩
set_option maxRecDepth 100000 in
set_option maxHeartbeats 4000000 in
theorem jPut_txt (s : ByteArray) (w : World) (hE : Env w) (hs : s.size ≤ 65536) (hq : (escapeL s.data.toList).length ≤ 1000) :
    Calls Tryz.prog 94 #[lfV 4 0 s] w fun e w' => ∃ r : ByteArray, e = .returned (.tuple #[.string r, .int .i64 0]) ∧ StrIs r ([34] ++ escapeL s.data.toList ++ [34]) ∧ Below w.heap.size w w' := by
  have HQ := Lib.hid hq
  clear hq
  have HM := Lib.hid (fun W => vMay_txt s hs W)
  have b1 := (Below.refl w.heap.size w).alloc (Nat.le_refl _) (.cells #[.int .i64 4, .int .i64 0, .int .u64 0, .string s, .slice none 0 0, .slice none 0 0] 30)
  have h1 : LfAt w.heap.size 4 0 s (w.alloc (.cells #[.int .i64 4, .int .i64 0, .int .u64 0, .string s, .slice none 0 0, .slice none 0 0] 30)) := lf_of (Blk.new w [.int .i64 4, .int .i64 0, .int .u64 0, .string s, .slice none 0 0, .slice none 0 0] 30)
  go_enter Tryz.func94, Tryz.ntmps94
  go_upto_region 1 with (fail)
  generalize w.alloc (.cells #[.int .i64 4, .int .i64 0, .int .u64 0, .string s, .slice none 0 0, .slice none 0 0] 30) = w0 at *
  have HL0 := Lib.hid h1
  obtain ⟨l0, l1, l2, l3, l4, l5⟩ := h1
  go_upto_region 4 with (go_at_call 44; refine (HM.out _).mono ?_; rintro e w1 ⟨rfl, hb1⟩)
  clear l0 l1 l2 l3 l4 l5 HM
  refine wp_at_world ?_
  intro w2 hw2
  have hB2 : Blk w1.heap.size 142 [.slice none 0 0] w2 := by rw [hw2]; exact Blk.new w1 [.slice none 0 0] 142
  have hba : Below w1.heap.size w1 w2 := by rw [hw2]; exact (Below.refl _ w1).alloc (Nat.le_refl _) _
  clear hw2
  have hz0 := b1.size
  have hz1 := hb1.size
  have hWr : WrAt w1.heap.size w1.heap.size [] w2 := ⟨Nat.le_refl _, _, hB2, own_nil _ _ _ _⟩
  have hbw : Below w.heap.size w w2 := (b1.trans (hb1.mono hz0)).trans (hba.mono (by omega))
  have hL2 := (HL0.out.below hb1).below hba
  have HV := Lib.hid (jwValue_calls w1.heap.size w1.heap.size w.heap.size s w2 (hE.below hbw) hs HQ.out hWr hba.size hL2)
  have hzz := hba.size
  clear hWr hL2 hB2 hba HL0
  generalize w1.heap.size = g at *
  go_upto_region 5 with (go_at_call 160; refine HV.out.mono ?_; rintro e w3 ⟨rfl, hw3, hb3⟩)
  have HF := Lib.hid (jwFull_calls g g _ w3 hw3 (by have := HQ.out; simp; omega))
  obtain ⟨-, v, hB3, hv3⟩ := hw3
  have hcv := bytes_string hv3
  obtain ⟨va, vc, rfl, -⟩ := own_slice hv3
  have c0 := hB3.cell 0 _ rfl
  generalize hPP : [34] ++ escapeL s.data.toList ++ [34] = pp at *
  have HPP := Lib.hid hPP
  clear hPP
  go_wp2_with (go_at_call 161; refine HF.out.mono ?_; rintro e w4 ⟨rfl, rfl⟩)
  go_ret2
  exact ⟨_, rfl, by have h := HPP.out; rw [← h]; rfl, hbw.trans (hb3.mono (by omega))⟩
set_option maxRecDepth 100000 in
set_option maxHeartbeats 2000000 in
theorem cxJsoned_txt (m : Nat) (s : ByteArray) (w : World) (hE : Env w) (hs : s.size ≤ 65536) (hq : (escapeL s.data.toList).length ≤ 1000) (hL : LfAt m 4 0 s w) :
    Calls Tryz.prog 41 #[.pointer (some ⟨m, 0, none⟩)] w fun e w' => ∃ r : ByteArray, e = .returned (.tuple #[.string r, .int .i64 0]) ∧ StrIs r ([32] ++ ([34] ++ escapeL s.data.toList ++ [34]) ++ [32]) ∧ Below w.heap.size w w' := by
  have HQ := Lib.hid hq
  have HP := Lib.hid (jPut_txt s w hE hs hq)
  obtain ⟨l0, l1, l2, l3, l4, l5⟩ := hL
  clear hq
  go_enter Tryz.func41, Tryz.ntmps41
  go_wp2_with (go_at_call 94; refine HP.out.mono ?_; rintro e w1 ⟨r, rfl, hr, hb1⟩; have hrs : r.size ≤ 1002 := (by rw [hr.size]; have := HQ.out; simp; omega); obtain ⟨j1, j2, -, j4⟩ := wrap_join 32 r (by omega); have HJ := Lib.hid j4; have HRR := Lib.hid hr; clear j4 hr)
  go_ret2
  refine ⟨_, rfl, ?_, hb1⟩
  have hr := HRR.out
  unfold StrIs at *
  rw [HJ.out, hr]
  first | rfl | simp
end Go.Proofs.YtafkfamfhagokaaGreatDoor.S
