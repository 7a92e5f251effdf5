/-
  THE WALK of the law ContextForms (chapter 20).
-/
import Derived.Test.YtafkfamfhagokaaGreatDoorUse20
import Derived.Test.YtafkfamfhagokaaGreatDoorForm20
import Derived.Test.YtafkfamfhagokaaGreatDoorPlainM
set_option linter.unusedVariables false
set_option linter.unusedSimpArgs false
namespace Go.Proofs.YtafkfamfhagokaaGreatDoor.S
open Go.RowKit

theorem mask31f (c : Int) : ∃ n : Nat, n ≤ 31 ∧ bits .and .i64 c 31 = (n : Int) :=
  ⟨(c % 32).toNat, by omega, (i64_mask 5 (by decide) c).trans (by show c % 32 = _; omega)⟩
theorem zeros_made20 (n : Nat) : (madeCells (Value.int .u8 0).cells (n * 1)).toList = Lib.byteCells (List.replicate n 0) := by
  apply List.ext_getElem
  · simp [madeCells, Lib.byteCells]
  · intro i h1 h2
    simp [madeCells, Lib.byteCells, Value.cells, Nat.mod_one]
theorem bytes_zeros20 {base : Nat} {v : Value} {w : World} (n : Nat) (h : w.ownsRow base 5 1 v n (madeCells (Value.int .u8 0).cells (n * 1)).toList) : Bytes base v (List.replicate n 0) w := by
  unfold Bytes
  rw [List.length_replicate, ← zeros_made20]
  exact h
set_option maxRecDepth 100000 in
set_option maxHeartbeats 4000000 in
theorem num20_calls (x : Int) (w : World) : Calls Tryz.prog 27 #[.int .i64 x] w fun e w' => e = .returned (lfV 2 x ⟨#[]⟩) ∧ Below w.heap.size w w' := by
  go_enter Tryz.func27, Tryz.ntmps27
  go_upto_region 1 with (fail)
  refine wp_at_world ?_
  intro w0 hw0
  have hB : Blk w.heap.size 30 [.int .i64 0, .int .i64 0, .int .u64 0, .string ⟨#[]⟩, .slice none 0 0, .slice none 0 0] w0 := by rw [hw0]; exact Blk.new w [.int .i64 0, .int .i64 0, .int .u64 0, .string ⟨#[]⟩, .slice none 0 0, .slice none 0 0] _
  have hb0 : Below w.heap.size w w0 := by rw [hw0]; exact (Below.refl _ w).alloc (Nat.le_refl _) _
  clear hw0
  have d0 := hB.cell 0 _ rfl
  have f0 := hB.free 0
  have d1 := hB.cell 1 _ rfl
  have f1 := hB.free 1
  have d2 := hB.cell 2 _ rfl
  have f2 := hB.free 2
  have d3 := hB.cell 3 _ rfl
  have f3 := hB.free 3
  have d4 := hB.cell 4 _ rfl
  have f4 := hB.free 4
  have d5 := hB.cell 5 _ rfl
  have f5 := hB.free 5
  go_wp2
  exact bodyPost_ret (v := lfV 2 x ⟨#[]⟩) (by simp [results, Tryz.results27, go_sem, d0, d1, d2, d3, d4, d5]) rfl ⟨rfl, below6 hb0 _ _ _ _ _ _⟩
set_option maxRecDepth 100000 in
set_option maxHeartbeats 16000000 in
theorem contextForms_calls (which x : Int) (w : World) (hE : Env w) :
    Calls Tryz.prog 9 #[.int .i64 which, .int .i64 x] w fun e w' => e = .returned (.bool true) ∧ Below w.heap.size w w' := by
  obtain ⟨n31, hn31, hx31⟩ := mask31f x
  obtain ⟨m, hm⟩ : ∃ m : Nat, (1 : Int) + (n31 : Int) = (m : Int) := ⟨1 + n31, by omega⟩
  have hm1 : 1 ≤ m := by omega
  have hm2 : m ≤ 32 := by omega
  have hmi0 : 0 ≤ (m : Int) := by omega
  have hmi1 : (m : Int) ≤ 32 := by omega
  go_enter Tryz.func9, Tryz.ntmps9
  go_upto_region 3 with (go_at_call 21; refine (awake20_calls _ hE).mono ?_; rintro e w1 ⟨rfl, hb1⟩)
  have hbw := hb1
  clear hb1
  have HA := Lib.hid (fun W => at_ok (s := ⟨#[60, 97, 32, 104, 114, 101, 102, 61, 39, 120]⟩) (l := hrP ++ [39, 120]) (by show _ = _; rfl) (by decide) form_at W)
  go_upto_region 5 with (go_at_call 22; refine (HA.out _).mono ?_; rintro e wa ⟨rfl, hbwa⟩)
  refine wp_at_world ?_
  intro va hww
  have hB : Blk wa.heap.size 25 (cxCells (hrC 39 1)) va := by rw [hww]; exact Blk.new wa (cxCells (hrC 39 1)) _
  have hbb : Below wa.heap.size wa va := by rw [hww]; exact (Below.refl _ wa).alloc (Nat.le_refl _) _
  clear hww
  have hbw := hbw.trans (hbwa.mono hbw.size)
  have hg : w.heap.size ≤ wa.heap.size := hbw.size
  have hbw := hbw.trans (hbb.mono hbw.size)
  clear hbwa hbb HA
  generalize wa.heap.size = g at *
  obtain ⟨n, hn, hn13⟩ : ∃ n : Nat, (IntKind.u64.wrap which).tmod 14 = (n : Int) ∧ n ≤ 13 := by
    have h0 : 0 ≤ which % 18446744073709551616 := Int.emod_nonneg _ (by decide)
    refine ⟨((which % 18446744073709551616) % 14).toNat, ?_, by omega⟩
    rw [IntKind.wrap_u64, Int.tmod_eq_emod_of_nonneg h0]
    omega
  have HM := Lib.hid hm
  clear hm
  go_upto_block 0 with (fail)
  go_cut [] (fun wx => Blk g 25 (cxCells (formC n m)) wx ∧ Below w.heap.size w wx)
  case first =>
    have f0 := hB.free 0
    have c0 := hB.cell 0 _ rfl
    have f1 := hB.free 1
    have c1 := hB.cell 1 _ rfl
    have f2 := hB.free 2
    have c2 := hB.cell 2 _ rfl
    have f3 := hB.free 3
    have c3 := hB.cell 3 _ rfl
    have f4 := hB.free 4
    have c4 := hB.cell 4 _ rfl
    have f5 := hB.free 5
    have c5 := hB.cell 5 _ rfl
    have f6 := hB.free 6
    have c6 := hB.cell 6 _ rfl
    have f7 := hB.free 7
    have c7 := hB.cell 7 _ rfl
    have f8 := hB.free 8
    have c8 := hB.cell 8 _ rfl
    have f9 := hB.free 9
    have c9 := hB.cell 9 _ rfl
    have hr : n = 0 ∨ n = 1 ∨ n = 2 ∨ n = 3 ∨ n = 4 ∨ n = 5 ∨ n = 6 ∨ n = 7 ∨ n = 8 ∨ n = 9 ∨ n = 10 ∨ n = 11 ∨ n = 12 ∨ n = 13 := by omega
    clear hn13
    rcases hr with rfl | rfl | rfl | rfl | rfl | rfl | rfl | rfl | rfl | rfl | rfl | rfl | rfl | rfl
    · have hn : (IntKind.u64.wrap which).tmod 14 = 0 := hn
      go_wp2
      go_meet
      exact ⟨hB.set 0 _, hbw.setCell hg _⟩
    · have hn : (IntKind.u64.wrap which).tmod 14 = 1 := hn
      go_wp2
      go_meet
      exact ⟨hB.set 0 _, hbw.setCell hg _⟩
    · have hn : (IntKind.u64.wrap which).tmod 14 = 2 := hn
      go_wp2
      go_meet
      exact ⟨hB.set 4 _, hbw.setCell hg _⟩
    · have hn : (IntKind.u64.wrap which).tmod 14 = 3 := hn
      go_wp2
      go_meet
      exact ⟨hB.set 5 _, hbw.setCell hg _⟩
    · have hn : (IntKind.u64.wrap which).tmod 14 = 4 := hn
      obtain ⟨i0, hi, hz0, hz1, hz2⟩ := info_parts byteInfo
      obtain ⟨N, hN⟩ : ∃ N : Nat, N = 32 + m := ⟨_, rfl⟩
      have hNi : (32 : Int) + (m : Int) = (N : Int) := by omega
      have hNl : N ≤ 64 ∧ 32 ≤ N := by omega
      obtain ⟨w6, hmk, hown, hg6⟩ := run_make_full (P := Tryz.prog) va va.heap.size 59 5 i0 (.int .u8 0) 1 Tryz.underlying59 hi hz0 hz1 .i64 .i64 N (by rw [hz2]; omega) (by simp only [maxLen]; omega) (Nat.le_refl _)
      have hB6 := bytes_string (bytes_zeros20 N hown)
      have hb6 : Below w.heap.size w w6 := hbw.grown hg6 hbw.size (fun k hk => by cases hk)
      have hBx := hB.grown hg6 (by simp)
      have f0 := hBx.free 0
      have c0 := hBx.cell 0 _ rfl
      have f1 := hBx.free 1
      have c1 := hBx.cell 1 _ rfl
      have f2 := hBx.free 2
      have c2 := hBx.cell 2 _ rfl
      have f3 := hBx.free 3
      have c3 := hBx.cell 3 _ rfl
      have f4 := hBx.free 4
      have c4 := hBx.cell 4 _ rfl
      have f5 := hBx.free 5
      have c5 := hBx.cell 5 _ rfl
      have f6 := hBx.free 6
      have c6 := hBx.cell 6 _ rfl
      have f7 := hBx.free 7
      have c7 := hBx.cell 7 _ rfl
      have f8 := hBx.free 8
      have c8 := hBx.cell 8 _ rfl
      have f9 := hBx.free 9
      have c9 := hBx.cell 9 _ rfl
      have HB := Lib.hid hBx
      have HN := Lib.hid hN
      clear hB hBx hi hz0 hz1 hz2 hown hg6 hN
      go_wp2
      go_meet
      have hN := HN.out
      subst hN
      exact ⟨HB.out.set 1 _, hb6.setCell hg _⟩
    · have hn : (IntKind.u64.wrap which).tmod 14 = 5 := hn
      go_wp2
      go_meet
      exact ⟨hB.set 7 _, hbw.setCell hg _⟩
    · have hn : (IntKind.u64.wrap which).tmod 14 = 6 := hn
      go_wp2
      go_meet
      exact ⟨hB.set 8 _, hbw.setCell hg _⟩
    · have hn : (IntKind.u64.wrap which).tmod 14 = 7 := hn
      go_wp2
      go_meet
      exact ⟨hB.set 9 _, hbw.setCell hg _⟩
    · have hn : (IntKind.u64.wrap which).tmod 14 = 8 := hn
      go_wp2
      go_meet
      exact ⟨hB.set 3 _, hbw.setCell hg _⟩
    · have hn : (IntKind.u64.wrap which).tmod 14 = 9 := hn
      go_wp2
      go_meet
      exact ⟨hB.set 2 _, hbw.setCell hg _⟩
    · have hn : (IntKind.u64.wrap which).tmod 14 = 10 := hn
      go_wp2
      go_meet
      exact ⟨(((((((((hB.set 0 _).set 1 _).set 2 _).set 3 _).set 4 _).set 5 _).set 6 _).set 7 _).set 8 _).set 9 _, below10 hbw hg _ _ _ _ _ _ _ _ _ _⟩
    · have hn : (IntKind.u64.wrap which).tmod 14 = 11 := hn
      go_wp2
      go_meet
      exact ⟨(((((((((hB.set 0 _).set 1 _).set 2 _).set 3 _).set 4 _).set 5 _).set 6 _).set 7 _).set 8 _).set 9 _, below10 hbw hg _ _ _ _ _ _ _ _ _ _⟩
    · have hn : (IntKind.u64.wrap which).tmod 14 = 12 := hn
      go_wp2
      go_meet
      exact ⟨(((((((((hB.set 0 _).set 1 _).set 2 _).set 3 _).set 4 _).set 5 _).set 6 _).set 7 _).set 8 _).set 9 _, below10 hbw hg _ _ _ _ _ _ _ _ _ _⟩
    · have hn : (IntKind.u64.wrap which).tmod 14 = 13 := hn
      go_wp2
      go_meet
      exact ⟨(((((((((hB.set 0 _).set 1 _).set 2 _).set 3 _).set 4 _).set 5 _).set 6 _).set 7 _).set 8 _).set 9 _, below10 hbw hg _ _ _ _ _ _ _ _ _ _⟩
  case rest =>
  obtain ⟨hB, hbw⟩ := hcut
  have hmay := form_may n m hn13 hm1 hm2
  have hno := form_no n m hn13 hm1 hm2
  have HT := Lib.hid (fun W => text_form (d := formC n m) (s := ⟨#[120]⟩) (l := [120]) rfl (by decide) hno hmay W)
  have HH := Lib.hid (fun W => hole_form (d := formC n m) hno hmay W)
  have HG := Lib.hid (fun k n t W => cxEscape_big ((8 : Int) + (m : Int)) k n t W (by omega))
  have HL := Lib.hid (fun k n t W => cxEscape_neg (-(m : Int)) k n t W (by omega))
  have HI := Lib.hid (fun W => cxEscape_int ((9007199254740991 : Int) + (m : Int)) W (by omega))
  have heq := fun W => eq_cx cx0 W
  clear hmay hno hn hx31 HM
  generalize formC n m = d at *
  have e0 := hB.cell 0 _ rfl
  have e1 := hB.cell 1 _ rfl
  have e2 := hB.cell 2 _ rfl
  have e3 := hB.cell 3 _ rfl
  have e4 := hB.cell 4 _ rfl
  have e5 := hB.cell 5 _ rfl
  have e6 := hB.cell 6 _ rfl
  have e7 := hB.cell 7 _ rfl
  have e8 := hB.cell 8 _ rfl
  have e9 := hB.cell 9 _ rfl
  go_upto_region 36 with ((go_at_call 13; refine (HT.out _).mono ?_; rintro e wc ⟨rfl, hbwc⟩))
  refine wp_at_world ?_
  intro vc hww
  have hBvc : Blk wc.heap.size 25 (cxCells cx0) vc := by rw [hww]; exact Blk.new wc (cxCells cx0) _
  have hbbvc : Below wc.heap.size wc vc := by rw [hww]; exact (Below.refl _ wc).alloc (Nat.le_refl _) _
  clear hww
  have hB := (hB.below hbwc).below hbbvc
  have hbw := hbw.trans (hbwc.mono hbw.size)
  have hbw := hbw.trans (hbbvc.mono hbw.size)
  clear hbwc hbbvc
  generalize wc.heap.size = gvc at *
  have e0 := hB.cell 0 _ rfl
  have e1 := hB.cell 1 _ rfl
  have e2 := hB.cell 2 _ rfl
  have e3 := hB.cell 3 _ rfl
  have e4 := hB.cell 4 _ rfl
  have e5 := hB.cell 5 _ rfl
  have e6 := hB.cell 6 _ rfl
  have e7 := hB.cell 7 _ rfl
  have e8 := hB.cell 8 _ rfl
  have e9 := hB.cell 9 _ rfl
  go_upto_region 37 with ((go_at_call 15; refine (HH.out _).mono ?_; rintro e wd ⟨rfl, hbwd⟩))
  refine wp_at_world ?_
  intro vd hww
  have hBvd : Blk wd.heap.size 25 (cxCells cx0) vd := by rw [hww]; exact Blk.new wd (cxCells cx0) _
  have hbbvd : Below wd.heap.size wd vd := by rw [hww]; exact (Below.refl _ wd).alloc (Nat.le_refl _) _
  clear hww
  have hBvc := (hBvc.below hbwd).below hbbvd
  have hbw := hbw.trans (hbwd.mono hbw.size)
  have hbw := hbw.trans (hbbvd.mono hbw.size)
  clear hbwd hbbvd
  generalize wd.heap.size = gvd at *
  go_upto_region 38 with (first | (go_at_call 26; refine (text20_calls _ _).mono ?_; rintro e x1 ⟨rfl, hbx1⟩) | (go_at_call 17; refine (HG.out _ _ _ _).mono ?_; rintro e y1 ⟨rfl, hby1⟩))
  have hBvc := (hBvc.below hbx1).below hby1
  have hBvd := (hBvd.below hbx1).below hby1
  have hbw := hbw.trans (hbx1.mono hbw.size)
  have hbw := hbw.trans (hby1.mono hbw.size)
  clear hbx1 hby1
  go_upto_region 39 with (first | (go_at_call 26; refine (text20_calls _ _).mono ?_; rintro e x2 ⟨rfl, hbx2⟩) | (go_at_call 17; refine (HL.out _ _ _ _).mono ?_; rintro e y2 ⟨rfl, hby2⟩))
  have hBvc := (hBvc.below hbx2).below hby2
  have hBvd := (hBvd.below hbx2).below hby2
  have hbw := hbw.trans (hbx2.mono hbw.size)
  have hbw := hbw.trans (hby2.mono hbw.size)
  clear hbx2 hby2
  go_upto_region 40 with (first | (go_at_call 27; refine (num20_calls _ _).mono ?_; rintro e x3 ⟨rfl, hbx3⟩) | (go_at_call 17; refine (HI.out _).mono ?_; rintro e y3 ⟨rfl, hby3⟩))
  have hBvc := (hBvc.below hbx3).below hby3
  have hBvd := (hBvd.below hbx3).below hby3
  have hbw := hbw.trans (hbx3.mono hbw.size)
  have hbw := hbw.trans (hby3.mono hbw.size)
  clear hbx3 hby3
  have y0 := hBvc.cell 0 _ rfl
  have y1 := hBvc.cell 1 _ rfl
  have y2 := hBvc.cell 2 _ rfl
  have y3 := hBvc.cell 3 _ rfl
  have y4 := hBvc.cell 4 _ rfl
  have y5 := hBvc.cell 5 _ rfl
  have y6 := hBvc.cell 6 _ rfl
  have y7 := hBvc.cell 7 _ rfl
  have y8 := hBvc.cell 8 _ rfl
  have y9 := hBvc.cell 9 _ rfl
  have z0 := hBvd.cell 0 _ rfl
  have z1 := hBvd.cell 1 _ rfl
  have z2 := hBvd.cell 2 _ rfl
  have z3 := hBvd.cell 3 _ rfl
  have z4 := hBvd.cell 4 _ rfl
  have z5 := hBvd.cell 5 _ rfl
  have z6 := hBvd.cell 6 _ rfl
  have z7 := hBvd.cell 7 _ rfl
  have z8 := hBvd.cell 8 _ rfl
  have z9 := hBvd.cell 9 _ rfl
  go_wp2_with (go_at_call 19; go_in)
  go_ret
  exact ⟨rfl, hbw⟩
end Go.Proofs.YtafkfamfhagokaaGreatDoor.S
