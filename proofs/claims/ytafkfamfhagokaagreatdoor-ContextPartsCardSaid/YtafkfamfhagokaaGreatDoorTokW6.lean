/-
  THE WALKS of package tok (states): values, comments, elements that are held.
-/
import Derived.Test.YtafkfamfhagokaaGreatDoorTokW5
set_option linter.unusedVariables false
set_option linter.unusedSimpArgs false
namespace Go.Proofs.YtafkfamfhagokaaGreatDoor.S
open Go.RowKit

set_option maxRecDepth 100000 in
set_option maxHeartbeats 600000 in
theorem tkBeforeValue_calls (b : Nat) (s : Sx) (c : Nat) (w : World) (hS : StAt b s w) (hc : c < 256) : Calls Tryz.prog 124 #[.pointer (some ⟨b, 0, none⟩), .int .u8 c] w (TkPost (beforeValueX s c) w) := by
  obtain ⟨R, hR⟩ : ∃ R, R = beforeValueX s c := ⟨_, rfl⟩
  rw [← hR]
  have hlt := hS.lt
  have hne : w.heap.size ≠ b := by omega
  have hBL := fun W => tkBlank_calls c W hc
  cases h0 : blankB c with
  | true =>
    rw [h0] at hBL
    obtain rfl : R = attrX s 7 s.attr := by rw [hR]; unfold beforeValueX; rw [if_pos h0]
    clear hR h0
    go_enter Tryz.func124, Tryz.ntmps124
    go_upto_region 1 with (fail)
    have hB0 : Blk w.heap.size 23 stZ (w.alloc (.cells #[.int .i64 0, .string ⟨#[]⟩, .bool false, .string ⟨#[]⟩, .string ⟨#[]⟩, .int .i64 0] 23)) := Blk.new w _ _
    have hb0 := (Below.refl w.heap.size w).alloc (Nat.le_refl _) (.cells #[.int .i64 0, .string ⟨#[]⟩, .bool false, .string ⟨#[]⟩, .string ⟨#[]⟩, .int .i64 0] 23)
    have hz0 : w.heap.size ≤ (w.alloc (.cells #[.int .i64 0, .string ⟨#[]⟩, .bool false, .string ⟨#[]⟩, .string ⟨#[]⟩, .int .i64 0] 23)).heap.size := hb0.size
    generalize w.alloc (.cells #[.int .i64 0, .string ⟨#[]⟩, .bool false, .string ⟨#[]⟩, .string ⟨#[]⟩, .int .i64 0] 23) = w0 at *
    obtain ⟨s0, s1, s2, s3, s4, s5⟩ := hS.below hb0
    have hC := fun W (h : Below w0.heap.size w0 W) => attrX_calls b s 7 s.attr W ((hS.below hb0).below h)
    generalize (attrX s 7 s.attr : Sx) = X at *
    have HC := Lib.hid hC
    clear hC
    go_wp2_with (first | (go_at_call 181; refine (hBL _).mono ?_; rintro e w1 ⟨rfl, rfl⟩) | (go_at_call 172; refine (HC.out _ (Below.refl _ _)).mono ?_; rintro e w1 ⟨rfl, hb⟩; have hb1 := hb0.trans (hb.mono hz0); have hB1 := hB0.below hb; have d0 := hB1.cell 0 _ rfl; have f0 := hB1.free 0; have d1 := hB1.cell 1 _ rfl; have f1 := hB1.free 1; have d2 := hB1.cell 2 _ rfl; have f2 := hB1.free 2; have d3 := hB1.cell 3 _ rfl; have f3 := hB1.free 3; have d4 := hB1.cell 4 _ rfl; have f4 := hB1.free 4; have d5 := hB1.cell 5 _ rfl; have f5 := hB1.free 5))
    exact bodyPost_ret (v := stV X) (by simp [results, Tryz.results124, go_sem, d0, d1, d2, d3, d4, d5]) rfl ⟨rfl, below6 hb1 _ _ _ _ _ _⟩
  | false =>
  rw [h0] at hBL
  by_cases h1 : c = 34
  · have t34 : ((c : Int) == 34) = true := beq_iff_eq.2 (by omega)
    obtain rfl : R = attrX s 8 s.attr := by rw [hR]; unfold beforeValueX; rw [if_neg (by rw [h0]; decide)]; rw [if_pos h1]
    clear hR h0 h1
    go_enter Tryz.func124, Tryz.ntmps124
    go_upto_region 1 with (fail)
    have hB0 : Blk w.heap.size 23 stZ (w.alloc (.cells #[.int .i64 0, .string ⟨#[]⟩, .bool false, .string ⟨#[]⟩, .string ⟨#[]⟩, .int .i64 0] 23)) := Blk.new w _ _
    have hb0 := (Below.refl w.heap.size w).alloc (Nat.le_refl _) (.cells #[.int .i64 0, .string ⟨#[]⟩, .bool false, .string ⟨#[]⟩, .string ⟨#[]⟩, .int .i64 0] 23)
    have hz0 : w.heap.size ≤ (w.alloc (.cells #[.int .i64 0, .string ⟨#[]⟩, .bool false, .string ⟨#[]⟩, .string ⟨#[]⟩, .int .i64 0] 23)).heap.size := hb0.size
    generalize w.alloc (.cells #[.int .i64 0, .string ⟨#[]⟩, .bool false, .string ⟨#[]⟩, .string ⟨#[]⟩, .int .i64 0] 23) = w0 at *
    obtain ⟨s0, s1, s2, s3, s4, s5⟩ := hS.below hb0
    have hC := fun W (h : Below w0.heap.size w0 W) => attrX_calls b s 8 s.attr W ((hS.below hb0).below h)
    generalize (attrX s 8 s.attr : Sx) = X at *
    have HC := Lib.hid hC
    clear hC
    go_wp2_with (first | (go_at_call 181; refine (hBL _).mono ?_; rintro e w1 ⟨rfl, rfl⟩) | (go_at_call 172; refine (HC.out _ (Below.refl _ _)).mono ?_; rintro e w1 ⟨rfl, hb⟩; have hb1 := hb0.trans (hb.mono hz0); have hB1 := hB0.below hb; have d0 := hB1.cell 0 _ rfl; have f0 := hB1.free 0; have d1 := hB1.cell 1 _ rfl; have f1 := hB1.free 1; have d2 := hB1.cell 2 _ rfl; have f2 := hB1.free 2; have d3 := hB1.cell 3 _ rfl; have f3 := hB1.free 3; have d4 := hB1.cell 4 _ rfl; have f4 := hB1.free 4; have d5 := hB1.cell 5 _ rfl; have f5 := hB1.free 5))
    exact bodyPost_ret (v := stV X) (by simp [results, Tryz.results124, go_sem, d0, d1, d2, d3, d4, d5]) rfl ⟨rfl, below6 hb1 _ _ _ _ _ _⟩
  have t34 : ((c : Int) == 34) = false := beq_eq_false_iff_ne.2 (by omega)
  by_cases h2 : c = 39
  · have t39 : ((c : Int) == 39) = true := beq_iff_eq.2 (by omega)
    obtain rfl : R = attrX s 9 s.attr := by rw [hR]; unfold beforeValueX; rw [if_neg (by rw [h0]; decide)]; rw [if_neg (h1)]; rw [if_pos h2]
    clear hR h0 h1 h2
    go_enter Tryz.func124, Tryz.ntmps124
    go_upto_region 1 with (fail)
    have hB0 : Blk w.heap.size 23 stZ (w.alloc (.cells #[.int .i64 0, .string ⟨#[]⟩, .bool false, .string ⟨#[]⟩, .string ⟨#[]⟩, .int .i64 0] 23)) := Blk.new w _ _
    have hb0 := (Below.refl w.heap.size w).alloc (Nat.le_refl _) (.cells #[.int .i64 0, .string ⟨#[]⟩, .bool false, .string ⟨#[]⟩, .string ⟨#[]⟩, .int .i64 0] 23)
    have hz0 : w.heap.size ≤ (w.alloc (.cells #[.int .i64 0, .string ⟨#[]⟩, .bool false, .string ⟨#[]⟩, .string ⟨#[]⟩, .int .i64 0] 23)).heap.size := hb0.size
    generalize w.alloc (.cells #[.int .i64 0, .string ⟨#[]⟩, .bool false, .string ⟨#[]⟩, .string ⟨#[]⟩, .int .i64 0] 23) = w0 at *
    obtain ⟨s0, s1, s2, s3, s4, s5⟩ := hS.below hb0
    have hC := fun W (h : Below w0.heap.size w0 W) => attrX_calls b s 9 s.attr W ((hS.below hb0).below h)
    generalize (attrX s 9 s.attr : Sx) = X at *
    have HC := Lib.hid hC
    clear hC
    go_wp2_with (first | (go_at_call 181; refine (hBL _).mono ?_; rintro e w1 ⟨rfl, rfl⟩) | (go_at_call 172; refine (HC.out _ (Below.refl _ _)).mono ?_; rintro e w1 ⟨rfl, hb⟩; have hb1 := hb0.trans (hb.mono hz0); have hB1 := hB0.below hb; have d0 := hB1.cell 0 _ rfl; have f0 := hB1.free 0; have d1 := hB1.cell 1 _ rfl; have f1 := hB1.free 1; have d2 := hB1.cell 2 _ rfl; have f2 := hB1.free 2; have d3 := hB1.cell 3 _ rfl; have f3 := hB1.free 3; have d4 := hB1.cell 4 _ rfl; have f4 := hB1.free 4; have d5 := hB1.cell 5 _ rfl; have f5 := hB1.free 5))
    exact bodyPost_ret (v := stV X) (by simp [results, Tryz.results124, go_sem, d0, d1, d2, d3, d4, d5]) rfl ⟨rfl, below6 hb1 _ _ _ _ _ _⟩
  have t39 : ((c : Int) == 39) = false := beq_eq_false_iff_ne.2 (by omega)
  by_cases h3 : c = 62
  · have t62 : ((c : Int) == 62) = true := beq_iff_eq.2 (by omega)
    obtain rfl : R = closesX s := by rw [hR]; unfold beforeValueX; rw [if_neg (by rw [h0]; decide)]; rw [if_neg (h1)]; rw [if_neg (h2)]; rw [if_pos h3]
    clear hR h0 h1 h2 h3
    go_enter Tryz.func124, Tryz.ntmps124
    go_upto_region 1 with (fail)
    have hB0 : Blk w.heap.size 23 stZ (w.alloc (.cells #[.int .i64 0, .string ⟨#[]⟩, .bool false, .string ⟨#[]⟩, .string ⟨#[]⟩, .int .i64 0] 23)) := Blk.new w _ _
    have hb0 := (Below.refl w.heap.size w).alloc (Nat.le_refl _) (.cells #[.int .i64 0, .string ⟨#[]⟩, .bool false, .string ⟨#[]⟩, .string ⟨#[]⟩, .int .i64 0] 23)
    have hz0 : w.heap.size ≤ (w.alloc (.cells #[.int .i64 0, .string ⟨#[]⟩, .bool false, .string ⟨#[]⟩, .string ⟨#[]⟩, .int .i64 0] 23)).heap.size := hb0.size
    generalize w.alloc (.cells #[.int .i64 0, .string ⟨#[]⟩, .bool false, .string ⟨#[]⟩, .string ⟨#[]⟩, .int .i64 0] 23) = w0 at *
    obtain ⟨s0, s1, s2, s3, s4, s5⟩ := hS.below hb0
    have hC := fun W (h : Below w0.heap.size w0 W) => tkCloses_calls b s W ((hS.below hb0).below h)
    generalize (closesX s : Sx) = X at *
    have HC := Lib.hid hC
    clear hC
    go_wp2_with (first | (go_at_call 181; refine (hBL _).mono ?_; rintro e w1 ⟨rfl, rfl⟩) | (go_at_call 182; refine (HC.out _ (Below.refl _ _)).mono ?_; rintro e w1 ⟨rfl, hb⟩; have hb1 := hb0.trans (hb.mono hz0); have hB1 := hB0.below hb; have d0 := hB1.cell 0 _ rfl; have f0 := hB1.free 0; have d1 := hB1.cell 1 _ rfl; have f1 := hB1.free 1; have d2 := hB1.cell 2 _ rfl; have f2 := hB1.free 2; have d3 := hB1.cell 3 _ rfl; have f3 := hB1.free 3; have d4 := hB1.cell 4 _ rfl; have f4 := hB1.free 4; have d5 := hB1.cell 5 _ rfl; have f5 := hB1.free 5))
    exact bodyPost_ret (v := stV X) (by simp [results, Tryz.results124, go_sem, d0, d1, d2, d3, d4, d5]) rfl ⟨rfl, below6 hb1 _ _ _ _ _ _⟩
  have t62 : ((c : Int) == 62) = false := beq_eq_false_iff_ne.2 (by omega)
  obtain rfl : R = attrX s 10 s.attr := by rw [hR]; unfold beforeValueX; rw [if_neg (by rw [h0]; decide)]; rw [if_neg (h1)]; rw [if_neg (h2)]; rw [if_neg (h3)]
  clear hR h0 h1 h2 h3
  go_enter Tryz.func124, Tryz.ntmps124
  go_upto_region 1 with (fail)
  have hB0 : Blk w.heap.size 23 stZ (w.alloc (.cells #[.int .i64 0, .string ⟨#[]⟩, .bool false, .string ⟨#[]⟩, .string ⟨#[]⟩, .int .i64 0] 23)) := Blk.new w _ _
  have hb0 := (Below.refl w.heap.size w).alloc (Nat.le_refl _) (.cells #[.int .i64 0, .string ⟨#[]⟩, .bool false, .string ⟨#[]⟩, .string ⟨#[]⟩, .int .i64 0] 23)
  have hz0 : w.heap.size ≤ (w.alloc (.cells #[.int .i64 0, .string ⟨#[]⟩, .bool false, .string ⟨#[]⟩, .string ⟨#[]⟩, .int .i64 0] 23)).heap.size := hb0.size
  generalize w.alloc (.cells #[.int .i64 0, .string ⟨#[]⟩, .bool false, .string ⟨#[]⟩, .string ⟨#[]⟩, .int .i64 0] 23) = w0 at *
  obtain ⟨s0, s1, s2, s3, s4, s5⟩ := hS.below hb0
  have hC := fun W (h : Below w0.heap.size w0 W) => attrX_calls b s 10 s.attr W ((hS.below hb0).below h)
  generalize (attrX s 10 s.attr : Sx) = X at *
  have HC := Lib.hid hC
  clear hC
  go_wp2_with (first | (go_at_call 181; refine (hBL _).mono ?_; rintro e w1 ⟨rfl, rfl⟩) | (go_at_call 172; refine (HC.out _ (Below.refl _ _)).mono ?_; rintro e w1 ⟨rfl, hb⟩; have hb1 := hb0.trans (hb.mono hz0); have hB1 := hB0.below hb; have d0 := hB1.cell 0 _ rfl; have f0 := hB1.free 0; have d1 := hB1.cell 1 _ rfl; have f1 := hB1.free 1; have d2 := hB1.cell 2 _ rfl; have f2 := hB1.free 2; have d3 := hB1.cell 3 _ rfl; have f3 := hB1.free 3; have d4 := hB1.cell 4 _ rfl; have f4 := hB1.free 4; have d5 := hB1.cell 5 _ rfl; have f5 := hB1.free 5))
  exact bodyPost_ret (v := stV X) (by simp [results, Tryz.results124, go_sem, d0, d1, d2, d3, d4, d5]) rfl ⟨rfl, below6 hb1 _ _ _ _ _ _⟩
set_option maxRecDepth 100000 in
set_option maxHeartbeats 600000 in
theorem tkBare_calls (b : Nat) (s : Sx) (c : Nat) (w : World) (hS : StAt b s w) (hc : c < 256) : Calls Tryz.prog 127 #[.pointer (some ⟨b, 0, none⟩), .int .u8 c] w (TkPost (bareX s c) w) := by
  obtain ⟨R, hR⟩ : ∃ R, R = bareX s c := ⟨_, rfl⟩
  rw [← hR]
  have hlt := hS.lt
  have hne : w.heap.size ≠ b := by omega
  have hBL := fun W => tkBlank_calls c W hc
  cases h0 : blankB c with
  | true =>
    rw [h0] at hBL
    obtain rfl : R = inX s 4 := by rw [hR]; unfold bareX; rw [if_pos h0]
    clear hR h0
    go_enter Tryz.func127, Tryz.ntmps127
    go_upto_region 1 with (fail)
    have hB0 : Blk w.heap.size 23 stZ (w.alloc (.cells #[.int .i64 0, .string ⟨#[]⟩, .bool false, .string ⟨#[]⟩, .string ⟨#[]⟩, .int .i64 0] 23)) := Blk.new w _ _
    have hb0 := (Below.refl w.heap.size w).alloc (Nat.le_refl _) (.cells #[.int .i64 0, .string ⟨#[]⟩, .bool false, .string ⟨#[]⟩, .string ⟨#[]⟩, .int .i64 0] 23)
    have hz0 : w.heap.size ≤ (w.alloc (.cells #[.int .i64 0, .string ⟨#[]⟩, .bool false, .string ⟨#[]⟩, .string ⟨#[]⟩, .int .i64 0] 23)).heap.size := hb0.size
    generalize w.alloc (.cells #[.int .i64 0, .string ⟨#[]⟩, .bool false, .string ⟨#[]⟩, .string ⟨#[]⟩, .int .i64 0] 23) = w0 at *
    obtain ⟨s0, s1, s2, s3, s4, s5⟩ := hS.below hb0
    have hC := fun W (h : Below w0.heap.size w0 W) => inX_calls b s 4 W (((hS.below hb0)).below h)
    generalize (inX s 4 : Sx) = X at *
    have HC := Lib.hid hC
    clear hC
    go_wp2_with (first | (go_at_call 181; refine (hBL _).mono ?_; rintro e w1 ⟨rfl, rfl⟩) | (go_at_call 173; refine (HC.out _ (Below.refl _ _)).mono ?_; rintro e w1 ⟨rfl, hb⟩; have hb1 := hb0.trans (hb.mono hz0); have hB1 := hB0.below hb; have d0 := hB1.cell 0 _ rfl; have f0 := hB1.free 0; have d1 := hB1.cell 1 _ rfl; have f1 := hB1.free 1; have d2 := hB1.cell 2 _ rfl; have f2 := hB1.free 2; have d3 := hB1.cell 3 _ rfl; have f3 := hB1.free 3; have d4 := hB1.cell 4 _ rfl; have f4 := hB1.free 4; have d5 := hB1.cell 5 _ rfl; have f5 := hB1.free 5))
    exact bodyPost_ret (v := stV X) (by simp [results, Tryz.results127, go_sem, d0, d1, d2, d3, d4, d5]) rfl ⟨rfl, below6 hb1 _ _ _ _ _ _⟩
  | false =>
  rw [h0] at hBL
  by_cases h1 : c = 62
  · have t62 : ((c : Int) == 62) = true := beq_iff_eq.2 (by omega)
    obtain rfl : R = closesX s := by rw [hR]; unfold bareX; rw [if_neg (by rw [h0]; decide)]; rw [if_pos h1]
    clear hR h0 h1
    go_enter Tryz.func127, Tryz.ntmps127
    go_upto_region 1 with (fail)
    have hB0 : Blk w.heap.size 23 stZ (w.alloc (.cells #[.int .i64 0, .string ⟨#[]⟩, .bool false, .string ⟨#[]⟩, .string ⟨#[]⟩, .int .i64 0] 23)) := Blk.new w _ _
    have hb0 := (Below.refl w.heap.size w).alloc (Nat.le_refl _) (.cells #[.int .i64 0, .string ⟨#[]⟩, .bool false, .string ⟨#[]⟩, .string ⟨#[]⟩, .int .i64 0] 23)
    have hz0 : w.heap.size ≤ (w.alloc (.cells #[.int .i64 0, .string ⟨#[]⟩, .bool false, .string ⟨#[]⟩, .string ⟨#[]⟩, .int .i64 0] 23)).heap.size := hb0.size
    generalize w.alloc (.cells #[.int .i64 0, .string ⟨#[]⟩, .bool false, .string ⟨#[]⟩, .string ⟨#[]⟩, .int .i64 0] 23) = w0 at *
    obtain ⟨s0, s1, s2, s3, s4, s5⟩ := hS.below hb0
    have hC := fun W (h : Below w0.heap.size w0 W) => tkCloses_calls b s W ((hS.below hb0).below h)
    generalize (closesX s : Sx) = X at *
    have HC := Lib.hid hC
    clear hC
    go_wp2_with (first | (go_at_call 181; refine (hBL _).mono ?_; rintro e w1 ⟨rfl, rfl⟩) | (go_at_call 182; refine (HC.out _ (Below.refl _ _)).mono ?_; rintro e w1 ⟨rfl, hb⟩; have hb1 := hb0.trans (hb.mono hz0); have hB1 := hB0.below hb; have d0 := hB1.cell 0 _ rfl; have f0 := hB1.free 0; have d1 := hB1.cell 1 _ rfl; have f1 := hB1.free 1; have d2 := hB1.cell 2 _ rfl; have f2 := hB1.free 2; have d3 := hB1.cell 3 _ rfl; have f3 := hB1.free 3; have d4 := hB1.cell 4 _ rfl; have f4 := hB1.free 4; have d5 := hB1.cell 5 _ rfl; have f5 := hB1.free 5))
    exact bodyPost_ret (v := stV X) (by simp [results, Tryz.results127, go_sem, d0, d1, d2, d3, d4, d5]) rfl ⟨rfl, below6 hb1 _ _ _ _ _ _⟩
  have t62 : ((c : Int) == 62) = false := beq_eq_false_iff_ne.2 (by omega)
  obtain rfl : R = attrX s 10 s.attr := by rw [hR]; unfold bareX; rw [if_neg (by rw [h0]; decide)]; rw [if_neg (h1)]
  clear hR h0 h1
  go_enter Tryz.func127, Tryz.ntmps127
  go_upto_region 1 with (fail)
  have hB0 : Blk w.heap.size 23 stZ (w.alloc (.cells #[.int .i64 0, .string ⟨#[]⟩, .bool false, .string ⟨#[]⟩, .string ⟨#[]⟩, .int .i64 0] 23)) := Blk.new w _ _
  have hb0 := (Below.refl w.heap.size w).alloc (Nat.le_refl _) (.cells #[.int .i64 0, .string ⟨#[]⟩, .bool false, .string ⟨#[]⟩, .string ⟨#[]⟩, .int .i64 0] 23)
  have hz0 : w.heap.size ≤ (w.alloc (.cells #[.int .i64 0, .string ⟨#[]⟩, .bool false, .string ⟨#[]⟩, .string ⟨#[]⟩, .int .i64 0] 23)).heap.size := hb0.size
  generalize w.alloc (.cells #[.int .i64 0, .string ⟨#[]⟩, .bool false, .string ⟨#[]⟩, .string ⟨#[]⟩, .int .i64 0] 23) = w0 at *
  obtain ⟨s0, s1, s2, s3, s4, s5⟩ := hS.below hb0
  have hC := fun W (h : Below w0.heap.size w0 W) => attrX_calls b s 10 s.attr W ((hS.below hb0).below h)
  generalize (attrX s 10 s.attr : Sx) = X at *
  have HC := Lib.hid hC
  clear hC
  go_wp2_with (first | (go_at_call 181; refine (hBL _).mono ?_; rintro e w1 ⟨rfl, rfl⟩) | (go_at_call 172; refine (HC.out _ (Below.refl _ _)).mono ?_; rintro e w1 ⟨rfl, hb⟩; have hb1 := hb0.trans (hb.mono hz0); have hB1 := hB0.below hb; have d0 := hB1.cell 0 _ rfl; have f0 := hB1.free 0; have d1 := hB1.cell 1 _ rfl; have f1 := hB1.free 1; have d2 := hB1.cell 2 _ rfl; have f2 := hB1.free 2; have d3 := hB1.cell 3 _ rfl; have f3 := hB1.free 3; have d4 := hB1.cell 4 _ rfl; have f4 := hB1.free 4; have d5 := hB1.cell 5 _ rfl; have f5 := hB1.free 5))
  exact bodyPost_ret (v := stV X) (by simp [results, Tryz.results127, go_sem, d0, d1, d2, d3, d4, d5]) rfl ⟨rfl, below6 hb1 _ _ _ _ _ _⟩
set_option maxRecDepth 100000 in
set_option maxHeartbeats 600000 in
theorem tkQuoted_calls (b : Nat) (s : Sx) (c q : Nat) (w : World) (hS : StAt b s w) : Calls Tryz.prog 183 #[.pointer (some ⟨b, 0, none⟩), .int .u8 c, .int .u8 q] w (TkPost (quotedX s c q) w) := by
  obtain ⟨R, hR⟩ : ∃ R, R = quotedX s c q := ⟨_, rfl⟩
  rw [← hR]
  have hlt := hS.lt
  have hne : w.heap.size ≠ b := by omega
  by_cases h1 : c = q
  · have t1 : ((c : Int) == (q : Int)) = true := beq_iff_eq.2 (by omega)
    obtain rfl : R = inX s 11 := by rw [hR]; unfold quotedX; rw [if_pos h1]
    clear hR h1
    go_enter Tryz.func183, Tryz.ntmps183
    go_upto_region 1 with (fail)
    have hB0 : Blk w.heap.size 23 stZ (w.alloc (.cells #[.int .i64 0, .string ⟨#[]⟩, .bool false, .string ⟨#[]⟩, .string ⟨#[]⟩, .int .i64 0] 23)) := Blk.new w _ _
    have hb0 := (Below.refl w.heap.size w).alloc (Nat.le_refl _) (.cells #[.int .i64 0, .string ⟨#[]⟩, .bool false, .string ⟨#[]⟩, .string ⟨#[]⟩, .int .i64 0] 23)
    have hz0 : w.heap.size ≤ (w.alloc (.cells #[.int .i64 0, .string ⟨#[]⟩, .bool false, .string ⟨#[]⟩, .string ⟨#[]⟩, .int .i64 0] 23)).heap.size := hb0.size
    generalize w.alloc (.cells #[.int .i64 0, .string ⟨#[]⟩, .bool false, .string ⟨#[]⟩, .string ⟨#[]⟩, .int .i64 0] 23) = w0 at *
    have hC := fun W (h : Below w0.heap.size w0 W) => inX_calls b s 11 W (((hS.below hb0)).below h)
    generalize (inX s 11 : Sx) = X at *
    have HC := Lib.hid hC
    clear hC
    go_wp2_with (go_at_call 173; refine (HC.out _ (Below.refl _ _)).mono ?_; rintro e w1 ⟨rfl, hb⟩; have hb1 := hb0.trans (hb.mono hz0); have hB1 := hB0.below hb; have d0 := hB1.cell 0 _ rfl; have f0 := hB1.free 0; have d1 := hB1.cell 1 _ rfl; have f1 := hB1.free 1; have d2 := hB1.cell 2 _ rfl; have f2 := hB1.free 2; have d3 := hB1.cell 3 _ rfl; have f3 := hB1.free 3; have d4 := hB1.cell 4 _ rfl; have f4 := hB1.free 4; have d5 := hB1.cell 5 _ rfl; have f5 := hB1.free 5)
    exact bodyPost_ret (v := stV X) (by simp [results, Tryz.results183, go_sem, d0, d1, d2, d3, d4, d5]) rfl ⟨rfl, below6 hb1 _ _ _ _ _ _⟩
  have t1 : ((c : Int) == (q : Int)) = false := beq_eq_false_iff_ne.2 (by omega)
  obtain rfl : R = attrX s s.pl s.attr := by rw [hR]; unfold quotedX; rw [if_neg h1]
  clear hR h1
  go_enter Tryz.func183, Tryz.ntmps183
  go_upto_region 3 with (fail)
  have hB0 : Blk w.heap.size 23 stZ (w.alloc (.cells #[.int .i64 0, .string ⟨#[]⟩, .bool false, .string ⟨#[]⟩, .string ⟨#[]⟩, .int .i64 0] 23)) := Blk.new w _ _
  have hb0 := (Below.refl w.heap.size w).alloc (Nat.le_refl _) (.cells #[.int .i64 0, .string ⟨#[]⟩, .bool false, .string ⟨#[]⟩, .string ⟨#[]⟩, .int .i64 0] 23)
  have hz0 : w.heap.size ≤ (w.alloc (.cells #[.int .i64 0, .string ⟨#[]⟩, .bool false, .string ⟨#[]⟩, .string ⟨#[]⟩, .int .i64 0] 23)).heap.size := hb0.size
  generalize w.alloc (.cells #[.int .i64 0, .string ⟨#[]⟩, .bool false, .string ⟨#[]⟩, .string ⟨#[]⟩, .int .i64 0] 23) = w0 at *
  obtain ⟨s0, s1, s2, s3, s4, s5⟩ := hS.below hb0
  go_still_tail 9, (by kernel_rfl)
  change wpList _ _ _ _ _ w0.drew
  have hBd : Blk w.heap.size 23 stZ w0.drew := hB0.drew
  have hbd := hb0.drew
  have hzd : w.heap.size ≤ w0.drew.heap.size := hz0
  have hSd := hS.below hbd
  clear s0 s1 s2 s3 s4 s5 hB0 hb0 hz0
  generalize w0.drew = w2 at *
  have HC := Lib.hid (attrX_calls b s s.pl s.attr w2 hSd)
  generalize attrX s s.pl s.attr = X at *
  clear hSd
  go_wp2_with (go_at_call 172; refine HC.out.mono ?_; rintro e w1 ⟨rfl, hb⟩; have hb1 := hbd.trans (hb.mono hzd); have hB1 := hBd.below hb; have d0 := hB1.cell 0 _ rfl; have f0 := hB1.free 0; have d1 := hB1.cell 1 _ rfl; have f1 := hB1.free 1; have d2 := hB1.cell 2 _ rfl; have f2 := hB1.free 2; have d3 := hB1.cell 3 _ rfl; have f3 := hB1.free 3; have d4 := hB1.cell 4 _ rfl; have f4 := hB1.free 4; have d5 := hB1.cell 5 _ rfl; have f5 := hB1.free 5)
  exact bodyPost_ret (v := stV X) (by simp [results, Tryz.results183, go_sem, d0, d1, d2, d3, d4, d5]) rfl ⟨rfl, below6 hb1 _ _ _ _ _ _⟩
set_option maxRecDepth 100000 in
set_option maxHeartbeats 600000 in
theorem tkDouble_calls (b : Nat) (s : Sx) (c : Nat) (w : World) (hS : StAt b s w) (hc : c < 256) : Calls Tryz.prog 125 #[.pointer (some ⟨b, 0, none⟩), .int .u8 c] w (TkPost (quotedX s c 34) w) := by
  obtain ⟨R, hR⟩ : ∃ R, R = quotedX s c 34 := ⟨_, rfl⟩
  rw [← hR]
  have hlt := hS.lt
  have hne : w.heap.size ≠ b := by omega
  obtain rfl : R = quotedX s c 34 := hR
  go_enter Tryz.func125, Tryz.ntmps125
  go_upto_region 1 with (fail)
  have hB0 : Blk w.heap.size 23 stZ (w.alloc (.cells #[.int .i64 0, .string ⟨#[]⟩, .bool false, .string ⟨#[]⟩, .string ⟨#[]⟩, .int .i64 0] 23)) := Blk.new w _ _
  have hb0 := (Below.refl w.heap.size w).alloc (Nat.le_refl _) (.cells #[.int .i64 0, .string ⟨#[]⟩, .bool false, .string ⟨#[]⟩, .string ⟨#[]⟩, .int .i64 0] 23)
  have hz0 : w.heap.size ≤ (w.alloc (.cells #[.int .i64 0, .string ⟨#[]⟩, .bool false, .string ⟨#[]⟩, .string ⟨#[]⟩, .int .i64 0] 23)).heap.size := hb0.size
  generalize w.alloc (.cells #[.int .i64 0, .string ⟨#[]⟩, .bool false, .string ⟨#[]⟩, .string ⟨#[]⟩, .int .i64 0] 23) = w0 at *
  obtain ⟨s0, s1, s2, s3, s4, s5⟩ := hS.below hb0
  have hC := fun W (h : Below w0.heap.size w0 W) => tkQuoted_calls b s c 34 W ((hS.below hb0).below h)
  generalize (quotedX s c 34 : Sx) = X at *
  have HC := Lib.hid hC
  clear hC
  go_wp2_with (go_at_call 183; refine (HC.out _ (Below.refl _ _)).mono ?_; rintro e w1 ⟨rfl, hb⟩; have hb1 := hb0.trans (hb.mono hz0); have hB1 := hB0.below hb; have d0 := hB1.cell 0 _ rfl; have f0 := hB1.free 0; have d1 := hB1.cell 1 _ rfl; have f1 := hB1.free 1; have d2 := hB1.cell 2 _ rfl; have f2 := hB1.free 2; have d3 := hB1.cell 3 _ rfl; have f3 := hB1.free 3; have d4 := hB1.cell 4 _ rfl; have f4 := hB1.free 4; have d5 := hB1.cell 5 _ rfl; have f5 := hB1.free 5)
  exact bodyPost_ret (v := stV X) (by simp [results, Tryz.results125, go_sem, d0, d1, d2, d3, d4, d5]) rfl ⟨rfl, below6 hb1 _ _ _ _ _ _⟩
set_option maxRecDepth 100000 in
set_option maxHeartbeats 600000 in
theorem tkSingle_calls (b : Nat) (s : Sx) (c : Nat) (w : World) (hS : StAt b s w) (hc : c < 256) : Calls Tryz.prog 126 #[.pointer (some ⟨b, 0, none⟩), .int .u8 c] w (TkPost (quotedX s c 39) w) := by
  obtain ⟨R, hR⟩ : ∃ R, R = quotedX s c 39 := ⟨_, rfl⟩
  rw [← hR]
  have hlt := hS.lt
  have hne : w.heap.size ≠ b := by omega
  obtain rfl : R = quotedX s c 39 := hR
  go_enter Tryz.func126, Tryz.ntmps126
  go_upto_region 1 with (fail)
  have hB0 : Blk w.heap.size 23 stZ (w.alloc (.cells #[.int .i64 0, .string ⟨#[]⟩, .bool false, .string ⟨#[]⟩, .string ⟨#[]⟩, .int .i64 0] 23)) := Blk.new w _ _
  have hb0 := (Below.refl w.heap.size w).alloc (Nat.le_refl _) (.cells #[.int .i64 0, .string ⟨#[]⟩, .bool false, .string ⟨#[]⟩, .string ⟨#[]⟩, .int .i64 0] 23)
  have hz0 : w.heap.size ≤ (w.alloc (.cells #[.int .i64 0, .string ⟨#[]⟩, .bool false, .string ⟨#[]⟩, .string ⟨#[]⟩, .int .i64 0] 23)).heap.size := hb0.size
  generalize w.alloc (.cells #[.int .i64 0, .string ⟨#[]⟩, .bool false, .string ⟨#[]⟩, .string ⟨#[]⟩, .int .i64 0] 23) = w0 at *
  obtain ⟨s0, s1, s2, s3, s4, s5⟩ := hS.below hb0
  have hC := fun W (h : Below w0.heap.size w0 W) => tkQuoted_calls b s c 39 W ((hS.below hb0).below h)
  generalize (quotedX s c 39 : Sx) = X at *
  have HC := Lib.hid hC
  clear hC
  go_wp2_with (go_at_call 183; refine (HC.out _ (Below.refl _ _)).mono ?_; rintro e w1 ⟨rfl, hb⟩; have hb1 := hb0.trans (hb.mono hz0); have hB1 := hB0.below hb; have d0 := hB1.cell 0 _ rfl; have f0 := hB1.free 0; have d1 := hB1.cell 1 _ rfl; have f1 := hB1.free 1; have d2 := hB1.cell 2 _ rfl; have f2 := hB1.free 2; have d3 := hB1.cell 3 _ rfl; have f3 := hB1.free 3; have d4 := hB1.cell 4 _ rfl; have f4 := hB1.free 4; have d5 := hB1.cell 5 _ rfl; have f5 := hB1.free 5)
  exact bodyPost_ret (v := stV X) (by simp [results, Tryz.results126, go_sem, d0, d1, d2, d3, d4, d5]) rfl ⟨rfl, below6 hb1 _ _ _ _ _ _⟩
set_option maxRecDepth 100000 in
set_option maxHeartbeats 600000 in
theorem tkAttrName_calls (b : Nat) (s : Sx) (c : Nat) (w : World) (hS : StAt b s w) (hc : c < 256) : Calls Tryz.prog 122 #[.pointer (some ⟨b, 0, none⟩), .int .u8 c] w (TkPost (namesX s c s.attr) w) := by
  obtain ⟨R, hR⟩ : ∃ R, R = namesX s c s.attr := ⟨_, rfl⟩
  rw [← hR]
  have hlt := hS.lt
  have hne : w.heap.size ≠ b := by omega
  obtain rfl : R = namesX s c s.attr := hR
  go_enter Tryz.func122, Tryz.ntmps122
  go_upto_region 1 with (fail)
  have hB0 : Blk w.heap.size 23 stZ (w.alloc (.cells #[.int .i64 0, .string ⟨#[]⟩, .bool false, .string ⟨#[]⟩, .string ⟨#[]⟩, .int .i64 0] 23)) := Blk.new w _ _
  have hb0 := (Below.refl w.heap.size w).alloc (Nat.le_refl _) (.cells #[.int .i64 0, .string ⟨#[]⟩, .bool false, .string ⟨#[]⟩, .string ⟨#[]⟩, .int .i64 0] 23)
  have hz0 : w.heap.size ≤ (w.alloc (.cells #[.int .i64 0, .string ⟨#[]⟩, .bool false, .string ⟨#[]⟩, .string ⟨#[]⟩, .int .i64 0] 23)).heap.size := hb0.size
  generalize w.alloc (.cells #[.int .i64 0, .string ⟨#[]⟩, .bool false, .string ⟨#[]⟩, .string ⟨#[]⟩, .int .i64 0] 23) = w0 at *
  obtain ⟨s0, s1, s2, s3, s4, s5⟩ := hS.below hb0
  have hC := fun W (h : Below w0.heap.size w0 W) => tkNames_calls b s c s.attr W ((hS.below hb0).below h) hc
  generalize (namesX s c s.attr : Sx) = X at *
  have HC := Lib.hid hC
  clear hC
  go_wp2_with (go_at_call 180; refine (HC.out _ (Below.refl _ _)).mono ?_; rintro e w1 ⟨rfl, hb⟩; have hb1 := hb0.trans (hb.mono hz0); have hB1 := hB0.below hb; have d0 := hB1.cell 0 _ rfl; have f0 := hB1.free 0; have d1 := hB1.cell 1 _ rfl; have f1 := hB1.free 1; have d2 := hB1.cell 2 _ rfl; have f2 := hB1.free 2; have d3 := hB1.cell 3 _ rfl; have f3 := hB1.free 3; have d4 := hB1.cell 4 _ rfl; have f4 := hB1.free 4; have d5 := hB1.cell 5 _ rfl; have f5 := hB1.free 5)
  exact bodyPost_ret (v := stV X) (by simp [results, Tryz.results122, go_sem, d0, d1, d2, d3, d4, d5]) rfl ⟨rfl, below6 hb1 _ _ _ _ _ _⟩
set_option maxRecDepth 100000 in
set_option maxHeartbeats 600000 in
theorem tkAfterName_calls (b : Nat) (s : Sx) (c : Nat) (w : World) (hS : StAt b s w) (hc : c < 256) : Calls Tryz.prog 123 #[.pointer (some ⟨b, 0, none⟩), .int .u8 c] w (TkPost (namesX s c []) w) := by
  obtain ⟨R, hR⟩ : ∃ R, R = namesX s c [] := ⟨_, rfl⟩
  rw [← hR]
  have hlt := hS.lt
  have hne : w.heap.size ≠ b := by omega
  obtain rfl : R = namesX s c [] := hR
  go_enter Tryz.func123, Tryz.ntmps123
  go_upto_region 1 with (fail)
  have hB0 : Blk w.heap.size 23 stZ (w.alloc (.cells #[.int .i64 0, .string ⟨#[]⟩, .bool false, .string ⟨#[]⟩, .string ⟨#[]⟩, .int .i64 0] 23)) := Blk.new w _ _
  have hb0 := (Below.refl w.heap.size w).alloc (Nat.le_refl _) (.cells #[.int .i64 0, .string ⟨#[]⟩, .bool false, .string ⟨#[]⟩, .string ⟨#[]⟩, .int .i64 0] 23)
  have hz0 : w.heap.size ≤ (w.alloc (.cells #[.int .i64 0, .string ⟨#[]⟩, .bool false, .string ⟨#[]⟩, .string ⟨#[]⟩, .int .i64 0] 23)).heap.size := hb0.size
  generalize w.alloc (.cells #[.int .i64 0, .string ⟨#[]⟩, .bool false, .string ⟨#[]⟩, .string ⟨#[]⟩, .int .i64 0] 23) = w0 at *
  obtain ⟨s0, s1, s2, s3, s4, s5⟩ := hS.below hb0
  have hC := fun W (h : Below w0.heap.size w0 W) => tkNames_calls b s c [] W ((hS.below hb0).below h) hc
  generalize (namesX s c [] : Sx) = X at *
  have HC := Lib.hid hC
  clear hC
  go_wp2_with (go_at_call 180; refine (HC.out _ (Below.refl _ _)).mono ?_; rintro e w1 ⟨rfl, hb⟩; have hb1 := hb0.trans (hb.mono hz0); have hB1 := hB0.below hb; have d0 := hB1.cell 0 _ rfl; have f0 := hB1.free 0; have d1 := hB1.cell 1 _ rfl; have f1 := hB1.free 1; have d2 := hB1.cell 2 _ rfl; have f2 := hB1.free 2; have d3 := hB1.cell 3 _ rfl; have f3 := hB1.free 3; have d4 := hB1.cell 4 _ rfl; have f4 := hB1.free 4; have d5 := hB1.cell 5 _ rfl; have f5 := hB1.free 5)
  exact bodyPost_ret (v := stV X) (by simp [results, Tryz.results123, go_sem, d0, d1, d2, d3, d4, d5]) rfl ⟨rfl, below6 hb1 _ _ _ _ _ _⟩
set_option maxRecDepth 100000 in
set_option maxHeartbeats 600000 in
theorem tkBangs_calls (c : Nat) (x : Int) (w : World) (hc : c < 256) : Calls Tryz.prog 184 #[.int .u8 c, .int .i64 x] w (TkPost (bangsX c x) w) := by
  obtain ⟨R, hR⟩ : ∃ R, R = bangsX c x := ⟨_, rfl⟩
  rw [← hR]
  by_cases h1 : c = 45
  · have t45 : ((c : Int) == 45) = true := beq_iff_eq.2 (by omega)
    obtain rfl : R = atX x := by rw [hR]; unfold bangsX; rw [if_pos h1]
    clear hR h1
    go_enter Tryz.func184, Tryz.ntmps184
    go_upto_region 1 with (fail)
    have hB0 : Blk w.heap.size 23 stZ (w.alloc (.cells #[.int .i64 0, .string ⟨#[]⟩, .bool false, .string ⟨#[]⟩, .string ⟨#[]⟩, .int .i64 0] 23)) := Blk.new w _ _
    have hb0 := (Below.refl w.heap.size w).alloc (Nat.le_refl _) (.cells #[.int .i64 0, .string ⟨#[]⟩, .bool false, .string ⟨#[]⟩, .string ⟨#[]⟩, .int .i64 0] 23)
    have hz0 : w.heap.size ≤ (w.alloc (.cells #[.int .i64 0, .string ⟨#[]⟩, .bool false, .string ⟨#[]⟩, .string ⟨#[]⟩, .int .i64 0] 23)).heap.size := hb0.size
    generalize w.alloc (.cells #[.int .i64 0, .string ⟨#[]⟩, .bool false, .string ⟨#[]⟩, .string ⟨#[]⟩, .int .i64 0] 23) = w0 at *
    have hC := fun W (h : Below w0.heap.size w0 W) => tkAt_calls x W
    generalize (atX x : Sx) = X at *
    have HC := Lib.hid hC
    clear hC
    go_wp2_with (go_at_call 175; refine (HC.out _ (Below.refl _ _)).mono ?_; rintro e w1 ⟨rfl, hb⟩; have hb1 := hb0.trans (hb.mono hz0); have hB1 := hB0.below hb; have d0 := hB1.cell 0 _ rfl; have f0 := hB1.free 0; have d1 := hB1.cell 1 _ rfl; have f1 := hB1.free 1; have d2 := hB1.cell 2 _ rfl; have f2 := hB1.free 2; have d3 := hB1.cell 3 _ rfl; have f3 := hB1.free 3; have d4 := hB1.cell 4 _ rfl; have f4 := hB1.free 4; have d5 := hB1.cell 5 _ rfl; have f5 := hB1.free 5)
    exact bodyPost_ret (v := stV X) (by simp [results, Tryz.results184, go_sem, d0, d1, d2, d3, d4, d5]) rfl ⟨rfl, below6 hb1 _ _ _ _ _ _⟩
  have t45 : ((c : Int) == 45) = false := beq_eq_false_iff_ne.2 (by omega)
  by_cases h2 : c = 62
  · have t62 : ((c : Int) == 62) = true := beq_iff_eq.2 (by omega)
    obtain rfl : R = atX 0 := by rw [hR]; unfold bangsX; rw [if_neg h1, if_pos h2]
    clear hR h1 h2
    go_enter Tryz.func184, Tryz.ntmps184
    go_upto_region 1 with (fail)
    have hB0 : Blk w.heap.size 23 stZ (w.alloc (.cells #[.int .i64 0, .string ⟨#[]⟩, .bool false, .string ⟨#[]⟩, .string ⟨#[]⟩, .int .i64 0] 23)) := Blk.new w _ _
    have hb0 := (Below.refl w.heap.size w).alloc (Nat.le_refl _) (.cells #[.int .i64 0, .string ⟨#[]⟩, .bool false, .string ⟨#[]⟩, .string ⟨#[]⟩, .int .i64 0] 23)
    have hz0 : w.heap.size ≤ (w.alloc (.cells #[.int .i64 0, .string ⟨#[]⟩, .bool false, .string ⟨#[]⟩, .string ⟨#[]⟩, .int .i64 0] 23)).heap.size := hb0.size
    generalize w.alloc (.cells #[.int .i64 0, .string ⟨#[]⟩, .bool false, .string ⟨#[]⟩, .string ⟨#[]⟩, .int .i64 0] 23) = w0 at *
    have hC := fun W (h : Below w0.heap.size w0 W) => tkAt_calls 0 W
    generalize (atX 0 : Sx) = X at *
    have HC := Lib.hid hC
    clear hC
    go_wp2_with (go_at_call 175; refine (HC.out _ (Below.refl _ _)).mono ?_; rintro e w1 ⟨rfl, hb⟩; have hb1 := hb0.trans (hb.mono hz0); have hB1 := hB0.below hb; have d0 := hB1.cell 0 _ rfl; have f0 := hB1.free 0; have d1 := hB1.cell 1 _ rfl; have f1 := hB1.free 1; have d2 := hB1.cell 2 _ rfl; have f2 := hB1.free 2; have d3 := hB1.cell 3 _ rfl; have f3 := hB1.free 3; have d4 := hB1.cell 4 _ rfl; have f4 := hB1.free 4; have d5 := hB1.cell 5 _ rfl; have f5 := hB1.free 5)
    exact bodyPost_ret (v := stV X) (by simp [results, Tryz.results184, go_sem, d0, d1, d2, d3, d4, d5]) rfl ⟨rfl, below6 hb1 _ _ _ _ _ _⟩
  have t62 : ((c : Int) == 62) = false := beq_eq_false_iff_ne.2 (by omega)
  obtain rfl : R = atX 18 := by rw [hR]; unfold bangsX; rw [if_neg h1, if_neg h2]
  clear hR h1 h2
  go_enter Tryz.func184, Tryz.ntmps184
  go_upto_region 1 with (fail)
  have hB0 : Blk w.heap.size 23 stZ (w.alloc (.cells #[.int .i64 0, .string ⟨#[]⟩, .bool false, .string ⟨#[]⟩, .string ⟨#[]⟩, .int .i64 0] 23)) := Blk.new w _ _
  have hb0 := (Below.refl w.heap.size w).alloc (Nat.le_refl _) (.cells #[.int .i64 0, .string ⟨#[]⟩, .bool false, .string ⟨#[]⟩, .string ⟨#[]⟩, .int .i64 0] 23)
  have hz0 : w.heap.size ≤ (w.alloc (.cells #[.int .i64 0, .string ⟨#[]⟩, .bool false, .string ⟨#[]⟩, .string ⟨#[]⟩, .int .i64 0] 23)).heap.size := hb0.size
  generalize w.alloc (.cells #[.int .i64 0, .string ⟨#[]⟩, .bool false, .string ⟨#[]⟩, .string ⟨#[]⟩, .int .i64 0] 23) = w0 at *
  have hC := fun W (h : Below w0.heap.size w0 W) => tkAt_calls 18 W
  generalize (atX 18 : Sx) = X at *
  have HC := Lib.hid hC
  clear hC
  go_wp2_with (go_at_call 175; refine (HC.out _ (Below.refl _ _)).mono ?_; rintro e w1 ⟨rfl, hb⟩; have hb1 := hb0.trans (hb.mono hz0); have hB1 := hB0.below hb; have d0 := hB1.cell 0 _ rfl; have f0 := hB1.free 0; have d1 := hB1.cell 1 _ rfl; have f1 := hB1.free 1; have d2 := hB1.cell 2 _ rfl; have f2 := hB1.free 2; have d3 := hB1.cell 3 _ rfl; have f3 := hB1.free 3; have d4 := hB1.cell 4 _ rfl; have f4 := hB1.free 4; have d5 := hB1.cell 5 _ rfl; have f5 := hB1.free 5)
  exact bodyPost_ret (v := stV X) (by simp [results, Tryz.results184, go_sem, d0, d1, d2, d3, d4, d5]) rfl ⟨rfl, below6 hb1 _ _ _ _ _ _⟩
set_option maxRecDepth 100000 in
set_option maxHeartbeats 600000 in
theorem tkBang_calls (b : Nat) (s : Sx) (c : Nat) (w : World) (hS : StAt b s w) (hc : c < 256) : Calls Tryz.prog 128 #[.pointer (some ⟨b, 0, none⟩), .int .u8 c] w (TkPost (bangsX c 14) w) := by
  obtain ⟨R, hR⟩ : ∃ R, R = bangsX c 14 := ⟨_, rfl⟩
  rw [← hR]
  have hlt := hS.lt
  have hne : w.heap.size ≠ b := by omega
  obtain rfl : R = bangsX c 14 := hR
  go_enter Tryz.func128, Tryz.ntmps128
  go_upto_region 1 with (fail)
  have hB0 : Blk w.heap.size 23 stZ (w.alloc (.cells #[.int .i64 0, .string ⟨#[]⟩, .bool false, .string ⟨#[]⟩, .string ⟨#[]⟩, .int .i64 0] 23)) := Blk.new w _ _
  have hb0 := (Below.refl w.heap.size w).alloc (Nat.le_refl _) (.cells #[.int .i64 0, .string ⟨#[]⟩, .bool false, .string ⟨#[]⟩, .string ⟨#[]⟩, .int .i64 0] 23)
  have hz0 : w.heap.size ≤ (w.alloc (.cells #[.int .i64 0, .string ⟨#[]⟩, .bool false, .string ⟨#[]⟩, .string ⟨#[]⟩, .int .i64 0] 23)).heap.size := hb0.size
  generalize w.alloc (.cells #[.int .i64 0, .string ⟨#[]⟩, .bool false, .string ⟨#[]⟩, .string ⟨#[]⟩, .int .i64 0] 23) = w0 at *
  obtain ⟨s0, s1, s2, s3, s4, s5⟩ := hS.below hb0
  have hC := fun W (h : Below w0.heap.size w0 W) => tkBangs_calls c 14 W hc
  generalize (bangsX c 14 : Sx) = X at *
  have HC := Lib.hid hC
  clear hC
  go_wp2_with (go_at_call 184; refine (HC.out _ (Below.refl _ _)).mono ?_; rintro e w1 ⟨rfl, hb⟩; have hb1 := hb0.trans (hb.mono hz0); have hB1 := hB0.below hb; have d0 := hB1.cell 0 _ rfl; have f0 := hB1.free 0; have d1 := hB1.cell 1 _ rfl; have f1 := hB1.free 1; have d2 := hB1.cell 2 _ rfl; have f2 := hB1.free 2; have d3 := hB1.cell 3 _ rfl; have f3 := hB1.free 3; have d4 := hB1.cell 4 _ rfl; have f4 := hB1.free 4; have d5 := hB1.cell 5 _ rfl; have f5 := hB1.free 5)
  exact bodyPost_ret (v := stV X) (by simp [results, Tryz.results128, go_sem, d0, d1, d2, d3, d4, d5]) rfl ⟨rfl, below6 hb1 _ _ _ _ _ _⟩
set_option maxRecDepth 100000 in
set_option maxHeartbeats 600000 in
theorem tkBangDash_calls (b : Nat) (s : Sx) (c : Nat) (w : World) (hS : StAt b s w) (hc : c < 256) : Calls Tryz.prog 129 #[.pointer (some ⟨b, 0, none⟩), .int .u8 c] w (TkPost (bangsX c 15) w) := by
  obtain ⟨R, hR⟩ : ∃ R, R = bangsX c 15 := ⟨_, rfl⟩
  rw [← hR]
  have hlt := hS.lt
  have hne : w.heap.size ≠ b := by omega
  obtain rfl : R = bangsX c 15 := hR
  go_enter Tryz.func129, Tryz.ntmps129
  go_upto_region 1 with (fail)
  have hB0 : Blk w.heap.size 23 stZ (w.alloc (.cells #[.int .i64 0, .string ⟨#[]⟩, .bool false, .string ⟨#[]⟩, .string ⟨#[]⟩, .int .i64 0] 23)) := Blk.new w _ _
  have hb0 := (Below.refl w.heap.size w).alloc (Nat.le_refl _) (.cells #[.int .i64 0, .string ⟨#[]⟩, .bool false, .string ⟨#[]⟩, .string ⟨#[]⟩, .int .i64 0] 23)
  have hz0 : w.heap.size ≤ (w.alloc (.cells #[.int .i64 0, .string ⟨#[]⟩, .bool false, .string ⟨#[]⟩, .string ⟨#[]⟩, .int .i64 0] 23)).heap.size := hb0.size
  generalize w.alloc (.cells #[.int .i64 0, .string ⟨#[]⟩, .bool false, .string ⟨#[]⟩, .string ⟨#[]⟩, .int .i64 0] 23) = w0 at *
  obtain ⟨s0, s1, s2, s3, s4, s5⟩ := hS.below hb0
  have hC := fun W (h : Below w0.heap.size w0 W) => tkBangs_calls c 15 W hc
  generalize (bangsX c 15 : Sx) = X at *
  have HC := Lib.hid hC
  clear hC
  go_wp2_with (go_at_call 184; refine (HC.out _ (Below.refl _ _)).mono ?_; rintro e w1 ⟨rfl, hb⟩; have hb1 := hb0.trans (hb.mono hz0); have hB1 := hB0.below hb; have d0 := hB1.cell 0 _ rfl; have f0 := hB1.free 0; have d1 := hB1.cell 1 _ rfl; have f1 := hB1.free 1; have d2 := hB1.cell 2 _ rfl; have f2 := hB1.free 2; have d3 := hB1.cell 3 _ rfl; have f3 := hB1.free 3; have d4 := hB1.cell 4 _ rfl; have f4 := hB1.free 4; have d5 := hB1.cell 5 _ rfl; have f5 := hB1.free 5)
  exact bodyPost_ret (v := stV X) (by simp [results, Tryz.results129, go_sem, d0, d1, d2, d3, d4, d5]) rfl ⟨rfl, below6 hb1 _ _ _ _ _ _⟩
set_option maxRecDepth 100000 in
set_option maxHeartbeats 600000 in
theorem tkEither_calls (q : Bool) (x y : Int) (w : World) : Calls Tryz.prog 185 #[.bool q, .int .i64 x, .int .i64 y] w (TkPost (eitherX q x y) w) := by
  obtain ⟨R, hR⟩ : ∃ R, R = eitherX q x y := ⟨_, rfl⟩
  rw [← hR]
  cases q with
  | true =>
    obtain rfl : R = atX x := by rw [hR]; rfl
    clear hR 
    go_enter Tryz.func185, Tryz.ntmps185
    go_upto_region 1 with (fail)
    have hB0 : Blk w.heap.size 23 stZ (w.alloc (.cells #[.int .i64 0, .string ⟨#[]⟩, .bool false, .string ⟨#[]⟩, .string ⟨#[]⟩, .int .i64 0] 23)) := Blk.new w _ _
    have hb0 := (Below.refl w.heap.size w).alloc (Nat.le_refl _) (.cells #[.int .i64 0, .string ⟨#[]⟩, .bool false, .string ⟨#[]⟩, .string ⟨#[]⟩, .int .i64 0] 23)
    have hz0 : w.heap.size ≤ (w.alloc (.cells #[.int .i64 0, .string ⟨#[]⟩, .bool false, .string ⟨#[]⟩, .string ⟨#[]⟩, .int .i64 0] 23)).heap.size := hb0.size
    generalize w.alloc (.cells #[.int .i64 0, .string ⟨#[]⟩, .bool false, .string ⟨#[]⟩, .string ⟨#[]⟩, .int .i64 0] 23) = w0 at *
    have hC := fun W (h : Below w0.heap.size w0 W) => tkAt_calls x W
    generalize (atX x : Sx) = X at *
    have HC := Lib.hid hC
    clear hC
    go_wp2_with (go_at_call 175; refine (HC.out _ (Below.refl _ _)).mono ?_; rintro e w1 ⟨rfl, hb⟩; have hb1 := hb0.trans (hb.mono hz0); have hB1 := hB0.below hb; have d0 := hB1.cell 0 _ rfl; have f0 := hB1.free 0; have d1 := hB1.cell 1 _ rfl; have f1 := hB1.free 1; have d2 := hB1.cell 2 _ rfl; have f2 := hB1.free 2; have d3 := hB1.cell 3 _ rfl; have f3 := hB1.free 3; have d4 := hB1.cell 4 _ rfl; have f4 := hB1.free 4; have d5 := hB1.cell 5 _ rfl; have f5 := hB1.free 5)
    exact bodyPost_ret (v := stV X) (by simp [results, Tryz.results185, go_sem, d0, d1, d2, d3, d4, d5]) rfl ⟨rfl, below6 hb1 _ _ _ _ _ _⟩
  | false =>
    obtain rfl : R = atX y := by rw [hR]; rfl
    clear hR 
    go_enter Tryz.func185, Tryz.ntmps185
    go_upto_region 1 with (fail)
    have hB0 : Blk w.heap.size 23 stZ (w.alloc (.cells #[.int .i64 0, .string ⟨#[]⟩, .bool false, .string ⟨#[]⟩, .string ⟨#[]⟩, .int .i64 0] 23)) := Blk.new w _ _
    have hb0 := (Below.refl w.heap.size w).alloc (Nat.le_refl _) (.cells #[.int .i64 0, .string ⟨#[]⟩, .bool false, .string ⟨#[]⟩, .string ⟨#[]⟩, .int .i64 0] 23)
    have hz0 : w.heap.size ≤ (w.alloc (.cells #[.int .i64 0, .string ⟨#[]⟩, .bool false, .string ⟨#[]⟩, .string ⟨#[]⟩, .int .i64 0] 23)).heap.size := hb0.size
    generalize w.alloc (.cells #[.int .i64 0, .string ⟨#[]⟩, .bool false, .string ⟨#[]⟩, .string ⟨#[]⟩, .int .i64 0] 23) = w0 at *
    have hC := fun W (h : Below w0.heap.size w0 W) => tkAt_calls y W
    generalize (atX y : Sx) = X at *
    have HC := Lib.hid hC
    clear hC
    go_wp2_with (go_at_call 175; refine (HC.out _ (Below.refl _ _)).mono ?_; rintro e w1 ⟨rfl, hb⟩; have hb1 := hb0.trans (hb.mono hz0); have hB1 := hB0.below hb; have d0 := hB1.cell 0 _ rfl; have f0 := hB1.free 0; have d1 := hB1.cell 1 _ rfl; have f1 := hB1.free 1; have d2 := hB1.cell 2 _ rfl; have f2 := hB1.free 2; have d3 := hB1.cell 3 _ rfl; have f3 := hB1.free 3; have d4 := hB1.cell 4 _ rfl; have f4 := hB1.free 4; have d5 := hB1.cell 5 _ rfl; have f5 := hB1.free 5)
    exact bodyPost_ret (v := stV X) (by simp [results, Tryz.results185, go_sem, d0, d1, d2, d3, d4, d5]) rfl ⟨rfl, below6 hb1 _ _ _ _ _ _⟩
set_option maxRecDepth 100000 in
set_option maxHeartbeats 600000 in
theorem tkComment_calls (b : Nat) (s : Sx) (c : Nat) (w : World) (hS : StAt b s w) (hc : c < 256) : Calls Tryz.prog 130 #[.pointer (some ⟨b, 0, none⟩), .int .u8 c] w (TkPost (eitherX (c == 45) 16 15) w) := by
  obtain ⟨R, hR⟩ : ∃ R, R = eitherX (c == 45) 16 15 := ⟨_, rfl⟩
  rw [← hR]
  have hlt := hS.lt
  have hne : w.heap.size ≠ b := by omega
  by_cases h45 : c = 45
  · have t45 : ((c : Int) == 45) = true := beq_iff_eq.2 (by omega)
    obtain rfl : R = eitherX true 16 15 := by rw [hR]; rw [show (c == 45) = true from by simp [h45]]
    clear hR h45 
    go_enter Tryz.func130, Tryz.ntmps130
    go_upto_region 1 with (fail)
    have hB0 : Blk w.heap.size 23 stZ (w.alloc (.cells #[.int .i64 0, .string ⟨#[]⟩, .bool false, .string ⟨#[]⟩, .string ⟨#[]⟩, .int .i64 0] 23)) := Blk.new w _ _
    have hb0 := (Below.refl w.heap.size w).alloc (Nat.le_refl _) (.cells #[.int .i64 0, .string ⟨#[]⟩, .bool false, .string ⟨#[]⟩, .string ⟨#[]⟩, .int .i64 0] 23)
    have hz0 : w.heap.size ≤ (w.alloc (.cells #[.int .i64 0, .string ⟨#[]⟩, .bool false, .string ⟨#[]⟩, .string ⟨#[]⟩, .int .i64 0] 23)).heap.size := hb0.size
    generalize w.alloc (.cells #[.int .i64 0, .string ⟨#[]⟩, .bool false, .string ⟨#[]⟩, .string ⟨#[]⟩, .int .i64 0] 23) = w0 at *
    have hC := fun W (h : Below w0.heap.size w0 W) => tkEither_calls true 16 15 W
    generalize (eitherX true 16 15 : Sx) = X at *
    have HC := Lib.hid hC
    clear hC
    go_wp2_with (go_at_call 185; refine (HC.out _ (Below.refl _ _)).mono ?_; rintro e w1 ⟨rfl, hb⟩; have hb1 := hb0.trans (hb.mono hz0); have hB1 := hB0.below hb; have d0 := hB1.cell 0 _ rfl; have f0 := hB1.free 0; have d1 := hB1.cell 1 _ rfl; have f1 := hB1.free 1; have d2 := hB1.cell 2 _ rfl; have f2 := hB1.free 2; have d3 := hB1.cell 3 _ rfl; have f3 := hB1.free 3; have d4 := hB1.cell 4 _ rfl; have f4 := hB1.free 4; have d5 := hB1.cell 5 _ rfl; have f5 := hB1.free 5)
    exact bodyPost_ret (v := stV X) (by simp [results, Tryz.results130, go_sem, d0, d1, d2, d3, d4, d5]) rfl ⟨rfl, below6 hb1 _ _ _ _ _ _⟩
  have t45 : ((c : Int) == 45) = false := beq_eq_false_iff_ne.2 (by omega)
  obtain rfl : R = eitherX false 16 15 := by rw [hR]; rw [show (c == 45) = false from by simp [h45]]
  clear hR h45 
  go_enter Tryz.func130, Tryz.ntmps130
  go_upto_region 1 with (fail)
  have hB0 : Blk w.heap.size 23 stZ (w.alloc (.cells #[.int .i64 0, .string ⟨#[]⟩, .bool false, .string ⟨#[]⟩, .string ⟨#[]⟩, .int .i64 0] 23)) := Blk.new w _ _
  have hb0 := (Below.refl w.heap.size w).alloc (Nat.le_refl _) (.cells #[.int .i64 0, .string ⟨#[]⟩, .bool false, .string ⟨#[]⟩, .string ⟨#[]⟩, .int .i64 0] 23)
  have hz0 : w.heap.size ≤ (w.alloc (.cells #[.int .i64 0, .string ⟨#[]⟩, .bool false, .string ⟨#[]⟩, .string ⟨#[]⟩, .int .i64 0] 23)).heap.size := hb0.size
  generalize w.alloc (.cells #[.int .i64 0, .string ⟨#[]⟩, .bool false, .string ⟨#[]⟩, .string ⟨#[]⟩, .int .i64 0] 23) = w0 at *
  have hC := fun W (h : Below w0.heap.size w0 W) => tkEither_calls false 16 15 W
  generalize (eitherX false 16 15 : Sx) = X at *
  have HC := Lib.hid hC
  clear hC
  go_wp2_with (go_at_call 185; refine (HC.out _ (Below.refl _ _)).mono ?_; rintro e w1 ⟨rfl, hb⟩; have hb1 := hb0.trans (hb.mono hz0); have hB1 := hB0.below hb; have d0 := hB1.cell 0 _ rfl; have f0 := hB1.free 0; have d1 := hB1.cell 1 _ rfl; have f1 := hB1.free 1; have d2 := hB1.cell 2 _ rfl; have f2 := hB1.free 2; have d3 := hB1.cell 3 _ rfl; have f3 := hB1.free 3; have d4 := hB1.cell 4 _ rfl; have f4 := hB1.free 4; have d5 := hB1.cell 5 _ rfl; have f5 := hB1.free 5)
  exact bodyPost_ret (v := stV X) (by simp [results, Tryz.results130, go_sem, d0, d1, d2, d3, d4, d5]) rfl ⟨rfl, below6 hb1 _ _ _ _ _ _⟩
set_option maxRecDepth 100000 in
set_option maxHeartbeats 600000 in
theorem tkCommentDash_calls (b : Nat) (s : Sx) (c : Nat) (w : World) (hS : StAt b s w) (hc : c < 256) : Calls Tryz.prog 131 #[.pointer (some ⟨b, 0, none⟩), .int .u8 c] w (TkPost (eitherX (c == 45) 17 15) w) := by
  obtain ⟨R, hR⟩ : ∃ R, R = eitherX (c == 45) 17 15 := ⟨_, rfl⟩
  rw [← hR]
  have hlt := hS.lt
  have hne : w.heap.size ≠ b := by omega
  by_cases h45 : c = 45
  · have t45 : ((c : Int) == 45) = true := beq_iff_eq.2 (by omega)
    obtain rfl : R = eitherX true 17 15 := by rw [hR]; rw [show (c == 45) = true from by simp [h45]]
    clear hR h45 
    go_enter Tryz.func131, Tryz.ntmps131
    go_upto_region 1 with (fail)
    have hB0 : Blk w.heap.size 23 stZ (w.alloc (.cells #[.int .i64 0, .string ⟨#[]⟩, .bool false, .string ⟨#[]⟩, .string ⟨#[]⟩, .int .i64 0] 23)) := Blk.new w _ _
    have hb0 := (Below.refl w.heap.size w).alloc (Nat.le_refl _) (.cells #[.int .i64 0, .string ⟨#[]⟩, .bool false, .string ⟨#[]⟩, .string ⟨#[]⟩, .int .i64 0] 23)
    have hz0 : w.heap.size ≤ (w.alloc (.cells #[.int .i64 0, .string ⟨#[]⟩, .bool false, .string ⟨#[]⟩, .string ⟨#[]⟩, .int .i64 0] 23)).heap.size := hb0.size
    generalize w.alloc (.cells #[.int .i64 0, .string ⟨#[]⟩, .bool false, .string ⟨#[]⟩, .string ⟨#[]⟩, .int .i64 0] 23) = w0 at *
    have hC := fun W (h : Below w0.heap.size w0 W) => tkEither_calls true 17 15 W
    generalize (eitherX true 17 15 : Sx) = X at *
    have HC := Lib.hid hC
    clear hC
    go_wp2_with (go_at_call 185; refine (HC.out _ (Below.refl _ _)).mono ?_; rintro e w1 ⟨rfl, hb⟩; have hb1 := hb0.trans (hb.mono hz0); have hB1 := hB0.below hb; have d0 := hB1.cell 0 _ rfl; have f0 := hB1.free 0; have d1 := hB1.cell 1 _ rfl; have f1 := hB1.free 1; have d2 := hB1.cell 2 _ rfl; have f2 := hB1.free 2; have d3 := hB1.cell 3 _ rfl; have f3 := hB1.free 3; have d4 := hB1.cell 4 _ rfl; have f4 := hB1.free 4; have d5 := hB1.cell 5 _ rfl; have f5 := hB1.free 5)
    exact bodyPost_ret (v := stV X) (by simp [results, Tryz.results131, go_sem, d0, d1, d2, d3, d4, d5]) rfl ⟨rfl, below6 hb1 _ _ _ _ _ _⟩
  have t45 : ((c : Int) == 45) = false := beq_eq_false_iff_ne.2 (by omega)
  obtain rfl : R = eitherX false 17 15 := by rw [hR]; rw [show (c == 45) = false from by simp [h45]]
  clear hR h45 
  go_enter Tryz.func131, Tryz.ntmps131
  go_upto_region 1 with (fail)
  have hB0 : Blk w.heap.size 23 stZ (w.alloc (.cells #[.int .i64 0, .string ⟨#[]⟩, .bool false, .string ⟨#[]⟩, .string ⟨#[]⟩, .int .i64 0] 23)) := Blk.new w _ _
  have hb0 := (Below.refl w.heap.size w).alloc (Nat.le_refl _) (.cells #[.int .i64 0, .string ⟨#[]⟩, .bool false, .string ⟨#[]⟩, .string ⟨#[]⟩, .int .i64 0] 23)
  have hz0 : w.heap.size ≤ (w.alloc (.cells #[.int .i64 0, .string ⟨#[]⟩, .bool false, .string ⟨#[]⟩, .string ⟨#[]⟩, .int .i64 0] 23)).heap.size := hb0.size
  generalize w.alloc (.cells #[.int .i64 0, .string ⟨#[]⟩, .bool false, .string ⟨#[]⟩, .string ⟨#[]⟩, .int .i64 0] 23) = w0 at *
  have hC := fun W (h : Below w0.heap.size w0 W) => tkEither_calls false 17 15 W
  generalize (eitherX false 17 15 : Sx) = X at *
  have HC := Lib.hid hC
  clear hC
  go_wp2_with (go_at_call 185; refine (HC.out _ (Below.refl _ _)).mono ?_; rintro e w1 ⟨rfl, hb⟩; have hb1 := hb0.trans (hb.mono hz0); have hB1 := hB0.below hb; have d0 := hB1.cell 0 _ rfl; have f0 := hB1.free 0; have d1 := hB1.cell 1 _ rfl; have f1 := hB1.free 1; have d2 := hB1.cell 2 _ rfl; have f2 := hB1.free 2; have d3 := hB1.cell 3 _ rfl; have f3 := hB1.free 3; have d4 := hB1.cell 4 _ rfl; have f4 := hB1.free 4; have d5 := hB1.cell 5 _ rfl; have f5 := hB1.free 5)
  exact bodyPost_ret (v := stV X) (by simp [results, Tryz.results131, go_sem, d0, d1, d2, d3, d4, d5]) rfl ⟨rfl, below6 hb1 _ _ _ _ _ _⟩
set_option maxRecDepth 100000 in
set_option maxHeartbeats 600000 in
theorem tkBogus_calls (b : Nat) (s : Sx) (c : Nat) (w : World) (hS : StAt b s w) (hc : c < 256) : Calls Tryz.prog 133 #[.pointer (some ⟨b, 0, none⟩), .int .u8 c] w (TkPost (eitherX (c == 62) 0 18) w) := by
  obtain ⟨R, hR⟩ : ∃ R, R = eitherX (c == 62) 0 18 := ⟨_, rfl⟩
  rw [← hR]
  have hlt := hS.lt
  have hne : w.heap.size ≠ b := by omega
  by_cases h62 : c = 62
  · have t62 : ((c : Int) == 62) = true := beq_iff_eq.2 (by omega)
    obtain rfl : R = eitherX true 0 18 := by rw [hR]; rw [show (c == 62) = true from by simp [h62]]
    clear hR h62 
    go_enter Tryz.func133, Tryz.ntmps133
    go_upto_region 1 with (fail)
    have hB0 : Blk w.heap.size 23 stZ (w.alloc (.cells #[.int .i64 0, .string ⟨#[]⟩, .bool false, .string ⟨#[]⟩, .string ⟨#[]⟩, .int .i64 0] 23)) := Blk.new w _ _
    have hb0 := (Below.refl w.heap.size w).alloc (Nat.le_refl _) (.cells #[.int .i64 0, .string ⟨#[]⟩, .bool false, .string ⟨#[]⟩, .string ⟨#[]⟩, .int .i64 0] 23)
    have hz0 : w.heap.size ≤ (w.alloc (.cells #[.int .i64 0, .string ⟨#[]⟩, .bool false, .string ⟨#[]⟩, .string ⟨#[]⟩, .int .i64 0] 23)).heap.size := hb0.size
    generalize w.alloc (.cells #[.int .i64 0, .string ⟨#[]⟩, .bool false, .string ⟨#[]⟩, .string ⟨#[]⟩, .int .i64 0] 23) = w0 at *
    have hC := fun W (h : Below w0.heap.size w0 W) => tkEither_calls true 0 18 W
    generalize (eitherX true 0 18 : Sx) = X at *
    have HC := Lib.hid hC
    clear hC
    go_wp2_with (go_at_call 185; refine (HC.out _ (Below.refl _ _)).mono ?_; rintro e w1 ⟨rfl, hb⟩; have hb1 := hb0.trans (hb.mono hz0); have hB1 := hB0.below hb; have d0 := hB1.cell 0 _ rfl; have f0 := hB1.free 0; have d1 := hB1.cell 1 _ rfl; have f1 := hB1.free 1; have d2 := hB1.cell 2 _ rfl; have f2 := hB1.free 2; have d3 := hB1.cell 3 _ rfl; have f3 := hB1.free 3; have d4 := hB1.cell 4 _ rfl; have f4 := hB1.free 4; have d5 := hB1.cell 5 _ rfl; have f5 := hB1.free 5)
    exact bodyPost_ret (v := stV X) (by simp [results, Tryz.results133, go_sem, d0, d1, d2, d3, d4, d5]) rfl ⟨rfl, below6 hb1 _ _ _ _ _ _⟩
  have t62 : ((c : Int) == 62) = false := beq_eq_false_iff_ne.2 (by omega)
  obtain rfl : R = eitherX false 0 18 := by rw [hR]; rw [show (c == 62) = false from by simp [h62]]
  clear hR h62 
  go_enter Tryz.func133, Tryz.ntmps133
  go_upto_region 1 with (fail)
  have hB0 : Blk w.heap.size 23 stZ (w.alloc (.cells #[.int .i64 0, .string ⟨#[]⟩, .bool false, .string ⟨#[]⟩, .string ⟨#[]⟩, .int .i64 0] 23)) := Blk.new w _ _
  have hb0 := (Below.refl w.heap.size w).alloc (Nat.le_refl _) (.cells #[.int .i64 0, .string ⟨#[]⟩, .bool false, .string ⟨#[]⟩, .string ⟨#[]⟩, .int .i64 0] 23)
  have hz0 : w.heap.size ≤ (w.alloc (.cells #[.int .i64 0, .string ⟨#[]⟩, .bool false, .string ⟨#[]⟩, .string ⟨#[]⟩, .int .i64 0] 23)).heap.size := hb0.size
  generalize w.alloc (.cells #[.int .i64 0, .string ⟨#[]⟩, .bool false, .string ⟨#[]⟩, .string ⟨#[]⟩, .int .i64 0] 23) = w0 at *
  have hC := fun W (h : Below w0.heap.size w0 W) => tkEither_calls false 0 18 W
  generalize (eitherX false 0 18 : Sx) = X at *
  have HC := Lib.hid hC
  clear hC
  go_wp2_with (go_at_call 185; refine (HC.out _ (Below.refl _ _)).mono ?_; rintro e w1 ⟨rfl, hb⟩; have hb1 := hb0.trans (hb.mono hz0); have hB1 := hB0.below hb; have d0 := hB1.cell 0 _ rfl; have f0 := hB1.free 0; have d1 := hB1.cell 1 _ rfl; have f1 := hB1.free 1; have d2 := hB1.cell 2 _ rfl; have f2 := hB1.free 2; have d3 := hB1.cell 3 _ rfl; have f3 := hB1.free 3; have d4 := hB1.cell 4 _ rfl; have f4 := hB1.free 4; have d5 := hB1.cell 5 _ rfl; have f5 := hB1.free 5)
  exact bodyPost_ret (v := stV X) (by simp [results, Tryz.results133, go_sem, d0, d1, d2, d3, d4, d5]) rfl ⟨rfl, below6 hb1 _ _ _ _ _ _⟩
set_option maxRecDepth 100000 in
set_option maxHeartbeats 600000 in
theorem tkCommentEnd_calls (b : Nat) (s : Sx) (c : Nat) (w : World) (hS : StAt b s w) (hc : c < 256) : Calls Tryz.prog 132 #[.pointer (some ⟨b, 0, none⟩), .int .u8 c] w (TkPost (commentEndX c) w) := by
  obtain ⟨R, hR⟩ : ∃ R, R = commentEndX c := ⟨_, rfl⟩
  rw [← hR]
  have hlt := hS.lt
  have hne : w.heap.size ≠ b := by omega
  by_cases h62 : c = 62
  · have t62 : ((c : Int) == 62) = true := beq_iff_eq.2 (by omega)
    obtain rfl : R = atX 0 := by rw [hR]; unfold commentEndX; rw [if_pos h62]
    clear hR h62
    go_enter Tryz.func132, Tryz.ntmps132
    go_upto_region 1 with (fail)
    have hB0 : Blk w.heap.size 23 stZ (w.alloc (.cells #[.int .i64 0, .string ⟨#[]⟩, .bool false, .string ⟨#[]⟩, .string ⟨#[]⟩, .int .i64 0] 23)) := Blk.new w _ _
    have hb0 := (Below.refl w.heap.size w).alloc (Nat.le_refl _) (.cells #[.int .i64 0, .string ⟨#[]⟩, .bool false, .string ⟨#[]⟩, .string ⟨#[]⟩, .int .i64 0] 23)
    have hz0 : w.heap.size ≤ (w.alloc (.cells #[.int .i64 0, .string ⟨#[]⟩, .bool false, .string ⟨#[]⟩, .string ⟨#[]⟩, .int .i64 0] 23)).heap.size := hb0.size
    generalize w.alloc (.cells #[.int .i64 0, .string ⟨#[]⟩, .bool false, .string ⟨#[]⟩, .string ⟨#[]⟩, .int .i64 0] 23) = w0 at *
    have hC := fun W (h : Below w0.heap.size w0 W) => tkAt_calls 0 W
    generalize (atX 0 : Sx) = X at *
    have HC := Lib.hid hC
    clear hC
    go_wp2_with (go_at_call 175; refine (HC.out _ (Below.refl _ _)).mono ?_; rintro e w1 ⟨rfl, hb⟩; have hb1 := hb0.trans (hb.mono hz0); have hB1 := hB0.below hb; have d0 := hB1.cell 0 _ rfl; have f0 := hB1.free 0; have d1 := hB1.cell 1 _ rfl; have f1 := hB1.free 1; have d2 := hB1.cell 2 _ rfl; have f2 := hB1.free 2; have d3 := hB1.cell 3 _ rfl; have f3 := hB1.free 3; have d4 := hB1.cell 4 _ rfl; have f4 := hB1.free 4; have d5 := hB1.cell 5 _ rfl; have f5 := hB1.free 5)
    exact bodyPost_ret (v := stV X) (by simp [results, Tryz.results132, go_sem, d0, d1, d2, d3, d4, d5]) rfl ⟨rfl, below6 hb1 _ _ _ _ _ _⟩
  have t62 : ((c : Int) == 62) = false := beq_eq_false_iff_ne.2 (by omega)
  by_cases h45 : c = 45
  · have t45 : ((c : Int) == 45) = true := beq_iff_eq.2 (by omega)
    obtain rfl : R = eitherX true 17 15 := by rw [hR]; unfold commentEndX; rw [if_neg h62]; rw [show (c == 45) = true from by simp [h45]]
    clear hR h45 h62
    go_enter Tryz.func132, Tryz.ntmps132
    go_upto_region 1 with (fail)
    have hB0 : Blk w.heap.size 23 stZ (w.alloc (.cells #[.int .i64 0, .string ⟨#[]⟩, .bool false, .string ⟨#[]⟩, .string ⟨#[]⟩, .int .i64 0] 23)) := Blk.new w _ _
    have hb0 := (Below.refl w.heap.size w).alloc (Nat.le_refl _) (.cells #[.int .i64 0, .string ⟨#[]⟩, .bool false, .string ⟨#[]⟩, .string ⟨#[]⟩, .int .i64 0] 23)
    have hz0 : w.heap.size ≤ (w.alloc (.cells #[.int .i64 0, .string ⟨#[]⟩, .bool false, .string ⟨#[]⟩, .string ⟨#[]⟩, .int .i64 0] 23)).heap.size := hb0.size
    generalize w.alloc (.cells #[.int .i64 0, .string ⟨#[]⟩, .bool false, .string ⟨#[]⟩, .string ⟨#[]⟩, .int .i64 0] 23) = w0 at *
    have hC := fun W (h : Below w0.heap.size w0 W) => tkEither_calls true 17 15 W
    generalize (eitherX true 17 15 : Sx) = X at *
    have HC := Lib.hid hC
    clear hC
    go_wp2_with (go_at_call 185; refine (HC.out _ (Below.refl _ _)).mono ?_; rintro e w1 ⟨rfl, hb⟩; have hb1 := hb0.trans (hb.mono hz0); have hB1 := hB0.below hb; have d0 := hB1.cell 0 _ rfl; have f0 := hB1.free 0; have d1 := hB1.cell 1 _ rfl; have f1 := hB1.free 1; have d2 := hB1.cell 2 _ rfl; have f2 := hB1.free 2; have d3 := hB1.cell 3 _ rfl; have f3 := hB1.free 3; have d4 := hB1.cell 4 _ rfl; have f4 := hB1.free 4; have d5 := hB1.cell 5 _ rfl; have f5 := hB1.free 5)
    exact bodyPost_ret (v := stV X) (by simp [results, Tryz.results132, go_sem, d0, d1, d2, d3, d4, d5]) rfl ⟨rfl, below6 hb1 _ _ _ _ _ _⟩
  have t45 : ((c : Int) == 45) = false := beq_eq_false_iff_ne.2 (by omega)
  obtain rfl : R = eitherX false 17 15 := by rw [hR]; unfold commentEndX; rw [if_neg h62]; rw [show (c == 45) = false from by simp [h45]]
  clear hR h45 h62
  go_enter Tryz.func132, Tryz.ntmps132
  go_upto_region 1 with (fail)
  have hB0 : Blk w.heap.size 23 stZ (w.alloc (.cells #[.int .i64 0, .string ⟨#[]⟩, .bool false, .string ⟨#[]⟩, .string ⟨#[]⟩, .int .i64 0] 23)) := Blk.new w _ _
  have hb0 := (Below.refl w.heap.size w).alloc (Nat.le_refl _) (.cells #[.int .i64 0, .string ⟨#[]⟩, .bool false, .string ⟨#[]⟩, .string ⟨#[]⟩, .int .i64 0] 23)
  have hz0 : w.heap.size ≤ (w.alloc (.cells #[.int .i64 0, .string ⟨#[]⟩, .bool false, .string ⟨#[]⟩, .string ⟨#[]⟩, .int .i64 0] 23)).heap.size := hb0.size
  generalize w.alloc (.cells #[.int .i64 0, .string ⟨#[]⟩, .bool false, .string ⟨#[]⟩, .string ⟨#[]⟩, .int .i64 0] 23) = w0 at *
  have hC := fun W (h : Below w0.heap.size w0 W) => tkEither_calls false 17 15 W
  generalize (eitherX false 17 15 : Sx) = X at *
  have HC := Lib.hid hC
  clear hC
  go_wp2_with (go_at_call 185; refine (HC.out _ (Below.refl _ _)).mono ?_; rintro e w1 ⟨rfl, hb⟩; have hb1 := hb0.trans (hb.mono hz0); have hB1 := hB0.below hb; have d0 := hB1.cell 0 _ rfl; have f0 := hB1.free 0; have d1 := hB1.cell 1 _ rfl; have f1 := hB1.free 1; have d2 := hB1.cell 2 _ rfl; have f2 := hB1.free 2; have d3 := hB1.cell 3 _ rfl; have f3 := hB1.free 3; have d4 := hB1.cell 4 _ rfl; have f4 := hB1.free 4; have d5 := hB1.cell 5 _ rfl; have f5 := hB1.free 5)
  exact bodyPost_ret (v := stV X) (by simp [results, Tryz.results132, go_sem, d0, d1, d2, d3, d4, d5]) rfl ⟨rfl, below6 hb1 _ _ _ _ _ _⟩
end Go.Proofs.YtafkfamfhagokaaGreatDoor.S
