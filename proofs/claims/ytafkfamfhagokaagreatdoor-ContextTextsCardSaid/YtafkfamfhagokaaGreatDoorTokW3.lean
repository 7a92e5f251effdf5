/-
  THE WALKS of package tok (states): tags.
-/
import Derived.Test.YtafkfamfhagokaaGreatDoorTokW2
set_option linter.unusedVariables false
set_option linter.unusedSimpArgs false
namespace Go.Proofs.YtafkfamfhagokaaGreatDoor.S
open Go.RowKit

theorem ex_at_world {Q : Exit → Act → World → Prop} {x : Exit} {a : Act} {w : World} (h : ∀ w2, w2 = w → Q x a w2) : Q x a w := h w rfl
theorem wp_at_world {C : Code} {P : Program} {Q : Exit → Act → World → Prop} {a : Act} {w : World} (h : ∀ w2, w2 = w → C.wp P Q a w2) : C.wp P Q a w := h w rfl
theorem box6 (w : World) (a0 a1 a2 a3 a4 a5 : Value) : Blk w.heap.size 23 [a0, a1, a2, a3, a4, a5] (((((((w.alloc (.cells #[.int .i64 0, .string ⟨#[]⟩, .bool false, .string ⟨#[]⟩, .string ⟨#[]⟩, .int .i64 0] 23)).setCell ⟨w.heap.size, 0, none⟩ a0).setCell ⟨w.heap.size, 1, none⟩ a1).setCell ⟨w.heap.size, 2, none⟩ a2).setCell ⟨w.heap.size, 3, none⟩ a3).setCell ⟨w.heap.size, 4, none⟩ a4).setCell ⟨w.heap.size, 5, none⟩ a5) ∧
    Below w.heap.size w (((((((w.alloc (.cells #[.int .i64 0, .string ⟨#[]⟩, .bool false, .string ⟨#[]⟩, .string ⟨#[]⟩, .int .i64 0] 23)).setCell ⟨w.heap.size, 0, none⟩ a0).setCell ⟨w.heap.size, 1, none⟩ a1).setCell ⟨w.heap.size, 2, none⟩ a2).setCell ⟨w.heap.size, 3, none⟩ a3).setCell ⟨w.heap.size, 4, none⟩ a4).setCell ⟨w.heap.size, 5, none⟩ a5) := by
  refine ⟨?_, below6 ((Below.refl w.heap.size w).alloc (Nat.le_refl _) _) a0 a1 a2 a3 a4 a5⟩
  have h := ((((((Blk.new w [.int .i64 0, .string ⟨#[]⟩, .bool false, .string ⟨#[]⟩, .string ⟨#[]⟩, .int .i64 0] 23).set 0 a0).set 1 a1).set 2 a2).set 3 a3).set 4 a4).set 5 a5
  simpa only [List.set_cons_zero, List.set_cons_succ] using h
set_option maxRecDepth 100000 in
set_option maxHeartbeats 600000 in
theorem tkTagOpen_calls (b : Nat) (s : Sx) (c : Nat) (w : World) (hS : StAt b s w) (hc : c < 256) : Calls Tryz.prog 118 #[.pointer (some ⟨b, 0, none⟩), .int .u8 c] w (TkPost (tagOpenX c) w) := by
  obtain ⟨R, hR⟩ : ∃ R, R = tagOpenX c := ⟨_, rfl⟩
  rw [← hR]
  have hlt := hS.lt
  have hne : w.heap.size ≠ b := by omega
  have hLT := fun W => letter_calls (c : Int) W (by omega) (by omega)
  cases h0 : letN c with
  | true =>
    rw [show letterI (c : Int) = _ from h0] at hLT
    obtain rfl : R = ⟨3, moreX [] c, false, [], [], 0⟩ := by rw [hR]; unfold tagOpenX; rw [if_pos h0]
    clear hR h0
    go_enter Tryz.func118, Tryz.ntmps118
    go_upto_region 1 with (fail)
    have hB0 : Blk w.heap.size 23 stZ (w.alloc (.cells #[.int .i64 0, .string ⟨#[]⟩, .bool false, .string ⟨#[]⟩, .string ⟨#[]⟩, .int .i64 0] 23)) := Blk.new w _ _
    have hb0 := (Below.refl w.heap.size w).alloc (Nat.le_refl _) (.cells #[.int .i64 0, .string ⟨#[]⟩, .bool false, .string ⟨#[]⟩, .string ⟨#[]⟩, .int .i64 0] 23)
    have hz0 : w.heap.size ≤ (w.alloc (.cells #[.int .i64 0, .string ⟨#[]⟩, .bool false, .string ⟨#[]⟩, .string ⟨#[]⟩, .int .i64 0] 23)).heap.size := hb0.size
    generalize w.alloc (.cells #[.int .i64 0, .string ⟨#[]⟩, .bool false, .string ⟨#[]⟩, .string ⟨#[]⟩, .int .i64 0] 23) = w0 at *
    obtain ⟨s0, s1, s2, s3, s4, s5⟩ := hS.below hb0
    have hC := fun W => tkMore_calls [] c hc W
    generalize moreX [] c = m at *
    have HC := Lib.hid hC
    clear hC
    go_wp2_with (first | (go_at_call 65; refine (hLT _).mono ?_; rintro e w1 ⟨rfl, rfl⟩) | (go_at_call 178; refine (HC.out _).mono ?_; rintro e w1 ⟨rfl, hb⟩; have hb1 := hb0.trans (hb.mono hz0); have hB1 := hB0.below hb; have d0 := hB1.cell 0 _ rfl; have f0 := hB1.free 0; have d1 := hB1.cell 1 _ rfl; have f1 := hB1.free 1; have d2 := hB1.cell 2 _ rfl; have f2 := hB1.free 2; have d3 := hB1.cell 3 _ rfl; have f3 := hB1.free 3; have d4 := hB1.cell 4 _ rfl; have f4 := hB1.free 4; have d5 := hB1.cell 5 _ rfl; have f5 := hB1.free 5))
    exact bodyPost_ret (v := stV ⟨3, m, false, [], [], 0⟩) (by simp [results, Tryz.results118, go_sem, d0, d1, d2, d3, d4, d5]) rfl ⟨rfl, below6 hb1 _ _ _ _ _ _⟩
  | false =>
  rw [show letterI (c : Int) = _ from h0] at hLT
  by_cases h1 : c = 47
  · have t47 : ((c : Int) == 47) = true := beq_iff_eq.2 (by omega)
    obtain rfl : R = atX 2 := by rw [hR]; unfold tagOpenX; rw [if_neg (by rw [h0]; decide)]; rw [if_pos h1]
    clear hR h0 h1
    go_enter Tryz.func118, Tryz.ntmps118
    go_upto_region 1 with (fail)
    have hB0 : Blk w.heap.size 23 stZ (w.alloc (.cells #[.int .i64 0, .string ⟨#[]⟩, .bool false, .string ⟨#[]⟩, .string ⟨#[]⟩, .int .i64 0] 23)) := Blk.new w _ _
    have hb0 := (Below.refl w.heap.size w).alloc (Nat.le_refl _) (.cells #[.int .i64 0, .string ⟨#[]⟩, .bool false, .string ⟨#[]⟩, .string ⟨#[]⟩, .int .i64 0] 23)
    have hz0 : w.heap.size ≤ (w.alloc (.cells #[.int .i64 0, .string ⟨#[]⟩, .bool false, .string ⟨#[]⟩, .string ⟨#[]⟩, .int .i64 0] 23)).heap.size := hb0.size
    generalize w.alloc (.cells #[.int .i64 0, .string ⟨#[]⟩, .bool false, .string ⟨#[]⟩, .string ⟨#[]⟩, .int .i64 0] 23) = w0 at *
    obtain ⟨s0, s1, s2, s3, s4, s5⟩ := hS.below hb0
    have hC := fun W (h : Below w0.heap.size w0 W) => tkAt_calls 2 W
    generalize (atX 2 : Sx) = X at *
    have HC := Lib.hid hC
    clear hC
    go_wp2_with (first | (go_at_call 65; refine (hLT _).mono ?_; rintro e w1 ⟨rfl, rfl⟩) | (go_at_call 175; refine (HC.out _ (Below.refl _ _)).mono ?_; rintro e w1 ⟨rfl, hb⟩; have hb1 := hb0.trans (hb.mono hz0); have hB1 := hB0.below hb; have d0 := hB1.cell 0 _ rfl; have f0 := hB1.free 0; have d1 := hB1.cell 1 _ rfl; have f1 := hB1.free 1; have d2 := hB1.cell 2 _ rfl; have f2 := hB1.free 2; have d3 := hB1.cell 3 _ rfl; have f3 := hB1.free 3; have d4 := hB1.cell 4 _ rfl; have f4 := hB1.free 4; have d5 := hB1.cell 5 _ rfl; have f5 := hB1.free 5))
    exact bodyPost_ret (v := stV X) (by simp [results, Tryz.results118, go_sem, d0, d1, d2, d3, d4, d5]) rfl ⟨rfl, below6 hb1 _ _ _ _ _ _⟩
  have t47 : ((c : Int) == 47) = false := beq_eq_false_iff_ne.2 (by omega)
  by_cases h2 : c = 33
  · have t33 : ((c : Int) == 33) = true := beq_iff_eq.2 (by omega)
    obtain rfl : R = atX 13 := by rw [hR]; unfold tagOpenX; rw [if_neg (by rw [h0]; decide)]; rw [if_neg (h1)]; rw [if_pos h2]
    clear hR h0 h1 h2
    go_enter Tryz.func118, Tryz.ntmps118
    go_upto_region 1 with (fail)
    have hB0 : Blk w.heap.size 23 stZ (w.alloc (.cells #[.int .i64 0, .string ⟨#[]⟩, .bool false, .string ⟨#[]⟩, .string ⟨#[]⟩, .int .i64 0] 23)) := Blk.new w _ _
    have hb0 := (Below.refl w.heap.size w).alloc (Nat.le_refl _) (.cells #[.int .i64 0, .string ⟨#[]⟩, .bool false, .string ⟨#[]⟩, .string ⟨#[]⟩, .int .i64 0] 23)
    have hz0 : w.heap.size ≤ (w.alloc (.cells #[.int .i64 0, .string ⟨#[]⟩, .bool false, .string ⟨#[]⟩, .string ⟨#[]⟩, .int .i64 0] 23)).heap.size := hb0.size
    generalize w.alloc (.cells #[.int .i64 0, .string ⟨#[]⟩, .bool false, .string ⟨#[]⟩, .string ⟨#[]⟩, .int .i64 0] 23) = w0 at *
    obtain ⟨s0, s1, s2, s3, s4, s5⟩ := hS.below hb0
    have hC := fun W (h : Below w0.heap.size w0 W) => tkAt_calls 13 W
    generalize (atX 13 : Sx) = X at *
    have HC := Lib.hid hC
    clear hC
    go_wp2_with (first | (go_at_call 65; refine (hLT _).mono ?_; rintro e w1 ⟨rfl, rfl⟩) | (go_at_call 175; refine (HC.out _ (Below.refl _ _)).mono ?_; rintro e w1 ⟨rfl, hb⟩; have hb1 := hb0.trans (hb.mono hz0); have hB1 := hB0.below hb; have d0 := hB1.cell 0 _ rfl; have f0 := hB1.free 0; have d1 := hB1.cell 1 _ rfl; have f1 := hB1.free 1; have d2 := hB1.cell 2 _ rfl; have f2 := hB1.free 2; have d3 := hB1.cell 3 _ rfl; have f3 := hB1.free 3; have d4 := hB1.cell 4 _ rfl; have f4 := hB1.free 4; have d5 := hB1.cell 5 _ rfl; have f5 := hB1.free 5))
    exact bodyPost_ret (v := stV X) (by simp [results, Tryz.results118, go_sem, d0, d1, d2, d3, d4, d5]) rfl ⟨rfl, below6 hb1 _ _ _ _ _ _⟩
  have t33 : ((c : Int) == 33) = false := beq_eq_false_iff_ne.2 (by omega)
  obtain rfl : R = dataX c := by rw [hR]; unfold tagOpenX; rw [if_neg (by rw [h0]; decide)]; rw [if_neg (h1)]; rw [if_neg (h2)]
  clear hR h0 h1 h2
  go_enter Tryz.func118, Tryz.ntmps118
  go_upto_region 1 with (fail)
  have hB0 : Blk w.heap.size 23 stZ (w.alloc (.cells #[.int .i64 0, .string ⟨#[]⟩, .bool false, .string ⟨#[]⟩, .string ⟨#[]⟩, .int .i64 0] 23)) := Blk.new w _ _
  have hb0 := (Below.refl w.heap.size w).alloc (Nat.le_refl _) (.cells #[.int .i64 0, .string ⟨#[]⟩, .bool false, .string ⟨#[]⟩, .string ⟨#[]⟩, .int .i64 0] 23)
  have hz0 : w.heap.size ≤ (w.alloc (.cells #[.int .i64 0, .string ⟨#[]⟩, .bool false, .string ⟨#[]⟩, .string ⟨#[]⟩, .int .i64 0] 23)).heap.size := hb0.size
  generalize w.alloc (.cells #[.int .i64 0, .string ⟨#[]⟩, .bool false, .string ⟨#[]⟩, .string ⟨#[]⟩, .int .i64 0] 23) = w0 at *
  obtain ⟨s0, s1, s2, s3, s4, s5⟩ := hS.below hb0
  have hC := fun W (h : Below w0.heap.size w0 W) => tkData_calls b s c W ((hS.below hb0).below h) hc
  generalize (dataX c : Sx) = X at *
  have HC := Lib.hid hC
  clear hC
  go_wp2_with (first | (go_at_call 65; refine (hLT _).mono ?_; rintro e w1 ⟨rfl, rfl⟩) | (go_at_call 117; refine (HC.out _ (Below.refl _ _)).mono ?_; rintro e w1 ⟨rfl, hb⟩; have hb1 := hb0.trans (hb.mono hz0); have hB1 := hB0.below hb; have d0 := hB1.cell 0 _ rfl; have f0 := hB1.free 0; have d1 := hB1.cell 1 _ rfl; have f1 := hB1.free 1; have d2 := hB1.cell 2 _ rfl; have f2 := hB1.free 2; have d3 := hB1.cell 3 _ rfl; have f3 := hB1.free 3; have d4 := hB1.cell 4 _ rfl; have f4 := hB1.free 4; have d5 := hB1.cell 5 _ rfl; have f5 := hB1.free 5))
  exact bodyPost_ret (v := stV X) (by simp [results, Tryz.results118, go_sem, d0, d1, d2, d3, d4, d5]) rfl ⟨rfl, below6 hb1 _ _ _ _ _ _⟩
set_option maxRecDepth 100000 in
set_option maxHeartbeats 600000 in
theorem tkEndOpen_calls (b : Nat) (s : Sx) (c : Nat) (w : World) (hS : StAt b s w) (hc : c < 256) : Calls Tryz.prog 119 #[.pointer (some ⟨b, 0, none⟩), .int .u8 c] w (TkPost (endOpenX c) w) := by
  obtain ⟨R, hR⟩ : ∃ R, R = endOpenX c := ⟨_, rfl⟩
  rw [← hR]
  have hlt := hS.lt
  have hne : w.heap.size ≠ b := by omega
  have hLT := fun W => letter_calls (c : Int) W (by omega) (by omega)
  cases h0 : letN c with
  | true =>
    rw [show letterI (c : Int) = _ from h0] at hLT
    obtain rfl : R = ⟨3, moreX [] c, true, [], [], 0⟩ := by rw [hR]; unfold endOpenX; rw [if_pos h0]
    clear hR h0
    go_enter Tryz.func119, Tryz.ntmps119
    go_upto_region 1 with (fail)
    have hB0 : Blk w.heap.size 23 stZ (w.alloc (.cells #[.int .i64 0, .string ⟨#[]⟩, .bool false, .string ⟨#[]⟩, .string ⟨#[]⟩, .int .i64 0] 23)) := Blk.new w _ _
    have hb0 := (Below.refl w.heap.size w).alloc (Nat.le_refl _) (.cells #[.int .i64 0, .string ⟨#[]⟩, .bool false, .string ⟨#[]⟩, .string ⟨#[]⟩, .int .i64 0] 23)
    have hz0 : w.heap.size ≤ (w.alloc (.cells #[.int .i64 0, .string ⟨#[]⟩, .bool false, .string ⟨#[]⟩, .string ⟨#[]⟩, .int .i64 0] 23)).heap.size := hb0.size
    generalize w.alloc (.cells #[.int .i64 0, .string ⟨#[]⟩, .bool false, .string ⟨#[]⟩, .string ⟨#[]⟩, .int .i64 0] 23) = w0 at *
    obtain ⟨s0, s1, s2, s3, s4, s5⟩ := hS.below hb0
    have hC := fun W => tkMore_calls [] c hc W
    generalize moreX [] c = m at *
    have HC := Lib.hid hC
    clear hC
    go_wp2_with (first | (go_at_call 65; refine (hLT _).mono ?_; rintro e w1 ⟨rfl, rfl⟩) | (go_at_call 178; refine (HC.out _).mono ?_; rintro e w1 ⟨rfl, hb⟩; have hb1 := hb0.trans (hb.mono hz0); have hB1 := hB0.below hb; have d0 := hB1.cell 0 _ rfl; have f0 := hB1.free 0; have d1 := hB1.cell 1 _ rfl; have f1 := hB1.free 1; have d2 := hB1.cell 2 _ rfl; have f2 := hB1.free 2; have d3 := hB1.cell 3 _ rfl; have f3 := hB1.free 3; have d4 := hB1.cell 4 _ rfl; have f4 := hB1.free 4; have d5 := hB1.cell 5 _ rfl; have f5 := hB1.free 5))
    exact bodyPost_ret (v := stV ⟨3, m, true, [], [], 0⟩) (by simp [results, Tryz.results119, go_sem, d0, d1, d2, d3, d4, d5]) rfl ⟨rfl, below6 hb1 _ _ _ _ _ _⟩
  | false =>
  rw [show letterI (c : Int) = _ from h0] at hLT
  obtain rfl : R = dataX c := by rw [hR]; unfold endOpenX; rw [if_neg (by rw [h0]; decide)]
  clear hR h0
  go_enter Tryz.func119, Tryz.ntmps119
  go_upto_region 1 with (fail)
  have hB0 : Blk w.heap.size 23 stZ (w.alloc (.cells #[.int .i64 0, .string ⟨#[]⟩, .bool false, .string ⟨#[]⟩, .string ⟨#[]⟩, .int .i64 0] 23)) := Blk.new w _ _
  have hb0 := (Below.refl w.heap.size w).alloc (Nat.le_refl _) (.cells #[.int .i64 0, .string ⟨#[]⟩, .bool false, .string ⟨#[]⟩, .string ⟨#[]⟩, .int .i64 0] 23)
  have hz0 : w.heap.size ≤ (w.alloc (.cells #[.int .i64 0, .string ⟨#[]⟩, .bool false, .string ⟨#[]⟩, .string ⟨#[]⟩, .int .i64 0] 23)).heap.size := hb0.size
  generalize w.alloc (.cells #[.int .i64 0, .string ⟨#[]⟩, .bool false, .string ⟨#[]⟩, .string ⟨#[]⟩, .int .i64 0] 23) = w0 at *
  obtain ⟨s0, s1, s2, s3, s4, s5⟩ := hS.below hb0
  have hC := fun W (h : Below w0.heap.size w0 W) => tkData_calls b s c W ((hS.below hb0).below h) hc
  generalize (dataX c : Sx) = X at *
  have HC := Lib.hid hC
  clear hC
  go_wp2_with (first | (go_at_call 65; refine (hLT _).mono ?_; rintro e w1 ⟨rfl, rfl⟩) | (go_at_call 117; refine (HC.out _ (Below.refl _ _)).mono ?_; rintro e w1 ⟨rfl, hb⟩; have hb1 := hb0.trans (hb.mono hz0); have hB1 := hB0.below hb; have d0 := hB1.cell 0 _ rfl; have f0 := hB1.free 0; have d1 := hB1.cell 1 _ rfl; have f1 := hB1.free 1; have d2 := hB1.cell 2 _ rfl; have f2 := hB1.free 2; have d3 := hB1.cell 3 _ rfl; have f3 := hB1.free 3; have d4 := hB1.cell 4 _ rfl; have f4 := hB1.free 4; have d5 := hB1.cell 5 _ rfl; have f5 := hB1.free 5))
  exact bodyPost_ret (v := stV X) (by simp [results, Tryz.results119, go_sem, d0, d1, d2, d3, d4, d5]) rfl ⟨rfl, below6 hb1 _ _ _ _ _ _⟩
set_option maxRecDepth 100000 in
set_option maxHeartbeats 600000 in
theorem tkCloses_calls (b : Nat) (s : Sx) (w : World) (hS : StAt b s w) : Calls Tryz.prog 182 #[.pointer (some ⟨b, 0, none⟩)] w (TkPost (closesX s) w) := by
  obtain ⟨R, hR⟩ : ∃ R, R = closesX s := ⟨_, rfl⟩
  rw [← hR]
  have hlt := hS.lt
  have hne : w.heap.size ≠ b := by omega
  have hE := fun W => tkElem_calls s.nm W
  go_enter Tryz.func182, Tryz.ntmps182
  go_upto_region 1 with (fail)
  have hB0 : Blk w.heap.size 23 stZ (w.alloc (.cells #[.int .i64 0, .string ⟨#[]⟩, .bool false, .string ⟨#[]⟩, .string ⟨#[]⟩, .int .i64 0] 23)) := Blk.new w _ _
  have hb0 := (Below.refl w.heap.size w).alloc (Nat.le_refl _) (.cells #[.int .i64 0, .string ⟨#[]⟩, .bool false, .string ⟨#[]⟩, .string ⟨#[]⟩, .int .i64 0] 23)
  have hz0 : w.heap.size ≤ (w.alloc (.cells #[.int .i64 0, .string ⟨#[]⟩, .bool false, .string ⟨#[]⟩, .string ⟨#[]⟩, .int .i64 0] 23)).heap.size := hb0.size
  generalize w.alloc (.cells #[.int .i64 0, .string ⟨#[]⟩, .bool false, .string ⟨#[]⟩, .string ⟨#[]⟩, .int .i64 0] 23) = w0 at *
  obtain ⟨s0, s1, s2, s3, s4, s5⟩ := hS.below hb0
  obtain ⟨k, hk⟩ : ∃ k, k = elemK s.nm := ⟨_, rfl⟩
  rw [← hk] at hE
  have HE := Lib.hid hE
  have HK := Lib.hid hk
  clear hE hk
  cases hf : s.fin with
  | true =>
    rw [hf] at s2
    obtain rfl : R = atX 0 := by rw [hR]; unfold closesX; rw [if_pos (.inl hf)]
    have hC := fun W => tkAt_calls 0 W
    clear hR
    generalize atX 0 = X at *
    have HC := Lib.hid hC
    clear hC
    go_wp2_with (first | (go_at_call 176; refine (HE.out _).mono ?_; rintro e w1 ⟨rfl, rfl⟩) | (go_at_call 175; refine (HC.out _).mono ?_; rintro e w1 ⟨rfl, hb⟩; have hb1 := hb0.trans (hb.mono hz0); have hB1 := hB0.below hb; have d0 := hB1.cell 0 _ rfl; have f0 := hB1.free 0; have d1 := hB1.cell 1 _ rfl; have f1 := hB1.free 1; have d2 := hB1.cell 2 _ rfl; have f2 := hB1.free 2; have d3 := hB1.cell 3 _ rfl; have f3 := hB1.free 3; have d4 := hB1.cell 4 _ rfl; have f4 := hB1.free 4; have d5 := hB1.cell 5 _ rfl; have f5 := hB1.free 5))
    exact bodyPost_ret (v := stV X) (by simp [results, Tryz.results182, go_sem, d0, d1, d2, d3, d4, d5]) rfl ⟨rfl, below6 hb1 _ _ _ _ _ _⟩
  | false =>
  rw [hf] at s2
  by_cases h0 : k = 0
  · have t0 : ((k : Int) == 0) = true := beq_iff_eq.2 (by omega)
    obtain rfl : R = atX 0 := by rw [hR]; unfold closesX; rw [if_pos (.inr (.inl (by rw [← HK.out]; exact h0)))]
    have hC := fun W => tkAt_calls 0 W
    clear hR h0
    generalize atX 0 = X at *
    have HC := Lib.hid hC
    clear hC
    go_wp2_with (first | (go_at_call 176; refine (HE.out _).mono ?_; rintro e w1 ⟨rfl, rfl⟩) | (go_at_call 175; refine (HC.out _).mono ?_; rintro e w1 ⟨rfl, hb⟩; have hb1 := hb0.trans (hb.mono hz0); have hB1 := hB0.below hb; have d0 := hB1.cell 0 _ rfl; have f0 := hB1.free 0; have d1 := hB1.cell 1 _ rfl; have f1 := hB1.free 1; have d2 := hB1.cell 2 _ rfl; have f2 := hB1.free 2; have d3 := hB1.cell 3 _ rfl; have f3 := hB1.free 3; have d4 := hB1.cell 4 _ rfl; have f4 := hB1.free 4; have d5 := hB1.cell 5 _ rfl; have f5 := hB1.free 5))
    exact bodyPost_ret (v := stV X) (by simp [results, Tryz.results182, go_sem, d0, d1, d2, d3, d4, d5]) rfl ⟨rfl, below6 hb1 _ _ _ _ _ _⟩
  have t0 : ((k : Int) == 0) = false := beq_eq_false_iff_ne.2 (by omega)
  by_cases h1 : k = 1
  · have t1 : ((k : Int) == 1) = true := beq_iff_eq.2 (by omega)
    obtain rfl : R = atX 0 := by rw [hR]; unfold closesX; rw [if_pos (.inr (.inr (by rw [← HK.out]; exact h1)))]
    have hC := fun W => tkAt_calls 0 W
    clear hR h1
    generalize atX 0 = X at *
    have HC := Lib.hid hC
    clear hC
    go_wp2_with (first | (go_at_call 176; refine (HE.out _).mono ?_; rintro e w1 ⟨rfl, rfl⟩) | (go_at_call 175; refine (HC.out _).mono ?_; rintro e w1 ⟨rfl, hb⟩; have hb1 := hb0.trans (hb.mono hz0); have hB1 := hB0.below hb; have d0 := hB1.cell 0 _ rfl; have f0 := hB1.free 0; have d1 := hB1.cell 1 _ rfl; have f1 := hB1.free 1; have d2 := hB1.cell 2 _ rfl; have f2 := hB1.free 2; have d3 := hB1.cell 3 _ rfl; have f3 := hB1.free 3; have d4 := hB1.cell 4 _ rfl; have f4 := hB1.free 4; have d5 := hB1.cell 5 _ rfl; have f5 := hB1.free 5))
    exact bodyPost_ret (v := stV X) (by simp [results, Tryz.results182, go_sem, d0, d1, d2, d3, d4, d5]) rfl ⟨rfl, below6 hb1 _ _ _ _ _ _⟩
  have t1 : ((k : Int) == 1) = false := beq_eq_false_iff_ne.2 (by omega)
  obtain rfl : R = ⟨19, [], false, [], s.nm, 0⟩ := by rw [hR]; unfold closesX; rw [if_neg (by rw [hf, ← HK.out]; simp [h0, h1])]
  clear hR h0 h1 HK
  have d0 := hB0.cell 0 _ rfl
  have f0 := hB0.free 0
  have d1 := hB0.cell 1 _ rfl
  have f1 := hB0.free 1
  have d2 := hB0.cell 2 _ rfl
  have f2 := hB0.free 2
  have d3 := hB0.cell 3 _ rfl
  have f3 := hB0.free 3
  have d4 := hB0.cell 4 _ rfl
  have f4 := hB0.free 4
  have d5 := hB0.cell 5 _ rfl
  have f5 := hB0.free 5
  go_wp2_with (go_at_call 176; refine (HE.out _).mono ?_; rintro e w1 ⟨rfl, rfl⟩)
  exact bodyPost_ret (v := stV ⟨19, [], false, [], s.nm, 0⟩) (by simp [results, Tryz.results182, go_sem, d0, d1, d2, d3, d4, d5]) rfl ⟨rfl, below6 hb0 _ _ _ _ _ _⟩
def BtPost (R : Option Sx) (w : World) (e : Ending) (w' : World) : Prop := (∀ o, R = some o → e = .returned (.tuple #[stV o, .bool true])) ∧ (R = none → e = .returned (.tuple #[stV (atX 0), .bool false])) ∧ Below w.heap.size w w'
theorem BtPost.yes {o : Sx} {w w' : World} (hb : Below w.heap.size w w') : BtPost (some o) w (.returned (.tuple #[stV o, .bool true])) w' := ⟨(fun o' h => by cases h; rfl), (fun h => by cases h), hb⟩
theorem BtPost.no {w w' : World} (hb : Below w.heap.size w w') : BtPost none w (.returned (.tuple #[stV (atX 0), .bool false])) w' := ⟨(fun o' h => by cases h), (fun _ => rfl), hb⟩
set_option maxRecDepth 100000 in
set_option maxHeartbeats 600000 in
theorem tkBetween_calls (b : Nat) (s : Sx) (c : Nat) (x : Int) (w : World) (hS : StAt b s w) (hc : c < 256) : Calls Tryz.prog 179 #[.pointer (some ⟨b, 0, none⟩), .int .u8 c, .int .i64 x] w (BtPost (betweenX s c x) w) := by
  obtain ⟨R, hR⟩ : ∃ R, R = betweenX s c x := ⟨_, rfl⟩
  rw [← hR]
  have hBL := fun W => tkBlank_calls c W hc
  have hlt := hS.lt
  have hne : w.heap.size ≠ b := by omega
  go_enter Tryz.func179, Tryz.ntmps179
  go_upto_region 1 with (fail)
  have hB0 : Blk w.heap.size 23 stZ (w.alloc (.cells #[.int .i64 0, .string ⟨#[]⟩, .bool false, .string ⟨#[]⟩, .string ⟨#[]⟩, .int .i64 0] 23)) := Blk.new w _ _
  have hb0 := (Below.refl w.heap.size w).alloc (Nat.le_refl _) (.cells #[.int .i64 0, .string ⟨#[]⟩, .bool false, .string ⟨#[]⟩, .string ⟨#[]⟩, .int .i64 0] 23)
  have hz0 : w.heap.size ≤ (w.alloc (.cells #[.int .i64 0, .string ⟨#[]⟩, .bool false, .string ⟨#[]⟩, .string ⟨#[]⟩, .int .i64 0] 23)).heap.size := hb0.size
  generalize w.alloc (.cells #[.int .i64 0, .string ⟨#[]⟩, .bool false, .string ⟨#[]⟩, .string ⟨#[]⟩, .int .i64 0] 23) = w0 at *
  obtain ⟨s0, s1, s2, s3, s4, s5⟩ := hS.below hb0
  cases h0 : blankB c with
  | true =>
    rw [h0] at hBL
    obtain rfl : R = some (inX s x) := by rw [hR]; unfold betweenX; rw [if_pos h0]
    have hC := fun W (h : Below w0.heap.size w0 W) => inX_calls b s x W ((hS.below hb0).below h)
    clear hR 
    generalize inX s x = X at *
    have HC := Lib.hid hC
    clear hC
    go_wp2_with (first | (go_at_call 181; refine (hBL _).mono ?_; rintro e w1 ⟨rfl, rfl⟩) | (go_at_call 173; refine (HC.out _ (Below.refl _ _)).mono ?_; rintro e w1 ⟨rfl, hb⟩; have hb1 := hb0.trans (hb.mono hz0); have hB1 := hB0.below hb; have d0 := hB1.cell 0 _ rfl; have f0 := hB1.free 0; have d1 := hB1.cell 1 _ rfl; have f1 := hB1.free 1; have d2 := hB1.cell 2 _ rfl; have f2 := hB1.free 2; have d3 := hB1.cell 3 _ rfl; have f3 := hB1.free 3; have d4 := hB1.cell 4 _ rfl; have f4 := hB1.free 4; have d5 := hB1.cell 5 _ rfl; have f5 := hB1.free 5))
    exact bodyPost_ret (v := .tuple #[stV X, .bool true]) (by simp [results, Tryz.results179, go_sem, d0, d1, d2, d3, d4, d5]) rfl (BtPost.yes (below6 hb1 _ _ _ _ _ _))
  | false =>
  rw [h0] at hBL
  have n0 : ¬ blankB c = true := by rw [h0]; decide
  by_cases h1 : c = 47
  · have t47 : ((c : Int) == 47) = true := beq_iff_eq.2 (by omega)
    obtain rfl : R = some (inX s 12) := by rw [hR]; unfold betweenX; rw [if_neg n0, if_pos h1]
    have hC := fun W (h : Below w0.heap.size w0 W) => inX_calls b s 12 W ((hS.below hb0).below h)
    clear hR h1
    generalize inX s 12 = X at *
    have HC := Lib.hid hC
    clear hC
    go_wp2_with (first | (go_at_call 181; refine (hBL _).mono ?_; rintro e w1 ⟨rfl, rfl⟩) | (go_at_call 173; refine (HC.out _ (Below.refl _ _)).mono ?_; rintro e w1 ⟨rfl, hb⟩; have hb1 := hb0.trans (hb.mono hz0); have hB1 := hB0.below hb; have d0 := hB1.cell 0 _ rfl; have f0 := hB1.free 0; have d1 := hB1.cell 1 _ rfl; have f1 := hB1.free 1; have d2 := hB1.cell 2 _ rfl; have f2 := hB1.free 2; have d3 := hB1.cell 3 _ rfl; have f3 := hB1.free 3; have d4 := hB1.cell 4 _ rfl; have f4 := hB1.free 4; have d5 := hB1.cell 5 _ rfl; have f5 := hB1.free 5))
    exact bodyPost_ret (v := .tuple #[stV X, .bool true]) (by simp [results, Tryz.results179, go_sem, d0, d1, d2, d3, d4, d5]) rfl (BtPost.yes (below6 hb1 _ _ _ _ _ _))
  have t47 : ((c : Int) == 47) = false := beq_eq_false_iff_ne.2 (by omega)
  by_cases h2 : c = 62
  · have t62 : ((c : Int) == 62) = true := beq_iff_eq.2 (by omega)
    obtain rfl : R = some (closesX s) := by rw [hR]; unfold betweenX; rw [if_neg n0, if_neg h1, if_pos h2]
    have hC := fun W (h : Below w0.heap.size w0 W) => tkCloses_calls b s W ((hS.below hb0).below h)
    clear hR h1 h2
    generalize closesX s = X at *
    have HC := Lib.hid hC
    clear hC
    go_wp2_with (first | (go_at_call 181; refine (hBL _).mono ?_; rintro e w1 ⟨rfl, rfl⟩) | (go_at_call 182; refine (HC.out _ (Below.refl _ _)).mono ?_; rintro e w1 ⟨rfl, hb⟩; have hb1 := hb0.trans (hb.mono hz0); have hB1 := hB0.below hb; have d0 := hB1.cell 0 _ rfl; have f0 := hB1.free 0; have d1 := hB1.cell 1 _ rfl; have f1 := hB1.free 1; have d2 := hB1.cell 2 _ rfl; have f2 := hB1.free 2; have d3 := hB1.cell 3 _ rfl; have f3 := hB1.free 3; have d4 := hB1.cell 4 _ rfl; have f4 := hB1.free 4; have d5 := hB1.cell 5 _ rfl; have f5 := hB1.free 5))
    exact bodyPost_ret (v := .tuple #[stV X, .bool true]) (by simp [results, Tryz.results179, go_sem, d0, d1, d2, d3, d4, d5]) rfl (BtPost.yes (below6 hb1 _ _ _ _ _ _))
  have t62 : ((c : Int) == 62) = false := beq_eq_false_iff_ne.2 (by omega)
  obtain rfl : R = none := by rw [hR]; unfold betweenX; rw [if_neg n0, if_neg h1, if_neg h2]
  clear hR h1 h2
  have d0 := hB0.cell 0 _ rfl
  have f0 := hB0.free 0
  have d1 := hB0.cell 1 _ rfl
  have f1 := hB0.free 1
  have d2 := hB0.cell 2 _ rfl
  have f2 := hB0.free 2
  have d3 := hB0.cell 3 _ rfl
  have f3 := hB0.free 3
  have d4 := hB0.cell 4 _ rfl
  have f4 := hB0.free 4
  have d5 := hB0.cell 5 _ rfl
  have f5 := hB0.free 5
  go_wp2_with (go_at_call 181; refine (hBL _).mono ?_; rintro e w1 ⟨rfl, rfl⟩)
  exact bodyPost_ret (v := .tuple #[stV (atX 0), .bool false]) (by simp [results, Tryz.results179, go_sem, atX, d0, d1, d2, d3, d4, d5]) rfl (BtPost.no (below6 hb0 _ _ _ _ _ _))
end Go.Proofs.YtafkfamfhagokaaGreatDoor.S
