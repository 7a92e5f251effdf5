/-
  THE WALKS of package tok (states): Clean, Step.
-/
import Derived.Test.YtafkfamfhagokaaGreatDoorTokW7
import Derived.Laws.EntriesVeiled
set_option linter.unusedVariables false
set_option linter.unusedSimpArgs false
namespace Go.Proofs.YtafkfamfhagokaaGreatDoor.S
open Go.RowKit

theorem boxed2 (w : World) (s : Sx) : StAt w.heap.size s ((w.alloc (.cells #[.int .i64 s.pl, .string ⟨s.nm.toArray⟩, .bool s.fin, .string ⟨s.attr.toArray⟩, .string ⟨s.held.toArray⟩, .int .i64 s.rd] 23)).alloc (.cells #[.int .i64 0, .string ⟨#[]⟩, .bool false, .string ⟨#[]⟩, .string ⟨#[]⟩, .int .i64 0] 23)) ∧
    Blk (w.heap.size + 1) 23 stZ ((w.alloc (.cells #[.int .i64 s.pl, .string ⟨s.nm.toArray⟩, .bool s.fin, .string ⟨s.attr.toArray⟩, .string ⟨s.held.toArray⟩, .int .i64 s.rd] 23)).alloc (.cells #[.int .i64 0, .string ⟨#[]⟩, .bool false, .string ⟨#[]⟩, .string ⟨#[]⟩, .int .i64 0] 23)) ∧
    Below w.heap.size w ((w.alloc (.cells #[.int .i64 s.pl, .string ⟨s.nm.toArray⟩, .bool s.fin, .string ⟨s.attr.toArray⟩, .string ⟨s.held.toArray⟩, .int .i64 s.rd] 23)).alloc (.cells #[.int .i64 0, .string ⟨#[]⟩, .bool false, .string ⟨#[]⟩, .string ⟨#[]⟩, .int .i64 0] 23)) := by
  have h1 := Blk.new w [.int .i64 s.pl, .string ⟨s.nm.toArray⟩, .bool s.fin, .string ⟨s.attr.toArray⟩, .string ⟨s.held.toArray⟩, .int .i64 s.rd] 23
  have b1 := (Below.refl w.heap.size w).alloc (Nat.le_refl _) (.cells #[.int .i64 s.pl, .string ⟨s.nm.toArray⟩, .bool s.fin, .string ⟨s.attr.toArray⟩, .string ⟨s.held.toArray⟩, .int .i64 s.rd] 23)
  have z1 : (w.alloc (.cells #[.int .i64 s.pl, .string ⟨s.nm.toArray⟩, .bool s.fin, .string ⟨s.attr.toArray⟩, .string ⟨s.held.toArray⟩, .int .i64 s.rd] 23)).heap.size = w.heap.size + 1 := by simp
  change Blk w.heap.size _ _ (w.alloc (.cells #[.int .i64 s.pl, .string ⟨s.nm.toArray⟩, .bool s.fin, .string ⟨s.attr.toArray⟩, .string ⟨s.held.toArray⟩, .int .i64 s.rd] 23)) at h1
  generalize w.alloc (.cells #[.int .i64 s.pl, .string ⟨s.nm.toArray⟩, .bool s.fin, .string ⟨s.attr.toArray⟩, .string ⟨s.held.toArray⟩, .int .i64 s.rd] 23) = w1 at *
  have h2 := Blk.new w1 stZ 23
  have b2 := (Below.refl w1.heap.size w1).alloc (Nat.le_refl _) (.cells #[.int .i64 0, .string ⟨#[]⟩, .bool false, .string ⟨#[]⟩, .string ⟨#[]⟩, .int .i64 0] 23)
  rw [z1] at h2
  exact ⟨(StAt.of (r := []) h1).below b2, h2, b1.trans (b2.mono (by omega))⟩
set_option maxRecDepth 100000 in
set_option maxHeartbeats 600000 in
theorem tkClean_calls (s : Sx) (w : World) : Calls Tryz.prog 114 #[stV s] w (TkPost (cleanX s) w) := by
  obtain ⟨R, hR⟩ : ∃ R, R = cleanX s := ⟨_, rfl⟩
  rw [← hR]
  rcases (show (5 ≤ s.pl ∧ s.pl ≤ 10) ∨ (3 ≤ s.pl ∧ s.pl ≤ 4) ∨ (11 ≤ s.pl ∧ s.pl ≤ 12) ∨ s.pl < 3 ∨ (13 ≤ s.pl ∧ s.pl ≤ 18) ∨ (19 ≤ s.pl ∧ s.pl ≤ 21) ∨ s.pl = 22 ∨ 22 < s.pl by omega) with h | h | h | h | h | h | h | h
  · obtain rfl : R = attrX s s.pl s.attr := by rw [hR]; unfold cleanX; rw [if_pos h]
    clear hR
    have g1 : decide ((5 : Int) ≤ s.pl) = true := decide_eq_true (by omega)
    have g2 : decide (s.pl ≤ 10) = true := decide_eq_true (by omega)
    clear h
    go_enter Tryz.func114, Tryz.ntmps114
    go_upto_region 1 with (fail)
    refine wp_at_world ?_
    intro w0 hw0
    obtain ⟨hS, hB0, hb0⟩ : StAt w.heap.size s w0 ∧ Blk (w.heap.size + 1) 23 stZ w0 ∧ Below w.heap.size w w0 := by rw [hw0]; exact boxed2 w s
    have hz0 : w.heap.size ≤ w0.heap.size := hb0.size
    have hlt0 := hB0.lt
    have hn1 : w.heap.size + 1 ≠ w.heap.size := by omega
    have hn2 : w.heap.size ≠ w.heap.size + 1 := by omega
    clear hw0
    obtain ⟨s0, s1, s2, s3, s4, s5⟩ := hS
    have HC := Lib.hid (fun W (h : Below w0.heap.size w0 W) => attrX_calls _ s s.pl s.attr W ((show StAt w.heap.size s w0 from ⟨s0, s1, s2, s3, s4, s5⟩).below h))
    generalize (attrX s s.pl s.attr : Sx) = X at *
    go_wp2_with (go_at_call 172; refine (HC.out _ (Below.refl _ _)).mono ?_; rintro e w1 ⟨rfl, hb⟩; have hb1 := hb0.trans (hb.mono hz0); have hB1 := hB0.below hb; have d0 := hB1.cell 0 _ rfl; have f0 := hB1.free 0; have d1 := hB1.cell 1 _ rfl; have f1 := hB1.free 1; have d2 := hB1.cell 2 _ rfl; have f2 := hB1.free 2; have d3 := hB1.cell 3 _ rfl; have f3 := hB1.free 3; have d4 := hB1.cell 4 _ rfl; have f4 := hB1.free 4; have d5 := hB1.cell 5 _ rfl; have f5 := hB1.free 5)
    exact bodyPost_ret (v := stV X) (by simp [results, Tryz.results114, go_sem, d0, d1, d2, d3, d4, d5]) rfl ⟨rfl, below6 hb1 _ _ _ _ _ _ (Nat.le_succ _)⟩
  · obtain rfl : R = inX s s.pl := by rw [hR]; unfold cleanX; rw [if_neg (by omega), if_pos (by omega)]
    clear hR
    have g1 : decide ((5 : Int) ≤ s.pl) = false := decide_eq_false (by omega)
    have g3 : decide ((3 : Int) ≤ s.pl) = true := decide_eq_true (by omega)
    have g4 : decide (s.pl ≤ 12) = true := decide_eq_true (by omega)
    clear h
    go_enter Tryz.func114, Tryz.ntmps114
    go_upto_region 1 with (fail)
    refine wp_at_world ?_
    intro w0 hw0
    obtain ⟨hS, hB0, hb0⟩ : StAt w.heap.size s w0 ∧ Blk (w.heap.size + 1) 23 stZ w0 ∧ Below w.heap.size w w0 := by rw [hw0]; exact boxed2 w s
    have hz0 : w.heap.size ≤ w0.heap.size := hb0.size
    have hlt0 := hB0.lt
    have hn1 : w.heap.size + 1 ≠ w.heap.size := by omega
    have hn2 : w.heap.size ≠ w.heap.size + 1 := by omega
    clear hw0
    obtain ⟨s0, s1, s2, s3, s4, s5⟩ := hS
    have HC := Lib.hid (fun W (h : Below w0.heap.size w0 W) => inX_calls _ s s.pl W ((show StAt w.heap.size s w0 from ⟨s0, s1, s2, s3, s4, s5⟩).below h))
    generalize (inX s s.pl : Sx) = X at *
    go_wp2_with (go_at_call 173; refine (HC.out _ (Below.refl _ _)).mono ?_; rintro e w1 ⟨rfl, hb⟩; have hb1 := hb0.trans (hb.mono hz0); have hB1 := hB0.below hb; have d0 := hB1.cell 0 _ rfl; have f0 := hB1.free 0; have d1 := hB1.cell 1 _ rfl; have f1 := hB1.free 1; have d2 := hB1.cell 2 _ rfl; have f2 := hB1.free 2; have d3 := hB1.cell 3 _ rfl; have f3 := hB1.free 3; have d4 := hB1.cell 4 _ rfl; have f4 := hB1.free 4; have d5 := hB1.cell 5 _ rfl; have f5 := hB1.free 5)
    exact bodyPost_ret (v := stV X) (by simp [results, Tryz.results114, go_sem, d0, d1, d2, d3, d4, d5]) rfl ⟨rfl, below6 hb1 _ _ _ _ _ _ (Nat.le_succ _)⟩
  · obtain rfl : R = inX s s.pl := by rw [hR]; unfold cleanX; rw [if_neg (by omega), if_pos (by omega)]
    clear hR
    have g1 : decide ((5 : Int) ≤ s.pl) = true := decide_eq_true (by omega)
    have g2 : decide (s.pl ≤ 10) = false := decide_eq_false (by omega)
    have g3 : decide ((3 : Int) ≤ s.pl) = true := decide_eq_true (by omega)
    have g4 : decide (s.pl ≤ 12) = true := decide_eq_true (by omega)
    clear h
    go_enter Tryz.func114, Tryz.ntmps114
    go_upto_region 1 with (fail)
    refine wp_at_world ?_
    intro w0 hw0
    obtain ⟨hS, hB0, hb0⟩ : StAt w.heap.size s w0 ∧ Blk (w.heap.size + 1) 23 stZ w0 ∧ Below w.heap.size w w0 := by rw [hw0]; exact boxed2 w s
    have hz0 : w.heap.size ≤ w0.heap.size := hb0.size
    have hlt0 := hB0.lt
    have hn1 : w.heap.size + 1 ≠ w.heap.size := by omega
    have hn2 : w.heap.size ≠ w.heap.size + 1 := by omega
    clear hw0
    obtain ⟨s0, s1, s2, s3, s4, s5⟩ := hS
    have HC := Lib.hid (fun W (h : Below w0.heap.size w0 W) => inX_calls _ s s.pl W ((show StAt w.heap.size s w0 from ⟨s0, s1, s2, s3, s4, s5⟩).below h))
    generalize (inX s s.pl : Sx) = X at *
    go_wp2_with (go_at_call 173; refine (HC.out _ (Below.refl _ _)).mono ?_; rintro e w1 ⟨rfl, hb⟩; have hb1 := hb0.trans (hb.mono hz0); have hB1 := hB0.below hb; have d0 := hB1.cell 0 _ rfl; have f0 := hB1.free 0; have d1 := hB1.cell 1 _ rfl; have f1 := hB1.free 1; have d2 := hB1.cell 2 _ rfl; have f2 := hB1.free 2; have d3 := hB1.cell 3 _ rfl; have f3 := hB1.free 3; have d4 := hB1.cell 4 _ rfl; have f4 := hB1.free 4; have d5 := hB1.cell 5 _ rfl; have f5 := hB1.free 5)
    exact bodyPost_ret (v := stV X) (by simp [results, Tryz.results114, go_sem, d0, d1, d2, d3, d4, d5]) rfl ⟨rfl, below6 hb1 _ _ _ _ _ _ (Nat.le_succ _)⟩
  · obtain rfl : R = atX s.pl := by rw [hR]; unfold cleanX; rw [if_neg (by omega), if_neg (by omega), if_neg (by omega)]
    clear hR
    have g1 : decide ((5 : Int) ≤ s.pl) = false := decide_eq_false (by omega)
    have g3 : decide ((3 : Int) ≤ s.pl) = false := decide_eq_false (by omega)
    have g5 : decide ((19 : Int) ≤ s.pl) = false := decide_eq_false (by omega)
    clear h
    go_enter Tryz.func114, Tryz.ntmps114
    go_upto_region 1 with (fail)
    refine wp_at_world ?_
    intro w0 hw0
    obtain ⟨hS, hB0, hb0⟩ : StAt w.heap.size s w0 ∧ Blk (w.heap.size + 1) 23 stZ w0 ∧ Below w.heap.size w w0 := by rw [hw0]; exact boxed2 w s
    have hz0 : w.heap.size ≤ w0.heap.size := hb0.size
    have hlt0 := hB0.lt
    have hn1 : w.heap.size + 1 ≠ w.heap.size := by omega
    have hn2 : w.heap.size ≠ w.heap.size + 1 := by omega
    clear hw0
    obtain ⟨s0, s1, s2, s3, s4, s5⟩ := hS
    have HC := Lib.hid (fun W (h : Below w0.heap.size w0 W) => tkAt_calls s.pl W)
    generalize (atX s.pl : Sx) = X at *
    go_wp2_with (go_at_call 175; refine (HC.out _ (Below.refl _ _)).mono ?_; rintro e w1 ⟨rfl, hb⟩; have hb1 := hb0.trans (hb.mono hz0); have hB1 := hB0.below hb; have d0 := hB1.cell 0 _ rfl; have f0 := hB1.free 0; have d1 := hB1.cell 1 _ rfl; have f1 := hB1.free 1; have d2 := hB1.cell 2 _ rfl; have f2 := hB1.free 2; have d3 := hB1.cell 3 _ rfl; have f3 := hB1.free 3; have d4 := hB1.cell 4 _ rfl; have f4 := hB1.free 4; have d5 := hB1.cell 5 _ rfl; have f5 := hB1.free 5)
    exact bodyPost_ret (v := stV X) (by simp [results, Tryz.results114, go_sem, d0, d1, d2, d3, d4, d5]) rfl ⟨rfl, below6 hb1 _ _ _ _ _ _ (Nat.le_succ _)⟩
  · obtain rfl : R = atX s.pl := by rw [hR]; unfold cleanX; rw [if_neg (by omega), if_neg (by omega), if_neg (by omega)]
    clear hR
    have g1 : decide ((5 : Int) ≤ s.pl) = true := decide_eq_true (by omega)
    have g2 : decide (s.pl ≤ 10) = false := decide_eq_false (by omega)
    have g3 : decide ((3 : Int) ≤ s.pl) = true := decide_eq_true (by omega)
    have g4 : decide (s.pl ≤ 12) = false := decide_eq_false (by omega)
    have g5 : decide ((19 : Int) ≤ s.pl) = false := decide_eq_false (by omega)
    clear h
    go_enter Tryz.func114, Tryz.ntmps114
    go_upto_region 1 with (fail)
    refine wp_at_world ?_
    intro w0 hw0
    obtain ⟨hS, hB0, hb0⟩ : StAt w.heap.size s w0 ∧ Blk (w.heap.size + 1) 23 stZ w0 ∧ Below w.heap.size w w0 := by rw [hw0]; exact boxed2 w s
    have hz0 : w.heap.size ≤ w0.heap.size := hb0.size
    have hlt0 := hB0.lt
    have hn1 : w.heap.size + 1 ≠ w.heap.size := by omega
    have hn2 : w.heap.size ≠ w.heap.size + 1 := by omega
    clear hw0
    obtain ⟨s0, s1, s2, s3, s4, s5⟩ := hS
    have HC := Lib.hid (fun W (h : Below w0.heap.size w0 W) => tkAt_calls s.pl W)
    generalize (atX s.pl : Sx) = X at *
    go_wp2_with (go_at_call 175; refine (HC.out _ (Below.refl _ _)).mono ?_; rintro e w1 ⟨rfl, hb⟩; have hb1 := hb0.trans (hb.mono hz0); have hB1 := hB0.below hb; have d0 := hB1.cell 0 _ rfl; have f0 := hB1.free 0; have d1 := hB1.cell 1 _ rfl; have f1 := hB1.free 1; have d2 := hB1.cell 2 _ rfl; have f2 := hB1.free 2; have d3 := hB1.cell 3 _ rfl; have f3 := hB1.free 3; have d4 := hB1.cell 4 _ rfl; have f4 := hB1.free 4; have d5 := hB1.cell 5 _ rfl; have f5 := hB1.free 5)
    exact bodyPost_ret (v := stV X) (by simp [results, Tryz.results114, go_sem, d0, d1, d2, d3, d4, d5]) rfl ⟨rfl, below6 hb1 _ _ _ _ _ _ (Nat.le_succ _)⟩
  · obtain rfl : R = ⟨s.pl, [], false, [], s.held, 0⟩ := by rw [hR]; unfold cleanX; rw [if_neg (by omega), if_neg (by omega), if_pos (by omega), if_neg (by omega)]
    clear hR
    have g1 : decide ((5 : Int) ≤ s.pl) = true := decide_eq_true (by omega)
    have g2 : decide (s.pl ≤ 10) = false := decide_eq_false (by omega)
    have g3 : decide ((3 : Int) ≤ s.pl) = true := decide_eq_true (by omega)
    have g4 : decide (s.pl ≤ 12) = false := decide_eq_false (by omega)
    have g5 : decide ((19 : Int) ≤ s.pl) = true := decide_eq_true (by omega)
    have g6 : decide (s.pl ≤ 22) = true := decide_eq_true (by omega)
    have g7 : (s.pl == 22) = false := beq_eq_false_iff_ne.2 (by omega)
    clear h
    go_enter Tryz.func114, Tryz.ntmps114
    go_upto_region 1 with (fail)
    refine wp_at_world ?_
    intro w0 hw0
    obtain ⟨hS, hB0, hb0⟩ : StAt w.heap.size s w0 ∧ Blk (w.heap.size + 1) 23 stZ w0 ∧ Below w.heap.size w w0 := by rw [hw0]; exact boxed2 w s
    have hz0 : w.heap.size ≤ w0.heap.size := hb0.size
    have hlt0 := hB0.lt
    have hn1 : w.heap.size + 1 ≠ w.heap.size := by omega
    have hn2 : w.heap.size ≠ w.heap.size + 1 := by omega
    clear hw0
    obtain ⟨s0, s1, s2, s3, s4, s5⟩ := hS
    have HC := Lib.hid (fun W (h : Below w0.heap.size w0 W) => (show Calls Tryz.prog 174 #[.pointer (some ⟨w.heap.size, 0, none⟩), .int .i64 s.pl] W (TkPost ⟨s.pl, [], false, [], s.held, 0⟩ W) from heldX_calls _ s s.pl W ((show StAt w.heap.size s w0 from ⟨s0, s1, s2, s3, s4, s5⟩).below h)))
    have hSx := (show StAt w.heap.size s w0 from ⟨s0, s1, s2, s3, s4, s5⟩)
    go_upto_region 7 with (go_at_call 174; refine (HC.out _ (Below.refl _ _)).mono ?_; rintro e w1 ⟨rfl, hb⟩; have hb1 := hb0.trans (hb.mono hz0); have hB1 := hB0.below hb; have hS1 := hSx.below hb)
    have hlw := hB1.lt
    have hz1 : w.heap.size ≤ w1.heap.size := by omega
    have k0 : w1.heap.size ≠ w.heap.size + 1 := by omega
    have k1 : w.heap.size + 1 ≠ w1.heap.size := by omega
    have k2 : w1.heap.size ≠ w.heap.size := by omega
    have k3 : w.heap.size ≠ w1.heap.size := by omega
    refine wp_at_world ?_
    intro w2 hw2
    have hO : Blk w1.heap.size 23 [.int .i64 s.pl, .string ⟨#[]⟩, .bool false, .string ⟨#[]⟩, .string ⟨s.held.toArray⟩, .int .i64 0] w2 := by rw [hw2]; exact Blk.new w1 [.int .i64 s.pl, .string ⟨#[]⟩, .bool false, .string ⟨#[]⟩, .string ⟨s.held.toArray⟩, .int .i64 0] 23
    have hbo : Below w1.heap.size w1 w2 := by rw [hw2]; exact (Below.refl _ w1).alloc (Nat.le_refl _) _
    have hb2 := hb1.trans (hbo.mono hz1)
    have hB2 := hB1.below hbo
    obtain ⟨s0, s1, s2, s3, s4, s5⟩ := hS1.below hbo
    clear hw2 hbo
    have d0 := hB2.cell 0 _ rfl
    have f0 := hB2.free 0
    have d1 := hB2.cell 1 _ rfl
    have f1 := hB2.free 1
    have d2 := hB2.cell 2 _ rfl
    have f2 := hB2.free 2
    have d3 := hB2.cell 3 _ rfl
    have f3 := hB2.free 3
    have d4 := hB2.cell 4 _ rfl
    have f4 := hB2.free 4
    have d5 := hB2.cell 5 _ rfl
    have f5 := hB2.free 5
    have c0 := hO.cell 0 _ rfl
    have c1 := hO.cell 1 _ rfl
    have c2 := hO.cell 2 _ rfl
    have c3 := hO.cell 3 _ rfl
    have c4 := hO.cell 4 _ rfl
    have c5 := hO.cell 5 _ rfl
    go_wp2
    exact bodyPost_ret (v := stV ⟨s.pl, [], false, [], s.held, 0⟩) (by simp [results, Tryz.results114, go_sem, d0, d1, d2, d3, d4, d5]) rfl ⟨rfl, below6 hb2 _ _ _ _ _ _ (Nat.le_succ _)⟩
  · obtain rfl : R = ⟨s.pl, [], false, [], s.held, s.rd⟩ := by rw [hR]; unfold cleanX; rw [if_neg (by omega), if_neg (by omega), if_pos (by omega), if_pos (by omega)]
    clear hR
    have g1 : decide ((5 : Int) ≤ s.pl) = true := decide_eq_true (by omega)
    have g2 : decide (s.pl ≤ 10) = false := decide_eq_false (by omega)
    have g3 : decide ((3 : Int) ≤ s.pl) = true := decide_eq_true (by omega)
    have g4 : decide (s.pl ≤ 12) = false := decide_eq_false (by omega)
    have g5 : decide ((19 : Int) ≤ s.pl) = true := decide_eq_true (by omega)
    have g6 : decide (s.pl ≤ 22) = true := decide_eq_true (by omega)
    have g7 : (s.pl == 22) = true := beq_iff_eq.2 (by omega)
    clear h
    go_enter Tryz.func114, Tryz.ntmps114
    go_upto_region 1 with (fail)
    refine wp_at_world ?_
    intro w0 hw0
    obtain ⟨hS, hB0, hb0⟩ : StAt w.heap.size s w0 ∧ Blk (w.heap.size + 1) 23 stZ w0 ∧ Below w.heap.size w w0 := by rw [hw0]; exact boxed2 w s
    have hz0 : w.heap.size ≤ w0.heap.size := hb0.size
    have hlt0 := hB0.lt
    have hn1 : w.heap.size + 1 ≠ w.heap.size := by omega
    have hn2 : w.heap.size ≠ w.heap.size + 1 := by omega
    clear hw0
    obtain ⟨s0, s1, s2, s3, s4, s5⟩ := hS
    have HC := Lib.hid (fun W (h : Below w0.heap.size w0 W) => (show Calls Tryz.prog 174 #[.pointer (some ⟨w.heap.size, 0, none⟩), .int .i64 s.pl] W (TkPost ⟨s.pl, [], false, [], s.held, 0⟩ W) from heldX_calls _ s s.pl W ((show StAt w.heap.size s w0 from ⟨s0, s1, s2, s3, s4, s5⟩).below h)))
    have hSx := (show StAt w.heap.size s w0 from ⟨s0, s1, s2, s3, s4, s5⟩)
    go_upto_region 7 with (go_at_call 174; refine (HC.out _ (Below.refl _ _)).mono ?_; rintro e w1 ⟨rfl, hb⟩; have hb1 := hb0.trans (hb.mono hz0); have hB1 := hB0.below hb; have hS1 := hSx.below hb)
    have hlw := hB1.lt
    have hz1 : w.heap.size ≤ w1.heap.size := by omega
    have k0 : w1.heap.size ≠ w.heap.size + 1 := by omega
    have k1 : w.heap.size + 1 ≠ w1.heap.size := by omega
    have k2 : w1.heap.size ≠ w.heap.size := by omega
    have k3 : w.heap.size ≠ w1.heap.size := by omega
    refine wp_at_world ?_
    intro w2 hw2
    have hO : Blk w1.heap.size 23 [.int .i64 s.pl, .string ⟨#[]⟩, .bool false, .string ⟨#[]⟩, .string ⟨s.held.toArray⟩, .int .i64 0] w2 := by rw [hw2]; exact Blk.new w1 [.int .i64 s.pl, .string ⟨#[]⟩, .bool false, .string ⟨#[]⟩, .string ⟨s.held.toArray⟩, .int .i64 0] 23
    have hbo : Below w1.heap.size w1 w2 := by rw [hw2]; exact (Below.refl _ w1).alloc (Nat.le_refl _) _
    have hb2 := hb1.trans (hbo.mono hz1)
    have hB2 := hB1.below hbo
    obtain ⟨s0, s1, s2, s3, s4, s5⟩ := hS1.below hbo
    clear hw2 hbo
    have c5 := hO.cell 5 _ rfl
    have e5 := hO.free 5
    go_upto_region 9 with (fail)
    have hb3 := hb2.setCell (p := ⟨w1.heap.size, 5, none⟩) hz1 (.int .i64 s.rd)
    have hB3 := hB2.grown (grownBy_set w2 w1.heap.size 5 (.int .i64 s.rd)) (fun e => k1 (Option.some.inj e))
    have hO3 := hO.set 5 (.int .i64 s.rd)
    clear c5 e5 s0 s1 s2 s3 s4 s5
    generalize w2.setCell ⟨w1.heap.size, 5, none⟩ (.int .i64 s.rd) = w3 at *
    have d0 := hB3.cell 0 _ rfl
    have f0 := hB3.free 0
    have d1 := hB3.cell 1 _ rfl
    have f1 := hB3.free 1
    have d2 := hB3.cell 2 _ rfl
    have f2 := hB3.free 2
    have d3 := hB3.cell 3 _ rfl
    have f3 := hB3.free 3
    have d4 := hB3.cell 4 _ rfl
    have f4 := hB3.free 4
    have d5 := hB3.cell 5 _ rfl
    have f5 := hB3.free 5
    have c0 := hO3.cell 0 _ rfl
    have c1 := hO3.cell 1 _ rfl
    have c2 := hO3.cell 2 _ rfl
    have c3 := hO3.cell 3 _ rfl
    have c4 := hO3.cell 4 _ rfl
    have c5 := hO3.cell 5 _ rfl
    go_wp2
    exact bodyPost_ret (v := stV ⟨s.pl, [], false, [], s.held, s.rd⟩) (by simp [results, Tryz.results114, go_sem, d0, d1, d2, d3, d4, d5]) rfl ⟨rfl, below6 hb3 _ _ _ _ _ _ (Nat.le_succ _)⟩
  · obtain rfl : R = atX s.pl := by rw [hR]; unfold cleanX; rw [if_neg (by omega), if_neg (by omega), if_neg (by omega)]
    clear hR
    have g1 : decide ((5 : Int) ≤ s.pl) = true := decide_eq_true (by omega)
    have g2 : decide (s.pl ≤ 10) = false := decide_eq_false (by omega)
    have g3 : decide ((3 : Int) ≤ s.pl) = true := decide_eq_true (by omega)
    have g4 : decide (s.pl ≤ 12) = false := decide_eq_false (by omega)
    have g5 : decide ((19 : Int) ≤ s.pl) = true := decide_eq_true (by omega)
    have g6 : decide (s.pl ≤ 22) = false := decide_eq_false (by omega)
    clear h
    go_enter Tryz.func114, Tryz.ntmps114
    go_upto_region 1 with (fail)
    refine wp_at_world ?_
    intro w0 hw0
    obtain ⟨hS, hB0, hb0⟩ : StAt w.heap.size s w0 ∧ Blk (w.heap.size + 1) 23 stZ w0 ∧ Below w.heap.size w w0 := by rw [hw0]; exact boxed2 w s
    have hz0 : w.heap.size ≤ w0.heap.size := hb0.size
    have hlt0 := hB0.lt
    have hn1 : w.heap.size + 1 ≠ w.heap.size := by omega
    have hn2 : w.heap.size ≠ w.heap.size + 1 := by omega
    clear hw0
    obtain ⟨s0, s1, s2, s3, s4, s5⟩ := hS
    have HC := Lib.hid (fun W (h : Below w0.heap.size w0 W) => tkAt_calls s.pl W)
    generalize (atX s.pl : Sx) = X at *
    go_wp2_with (go_at_call 175; refine (HC.out _ (Below.refl _ _)).mono ?_; rintro e w1 ⟨rfl, hb⟩; have hb1 := hb0.trans (hb.mono hz0); have hB1 := hB0.below hb; have d0 := hB1.cell 0 _ rfl; have f0 := hB1.free 0; have d1 := hB1.cell 1 _ rfl; have f1 := hB1.free 1; have d2 := hB1.cell 2 _ rfl; have f2 := hB1.free 2; have d3 := hB1.cell 3 _ rfl; have f3 := hB1.free 3; have d4 := hB1.cell 4 _ rfl; have f4 := hB1.free 4; have d5 := hB1.cell 5 _ rfl; have f5 := hB1.free 5)
    exact bodyPost_ret (v := stV X) (by simp [results, Tryz.results114, go_sem, d0, d1, d2, d3, d4, d5]) rfl ⟨rfl, below6 hb1 _ _ _ _ _ _ (Nat.le_succ _)⟩
theorem wpList_store_fresh {P : Program} {ops : Array Oper} {rest : List Oper} {o : Oper} {a : Act} {w : World} {Q : Exit → Act → World → Prop} (hg : o.guard = none) (ty : TypeId) (x y : Operand) (ho : o.op = .store ty x y)
    (old cells : Array Value) (hx : a.eval x = .pointer (some ⟨w.heap.size, 0, none⟩)) (hy : a.eval y = .agg cells) (hi : (P.info? ty).map (·.size) = some cells.size) (hold : old.size = cells.size) (h1 : cells.all (·.oneCell') = true)
    (h : wpList P ops Q rest (a.put o.dst undef) (w.alloc (.cells cells ty))) : wpList P ops Q (o :: rest) a (w.alloc (.cells old ty)) := by
  refine wpList_plain hg fun _ hK => wp_store_row ty x y ho w.heap.size cells hx hy ty old (heap_new w _) hi hold h1 (hK _ _ ?_)
  have e : (w.alloc (.cells old ty)).setRow w.heap.size cells = w.alloc (.cells cells ty) := by
    unfold World.setRow World.alloc
    congr 1
    apply Array.ext
    · simp
    · intro k h1 h2
      simp only [Array.getElem_modify, Array.getElem_push]
      by_cases hk : k = w.heap.size
      · subst hk; simp
      · simp at h1
        have : k < w.heap.size := by omega
        simp [this, Ne.symm hk]
  rw [e]
  exact h
set_option maxRecDepth 100000 in
set_option maxHeartbeats 2000000 in
theorem tkStep_calls (s : Sx) (c : Nat) (w : World) (hc : c < 256) (hm : stateMayX s = true) : Calls Tryz.prog 64 #[stV s, .int .u8 c] w (TkPost (stepX s c) w) := by
  obtain ⟨p0, p22, -, -, -, hh'⟩ := (stateMay_iff s).1 hm
  have hh : 19 ≤ s.pl → s.held.length ≤ 32 := fun h => elem_len s.held (by omega)
  clear hh' hm
  obtain ⟨R, hR⟩ : ∃ R, R = stepX s c := ⟨_, rfl⟩
  rw [← hR]
  have HP := Lib.hid (And.intro p0 p22)
  have HH := Lib.hid hh
  clear p0 p22 hh
  go_enter Tryz.func64, Tryz.ntmps64
  go_upto_region 1 with (fail)
  refine wp_at_world ?_
  intro w0 hw0
  obtain ⟨hS, hB0, hb0⟩ : StAt w.heap.size s w0 ∧ Blk (w.heap.size + 1) 23 stZ w0 ∧ Below w.heap.size w w0 := by rw [hw0]; exact boxed2 w s
  have hz0 : w.heap.size ≤ w0.heap.size := hb0.size
  have hlt0 := hB0.lt
  have hn1 : w.heap.size + 1 ≠ w.heap.size := by omega
  have hn2 : w.heap.size ≠ w.heap.size + 1 := by omega
  clear hw0
  refine wp_region_lit ?_
  refine wpList_plain rfl (fun K hK => ?_)
  go_simp
  refine hK _ _ ?_
  clear hK K
  refine wpList_plain rfl (fun K hK => ?_)
  go_simp
  refine hK _ _ ?_
  clear hK K
  refine wpList_store_fresh rfl 131 (.tmp 5) (.tmp 6) rfl _ #[.func (.func 117) #[] #[], .func (.func 118) #[] #[], .func (.func 119) #[] #[], .func (.func 120) #[] #[], .func (.func 121) #[] #[], .func (.func 122) #[] #[], .func (.func 123) #[] #[], .func (.func 124) #[] #[], .func (.func 125) #[] #[], .func (.func 126) #[] #[], .func (.func 127) #[] #[], .func (.func 121) #[] #[], .func (.func 121) #[] #[], .func (.func 128) #[] #[], .func (.func 129) #[] #[], .func (.func 130) #[] #[], .func (.func 131) #[] #[], .func (.func 132) #[] #[], .func (.func 133) #[] #[], .func (.func 134) #[] #[], .func (.func 135) #[] #[], .func (.func 136) #[] #[], .func (.func 137) #[] #[]] ?_ ?_ ?_ ?_ ?_ ?_
  · rfl
  · rfl
  · kernel_rfl
  · rfl
  · kernel_rfl
  go_upto_region 2 with (fail)
  refine wp_at_world ?_
  intro w2 hw2
  have hA : Blk w0.heap.size 131 [.func (.func 117) #[] #[], .func (.func 118) #[] #[], .func (.func 119) #[] #[], .func (.func 120) #[] #[], .func (.func 121) #[] #[], .func (.func 122) #[] #[], .func (.func 123) #[] #[], .func (.func 124) #[] #[], .func (.func 125) #[] #[], .func (.func 126) #[] #[], .func (.func 127) #[] #[], .func (.func 121) #[] #[], .func (.func 121) #[] #[], .func (.func 128) #[] #[], .func (.func 129) #[] #[], .func (.func 130) #[] #[], .func (.func 131) #[] #[], .func (.func 132) #[] #[], .func (.func 133) #[] #[], .func (.func 134) #[] #[], .func (.func 135) #[] #[], .func (.func 136) #[] #[], .func (.func 137) #[] #[]] w2 := by rw [hw2]; exact Blk.new w0 [.func (.func 117) #[] #[], .func (.func 118) #[] #[], .func (.func 119) #[] #[], .func (.func 120) #[] #[], .func (.func 121) #[] #[], .func (.func 122) #[] #[], .func (.func 123) #[] #[], .func (.func 124) #[] #[], .func (.func 125) #[] #[], .func (.func 126) #[] #[], .func (.func 127) #[] #[], .func (.func 121) #[] #[], .func (.func 121) #[] #[], .func (.func 128) #[] #[], .func (.func 129) #[] #[], .func (.func 130) #[] #[], .func (.func 131) #[] #[], .func (.func 132) #[] #[], .func (.func 133) #[] #[], .func (.func 134) #[] #[], .func (.func 135) #[] #[], .func (.func 136) #[] #[], .func (.func 137) #[] #[]] 131
  have hba : Below w0.heap.size w0 w2 := by rw [hw2]; exact (Below.refl _ w0).alloc (Nat.le_refl _) _
  clear hw2
  have hB2 := hB0.below hba
  have hS2 := hS.below hba
  have hb2 := hb0.trans (hba.mono hz0)
  have hz2 : w.heap.size ≤ w2.heap.size := hb2.size
  clear hB0 hS hb0 hz0 hlt0 hba
  generalize w0.heap.size = ga at *
  have hSt := fun W (h : Below w2.heap.size w2 W) => hS2.below h
  obtain ⟨s0, s1, s2, s3, s4, s5⟩ := hS2
  have p0 := HP.out.1
  have p22 := HP.out.2
  have hh := HH.out
  rcases (show s.pl = 0 ∨ s.pl = 1 ∨ s.pl = 2 ∨ s.pl = 3 ∨ s.pl = 4 ∨ s.pl = 5 ∨ s.pl = 6 ∨ s.pl = 7 ∨ s.pl = 8 ∨ s.pl = 9 ∨ s.pl = 10 ∨ s.pl = 11 ∨ s.pl = 12 ∨ s.pl = 13 ∨ s.pl = 14 ∨ s.pl = 15 ∨ s.pl = 16 ∨ s.pl = 17 ∨ s.pl = 18 ∨ s.pl = 19 ∨ s.pl = 20 ∨ s.pl = 21 ∨ s.pl = 22 by omega) with hp | hp | hp | hp | hp | hp | hp | hp | hp | hp | hp | hp | hp | hp | hp | hp | hp | hp | hp | hp | hp | hp | hp
  · obtain rfl : R = dataX c := by rw [hR, step_0 hp]
    have HC := Lib.hid (fun W (h : Below w2.heap.size w2 W) => tkData_calls _ s c W (hSt W h) hc)
    rw [hp] at s0
    clear hR hh p0 p22 hSt hp HP HH
    generalize (dataX c : Sx) = X at *
    have ak := hA.cell 0 _ rfl
    go_wp2_with (go_at_call 117; refine (HC.out _ (Below.refl _ _)).mono ?_; rintro e w1 ⟨rfl, hb⟩; have hb1 := hb2.trans (hb.mono hz2); have hB1 := hB2.below hb; have d0 := hB1.cell 0 _ rfl; have f0 := hB1.free 0; have d1 := hB1.cell 1 _ rfl; have f1 := hB1.free 1; have d2 := hB1.cell 2 _ rfl; have f2 := hB1.free 2; have d3 := hB1.cell 3 _ rfl; have f3 := hB1.free 3; have d4 := hB1.cell 4 _ rfl; have f4 := hB1.free 4; have d5 := hB1.cell 5 _ rfl; have f5 := hB1.free 5)
    exact bodyPost_ret (v := stV X) (by simp [results, Tryz.results64, go_sem, d0, d1, d2, d3, d4, d5]) rfl ⟨rfl, below6 hb1 _ _ _ _ _ _ (Nat.le_succ _)⟩
  · obtain rfl : R = tagOpenX c := by rw [hR, step_1 hp]
    have HC := Lib.hid (fun W (h : Below w2.heap.size w2 W) => tkTagOpen_calls _ s c W (hSt W h) hc)
    rw [hp] at s0
    clear hR hh p0 p22 hSt hp HP HH
    generalize (tagOpenX c : Sx) = X at *
    have ak := hA.cell 1 _ rfl
    go_wp2_with (go_at_call 118; refine (HC.out _ (Below.refl _ _)).mono ?_; rintro e w1 ⟨rfl, hb⟩; have hb1 := hb2.trans (hb.mono hz2); have hB1 := hB2.below hb; have d0 := hB1.cell 0 _ rfl; have f0 := hB1.free 0; have d1 := hB1.cell 1 _ rfl; have f1 := hB1.free 1; have d2 := hB1.cell 2 _ rfl; have f2 := hB1.free 2; have d3 := hB1.cell 3 _ rfl; have f3 := hB1.free 3; have d4 := hB1.cell 4 _ rfl; have f4 := hB1.free 4; have d5 := hB1.cell 5 _ rfl; have f5 := hB1.free 5)
    exact bodyPost_ret (v := stV X) (by simp [results, Tryz.results64, go_sem, d0, d1, d2, d3, d4, d5]) rfl ⟨rfl, below6 hb1 _ _ _ _ _ _ (Nat.le_succ _)⟩
  · obtain rfl : R = endOpenX c := by rw [hR, step_2 hp]
    have HC := Lib.hid (fun W (h : Below w2.heap.size w2 W) => tkEndOpen_calls _ s c W (hSt W h) hc)
    rw [hp] at s0
    clear hR hh p0 p22 hSt hp HP HH
    generalize (endOpenX c : Sx) = X at *
    have ak := hA.cell 2 _ rfl
    go_wp2_with (go_at_call 119; refine (HC.out _ (Below.refl _ _)).mono ?_; rintro e w1 ⟨rfl, hb⟩; have hb1 := hb2.trans (hb.mono hz2); have hB1 := hB2.below hb; have d0 := hB1.cell 0 _ rfl; have f0 := hB1.free 0; have d1 := hB1.cell 1 _ rfl; have f1 := hB1.free 1; have d2 := hB1.cell 2 _ rfl; have f2 := hB1.free 2; have d3 := hB1.cell 3 _ rfl; have f3 := hB1.free 3; have d4 := hB1.cell 4 _ rfl; have f4 := hB1.free 4; have d5 := hB1.cell 5 _ rfl; have f5 := hB1.free 5)
    exact bodyPost_ret (v := stV X) (by simp [results, Tryz.results64, go_sem, d0, d1, d2, d3, d4, d5]) rfl ⟨rfl, below6 hb1 _ _ _ _ _ _ (Nat.le_succ _)⟩
  · obtain rfl : R = tagNameX s c := by rw [hR, step_3 hp]
    have HC := Lib.hid (fun W (h : Below w2.heap.size w2 W) => tkTagName_calls _ s c W (hSt W h) hc)
    rw [hp] at s0
    clear hR hh p0 p22 hSt hp HP HH
    generalize (tagNameX s c : Sx) = X at *
    have ak := hA.cell 3 _ rfl
    go_wp2_with (go_at_call 120; refine (HC.out _ (Below.refl _ _)).mono ?_; rintro e w1 ⟨rfl, hb⟩; have hb1 := hb2.trans (hb.mono hz2); have hB1 := hB2.below hb; have d0 := hB1.cell 0 _ rfl; have f0 := hB1.free 0; have d1 := hB1.cell 1 _ rfl; have f1 := hB1.free 1; have d2 := hB1.cell 2 _ rfl; have f2 := hB1.free 2; have d3 := hB1.cell 3 _ rfl; have f3 := hB1.free 3; have d4 := hB1.cell 4 _ rfl; have f4 := hB1.free 4; have d5 := hB1.cell 5 _ rfl; have f5 := hB1.free 5)
    exact bodyPost_ret (v := stV X) (by simp [results, Tryz.results64, go_sem, d0, d1, d2, d3, d4, d5]) rfl ⟨rfl, below6 hb1 _ _ _ _ _ _ (Nat.le_succ _)⟩
  · obtain rfl : R = beginsX s c := by rw [hR, step_4 hp]
    have HC := Lib.hid (fun W (h : Below w2.heap.size w2 W) => tkBegins_calls _ s c W (hSt W h) hc)
    rw [hp] at s0
    clear hR hh p0 p22 hSt hp HP HH
    generalize (beginsX s c : Sx) = X at *
    have ak := hA.cell 4 _ rfl
    go_wp2_with (go_at_call 121; refine (HC.out _ (Below.refl _ _)).mono ?_; rintro e w1 ⟨rfl, hb⟩; have hb1 := hb2.trans (hb.mono hz2); have hB1 := hB2.below hb; have d0 := hB1.cell 0 _ rfl; have f0 := hB1.free 0; have d1 := hB1.cell 1 _ rfl; have f1 := hB1.free 1; have d2 := hB1.cell 2 _ rfl; have f2 := hB1.free 2; have d3 := hB1.cell 3 _ rfl; have f3 := hB1.free 3; have d4 := hB1.cell 4 _ rfl; have f4 := hB1.free 4; have d5 := hB1.cell 5 _ rfl; have f5 := hB1.free 5)
    exact bodyPost_ret (v := stV X) (by simp [results, Tryz.results64, go_sem, d0, d1, d2, d3, d4, d5]) rfl ⟨rfl, below6 hb1 _ _ _ _ _ _ (Nat.le_succ _)⟩
  · obtain rfl : R = namesX s c s.attr := by rw [hR, step_5 hp]
    have HC := Lib.hid (fun W (h : Below w2.heap.size w2 W) => tkAttrName_calls _ s c W (hSt W h) hc)
    rw [hp] at s0
    clear hR hh p0 p22 hSt hp HP HH
    generalize (namesX s c s.attr : Sx) = X at *
    have ak := hA.cell 5 _ rfl
    go_wp2_with (go_at_call 122; refine (HC.out _ (Below.refl _ _)).mono ?_; rintro e w1 ⟨rfl, hb⟩; have hb1 := hb2.trans (hb.mono hz2); have hB1 := hB2.below hb; have d0 := hB1.cell 0 _ rfl; have f0 := hB1.free 0; have d1 := hB1.cell 1 _ rfl; have f1 := hB1.free 1; have d2 := hB1.cell 2 _ rfl; have f2 := hB1.free 2; have d3 := hB1.cell 3 _ rfl; have f3 := hB1.free 3; have d4 := hB1.cell 4 _ rfl; have f4 := hB1.free 4; have d5 := hB1.cell 5 _ rfl; have f5 := hB1.free 5)
    exact bodyPost_ret (v := stV X) (by simp [results, Tryz.results64, go_sem, d0, d1, d2, d3, d4, d5]) rfl ⟨rfl, below6 hb1 _ _ _ _ _ _ (Nat.le_succ _)⟩
  · obtain rfl : R = namesX s c [] := by rw [hR, step_6 hp]
    have HC := Lib.hid (fun W (h : Below w2.heap.size w2 W) => tkAfterName_calls _ s c W (hSt W h) hc)
    rw [hp] at s0
    clear hR hh p0 p22 hSt hp HP HH
    generalize (namesX s c [] : Sx) = X at *
    have ak := hA.cell 6 _ rfl
    go_wp2_with (go_at_call 123; refine (HC.out _ (Below.refl _ _)).mono ?_; rintro e w1 ⟨rfl, hb⟩; have hb1 := hb2.trans (hb.mono hz2); have hB1 := hB2.below hb; have d0 := hB1.cell 0 _ rfl; have f0 := hB1.free 0; have d1 := hB1.cell 1 _ rfl; have f1 := hB1.free 1; have d2 := hB1.cell 2 _ rfl; have f2 := hB1.free 2; have d3 := hB1.cell 3 _ rfl; have f3 := hB1.free 3; have d4 := hB1.cell 4 _ rfl; have f4 := hB1.free 4; have d5 := hB1.cell 5 _ rfl; have f5 := hB1.free 5)
    exact bodyPost_ret (v := stV X) (by simp [results, Tryz.results64, go_sem, d0, d1, d2, d3, d4, d5]) rfl ⟨rfl, below6 hb1 _ _ _ _ _ _ (Nat.le_succ _)⟩
  · obtain rfl : R = beforeValueX s c := by rw [hR, step_7 hp]
    have HC := Lib.hid (fun W (h : Below w2.heap.size w2 W) => tkBeforeValue_calls _ s c W (hSt W h) hc)
    rw [hp] at s0
    clear hR hh p0 p22 hSt hp HP HH
    generalize (beforeValueX s c : Sx) = X at *
    have ak := hA.cell 7 _ rfl
    go_wp2_with (go_at_call 124; refine (HC.out _ (Below.refl _ _)).mono ?_; rintro e w1 ⟨rfl, hb⟩; have hb1 := hb2.trans (hb.mono hz2); have hB1 := hB2.below hb; have d0 := hB1.cell 0 _ rfl; have f0 := hB1.free 0; have d1 := hB1.cell 1 _ rfl; have f1 := hB1.free 1; have d2 := hB1.cell 2 _ rfl; have f2 := hB1.free 2; have d3 := hB1.cell 3 _ rfl; have f3 := hB1.free 3; have d4 := hB1.cell 4 _ rfl; have f4 := hB1.free 4; have d5 := hB1.cell 5 _ rfl; have f5 := hB1.free 5)
    exact bodyPost_ret (v := stV X) (by simp [results, Tryz.results64, go_sem, d0, d1, d2, d3, d4, d5]) rfl ⟨rfl, below6 hb1 _ _ _ _ _ _ (Nat.le_succ _)⟩
  · obtain rfl : R = quotedX s c 34 := by rw [hR, step_8 hp]
    have HC := Lib.hid (fun W (h : Below w2.heap.size w2 W) => tkDouble_calls _ s c W (hSt W h) hc)
    rw [hp] at s0
    clear hR hh p0 p22 hSt hp HP HH
    generalize (quotedX s c 34 : Sx) = X at *
    have ak := hA.cell 8 _ rfl
    go_wp2_with (go_at_call 125; refine (HC.out _ (Below.refl _ _)).mono ?_; rintro e w1 ⟨rfl, hb⟩; have hb1 := hb2.trans (hb.mono hz2); have hB1 := hB2.below hb; have d0 := hB1.cell 0 _ rfl; have f0 := hB1.free 0; have d1 := hB1.cell 1 _ rfl; have f1 := hB1.free 1; have d2 := hB1.cell 2 _ rfl; have f2 := hB1.free 2; have d3 := hB1.cell 3 _ rfl; have f3 := hB1.free 3; have d4 := hB1.cell 4 _ rfl; have f4 := hB1.free 4; have d5 := hB1.cell 5 _ rfl; have f5 := hB1.free 5)
    exact bodyPost_ret (v := stV X) (by simp [results, Tryz.results64, go_sem, d0, d1, d2, d3, d4, d5]) rfl ⟨rfl, below6 hb1 _ _ _ _ _ _ (Nat.le_succ _)⟩
  · obtain rfl : R = quotedX s c 39 := by rw [hR, step_9 hp]
    have HC := Lib.hid (fun W (h : Below w2.heap.size w2 W) => tkSingle_calls _ s c W (hSt W h) hc)
    rw [hp] at s0
    clear hR hh p0 p22 hSt hp HP HH
    generalize (quotedX s c 39 : Sx) = X at *
    have ak := hA.cell 9 _ rfl
    go_wp2_with (go_at_call 126; refine (HC.out _ (Below.refl _ _)).mono ?_; rintro e w1 ⟨rfl, hb⟩; have hb1 := hb2.trans (hb.mono hz2); have hB1 := hB2.below hb; have d0 := hB1.cell 0 _ rfl; have f0 := hB1.free 0; have d1 := hB1.cell 1 _ rfl; have f1 := hB1.free 1; have d2 := hB1.cell 2 _ rfl; have f2 := hB1.free 2; have d3 := hB1.cell 3 _ rfl; have f3 := hB1.free 3; have d4 := hB1.cell 4 _ rfl; have f4 := hB1.free 4; have d5 := hB1.cell 5 _ rfl; have f5 := hB1.free 5)
    exact bodyPost_ret (v := stV X) (by simp [results, Tryz.results64, go_sem, d0, d1, d2, d3, d4, d5]) rfl ⟨rfl, below6 hb1 _ _ _ _ _ _ (Nat.le_succ _)⟩
  · obtain rfl : R = bareX s c := by rw [hR, step_10 hp]
    have HC := Lib.hid (fun W (h : Below w2.heap.size w2 W) => tkBare_calls _ s c W (hSt W h) hc)
    rw [hp] at s0
    clear hR hh p0 p22 hSt hp HP HH
    generalize (bareX s c : Sx) = X at *
    have ak := hA.cell 10 _ rfl
    go_wp2_with (go_at_call 127; refine (HC.out _ (Below.refl _ _)).mono ?_; rintro e w1 ⟨rfl, hb⟩; have hb1 := hb2.trans (hb.mono hz2); have hB1 := hB2.below hb; have d0 := hB1.cell 0 _ rfl; have f0 := hB1.free 0; have d1 := hB1.cell 1 _ rfl; have f1 := hB1.free 1; have d2 := hB1.cell 2 _ rfl; have f2 := hB1.free 2; have d3 := hB1.cell 3 _ rfl; have f3 := hB1.free 3; have d4 := hB1.cell 4 _ rfl; have f4 := hB1.free 4; have d5 := hB1.cell 5 _ rfl; have f5 := hB1.free 5)
    exact bodyPost_ret (v := stV X) (by simp [results, Tryz.results64, go_sem, d0, d1, d2, d3, d4, d5]) rfl ⟨rfl, below6 hb1 _ _ _ _ _ _ (Nat.le_succ _)⟩
  · obtain rfl : R = beginsX s c := by rw [hR, step_11 hp]
    have HC := Lib.hid (fun W (h : Below w2.heap.size w2 W) => tkBegins_calls _ s c W (hSt W h) hc)
    rw [hp] at s0
    clear hR hh p0 p22 hSt hp HP HH
    generalize (beginsX s c : Sx) = X at *
    have ak := hA.cell 11 _ rfl
    go_wp2_with (go_at_call 121; refine (HC.out _ (Below.refl _ _)).mono ?_; rintro e w1 ⟨rfl, hb⟩; have hb1 := hb2.trans (hb.mono hz2); have hB1 := hB2.below hb; have d0 := hB1.cell 0 _ rfl; have f0 := hB1.free 0; have d1 := hB1.cell 1 _ rfl; have f1 := hB1.free 1; have d2 := hB1.cell 2 _ rfl; have f2 := hB1.free 2; have d3 := hB1.cell 3 _ rfl; have f3 := hB1.free 3; have d4 := hB1.cell 4 _ rfl; have f4 := hB1.free 4; have d5 := hB1.cell 5 _ rfl; have f5 := hB1.free 5)
    exact bodyPost_ret (v := stV X) (by simp [results, Tryz.results64, go_sem, d0, d1, d2, d3, d4, d5]) rfl ⟨rfl, below6 hb1 _ _ _ _ _ _ (Nat.le_succ _)⟩
  · obtain rfl : R = beginsX s c := by rw [hR, step_12 hp]
    have HC := Lib.hid (fun W (h : Below w2.heap.size w2 W) => tkBegins_calls _ s c W (hSt W h) hc)
    rw [hp] at s0
    clear hR hh p0 p22 hSt hp HP HH
    generalize (beginsX s c : Sx) = X at *
    have ak := hA.cell 12 _ rfl
    go_wp2_with (go_at_call 121; refine (HC.out _ (Below.refl _ _)).mono ?_; rintro e w1 ⟨rfl, hb⟩; have hb1 := hb2.trans (hb.mono hz2); have hB1 := hB2.below hb; have d0 := hB1.cell 0 _ rfl; have f0 := hB1.free 0; have d1 := hB1.cell 1 _ rfl; have f1 := hB1.free 1; have d2 := hB1.cell 2 _ rfl; have f2 := hB1.free 2; have d3 := hB1.cell 3 _ rfl; have f3 := hB1.free 3; have d4 := hB1.cell 4 _ rfl; have f4 := hB1.free 4; have d5 := hB1.cell 5 _ rfl; have f5 := hB1.free 5)
    exact bodyPost_ret (v := stV X) (by simp [results, Tryz.results64, go_sem, d0, d1, d2, d3, d4, d5]) rfl ⟨rfl, below6 hb1 _ _ _ _ _ _ (Nat.le_succ _)⟩
  · obtain rfl : R = bangsX c 14 := by rw [hR, step_13 hp]
    have HC := Lib.hid (fun W (h : Below w2.heap.size w2 W) => tkBang_calls _ s c W (hSt W h) hc)
    rw [hp] at s0
    clear hR hh p0 p22 hSt hp HP HH
    generalize (bangsX c 14 : Sx) = X at *
    have ak := hA.cell 13 _ rfl
    go_wp2_with (go_at_call 128; refine (HC.out _ (Below.refl _ _)).mono ?_; rintro e w1 ⟨rfl, hb⟩; have hb1 := hb2.trans (hb.mono hz2); have hB1 := hB2.below hb; have d0 := hB1.cell 0 _ rfl; have f0 := hB1.free 0; have d1 := hB1.cell 1 _ rfl; have f1 := hB1.free 1; have d2 := hB1.cell 2 _ rfl; have f2 := hB1.free 2; have d3 := hB1.cell 3 _ rfl; have f3 := hB1.free 3; have d4 := hB1.cell 4 _ rfl; have f4 := hB1.free 4; have d5 := hB1.cell 5 _ rfl; have f5 := hB1.free 5)
    exact bodyPost_ret (v := stV X) (by simp [results, Tryz.results64, go_sem, d0, d1, d2, d3, d4, d5]) rfl ⟨rfl, below6 hb1 _ _ _ _ _ _ (Nat.le_succ _)⟩
  · obtain rfl : R = bangsX c 15 := by rw [hR, step_14 hp]
    have HC := Lib.hid (fun W (h : Below w2.heap.size w2 W) => tkBangDash_calls _ s c W (hSt W h) hc)
    rw [hp] at s0
    clear hR hh p0 p22 hSt hp HP HH
    generalize (bangsX c 15 : Sx) = X at *
    have ak := hA.cell 14 _ rfl
    go_wp2_with (go_at_call 129; refine (HC.out _ (Below.refl _ _)).mono ?_; rintro e w1 ⟨rfl, hb⟩; have hb1 := hb2.trans (hb.mono hz2); have hB1 := hB2.below hb; have d0 := hB1.cell 0 _ rfl; have f0 := hB1.free 0; have d1 := hB1.cell 1 _ rfl; have f1 := hB1.free 1; have d2 := hB1.cell 2 _ rfl; have f2 := hB1.free 2; have d3 := hB1.cell 3 _ rfl; have f3 := hB1.free 3; have d4 := hB1.cell 4 _ rfl; have f4 := hB1.free 4; have d5 := hB1.cell 5 _ rfl; have f5 := hB1.free 5)
    exact bodyPost_ret (v := stV X) (by simp [results, Tryz.results64, go_sem, d0, d1, d2, d3, d4, d5]) rfl ⟨rfl, below6 hb1 _ _ _ _ _ _ (Nat.le_succ _)⟩
  · obtain rfl : R = eitherX (c == 45) 16 15 := by rw [hR, step_15 hp]
    have HC := Lib.hid (fun W (h : Below w2.heap.size w2 W) => tkComment_calls _ s c W (hSt W h) hc)
    rw [hp] at s0
    clear hR hh p0 p22 hSt hp HP HH
    generalize (eitherX (c == 45) 16 15 : Sx) = X at *
    have ak := hA.cell 15 _ rfl
    go_wp2_with (go_at_call 130; refine (HC.out _ (Below.refl _ _)).mono ?_; rintro e w1 ⟨rfl, hb⟩; have hb1 := hb2.trans (hb.mono hz2); have hB1 := hB2.below hb; have d0 := hB1.cell 0 _ rfl; have f0 := hB1.free 0; have d1 := hB1.cell 1 _ rfl; have f1 := hB1.free 1; have d2 := hB1.cell 2 _ rfl; have f2 := hB1.free 2; have d3 := hB1.cell 3 _ rfl; have f3 := hB1.free 3; have d4 := hB1.cell 4 _ rfl; have f4 := hB1.free 4; have d5 := hB1.cell 5 _ rfl; have f5 := hB1.free 5)
    exact bodyPost_ret (v := stV X) (by simp [results, Tryz.results64, go_sem, d0, d1, d2, d3, d4, d5]) rfl ⟨rfl, below6 hb1 _ _ _ _ _ _ (Nat.le_succ _)⟩
  · obtain rfl : R = eitherX (c == 45) 17 15 := by rw [hR, step_16 hp]
    have HC := Lib.hid (fun W (h : Below w2.heap.size w2 W) => tkCommentDash_calls _ s c W (hSt W h) hc)
    rw [hp] at s0
    clear hR hh p0 p22 hSt hp HP HH
    generalize (eitherX (c == 45) 17 15 : Sx) = X at *
    have ak := hA.cell 16 _ rfl
    go_wp2_with (go_at_call 131; refine (HC.out _ (Below.refl _ _)).mono ?_; rintro e w1 ⟨rfl, hb⟩; have hb1 := hb2.trans (hb.mono hz2); have hB1 := hB2.below hb; have d0 := hB1.cell 0 _ rfl; have f0 := hB1.free 0; have d1 := hB1.cell 1 _ rfl; have f1 := hB1.free 1; have d2 := hB1.cell 2 _ rfl; have f2 := hB1.free 2; have d3 := hB1.cell 3 _ rfl; have f3 := hB1.free 3; have d4 := hB1.cell 4 _ rfl; have f4 := hB1.free 4; have d5 := hB1.cell 5 _ rfl; have f5 := hB1.free 5)
    exact bodyPost_ret (v := stV X) (by simp [results, Tryz.results64, go_sem, d0, d1, d2, d3, d4, d5]) rfl ⟨rfl, below6 hb1 _ _ _ _ _ _ (Nat.le_succ _)⟩
  · obtain rfl : R = commentEndX c := by rw [hR, step_17 hp]
    have HC := Lib.hid (fun W (h : Below w2.heap.size w2 W) => tkCommentEnd_calls _ s c W (hSt W h) hc)
    rw [hp] at s0
    clear hR hh p0 p22 hSt hp HP HH
    generalize (commentEndX c : Sx) = X at *
    have ak := hA.cell 17 _ rfl
    go_wp2_with (go_at_call 132; refine (HC.out _ (Below.refl _ _)).mono ?_; rintro e w1 ⟨rfl, hb⟩; have hb1 := hb2.trans (hb.mono hz2); have hB1 := hB2.below hb; have d0 := hB1.cell 0 _ rfl; have f0 := hB1.free 0; have d1 := hB1.cell 1 _ rfl; have f1 := hB1.free 1; have d2 := hB1.cell 2 _ rfl; have f2 := hB1.free 2; have d3 := hB1.cell 3 _ rfl; have f3 := hB1.free 3; have d4 := hB1.cell 4 _ rfl; have f4 := hB1.free 4; have d5 := hB1.cell 5 _ rfl; have f5 := hB1.free 5)
    exact bodyPost_ret (v := stV X) (by simp [results, Tryz.results64, go_sem, d0, d1, d2, d3, d4, d5]) rfl ⟨rfl, below6 hb1 _ _ _ _ _ _ (Nat.le_succ _)⟩
  · obtain rfl : R = eitherX (c == 62) 0 18 := by rw [hR, step_18 hp]
    have HC := Lib.hid (fun W (h : Below w2.heap.size w2 W) => tkBogus_calls _ s c W (hSt W h) hc)
    rw [hp] at s0
    clear hR hh p0 p22 hSt hp HP HH
    generalize (eitherX (c == 62) 0 18 : Sx) = X at *
    have ak := hA.cell 18 _ rfl
    go_wp2_with (go_at_call 133; refine (HC.out _ (Below.refl _ _)).mono ?_; rintro e w1 ⟨rfl, hb⟩; have hb1 := hb2.trans (hb.mono hz2); have hB1 := hB2.below hb; have d0 := hB1.cell 0 _ rfl; have f0 := hB1.free 0; have d1 := hB1.cell 1 _ rfl; have f1 := hB1.free 1; have d2 := hB1.cell 2 _ rfl; have f2 := hB1.free 2; have d3 := hB1.cell 3 _ rfl; have f3 := hB1.free 3; have d4 := hB1.cell 4 _ rfl; have f4 := hB1.free 4; have d5 := hB1.cell 5 _ rfl; have f5 := hB1.free 5)
    exact bodyPost_ret (v := stV X) (by simp [results, Tryz.results64, go_sem, d0, d1, d2, d3, d4, d5]) rfl ⟨rfl, below6 hb1 _ _ _ _ _ _ (Nat.le_succ _)⟩
  · obtain rfl : R = holdsX s c := by rw [hR, step_19 hp]
    have HC := Lib.hid (fun W (h : Below w2.heap.size w2 W) => tkHolds_calls _ s c W (hSt W h) hc)
    rw [hp] at s0
    clear hR hh p0 p22 hSt hp HP HH
    generalize (holdsX s c : Sx) = X at *
    have ak := hA.cell 19 _ rfl
    go_wp2_with (go_at_call 134; refine (HC.out _ (Below.refl _ _)).mono ?_; rintro e w1 ⟨rfl, hb⟩; have hb1 := hb2.trans (hb.mono hz2); have hB1 := hB2.below hb; have d0 := hB1.cell 0 _ rfl; have f0 := hB1.free 0; have d1 := hB1.cell 1 _ rfl; have f1 := hB1.free 1; have d2 := hB1.cell 2 _ rfl; have f2 := hB1.free 2; have d3 := hB1.cell 3 _ rfl; have f3 := hB1.free 3; have d4 := hB1.cell 4 _ rfl; have f4 := hB1.free 4; have d5 := hB1.cell 5 _ rfl; have f5 := hB1.free 5)
    exact bodyPost_ret (v := stV X) (by simp [results, Tryz.results64, go_sem, d0, d1, d2, d3, d4, d5]) rfl ⟨rfl, below6 hb1 _ _ _ _ _ _ (Nat.le_succ _)⟩
  · obtain rfl : R = heldLtX s c := by rw [hR, step_20 hp]
    have HC := Lib.hid (fun W (h : Below w2.heap.size w2 W) => tkHeldLt_calls _ s c W (hSt W h) hc)
    rw [hp] at s0
    clear hR hh p0 p22 hSt hp HP HH
    generalize (heldLtX s c : Sx) = X at *
    have ak := hA.cell 20 _ rfl
    go_wp2_with (go_at_call 135; refine (HC.out _ (Below.refl _ _)).mono ?_; rintro e w1 ⟨rfl, hb⟩; have hb1 := hb2.trans (hb.mono hz2); have hB1 := hB2.below hb; have d0 := hB1.cell 0 _ rfl; have f0 := hB1.free 0; have d1 := hB1.cell 1 _ rfl; have f1 := hB1.free 1; have d2 := hB1.cell 2 _ rfl; have f2 := hB1.free 2; have d3 := hB1.cell 3 _ rfl; have f3 := hB1.free 3; have d4 := hB1.cell 4 _ rfl; have f4 := hB1.free 4; have d5 := hB1.cell 5 _ rfl; have f5 := hB1.free 5)
    exact bodyPost_ret (v := stV X) (by simp [results, Tryz.results64, go_sem, d0, d1, d2, d3, d4, d5]) rfl ⟨rfl, below6 hb1 _ _ _ _ _ _ (Nat.le_succ _)⟩
  · obtain rfl : R = readsX s c 0 := by rw [hR, step_21 hp]
    have HC := Lib.hid (fun W (h : Below w2.heap.size w2 W) => tkHeldSlash_calls _ s c W (hSt W h) hc (hh (by omega)))
    rw [hp] at s0
    clear hR hh p0 p22 hSt hp HP HH
    generalize (readsX s c 0 : Sx) = X at *
    have ak := hA.cell 21 _ rfl
    go_wp2_with (go_at_call 136; refine (HC.out _ (Below.refl _ _)).mono ?_; rintro e w1 ⟨rfl, hb⟩; have hb1 := hb2.trans (hb.mono hz2); have hB1 := hB2.below hb; have d0 := hB1.cell 0 _ rfl; have f0 := hB1.free 0; have d1 := hB1.cell 1 _ rfl; have f1 := hB1.free 1; have d2 := hB1.cell 2 _ rfl; have f2 := hB1.free 2; have d3 := hB1.cell 3 _ rfl; have f3 := hB1.free 3; have d4 := hB1.cell 4 _ rfl; have f4 := hB1.free 4; have d5 := hB1.cell 5 _ rfl; have f5 := hB1.free 5)
    exact bodyPost_ret (v := stV X) (by simp [results, Tryz.results64, go_sem, d0, d1, d2, d3, d4, d5]) rfl ⟨rfl, below6 hb1 _ _ _ _ _ _ (Nat.le_succ _)⟩
  · obtain rfl : R = heldNameX s c := by rw [hR, step_22 hp]
    have HC := Lib.hid (fun W (h : Below w2.heap.size w2 W) => tkHeldName_calls _ s c W (hSt W h) hc (hh (by omega)))
    rw [hp] at s0
    clear hR hh p0 p22 hSt hp HP HH
    generalize (heldNameX s c : Sx) = X at *
    have ak := hA.cell 22 _ rfl
    go_wp2_with (go_at_call 137; refine (HC.out _ (Below.refl _ _)).mono ?_; rintro e w1 ⟨rfl, hb⟩; have hb1 := hb2.trans (hb.mono hz2); have hB1 := hB2.below hb; have d0 := hB1.cell 0 _ rfl; have f0 := hB1.free 0; have d1 := hB1.cell 1 _ rfl; have f1 := hB1.free 1; have d2 := hB1.cell 2 _ rfl; have f2 := hB1.free 2; have d3 := hB1.cell 3 _ rfl; have f3 := hB1.free 3; have d4 := hB1.cell 4 _ rfl; have f4 := hB1.free 4; have d5 := hB1.cell 5 _ rfl; have f5 := hB1.free 5)
    exact bodyPost_ret (v := stV X) (by simp [results, Tryz.results64, go_sem, d0, d1, d2, d3, d4, d5]) rfl ⟨rfl, below6 hb1 _ _ _ _ _ _ (Nat.le_succ _)⟩
end Go.Proofs.YtafkfamfhagokaaGreatDoor.S
