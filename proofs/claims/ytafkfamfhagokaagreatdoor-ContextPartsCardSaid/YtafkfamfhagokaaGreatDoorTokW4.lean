/-
  THE WALKS of package tok (states): behind a tag's name.
-/
import Derived.Test.YtafkfamfhagokaaGreatDoorTokW3
set_option linter.unusedVariables false
set_option linter.unusedSimpArgs false
namespace Go.Proofs.YtafkfamfhagokaaGreatDoor.S
open Go.RowKit

set_option maxRecDepth 100000 in
set_option maxHeartbeats 600000 in
theorem tkBegins_calls (b : Nat) (s : Sx) (c : Nat) (w : World) (hS : StAt b s w) (hc : c < 256) : Calls Tryz.prog 121 #[.pointer (some ⟨b, 0, none⟩), .int .u8 c] w (TkPost (beginsX s c) w) := by
  obtain ⟨R, hR⟩ : ∃ R, R = beginsX s c := ⟨_, rfl⟩
  rw [← hR]
  have hlt := hS.lt
  have hne : w.heap.size ≠ b := by omega
  go_enter Tryz.func121, Tryz.ntmps121
  go_upto_region 1 with (fail)
  have hB0 : Blk w.heap.size 23 stZ (w.alloc (.cells #[.int .i64 0, .string ⟨#[]⟩, .bool false, .string ⟨#[]⟩, .string ⟨#[]⟩, .int .i64 0] 23)) := Blk.new w _ _
  have hb0 := (Below.refl w.heap.size w).alloc (Nat.le_refl _) (.cells #[.int .i64 0, .string ⟨#[]⟩, .bool false, .string ⟨#[]⟩, .string ⟨#[]⟩, .int .i64 0] 23)
  have hz0 : w.heap.size ≤ (w.alloc (.cells #[.int .i64 0, .string ⟨#[]⟩, .bool false, .string ⟨#[]⟩, .string ⟨#[]⟩, .int .i64 0] 23)).heap.size := hb0.size
  generalize w.alloc (.cells #[.int .i64 0, .string ⟨#[]⟩, .bool false, .string ⟨#[]⟩, .string ⟨#[]⟩, .int .i64 0] 23) = w0 at *
  cases hbt : betweenX s c 4 with
  | some o =>
    obtain rfl : R = o := by rw [hR]; unfold beginsX; rw [hbt]
    clear hR 
    have HBT := Lib.hid (fun W (h : Below w0.heap.size w0 W) => (show Calls Tryz.prog 179 #[.pointer (some ⟨b, 0, none⟩), .int .u8 c, .int .i64 4] W (BtPost (some R) W) by rw [← hbt]; exact tkBetween_calls b s c 4 W ((hS.below hb0).below h) hc))
    clear hbt
    go_upto_region 2 with (first | (go_at_call 179; refine (HBT.out _ (Below.refl _ _)).mono ?_; rintro e w1 ⟨hy, hn, hb⟩; obtain rfl := hy R rfl; have hb1 := hb0.trans (hb.mono hz0); have hB1 := hB0.below hb; have hlw := hB1.lt; have hz1 : w.heap.size ≤ w1.heap.size := (by omega); have hne1 : w1.heap.size ≠ w.heap.size := (by omega); have hne2 : w.heap.size ≠ w1.heap.size := (by omega); clear hy hn hb))
    refine wp_at_world ?_
    intro w2 hw2
    obtain ⟨hO, hbo⟩ : Blk w1.heap.size 23 [.int .i64 R.pl, .string ⟨R.nm.toArray⟩, .bool R.fin, .string ⟨R.attr.toArray⟩, .string ⟨R.held.toArray⟩, .int .i64 R.rd] w2 ∧ Below w1.heap.size w1 w2 := by rw [hw2]; exact ⟨Blk.new w1 [.int .i64 R.pl, .string ⟨R.nm.toArray⟩, .bool R.fin, .string ⟨R.attr.toArray⟩, .string ⟨R.held.toArray⟩, .int .i64 R.rd] 23, (Below.refl _ w1).alloc (Nat.le_refl _) _⟩
    have hb2 := hb1.trans (hbo.mono hz1)
    have hB2 := hB1.below hbo
    clear hw2 
    have d0 := hB2.cell 0 _ rfl
    have f0 := hB2.free 0
    have d1 := hB2.cell 1 _ rfl
    have f1 := hB2.free 1
    have d2 := hB2.cell 2 _ rfl
    have f2 := hB2.free 2
    have d3 := hB2.cell 3 _ rfl
    have f3 := hB2.free 3
    have d4 := hB2.cell 4 _ rfl
    have f4 := hB2.free 4
    have d5 := hB2.cell 5 _ rfl
    have f5 := hB2.free 5
    have c0 := hO.cell 0 _ rfl
    have c1 := hO.cell 1 _ rfl
    have c2 := hO.cell 2 _ rfl
    have c3 := hO.cell 3 _ rfl
    have c4 := hO.cell 4 _ rfl
    have c5 := hO.cell 5 _ rfl
    go_wp2
    exact bodyPost_ret (v := stV R) (by simp [results, Tryz.results121, go_sem, d0, d1, d2, d3, d4, d5]) rfl ⟨rfl, below6 hb2 _ _ _ _ _ _⟩
  | none =>
  obtain rfl : R = attrX s 5 (moreX [] c) := by rw [hR]; unfold beginsX; rw [hbt]
  clear hR
  have HBT := Lib.hid (fun W (h : Below w0.heap.size w0 W) => (show Calls Tryz.prog 179 #[.pointer (some ⟨b, 0, none⟩), .int .u8 c, .int .i64 4] W (BtPost none W) by rw [← hbt]; exact tkBetween_calls b s c 4 W ((hS.below hb0).below h) hc))
  clear hbt 
  go_upto_region 4 with (first | (go_at_call 179; refine (HBT.out _ (Below.refl _ _)).mono ?_; rintro e w1 ⟨hy, hn, hb⟩; obtain rfl := hn rfl; have hb1 := hb0.trans (hb.mono hz0); have hB1 := hB0.below hb; have hlw := hB1.lt; have hz1 : w.heap.size ≤ w1.heap.size := (by omega); have hne1 : w1.heap.size ≠ w.heap.size := (by omega); have hne2 : w.heap.size ≠ w1.heap.size := (by omega); clear hy hn hb))
  refine wp_at_world ?_
  intro w2 hw2
  have hbo : Below w1.heap.size w1 w2 := by rw [hw2]; exact (Below.refl _ w1).alloc (Nat.le_refl _) _
  have hb2 := hb1.trans (hbo.mono hz1)
  have hB2 := hB1.below hbo
  have hS2 := hS.below hb2
  have hz2 : w.heap.size ≤ w2.heap.size := hb2.size
  clear hw2 hbo hB1 hb1 hlw hz1 hne1 hne2
  have HM := Lib.hid (fun W => tkMore_calls [] c hc W)
  generalize moreX [] c = m at *
  have HA := Lib.hid (fun W (h : Below w2.heap.size w2 W) => attrX_calls b s 5 m W (hS2.below h))
  generalize attrX s 5 m = X at *
  go_wp2_with (first | (go_at_call 178; refine (HM.out _).mono ?_; rintro e w3 ⟨rfl, hb3⟩; have hz3 := hb3.size) | (go_at_call 172; refine (HA.out _ hb3).mono ?_; rintro e w4 ⟨rfl, hb4⟩; have hb5 := hb2.trans ((hb3.mono hz2).trans (hb4.mono (Nat.le_trans hz2 hz3))); have hB4 := (hB2.below hb3).below hb4; have d0 := hB4.cell 0 _ rfl; have f0 := hB4.free 0; have d1 := hB4.cell 1 _ rfl; have f1 := hB4.free 1; have d2 := hB4.cell 2 _ rfl; have f2 := hB4.free 2; have d3 := hB4.cell 3 _ rfl; have f3 := hB4.free 3; have d4 := hB4.cell 4 _ rfl; have f4 := hB4.free 4; have d5 := hB4.cell 5 _ rfl; have f5 := hB4.free 5))
  exact bodyPost_ret (v := stV X) (by simp [results, Tryz.results121, go_sem, d0, d1, d2, d3, d4, d5]) rfl ⟨rfl, below6 hb5 _ _ _ _ _ _⟩
set_option maxRecDepth 100000 in
set_option maxHeartbeats 600000 in
theorem tkNames_calls (b : Nat) (s : Sx) (c : Nat) (nm : List UInt8) (w : World) (hS : StAt b s w) (hc : c < 256) : Calls Tryz.prog 180 #[.pointer (some ⟨b, 0, none⟩), .int .u8 c, .string ⟨nm.toArray⟩] w (TkPost (namesX s c nm) w) := by
  obtain ⟨R, hR⟩ : ∃ R, R = namesX s c nm := ⟨_, rfl⟩
  rw [← hR]
  have hBL := fun W => tkBlank_calls c W hc
  have hlt := hS.lt
  have hne : w.heap.size ≠ b := by omega
  cases h0 : blankB c with
  | true =>
    rw [h0] at hBL
    obtain rfl : R = attrX s 6 s.attr := by rw [hR]; unfold namesX; rw [if_pos h0]
    clear hR h0
    go_enter Tryz.func180, Tryz.ntmps180
    go_upto_region 1 with (fail)
    have hB0 : Blk w.heap.size 23 stZ (w.alloc (.cells #[.int .i64 0, .string ⟨#[]⟩, .bool false, .string ⟨#[]⟩, .string ⟨#[]⟩, .int .i64 0] 23)) := Blk.new w _ _
    have hb0 := (Below.refl w.heap.size w).alloc (Nat.le_refl _) (.cells #[.int .i64 0, .string ⟨#[]⟩, .bool false, .string ⟨#[]⟩, .string ⟨#[]⟩, .int .i64 0] 23)
    have hz0 : w.heap.size ≤ (w.alloc (.cells #[.int .i64 0, .string ⟨#[]⟩, .bool false, .string ⟨#[]⟩, .string ⟨#[]⟩, .int .i64 0] 23)).heap.size := hb0.size
    generalize w.alloc (.cells #[.int .i64 0, .string ⟨#[]⟩, .bool false, .string ⟨#[]⟩, .string ⟨#[]⟩, .int .i64 0] 23) = w0 at *
    obtain ⟨s0, s1, s2, s3, s4, s5⟩ := hS.below hb0
    have hC := fun W (h : Below w0.heap.size w0 W) => attrX_calls b s 6 s.attr W ((hS.below hb0).below h)
    generalize (attrX s 6 s.attr : Sx) = X at *
    have HC := Lib.hid hC
    clear hC
    go_wp2_with (first | (go_at_call 181; refine (hBL _).mono ?_; rintro e w1 ⟨rfl, rfl⟩) | (go_at_call 172; refine (HC.out _ (Below.refl _ _)).mono ?_; rintro e w1 ⟨rfl, hb⟩; have hb1 := hb0.trans (hb.mono hz0); have hB1 := hB0.below hb; have d0 := hB1.cell 0 _ rfl; have f0 := hB1.free 0; have d1 := hB1.cell 1 _ rfl; have f1 := hB1.free 1; have d2 := hB1.cell 2 _ rfl; have f2 := hB1.free 2; have d3 := hB1.cell 3 _ rfl; have f3 := hB1.free 3; have d4 := hB1.cell 4 _ rfl; have f4 := hB1.free 4; have d5 := hB1.cell 5 _ rfl; have f5 := hB1.free 5))
    exact bodyPost_ret (v := stV X) (by simp [results, Tryz.results180, go_sem, d0, d1, d2, d3, d4, d5]) rfl ⟨rfl, below6 hb1 _ _ _ _ _ _⟩
  | false =>
  rw [h0] at hBL
  have n0 : ¬ blankB c = true := by rw [h0]; decide
  by_cases h1 : c = 61
  · have t61 : ((c : Int) == 61) = true := beq_iff_eq.2 (by omega)
    obtain rfl : R = attrX s 7 s.attr := by rw [hR]; unfold namesX; rw [if_neg n0, if_pos h1]
    clear hR h0 h1
    go_enter Tryz.func180, Tryz.ntmps180
    go_upto_region 1 with (fail)
    have hB0 : Blk w.heap.size 23 stZ (w.alloc (.cells #[.int .i64 0, .string ⟨#[]⟩, .bool false, .string ⟨#[]⟩, .string ⟨#[]⟩, .int .i64 0] 23)) := Blk.new w _ _
    have hb0 := (Below.refl w.heap.size w).alloc (Nat.le_refl _) (.cells #[.int .i64 0, .string ⟨#[]⟩, .bool false, .string ⟨#[]⟩, .string ⟨#[]⟩, .int .i64 0] 23)
    have hz0 : w.heap.size ≤ (w.alloc (.cells #[.int .i64 0, .string ⟨#[]⟩, .bool false, .string ⟨#[]⟩, .string ⟨#[]⟩, .int .i64 0] 23)).heap.size := hb0.size
    generalize w.alloc (.cells #[.int .i64 0, .string ⟨#[]⟩, .bool false, .string ⟨#[]⟩, .string ⟨#[]⟩, .int .i64 0] 23) = w0 at *
    obtain ⟨s0, s1, s2, s3, s4, s5⟩ := hS.below hb0
    have hC := fun W (h : Below w0.heap.size w0 W) => attrX_calls b s 7 s.attr W ((hS.below hb0).below h)
    generalize (attrX s 7 s.attr : Sx) = X at *
    have HC := Lib.hid hC
    clear hC
    go_wp2_with (first | (go_at_call 181; refine (hBL _).mono ?_; rintro e w1 ⟨rfl, rfl⟩) | (go_at_call 172; refine (HC.out _ (Below.refl _ _)).mono ?_; rintro e w1 ⟨rfl, hb⟩; have hb1 := hb0.trans (hb.mono hz0); have hB1 := hB0.below hb; have d0 := hB1.cell 0 _ rfl; have f0 := hB1.free 0; have d1 := hB1.cell 1 _ rfl; have f1 := hB1.free 1; have d2 := hB1.cell 2 _ rfl; have f2 := hB1.free 2; have d3 := hB1.cell 3 _ rfl; have f3 := hB1.free 3; have d4 := hB1.cell 4 _ rfl; have f4 := hB1.free 4; have d5 := hB1.cell 5 _ rfl; have f5 := hB1.free 5))
    exact bodyPost_ret (v := stV X) (by simp [results, Tryz.results180, go_sem, d0, d1, d2, d3, d4, d5]) rfl ⟨rfl, below6 hb1 _ _ _ _ _ _⟩
  have t61 : ((c : Int) == 61) = false := beq_eq_false_iff_ne.2 (by omega)
  go_enter Tryz.func180, Tryz.ntmps180
  go_upto_region 1 with (fail)
  have hB0 : Blk w.heap.size 23 stZ (w.alloc (.cells #[.int .i64 0, .string ⟨#[]⟩, .bool false, .string ⟨#[]⟩, .string ⟨#[]⟩, .int .i64 0] 23)) := Blk.new w _ _
  have hb0 := (Below.refl w.heap.size w).alloc (Nat.le_refl _) (.cells #[.int .i64 0, .string ⟨#[]⟩, .bool false, .string ⟨#[]⟩, .string ⟨#[]⟩, .int .i64 0] 23)
  have hz0 : w.heap.size ≤ (w.alloc (.cells #[.int .i64 0, .string ⟨#[]⟩, .bool false, .string ⟨#[]⟩, .string ⟨#[]⟩, .int .i64 0] 23)).heap.size := hb0.size
  generalize w.alloc (.cells #[.int .i64 0, .string ⟨#[]⟩, .bool false, .string ⟨#[]⟩, .string ⟨#[]⟩, .int .i64 0] 23) = w0 at *
  cases hbt : betweenX s c 0 with
  | some o =>
    obtain rfl : R = o := by rw [hR]; unfold namesX; rw [if_neg n0, if_neg h1]; rw [hbt]
    clear hR h1
    have HBT := Lib.hid (fun W (h : Below w0.heap.size w0 W) => (show Calls Tryz.prog 179 #[.pointer (some ⟨b, 0, none⟩), .int .u8 c, .int .i64 0] W (BtPost (some R) W) by rw [← hbt]; exact tkBetween_calls b s c 0 W ((hS.below hb0).below h) hc))
    clear hbt
    go_upto_region 6 with (first | (go_at_call 181; refine (hBL _).mono ?_; rintro e w1 ⟨rfl, rfl⟩) | (go_at_call 179; refine (HBT.out _ (Below.refl _ _)).mono ?_; rintro e w1 ⟨hy, hn, hb⟩; obtain rfl := hy R rfl; have hb1 := hb0.trans (hb.mono hz0); have hB1 := hB0.below hb; have hlw := hB1.lt; have hz1 : w.heap.size ≤ w1.heap.size := (by omega); have hne1 : w1.heap.size ≠ w.heap.size := (by omega); have hne2 : w.heap.size ≠ w1.heap.size := (by omega); clear hy hn hb))
    refine wp_at_world ?_
    intro w2 hw2
    obtain ⟨hO, hbo⟩ : Blk w1.heap.size 23 [.int .i64 R.pl, .string ⟨R.nm.toArray⟩, .bool R.fin, .string ⟨R.attr.toArray⟩, .string ⟨R.held.toArray⟩, .int .i64 R.rd] w2 ∧ Below w1.heap.size w1 w2 := by rw [hw2]; exact ⟨Blk.new w1 [.int .i64 R.pl, .string ⟨R.nm.toArray⟩, .bool R.fin, .string ⟨R.attr.toArray⟩, .string ⟨R.held.toArray⟩, .int .i64 R.rd] 23, (Below.refl _ w1).alloc (Nat.le_refl _) _⟩
    have hb2 := hb1.trans (hbo.mono hz1)
    have hB2 := hB1.below hbo
    clear hw2 
    have d0 := hB2.cell 0 _ rfl
    have f0 := hB2.free 0
    have d1 := hB2.cell 1 _ rfl
    have f1 := hB2.free 1
    have d2 := hB2.cell 2 _ rfl
    have f2 := hB2.free 2
    have d3 := hB2.cell 3 _ rfl
    have f3 := hB2.free 3
    have d4 := hB2.cell 4 _ rfl
    have f4 := hB2.free 4
    have d5 := hB2.cell 5 _ rfl
    have f5 := hB2.free 5
    have c0 := hO.cell 0 _ rfl
    have c1 := hO.cell 1 _ rfl
    have c2 := hO.cell 2 _ rfl
    have c3 := hO.cell 3 _ rfl
    have c4 := hO.cell 4 _ rfl
    have c5 := hO.cell 5 _ rfl
    go_wp2
    exact bodyPost_ret (v := stV R) (by simp [results, Tryz.results180, go_sem, d0, d1, d2, d3, d4, d5]) rfl ⟨rfl, below6 hb2 _ _ _ _ _ _⟩
  | none =>
  obtain rfl : R = attrX s 5 (moreX nm c) := by rw [hR]; unfold namesX; rw [if_neg n0, if_neg h1, hbt]
  clear hR h1
  have HBT := Lib.hid (fun W (h : Below w0.heap.size w0 W) => (show Calls Tryz.prog 179 #[.pointer (some ⟨b, 0, none⟩), .int .u8 c, .int .i64 0] W (BtPost none W) by rw [← hbt]; exact tkBetween_calls b s c 0 W ((hS.below hb0).below h) hc))
  clear hbt 
  go_upto_region 8 with (first | (go_at_call 181; refine (hBL _).mono ?_; rintro e w1 ⟨rfl, rfl⟩) | (go_at_call 179; refine (HBT.out _ (Below.refl _ _)).mono ?_; rintro e w1 ⟨hy, hn, hb⟩; obtain rfl := hn rfl; have hb1 := hb0.trans (hb.mono hz0); have hB1 := hB0.below hb; have hlw := hB1.lt; have hz1 : w.heap.size ≤ w1.heap.size := (by omega); have hne1 : w1.heap.size ≠ w.heap.size := (by omega); have hne2 : w.heap.size ≠ w1.heap.size := (by omega); clear hy hn hb))
  refine wp_at_world ?_
  intro w2 hw2
  have hbo : Below w1.heap.size w1 w2 := by rw [hw2]; exact (Below.refl _ w1).alloc (Nat.le_refl _) _
  have hb2 := hb1.trans (hbo.mono hz1)
  have hB2 := hB1.below hbo
  have hS2 := hS.below hb2
  have hz2 : w.heap.size ≤ w2.heap.size := hb2.size
  clear hw2 hbo hB1 hb1 hlw hz1 hne1 hne2
  have HM := Lib.hid (fun W => tkMore_calls nm c hc W)
  generalize moreX nm c = m at *
  have HA := Lib.hid (fun W (h : Below w2.heap.size w2 W) => attrX_calls b s 5 m W (hS2.below h))
  generalize attrX s 5 m = X at *
  go_wp2_with (first | (go_at_call 178; refine (HM.out _).mono ?_; rintro e w3 ⟨rfl, hb3⟩; have hz3 := hb3.size) | (go_at_call 172; refine (HA.out _ hb3).mono ?_; rintro e w4 ⟨rfl, hb4⟩; have hb5 := hb2.trans ((hb3.mono hz2).trans (hb4.mono (Nat.le_trans hz2 hz3))); have hB4 := (hB2.below hb3).below hb4; have d0 := hB4.cell 0 _ rfl; have f0 := hB4.free 0; have d1 := hB4.cell 1 _ rfl; have f1 := hB4.free 1; have d2 := hB4.cell 2 _ rfl; have f2 := hB4.free 2; have d3 := hB4.cell 3 _ rfl; have f3 := hB4.free 3; have d4 := hB4.cell 4 _ rfl; have f4 := hB4.free 4; have d5 := hB4.cell 5 _ rfl; have f5 := hB4.free 5))
  exact bodyPost_ret (v := stV X) (by simp [results, Tryz.results180, go_sem, d0, d1, d2, d3, d4, d5]) rfl ⟨rfl, below6 hb5 _ _ _ _ _ _⟩
end Go.Proofs.YtafkfamfhagokaaGreatDoor.S
