/-
  THE WALKS of package tok (states): the handlers; elem's Kind.
-/
import Derived.Test.YtafkfamfhagokaaGreatDoorTokW1
set_option linter.unusedVariables false
set_option linter.unusedSimpArgs false
namespace Go.Proofs.YtafkfamfhagokaaGreatDoor.S
open Go.RowKit

theorem lit_test (n : List UInt8) (l : List UInt8) (b : Bool) (h : (n == l) = b) : ((⟨n.toArray⟩ : ByteArray).toList == l) = b := by rw [Lib.toList_data]; exact h
set_option maxRecDepth 100000 in
set_option maxHeartbeats 600000 in
theorem tkElem_calls (n : List UInt8) (w : World) : Calls Tryz.prog 176 #[.string ⟨n.toArray⟩] w fun e w' => e = .returned (.int .i64 (elemK n)) ∧ w = w' := by
  obtain ⟨R, hR⟩ : ∃ R, R = elemK n := ⟨_, rfl⟩
  rw [← hR]
  by_cases h0 : n = [98, 114]
  · obtain rfl : R = 1 := by rw [hR, h0]; decide +kernel
    have q0 := lit_test n [98, 114] true (beq_iff_eq.2 h0)
    clear hR h0
    generalize (⟨n.toArray⟩ : ByteArray) = t at *
    go_enter Tryz.func176, Tryz.ntmps176
    go_wp2
    go_ret
    exact ⟨rfl, rfl⟩
  by_cases h1 : n = [105, 109, 103]
  · obtain rfl : R = 1 := by rw [hR, h1]; decide +kernel
    have q0 := lit_test n [98, 114] false (beq_eq_false_iff_ne.2 h0)
    have q1 := lit_test n [105, 109, 103] true (beq_iff_eq.2 h1)
    clear hR h0 h1
    generalize (⟨n.toArray⟩ : ByteArray) = t at *
    go_enter Tryz.func176, Tryz.ntmps176
    go_wp2
    go_ret
    exact ⟨rfl, rfl⟩
  by_cases h2 : n = [105, 110, 112, 117, 116]
  · obtain rfl : R = 1 := by rw [hR, h2]; decide +kernel
    have q0 := lit_test n [98, 114] false (beq_eq_false_iff_ne.2 h0)
    have q1 := lit_test n [105, 109, 103] false (beq_eq_false_iff_ne.2 h1)
    have q2 := lit_test n [105, 110, 112, 117, 116] true (beq_iff_eq.2 h2)
    clear hR h0 h1 h2
    generalize (⟨n.toArray⟩ : ByteArray) = t at *
    go_enter Tryz.func176, Tryz.ntmps176
    go_wp2
    go_ret
    exact ⟨rfl, rfl⟩
  by_cases h3 : n = [104, 114]
  · obtain rfl : R = 1 := by rw [hR, h3]; decide +kernel
    have q0 := lit_test n [98, 114] false (beq_eq_false_iff_ne.2 h0)
    have q1 := lit_test n [105, 109, 103] false (beq_eq_false_iff_ne.2 h1)
    have q2 := lit_test n [105, 110, 112, 117, 116] false (beq_eq_false_iff_ne.2 h2)
    have q3 := lit_test n [104, 114] true (beq_iff_eq.2 h3)
    clear hR h0 h1 h2 h3
    generalize (⟨n.toArray⟩ : ByteArray) = t at *
    go_enter Tryz.func176, Tryz.ntmps176
    go_wp2
    go_ret
    exact ⟨rfl, rfl⟩
  by_cases h4 : n = [109, 101, 116, 97]
  · obtain rfl : R = 1 := by rw [hR, h4]; decide +kernel
    have q0 := lit_test n [98, 114] false (beq_eq_false_iff_ne.2 h0)
    have q1 := lit_test n [105, 109, 103] false (beq_eq_false_iff_ne.2 h1)
    have q2 := lit_test n [105, 110, 112, 117, 116] false (beq_eq_false_iff_ne.2 h2)
    have q3 := lit_test n [104, 114] false (beq_eq_false_iff_ne.2 h3)
    have q4 := lit_test n [109, 101, 116, 97] true (beq_iff_eq.2 h4)
    clear hR h0 h1 h2 h3 h4
    generalize (⟨n.toArray⟩ : ByteArray) = t at *
    go_enter Tryz.func176, Tryz.ntmps176
    go_wp2
    go_ret
    exact ⟨rfl, rfl⟩
  by_cases h5 : n = [108, 105, 110, 107]
  · obtain rfl : R = 1 := by rw [hR, h5]; decide +kernel
    have q0 := lit_test n [98, 114] false (beq_eq_false_iff_ne.2 h0)
    have q1 := lit_test n [105, 109, 103] false (beq_eq_false_iff_ne.2 h1)
    have q2 := lit_test n [105, 110, 112, 117, 116] false (beq_eq_false_iff_ne.2 h2)
    have q3 := lit_test n [104, 114] false (beq_eq_false_iff_ne.2 h3)
    have q4 := lit_test n [109, 101, 116, 97] false (beq_eq_false_iff_ne.2 h4)
    have q5 := lit_test n [108, 105, 110, 107] true (beq_iff_eq.2 h5)
    clear hR h0 h1 h2 h3 h4 h5
    generalize (⟨n.toArray⟩ : ByteArray) = t at *
    go_enter Tryz.func176, Tryz.ntmps176
    go_wp2
    go_ret
    exact ⟨rfl, rfl⟩
  by_cases h6 : n = [116, 105, 116, 108, 101]
  · obtain rfl : R = 2 := by rw [hR, h6]; decide +kernel
    have q0 := lit_test n [98, 114] false (beq_eq_false_iff_ne.2 h0)
    have q1 := lit_test n [105, 109, 103] false (beq_eq_false_iff_ne.2 h1)
    have q2 := lit_test n [105, 110, 112, 117, 116] false (beq_eq_false_iff_ne.2 h2)
    have q3 := lit_test n [104, 114] false (beq_eq_false_iff_ne.2 h3)
    have q4 := lit_test n [109, 101, 116, 97] false (beq_eq_false_iff_ne.2 h4)
    have q5 := lit_test n [108, 105, 110, 107] false (beq_eq_false_iff_ne.2 h5)
    have q6 := lit_test n [116, 105, 116, 108, 101] true (beq_iff_eq.2 h6)
    clear hR h0 h1 h2 h3 h4 h5 h6
    generalize (⟨n.toArray⟩ : ByteArray) = t at *
    go_enter Tryz.func176, Tryz.ntmps176
    go_wp2
    go_ret
    exact ⟨rfl, rfl⟩
  by_cases h7 : n = [116, 101, 120, 116, 97, 114, 101, 97]
  · obtain rfl : R = 2 := by rw [hR, h7]; decide +kernel
    have q0 := lit_test n [98, 114] false (beq_eq_false_iff_ne.2 h0)
    have q1 := lit_test n [105, 109, 103] false (beq_eq_false_iff_ne.2 h1)
    have q2 := lit_test n [105, 110, 112, 117, 116] false (beq_eq_false_iff_ne.2 h2)
    have q3 := lit_test n [104, 114] false (beq_eq_false_iff_ne.2 h3)
    have q4 := lit_test n [109, 101, 116, 97] false (beq_eq_false_iff_ne.2 h4)
    have q5 := lit_test n [108, 105, 110, 107] false (beq_eq_false_iff_ne.2 h5)
    have q6 := lit_test n [116, 105, 116, 108, 101] false (beq_eq_false_iff_ne.2 h6)
    have q7 := lit_test n [116, 101, 120, 116, 97, 114, 101, 97] true (beq_iff_eq.2 h7)
    clear hR h0 h1 h2 h3 h4 h5 h6 h7
    generalize (⟨n.toArray⟩ : ByteArray) = t at *
    go_enter Tryz.func176, Tryz.ntmps176
    go_wp2
    go_ret
    exact ⟨rfl, rfl⟩
  by_cases h8 : n = [115, 99, 114, 105, 112, 116]
  · obtain rfl : R = 3 := by rw [hR, h8]; decide +kernel
    have q0 := lit_test n [98, 114] false (beq_eq_false_iff_ne.2 h0)
    have q1 := lit_test n [105, 109, 103] false (beq_eq_false_iff_ne.2 h1)
    have q2 := lit_test n [105, 110, 112, 117, 116] false (beq_eq_false_iff_ne.2 h2)
    have q3 := lit_test n [104, 114] false (beq_eq_false_iff_ne.2 h3)
    have q4 := lit_test n [109, 101, 116, 97] false (beq_eq_false_iff_ne.2 h4)
    have q5 := lit_test n [108, 105, 110, 107] false (beq_eq_false_iff_ne.2 h5)
    have q6 := lit_test n [116, 105, 116, 108, 101] false (beq_eq_false_iff_ne.2 h6)
    have q7 := lit_test n [116, 101, 120, 116, 97, 114, 101, 97] false (beq_eq_false_iff_ne.2 h7)
    have q8 := lit_test n [115, 99, 114, 105, 112, 116] true (beq_iff_eq.2 h8)
    clear hR h0 h1 h2 h3 h4 h5 h6 h7 h8
    generalize (⟨n.toArray⟩ : ByteArray) = t at *
    go_enter Tryz.func176, Tryz.ntmps176
    go_wp2
    go_ret
    exact ⟨rfl, rfl⟩
  by_cases h9 : n = [115, 116, 121, 108, 101]
  · obtain rfl : R = 4 := by rw [hR, h9]; decide +kernel
    have q0 := lit_test n [98, 114] false (beq_eq_false_iff_ne.2 h0)
    have q1 := lit_test n [105, 109, 103] false (beq_eq_false_iff_ne.2 h1)
    have q2 := lit_test n [105, 110, 112, 117, 116] false (beq_eq_false_iff_ne.2 h2)
    have q3 := lit_test n [104, 114] false (beq_eq_false_iff_ne.2 h3)
    have q4 := lit_test n [109, 101, 116, 97] false (beq_eq_false_iff_ne.2 h4)
    have q5 := lit_test n [108, 105, 110, 107] false (beq_eq_false_iff_ne.2 h5)
    have q6 := lit_test n [116, 105, 116, 108, 101] false (beq_eq_false_iff_ne.2 h6)
    have q7 := lit_test n [116, 101, 120, 116, 97, 114, 101, 97] false (beq_eq_false_iff_ne.2 h7)
    have q8 := lit_test n [115, 99, 114, 105, 112, 116] false (beq_eq_false_iff_ne.2 h8)
    have q9 := lit_test n [115, 116, 121, 108, 101] true (beq_iff_eq.2 h9)
    clear hR h0 h1 h2 h3 h4 h5 h6 h7 h8 h9
    generalize (⟨n.toArray⟩ : ByteArray) = t at *
    go_enter Tryz.func176, Tryz.ntmps176
    go_wp2
    go_ret
    exact ⟨rfl, rfl⟩
  obtain rfl : R = 0 := by rw [hR]; unfold elemK; rw [if_neg (by simp [h0, h1, h2, h3, h4, h5]), if_neg (by simp [h6, h7]), if_neg h8, if_neg h9]
  have q0 := lit_test n [98, 114] false (beq_eq_false_iff_ne.2 h0)
  have q1 := lit_test n [105, 109, 103] false (beq_eq_false_iff_ne.2 h1)
  have q2 := lit_test n [105, 110, 112, 117, 116] false (beq_eq_false_iff_ne.2 h2)
  have q3 := lit_test n [104, 114] false (beq_eq_false_iff_ne.2 h3)
  have q4 := lit_test n [109, 101, 116, 97] false (beq_eq_false_iff_ne.2 h4)
  have q5 := lit_test n [108, 105, 110, 107] false (beq_eq_false_iff_ne.2 h5)
  have q6 := lit_test n [116, 105, 116, 108, 101] false (beq_eq_false_iff_ne.2 h6)
  have q7 := lit_test n [116, 101, 120, 116, 97, 114, 101, 97] false (beq_eq_false_iff_ne.2 h7)
  have q8 := lit_test n [115, 99, 114, 105, 112, 116] false (beq_eq_false_iff_ne.2 h8)
  have q9 := lit_test n [115, 116, 121, 108, 101] false (beq_eq_false_iff_ne.2 h9)
  clear hR h0 h1 h2 h3 h4 h5 h6 h7 h8 h9
  generalize (⟨n.toArray⟩ : ByteArray) = t at *
  go_enter Tryz.func176, Tryz.ntmps176
  go_wp2
  go_ret
  exact ⟨rfl, rfl⟩
set_option maxRecDepth 100000 in
set_option maxHeartbeats 600000 in
theorem tkData_calls (b : Nat) (s : Sx) (c : Nat) (w : World) (hS : StAt b s w) (hc : c < 256) : Calls Tryz.prog 117 #[.pointer (some ⟨b, 0, none⟩), .int .u8 c] w (TkPost (dataX c) w) := by
  obtain ⟨R, hR⟩ : ∃ R, R = dataX c := ⟨_, rfl⟩
  rw [← hR]
  have hlt := hS.lt
  have hne : w.heap.size ≠ b := by omega
  by_cases h0 : c = 60
  · have t60 : ((c : Int) == 60) = true := beq_iff_eq.2 (by omega)
    obtain rfl : R = atX 1 := by rw [hR]; unfold dataX; rw [if_pos h0]
    clear hR h0
    go_enter Tryz.func117, Tryz.ntmps117
    go_upto_region 1 with (fail)
    have hB0 : Blk w.heap.size 23 stZ (w.alloc (.cells #[.int .i64 0, .string ⟨#[]⟩, .bool false, .string ⟨#[]⟩, .string ⟨#[]⟩, .int .i64 0] 23)) := Blk.new w _ _
    have hb0 := (Below.refl w.heap.size w).alloc (Nat.le_refl _) (.cells #[.int .i64 0, .string ⟨#[]⟩, .bool false, .string ⟨#[]⟩, .string ⟨#[]⟩, .int .i64 0] 23)
    have hz0 : w.heap.size ≤ (w.alloc (.cells #[.int .i64 0, .string ⟨#[]⟩, .bool false, .string ⟨#[]⟩, .string ⟨#[]⟩, .int .i64 0] 23)).heap.size := hb0.size
    generalize w.alloc (.cells #[.int .i64 0, .string ⟨#[]⟩, .bool false, .string ⟨#[]⟩, .string ⟨#[]⟩, .int .i64 0] 23) = w0 at *
    obtain ⟨s0, s1, s2, s3, s4, s5⟩ := hS.below hb0
    have hC := fun W (h : Below w0.heap.size w0 W) => tkAt_calls 1 W
    generalize (atX 1 : Sx) = X at *
    have HC := Lib.hid hC
    clear hC
    go_wp2_with (go_at_call 175; refine (HC.out _ (Below.refl _ _)).mono ?_; rintro e w1 ⟨rfl, hb⟩; have hb1 := hb0.trans (hb.mono hz0); have hB1 := hB0.below hb; have d0 := hB1.cell 0 _ rfl; have f0 := hB1.free 0; have d1 := hB1.cell 1 _ rfl; have f1 := hB1.free 1; have d2 := hB1.cell 2 _ rfl; have f2 := hB1.free 2; have d3 := hB1.cell 3 _ rfl; have f3 := hB1.free 3; have d4 := hB1.cell 4 _ rfl; have f4 := hB1.free 4; have d5 := hB1.cell 5 _ rfl; have f5 := hB1.free 5)
    exact bodyPost_ret (v := stV X) (by simp [results, Tryz.results117, go_sem, d0, d1, d2, d3, d4, d5]) rfl ⟨rfl, below6 hb1 _ _ _ _ _ _⟩
  have t60 : ((c : Int) == 60) = false := beq_eq_false_iff_ne.2 (by omega)
  obtain rfl : R = atX 0 := by rw [hR]; unfold dataX; rw [if_neg (h0)]
  clear hR h0
  go_enter Tryz.func117, Tryz.ntmps117
  go_upto_region 1 with (fail)
  have hB0 : Blk w.heap.size 23 stZ (w.alloc (.cells #[.int .i64 0, .string ⟨#[]⟩, .bool false, .string ⟨#[]⟩, .string ⟨#[]⟩, .int .i64 0] 23)) := Blk.new w _ _
  have hb0 := (Below.refl w.heap.size w).alloc (Nat.le_refl _) (.cells #[.int .i64 0, .string ⟨#[]⟩, .bool false, .string ⟨#[]⟩, .string ⟨#[]⟩, .int .i64 0] 23)
  have hz0 : w.heap.size ≤ (w.alloc (.cells #[.int .i64 0, .string ⟨#[]⟩, .bool false, .string ⟨#[]⟩, .string ⟨#[]⟩, .int .i64 0] 23)).heap.size := hb0.size
  generalize w.alloc (.cells #[.int .i64 0, .string ⟨#[]⟩, .bool false, .string ⟨#[]⟩, .string ⟨#[]⟩, .int .i64 0] 23) = w0 at *
  obtain ⟨s0, s1, s2, s3, s4, s5⟩ := hS.below hb0
  have hC := fun W (h : Below w0.heap.size w0 W) => tkAt_calls 0 W
  generalize (atX 0 : Sx) = X at *
  have HC := Lib.hid hC
  clear hC
  go_wp2_with (go_at_call 175; refine (HC.out _ (Below.refl _ _)).mono ?_; rintro e w1 ⟨rfl, hb⟩; have hb1 := hb0.trans (hb.mono hz0); have hB1 := hB0.below hb; have d0 := hB1.cell 0 _ rfl; have f0 := hB1.free 0; have d1 := hB1.cell 1 _ rfl; have f1 := hB1.free 1; have d2 := hB1.cell 2 _ rfl; have f2 := hB1.free 2; have d3 := hB1.cell 3 _ rfl; have f3 := hB1.free 3; have d4 := hB1.cell 4 _ rfl; have f4 := hB1.free 4; have d5 := hB1.cell 5 _ rfl; have f5 := hB1.free 5)
  exact bodyPost_ret (v := stV X) (by simp [results, Tryz.results117, go_sem, d0, d1, d2, d3, d4, d5]) rfl ⟨rfl, below6 hb1 _ _ _ _ _ _⟩
set_option maxRecDepth 100000 in
set_option maxHeartbeats 600000 in
theorem tkHolds_calls (b : Nat) (s : Sx) (c : Nat) (w : World) (hS : StAt b s w) (hc : c < 256) : Calls Tryz.prog 134 #[.pointer (some ⟨b, 0, none⟩), .int .u8 c] w (TkPost (holdsX s c) w) := by
  obtain ⟨R, hR⟩ : ∃ R, R = holdsX s c := ⟨_, rfl⟩
  rw [← hR]
  have hlt := hS.lt
  have hne : w.heap.size ≠ b := by omega
  by_cases h0 : c = 60
  · have t60 : ((c : Int) == 60) = true := beq_iff_eq.2 (by omega)
    obtain rfl : R = heldX s 20 := by rw [hR]; unfold holdsX; rw [if_pos h0]
    clear hR h0
    go_enter Tryz.func134, Tryz.ntmps134
    go_upto_region 1 with (fail)
    have hB0 : Blk w.heap.size 23 stZ (w.alloc (.cells #[.int .i64 0, .string ⟨#[]⟩, .bool false, .string ⟨#[]⟩, .string ⟨#[]⟩, .int .i64 0] 23)) := Blk.new w _ _
    have hb0 := (Below.refl w.heap.size w).alloc (Nat.le_refl _) (.cells #[.int .i64 0, .string ⟨#[]⟩, .bool false, .string ⟨#[]⟩, .string ⟨#[]⟩, .int .i64 0] 23)
    have hz0 : w.heap.size ≤ (w.alloc (.cells #[.int .i64 0, .string ⟨#[]⟩, .bool false, .string ⟨#[]⟩, .string ⟨#[]⟩, .int .i64 0] 23)).heap.size := hb0.size
    generalize w.alloc (.cells #[.int .i64 0, .string ⟨#[]⟩, .bool false, .string ⟨#[]⟩, .string ⟨#[]⟩, .int .i64 0] 23) = w0 at *
    obtain ⟨s0, s1, s2, s3, s4, s5⟩ := hS.below hb0
    have hC := fun W (h : Below w0.heap.size w0 W) => heldX_calls b s 20 W ((hS.below hb0).below h)
    generalize (heldX s 20 : Sx) = X at *
    have HC := Lib.hid hC
    clear hC
    go_wp2_with (go_at_call 174; refine (HC.out _ (Below.refl _ _)).mono ?_; rintro e w1 ⟨rfl, hb⟩; have hb1 := hb0.trans (hb.mono hz0); have hB1 := hB0.below hb; have d0 := hB1.cell 0 _ rfl; have f0 := hB1.free 0; have d1 := hB1.cell 1 _ rfl; have f1 := hB1.free 1; have d2 := hB1.cell 2 _ rfl; have f2 := hB1.free 2; have d3 := hB1.cell 3 _ rfl; have f3 := hB1.free 3; have d4 := hB1.cell 4 _ rfl; have f4 := hB1.free 4; have d5 := hB1.cell 5 _ rfl; have f5 := hB1.free 5)
    exact bodyPost_ret (v := stV X) (by simp [results, Tryz.results134, go_sem, d0, d1, d2, d3, d4, d5]) rfl ⟨rfl, below6 hb1 _ _ _ _ _ _⟩
  have t60 : ((c : Int) == 60) = false := beq_eq_false_iff_ne.2 (by omega)
  obtain rfl : R = heldX s 19 := by rw [hR]; unfold holdsX; rw [if_neg (h0)]
  clear hR h0
  go_enter Tryz.func134, Tryz.ntmps134
  go_upto_region 1 with (fail)
  have hB0 : Blk w.heap.size 23 stZ (w.alloc (.cells #[.int .i64 0, .string ⟨#[]⟩, .bool false, .string ⟨#[]⟩, .string ⟨#[]⟩, .int .i64 0] 23)) := Blk.new w _ _
  have hb0 := (Below.refl w.heap.size w).alloc (Nat.le_refl _) (.cells #[.int .i64 0, .string ⟨#[]⟩, .bool false, .string ⟨#[]⟩, .string ⟨#[]⟩, .int .i64 0] 23)
  have hz0 : w.heap.size ≤ (w.alloc (.cells #[.int .i64 0, .string ⟨#[]⟩, .bool false, .string ⟨#[]⟩, .string ⟨#[]⟩, .int .i64 0] 23)).heap.size := hb0.size
  generalize w.alloc (.cells #[.int .i64 0, .string ⟨#[]⟩, .bool false, .string ⟨#[]⟩, .string ⟨#[]⟩, .int .i64 0] 23) = w0 at *
  obtain ⟨s0, s1, s2, s3, s4, s5⟩ := hS.below hb0
  have hC := fun W (h : Below w0.heap.size w0 W) => heldX_calls b s 19 W ((hS.below hb0).below h)
  generalize (heldX s 19 : Sx) = X at *
  have HC := Lib.hid hC
  clear hC
  go_wp2_with (go_at_call 174; refine (HC.out _ (Below.refl _ _)).mono ?_; rintro e w1 ⟨rfl, hb⟩; have hb1 := hb0.trans (hb.mono hz0); have hB1 := hB0.below hb; have d0 := hB1.cell 0 _ rfl; have f0 := hB1.free 0; have d1 := hB1.cell 1 _ rfl; have f1 := hB1.free 1; have d2 := hB1.cell 2 _ rfl; have f2 := hB1.free 2; have d3 := hB1.cell 3 _ rfl; have f3 := hB1.free 3; have d4 := hB1.cell 4 _ rfl; have f4 := hB1.free 4; have d5 := hB1.cell 5 _ rfl; have f5 := hB1.free 5)
  exact bodyPost_ret (v := stV X) (by simp [results, Tryz.results134, go_sem, d0, d1, d2, d3, d4, d5]) rfl ⟨rfl, below6 hb1 _ _ _ _ _ _⟩
set_option maxRecDepth 100000 in
set_option maxHeartbeats 600000 in
theorem tkHeldLt_calls (b : Nat) (s : Sx) (c : Nat) (w : World) (hS : StAt b s w) (hc : c < 256) : Calls Tryz.prog 135 #[.pointer (some ⟨b, 0, none⟩), .int .u8 c] w (TkPost (heldLtX s c) w) := by
  obtain ⟨R, hR⟩ : ∃ R, R = heldLtX s c := ⟨_, rfl⟩
  rw [← hR]
  have hlt := hS.lt
  have hne : w.heap.size ≠ b := by omega
  by_cases h0 : c = 47
  · have t47 : ((c : Int) == 47) = true := beq_iff_eq.2 (by omega)
    obtain rfl : R = heldX s 21 := by rw [hR]; unfold heldLtX; rw [if_pos h0]
    clear hR h0
    go_enter Tryz.func135, Tryz.ntmps135
    go_upto_region 1 with (fail)
    have hB0 : Blk w.heap.size 23 stZ (w.alloc (.cells #[.int .i64 0, .string ⟨#[]⟩, .bool false, .string ⟨#[]⟩, .string ⟨#[]⟩, .int .i64 0] 23)) := Blk.new w _ _
    have hb0 := (Below.refl w.heap.size w).alloc (Nat.le_refl _) (.cells #[.int .i64 0, .string ⟨#[]⟩, .bool false, .string ⟨#[]⟩, .string ⟨#[]⟩, .int .i64 0] 23)
    have hz0 : w.heap.size ≤ (w.alloc (.cells #[.int .i64 0, .string ⟨#[]⟩, .bool false, .string ⟨#[]⟩, .string ⟨#[]⟩, .int .i64 0] 23)).heap.size := hb0.size
    generalize w.alloc (.cells #[.int .i64 0, .string ⟨#[]⟩, .bool false, .string ⟨#[]⟩, .string ⟨#[]⟩, .int .i64 0] 23) = w0 at *
    obtain ⟨s0, s1, s2, s3, s4, s5⟩ := hS.below hb0
    have hC := fun W (h : Below w0.heap.size w0 W) => heldX_calls b s 21 W ((hS.below hb0).below h)
    generalize (heldX s 21 : Sx) = X at *
    have HC := Lib.hid hC
    clear hC
    go_wp2_with (go_at_call 174; refine (HC.out _ (Below.refl _ _)).mono ?_; rintro e w1 ⟨rfl, hb⟩; have hb1 := hb0.trans (hb.mono hz0); have hB1 := hB0.below hb; have d0 := hB1.cell 0 _ rfl; have f0 := hB1.free 0; have d1 := hB1.cell 1 _ rfl; have f1 := hB1.free 1; have d2 := hB1.cell 2 _ rfl; have f2 := hB1.free 2; have d3 := hB1.cell 3 _ rfl; have f3 := hB1.free 3; have d4 := hB1.cell 4 _ rfl; have f4 := hB1.free 4; have d5 := hB1.cell 5 _ rfl; have f5 := hB1.free 5)
    exact bodyPost_ret (v := stV X) (by simp [results, Tryz.results135, go_sem, d0, d1, d2, d3, d4, d5]) rfl ⟨rfl, below6 hb1 _ _ _ _ _ _⟩
  have t47 : ((c : Int) == 47) = false := beq_eq_false_iff_ne.2 (by omega)
  obtain rfl : R = holdsX s c := by rw [hR]; unfold heldLtX; rw [if_neg (h0)]
  clear hR h0
  go_enter Tryz.func135, Tryz.ntmps135
  go_upto_region 1 with (fail)
  have hB0 : Blk w.heap.size 23 stZ (w.alloc (.cells #[.int .i64 0, .string ⟨#[]⟩, .bool false, .string ⟨#[]⟩, .string ⟨#[]⟩, .int .i64 0] 23)) := Blk.new w _ _
  have hb0 := (Below.refl w.heap.size w).alloc (Nat.le_refl _) (.cells #[.int .i64 0, .string ⟨#[]⟩, .bool false, .string ⟨#[]⟩, .string ⟨#[]⟩, .int .i64 0] 23)
  have hz0 : w.heap.size ≤ (w.alloc (.cells #[.int .i64 0, .string ⟨#[]⟩, .bool false, .string ⟨#[]⟩, .string ⟨#[]⟩, .int .i64 0] 23)).heap.size := hb0.size
  generalize w.alloc (.cells #[.int .i64 0, .string ⟨#[]⟩, .bool false, .string ⟨#[]⟩, .string ⟨#[]⟩, .int .i64 0] 23) = w0 at *
  obtain ⟨s0, s1, s2, s3, s4, s5⟩ := hS.below hb0
  have hC := fun W (h : Below w0.heap.size w0 W) => tkHolds_calls b s c W ((hS.below hb0).below h) hc
  generalize (holdsX s c : Sx) = X at *
  have HC := Lib.hid hC
  clear hC
  go_wp2_with (go_at_call 134; refine (HC.out _ (Below.refl _ _)).mono ?_; rintro e w1 ⟨rfl, hb⟩; have hb1 := hb0.trans (hb.mono hz0); have hB1 := hB0.below hb; have d0 := hB1.cell 0 _ rfl; have f0 := hB1.free 0; have d1 := hB1.cell 1 _ rfl; have f1 := hB1.free 1; have d2 := hB1.cell 2 _ rfl; have f2 := hB1.free 2; have d3 := hB1.cell 3 _ rfl; have f3 := hB1.free 3; have d4 := hB1.cell 4 _ rfl; have f4 := hB1.free 4; have d5 := hB1.cell 5 _ rfl; have f5 := hB1.free 5)
  exact bodyPost_ret (v := stV X) (by simp [results, Tryz.results135, go_sem, d0, d1, d2, d3, d4, d5]) rfl ⟨rfl, below6 hb1 _ _ _ _ _ _⟩
end Go.Proofs.YtafkfamfhagokaaGreatDoor.S
