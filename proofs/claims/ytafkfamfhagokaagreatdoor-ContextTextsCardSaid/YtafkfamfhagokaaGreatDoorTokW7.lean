/-
  THE WALKS of package tok (states): an element that is held; Clean, Step.
-/
import Derived.Test.YtafkfamfhagokaaGreatDoorTokW6
import Derived.Test.YtafkfamfhagokaaGreatDoorPlainC2
import Derived.WalkSmall
set_option linter.unusedVariables false
set_option linter.unusedSimpArgs false
namespace Go.Proofs.YtafkfamfhagokaaGreatDoor.S
open Go.RowKit

theorem lowQ (x : Nat) (W : World) (h : x < 256) : Calls Tryz.prog 138 #[.int .u8 x] W fun e w' => e = .returned (.int .u8 (lowN x)) ∧ w' = W := by
  have := lower_calls (x : Int) W (by omega) (by omega)
  rw [lowI_lowN] at this
  exact this.mono fun e w' ⟨he, hw⟩ => ⟨he, hw.symm⟩
set_option maxRecDepth 100000 in
set_option maxHeartbeats 600000 in
theorem tkReads_calls (b : Nat) (s : Sx) (c : Nat) (r : Int) (w : World) (hS : StAt b s w) (hc : c < 256) (hh : s.held.length ≤ 32) : Calls Tryz.prog 186 #[.pointer (some ⟨b, 0, none⟩), .int .u8 c, .int .i64 r] w (TkPost (readsX s c r) w) := by
  obtain ⟨R, hR⟩ : ∃ R, R = readsX s c r := ⟨_, rfl⟩
  rw [← hR]
  have hlt := hS.lt
  have hne : w.heap.size ≠ b := by omega
  have hsz : (⟨s.held.toArray⟩ : ByteArray).size = s.held.length := rfl
  by_cases h1 : 0 ≤ r
  case' neg => have g1 : decide (0 ≤ r) = false := decide_eq_false h1
  case neg =>
    obtain rfl : R = holdsX s c := by rw [hR]; unfold readsX; rw [if_neg (fun h => h1 h.1)]
    clear hR h1 hsz
    go_enter Tryz.func186, Tryz.ntmps186
    go_upto_region 1 with (fail)
    have hB0 : Blk w.heap.size 23 stZ (w.alloc (.cells #[.int .i64 0, .string ⟨#[]⟩, .bool false, .string ⟨#[]⟩, .string ⟨#[]⟩, .int .i64 0] 23)) := Blk.new w _ _
    have hb0 := (Below.refl w.heap.size w).alloc (Nat.le_refl _) (.cells #[.int .i64 0, .string ⟨#[]⟩, .bool false, .string ⟨#[]⟩, .string ⟨#[]⟩, .int .i64 0] 23)
    have hz0 : w.heap.size ≤ (w.alloc (.cells #[.int .i64 0, .string ⟨#[]⟩, .bool false, .string ⟨#[]⟩, .string ⟨#[]⟩, .int .i64 0] 23)).heap.size := hb0.size
    generalize w.alloc (.cells #[.int .i64 0, .string ⟨#[]⟩, .bool false, .string ⟨#[]⟩, .string ⟨#[]⟩, .int .i64 0] 23) = w0 at *
    obtain ⟨s0, s1, s2, s3, s4, s5⟩ := hS.below hb0
    have hC := fun W (h : Below w0.heap.size w0 W) => tkHolds_calls b s c W ((hS.below hb0).below h) hc
    generalize holdsX s c = X at *
    generalize (⟨s.held.toArray⟩ : ByteArray) = th at *
    have HC := Lib.hid hC
    clear hC
    go_quiet (fail)
    have hbq := fun n => below_drewN (Below.refl w0.heap.size w0) n
    go_wp2_with (go_at_call 134; refine (HC.out _ (hbq _)).mono ?_; rintro e w1 ⟨rfl, hb⟩; have hb1 := hb0.trans (((hbq _).trans (hb.mono (Nat.le_refl _))).mono hz0); have hB1 := (hB0.below (hbq _)).below hb; have d0 := hB1.cell 0 _ rfl; have f0 := hB1.free 0; have d1 := hB1.cell 1 _ rfl; have f1 := hB1.free 1; have d2 := hB1.cell 2 _ rfl; have f2 := hB1.free 2; have d3 := hB1.cell 3 _ rfl; have f3 := hB1.free 3; have d4 := hB1.cell 4 _ rfl; have f4 := hB1.free 4; have d5 := hB1.cell 5 _ rfl; have f5 := hB1.free 5)
    exact bodyPost_ret (v := stV X) (by simp [results, Tryz.results186, go_sem, d0, d1, d2, d3, d4, d5]) rfl ⟨rfl, below6 hb1 _ _ _ _ _ _⟩
  have g1 : decide (0 ≤ r) = true := decide_eq_true h1
  by_cases h2 : r < s.held.length
  case neg =>
    have g2 : decide (r < ((⟨s.held.toArray⟩ : ByteArray).size : Int)) = false := decide_eq_false (by rw [hsz]; exact h2)
    obtain rfl : R = holdsX s c := by rw [hR]; unfold readsX; rw [if_neg (fun h => h2 h.2.1)]
    clear hR h1 h2 hsz
    go_enter Tryz.func186, Tryz.ntmps186
    go_upto_region 1 with (fail)
    have hB0 : Blk w.heap.size 23 stZ (w.alloc (.cells #[.int .i64 0, .string ⟨#[]⟩, .bool false, .string ⟨#[]⟩, .string ⟨#[]⟩, .int .i64 0] 23)) := Blk.new w _ _
    have hb0 := (Below.refl w.heap.size w).alloc (Nat.le_refl _) (.cells #[.int .i64 0, .string ⟨#[]⟩, .bool false, .string ⟨#[]⟩, .string ⟨#[]⟩, .int .i64 0] 23)
    have hz0 : w.heap.size ≤ (w.alloc (.cells #[.int .i64 0, .string ⟨#[]⟩, .bool false, .string ⟨#[]⟩, .string ⟨#[]⟩, .int .i64 0] 23)).heap.size := hb0.size
    generalize w.alloc (.cells #[.int .i64 0, .string ⟨#[]⟩, .bool false, .string ⟨#[]⟩, .string ⟨#[]⟩, .int .i64 0] 23) = w0 at *
    obtain ⟨s0, s1, s2, s3, s4, s5⟩ := hS.below hb0
    have hC := fun W (h : Below w0.heap.size w0 W) => tkHolds_calls b s c W ((hS.below hb0).below h) hc
    generalize holdsX s c = X at *
    generalize (⟨s.held.toArray⟩ : ByteArray) = th at *
    have HC := Lib.hid hC
    clear hC
    go_quiet (fail)
    have hbq := fun n => below_drewN (Below.refl w0.heap.size w0) n
    go_wp2_with (go_at_call 134; refine (HC.out _ (hbq _)).mono ?_; rintro e w1 ⟨rfl, hb⟩; have hb1 := hb0.trans (((hbq _).trans (hb.mono (Nat.le_refl _))).mono hz0); have hB1 := (hB0.below (hbq _)).below hb; have d0 := hB1.cell 0 _ rfl; have f0 := hB1.free 0; have d1 := hB1.cell 1 _ rfl; have f1 := hB1.free 1; have d2 := hB1.cell 2 _ rfl; have f2 := hB1.free 2; have d3 := hB1.cell 3 _ rfl; have f3 := hB1.free 3; have d4 := hB1.cell 4 _ rfl; have f4 := hB1.free 4; have d5 := hB1.cell 5 _ rfl; have f5 := hB1.free 5)
    exact bodyPost_ret (v := stV X) (by simp [results, Tryz.results186, go_sem, d0, d1, d2, d3, d4, d5]) rfl ⟨rfl, below6 hb1 _ _ _ _ _ _⟩
  have g2 : decide (r < ((⟨s.held.toArray⟩ : ByteArray).size : Int)) = true := decide_eq_true (by rw [hsz]; exact h2)
  obtain ⟨k, rfl⟩ : ∃ k : Nat, r = k := ⟨r.toNat, by omega⟩
  have hk : k < (⟨s.held.toArray⟩ : ByteArray).size := by rw [hsz]; omega
  have hbt : ∀ h', ((⟨s.held.toArray⟩ : ByteArray)[k]'h').toNat = (s.held.getD k 0).toNat := fun h' => by
    have hkl : k < s.held.length := by rw [← hsz]; exact h'
    rw [List.getD_eq_getElem?_getD, List.getElem?_eq_getElem hkl]
    rfl
  have hd : (s.held.getD k 0).toNat < 256 := (s.held.getD k 0).toNat_lt
  have hR2 : R = if lowN c = lowN (s.held.getD k 0).toNat then ⟨22, [], false, [], s.held, k + 1⟩ else holdsX s c := by
    rw [hR]
    unfold readsX
    by_cases e : lowN c = lowN (s.held.getD k 0).toNat
    · rw [if_pos ⟨h1, h2, e⟩, if_pos e]
    · rw [if_neg (fun h => e h.2.2), if_neg e]
  clear hR h1
  have hw1 : IntKind.i64.wrap ((k : Int) + 1) = (k : Int) + 1 := IntWalk.i64_in _ (by omega)
  clear h2
  clear hsz
  generalize (s.held.getD k 0).toNat = d at *
  have hlc := lowN_lt hc
  have hld := lowN_lt hd
  by_cases e : lowN c = lowN d
  case neg =>
    have g3 : ((lowN c : Int) == (lowN d : Int)) = false := beq_eq_false_iff_ne.2 (by omega)
    obtain rfl : R = holdsX s c := by rw [hR2, if_neg e]
    clear hR2 e hw1
    go_enter Tryz.func186, Tryz.ntmps186
    go_upto_region 1 with (fail)
    have hB0 : Blk w.heap.size 23 stZ (w.alloc (.cells #[.int .i64 0, .string ⟨#[]⟩, .bool false, .string ⟨#[]⟩, .string ⟨#[]⟩, .int .i64 0] 23)) := Blk.new w _ _
    have hb0 := (Below.refl w.heap.size w).alloc (Nat.le_refl _) (.cells #[.int .i64 0, .string ⟨#[]⟩, .bool false, .string ⟨#[]⟩, .string ⟨#[]⟩, .int .i64 0] 23)
    have hz0 : w.heap.size ≤ (w.alloc (.cells #[.int .i64 0, .string ⟨#[]⟩, .bool false, .string ⟨#[]⟩, .string ⟨#[]⟩, .int .i64 0] 23)).heap.size := hb0.size
    generalize w.alloc (.cells #[.int .i64 0, .string ⟨#[]⟩, .bool false, .string ⟨#[]⟩, .string ⟨#[]⟩, .int .i64 0] 23) = w0 at *
    obtain ⟨s0, s1, s2, s3, s4, s5⟩ := hS.below hb0
    have hC := fun W (h : Below w0.heap.size w0 W) => tkHolds_calls b s c W ((hS.below hb0).below h) hc
    generalize holdsX s c = X at *
    generalize (⟨s.held.toArray⟩ : ByteArray) = th at *
    have HC := Lib.hid hC
    clear hC
    go_quiet ((go_at_call 138; exact Calls.quiet_of_same (lowQ _ _ (by assumption))))
    have hbq := fun n => below_drewN (Below.refl w0.heap.size w0) n
    go_wp2_with (go_at_call 134; refine (HC.out _ (hbq _)).mono ?_; rintro e w1 ⟨rfl, hb⟩; have hb1 := hb0.trans (((hbq _).trans (hb.mono (Nat.le_refl _))).mono hz0); have hB1 := (hB0.below (hbq _)).below hb; have d0 := hB1.cell 0 _ rfl; have f0 := hB1.free 0; have d1 := hB1.cell 1 _ rfl; have f1 := hB1.free 1; have d2 := hB1.cell 2 _ rfl; have f2 := hB1.free 2; have d3 := hB1.cell 3 _ rfl; have f3 := hB1.free 3; have d4 := hB1.cell 4 _ rfl; have f4 := hB1.free 4; have d5 := hB1.cell 5 _ rfl; have f5 := hB1.free 5)
    exact bodyPost_ret (v := stV X) (by simp [results, Tryz.results186, go_sem, d0, d1, d2, d3, d4, d5]) rfl ⟨rfl, below6 hb1 _ _ _ _ _ _⟩
  have g3 : ((lowN c : Int) == (lowN d : Int)) = true := beq_iff_eq.2 (by omega)
  obtain rfl : R = ⟨22, [], false, [], s.held, k + 1⟩ := by rw [hR2, if_pos e]
  clear hR2 e
  go_enter Tryz.func186, Tryz.ntmps186
  go_upto_region 1 with (fail)
  have hB0 : Blk w.heap.size 23 stZ (w.alloc (.cells #[.int .i64 0, .string ⟨#[]⟩, .bool false, .string ⟨#[]⟩, .string ⟨#[]⟩, .int .i64 0] 23)) := Blk.new w _ _
  have hb0 := (Below.refl w.heap.size w).alloc (Nat.le_refl _) (.cells #[.int .i64 0, .string ⟨#[]⟩, .bool false, .string ⟨#[]⟩, .string ⟨#[]⟩, .int .i64 0] 23)
  have hz0 : w.heap.size ≤ (w.alloc (.cells #[.int .i64 0, .string ⟨#[]⟩, .bool false, .string ⟨#[]⟩, .string ⟨#[]⟩, .int .i64 0] 23)).heap.size := hb0.size
  generalize w.alloc (.cells #[.int .i64 0, .string ⟨#[]⟩, .bool false, .string ⟨#[]⟩, .string ⟨#[]⟩, .int .i64 0] 23) = w0 at *
  obtain ⟨s0, s1, s2, s3, s4, s5⟩ := hS.below hb0
  obtain ⟨th, hth⟩ : ∃ th : ByteArray, th = ⟨s.held.toArray⟩ := ⟨_, rfl⟩
  have HS := Lib.hid hS
  clear hS
  rw [← hth] at s4 g2
  have hk2 : k < th.size := by rw [hth]; exact hk
  have hbt2 : ∀ h', (th[k]'h').toNat = d := by rw [hth]; exact hbt
  clear hk hbt
  have HTH := Lib.hid hth
  clear hth
  have hC := fun W (h : Below w0.heap.size w0 W) => heldX_calls b s 22 W ((HS.out.below hb0).below h)
  have HC := Lib.hid hC
  clear hC
  go_quiet ((go_at_call 138; exact Calls.quiet_of_same (lowQ _ _ (by assumption))))
  have hbq := fun n => below_drewN (Below.refl w0.heap.size w0) n
  clear hk2 hbt2
  obtain rfl := HTH.out
  go_upto_region 3 with (go_at_call 174; refine (HC.out _ (hbq _)).mono ?_; rintro e w1 ⟨rfl, hb⟩; have hb1 := hb0.trans (((hbq _).trans (hb.mono (Nat.le_refl _))).mono hz0); have hB1 := (hB0.below (hbq _)).below hb)
  have hlw := hB1.lt
  have hz1 : w.heap.size ≤ w1.heap.size := by omega
  have hne1 : w1.heap.size ≠ w.heap.size := by omega
  have hne2 : w.heap.size ≠ w1.heap.size := by omega
  refine wp_at_world ?_
  intro w2 hw2
  have hO : Blk w1.heap.size 23 [.int .i64 22, .string ⟨#[]⟩, .bool false, .string ⟨#[]⟩, .string ⟨s.held.toArray⟩, .int .i64 0] w2 := by rw [hw2]; exact Blk.new w1 [.int .i64 22, .string ⟨#[]⟩, .bool false, .string ⟨#[]⟩, .string ⟨s.held.toArray⟩, .int .i64 0] 23
  have hbo : Below w1.heap.size w1 w2 := by rw [hw2]; exact (Below.refl _ w1).alloc (Nat.le_refl _) _
  have hb2 := (hb1.trans (hbo.mono hz1)).setCell (p := ⟨w1.heap.size, 5, none⟩) hz1 (.int .i64 ((k : Int) + 1))
  have hB2 : Blk w.heap.size 23 stZ (w2.setCell ⟨w1.heap.size, 5, none⟩ (.int .i64 ((k : Int) + 1))) := (hB1.below hbo).grown (grownBy_set w2 w1.heap.size 5 _) (fun e => hne2 (Option.some.inj e))
  have hO2 := hO.set 5 (.int .i64 ((k : Int) + 1))
  have c5 := hO.cell 5 _ rfl
  have g5 := hO.free 5
  clear hw2 hO hbo
  go_upto_region 4 with (fail)
  generalize w2.setCell ⟨w1.heap.size, 5, none⟩ (.int .i64 ((k : Int) + 1)) = w3 at *
  clear c5 g5
  have d0 := hB2.cell 0 _ rfl
  have f0 := hB2.free 0
  have d1 := hB2.cell 1 _ rfl
  have f1 := hB2.free 1
  have d2 := hB2.cell 2 _ rfl
  have f2 := hB2.free 2
  have d3 := hB2.cell 3 _ rfl
  have f3 := hB2.free 3
  have d4 := hB2.cell 4 _ rfl
  have f4 := hB2.free 4
  have d5 := hB2.cell 5 _ rfl
  have f5 := hB2.free 5
  have c0 := hO2.cell 0 _ rfl
  have c1 := hO2.cell 1 _ rfl
  have c2 := hO2.cell 2 _ rfl
  have c3 := hO2.cell 3 _ rfl
  have c4 := hO2.cell 4 _ rfl
  have c5 := hO2.cell 5 _ rfl
  go_wp2
  exact bodyPost_ret (v := stV ⟨22, [], false, [], s.held, k + 1⟩) (by simp [results, Tryz.results186, go_sem, d0, d1, d2, d3, d4, d5]) rfl ⟨rfl, below6 hb2 _ _ _ _ _ _⟩
set_option maxRecDepth 100000 in
set_option maxHeartbeats 600000 in
theorem tkHeldSlash_calls (b : Nat) (s : Sx) (c : Nat) (w : World) (hS : StAt b s w) (hc : c < 256) (hh : s.held.length ≤ 32) : Calls Tryz.prog 136 #[.pointer (some ⟨b, 0, none⟩), .int .u8 c] w (TkPost (readsX s c 0) w) := by
  obtain ⟨R, hR⟩ : ∃ R, R = readsX s c 0 := ⟨_, rfl⟩
  rw [← hR]
  have hlt := hS.lt
  have hne : w.heap.size ≠ b := by omega
  obtain rfl : R = readsX s c 0 := hR
  go_enter Tryz.func136, Tryz.ntmps136
  go_upto_region 1 with (fail)
  have hB0 : Blk w.heap.size 23 stZ (w.alloc (.cells #[.int .i64 0, .string ⟨#[]⟩, .bool false, .string ⟨#[]⟩, .string ⟨#[]⟩, .int .i64 0] 23)) := Blk.new w _ _
  have hb0 := (Below.refl w.heap.size w).alloc (Nat.le_refl _) (.cells #[.int .i64 0, .string ⟨#[]⟩, .bool false, .string ⟨#[]⟩, .string ⟨#[]⟩, .int .i64 0] 23)
  have hz0 : w.heap.size ≤ (w.alloc (.cells #[.int .i64 0, .string ⟨#[]⟩, .bool false, .string ⟨#[]⟩, .string ⟨#[]⟩, .int .i64 0] 23)).heap.size := hb0.size
  generalize w.alloc (.cells #[.int .i64 0, .string ⟨#[]⟩, .bool false, .string ⟨#[]⟩, .string ⟨#[]⟩, .int .i64 0] 23) = w0 at *
  obtain ⟨s0, s1, s2, s3, s4, s5⟩ := hS.below hb0
  have hC := fun W (h : Below w0.heap.size w0 W) => tkReads_calls b s c 0 W ((hS.below hb0).below h) hc hh
  generalize (readsX s c 0 : Sx) = X at *
  have HC := Lib.hid hC
  clear hC
  go_wp2_with (go_at_call 186; refine (HC.out _ (Below.refl _ _)).mono ?_; rintro e w1 ⟨rfl, hb⟩; have hb1 := hb0.trans (hb.mono hz0); have hB1 := hB0.below hb; have d0 := hB1.cell 0 _ rfl; have f0 := hB1.free 0; have d1 := hB1.cell 1 _ rfl; have f1 := hB1.free 1; have d2 := hB1.cell 2 _ rfl; have f2 := hB1.free 2; have d3 := hB1.cell 3 _ rfl; have f3 := hB1.free 3; have d4 := hB1.cell 4 _ rfl; have f4 := hB1.free 4; have d5 := hB1.cell 5 _ rfl; have f5 := hB1.free 5)
  exact bodyPost_ret (v := stV X) (by simp [results, Tryz.results136, go_sem, d0, d1, d2, d3, d4, d5]) rfl ⟨rfl, below6 hb1 _ _ _ _ _ _⟩
set_option maxRecDepth 100000 in
set_option maxHeartbeats 600000 in
theorem tkHeldName_calls (b : Nat) (s : Sx) (c : Nat) (w : World) (hS : StAt b s w) (hc : c < 256) (hh : s.held.length ≤ 32) : Calls Tryz.prog 137 #[.pointer (some ⟨b, 0, none⟩), .int .u8 c] w (TkPost (heldNameX s c) w) := by
  obtain ⟨R, hR⟩ : ∃ R, R = heldNameX s c := ⟨_, rfl⟩
  rw [← hR]
  have hlt := hS.lt
  have hne : w.heap.size ≠ b := by omega
  have hsz : (⟨s.held.toArray⟩ : ByteArray).size = s.held.length := rfl
  by_cases h1 : s.rd < s.held.length
  · obtain rfl : R = readsX s c s.rd := by rw [hR]; unfold heldNameX; rw [if_pos h1]
    clear hR
    have g1 : decide (s.rd < ((⟨s.held.toArray⟩ : ByteArray).size : Int)) = true := decide_eq_true (by rw [hsz]; exact h1)
    clear hsz h1
    go_enter Tryz.func137, Tryz.ntmps137
    go_upto_region 1 with (fail)
    have hB0 : Blk w.heap.size 23 stZ (w.alloc (.cells #[.int .i64 0, .string ⟨#[]⟩, .bool false, .string ⟨#[]⟩, .string ⟨#[]⟩, .int .i64 0] 23)) := Blk.new w _ _
    have hb0 := (Below.refl w.heap.size w).alloc (Nat.le_refl _) (.cells #[.int .i64 0, .string ⟨#[]⟩, .bool false, .string ⟨#[]⟩, .string ⟨#[]⟩, .int .i64 0] 23)
    have hz0 : w.heap.size ≤ (w.alloc (.cells #[.int .i64 0, .string ⟨#[]⟩, .bool false, .string ⟨#[]⟩, .string ⟨#[]⟩, .int .i64 0] 23)).heap.size := hb0.size
    generalize w.alloc (.cells #[.int .i64 0, .string ⟨#[]⟩, .bool false, .string ⟨#[]⟩, .string ⟨#[]⟩, .int .i64 0] 23) = w0 at *
    obtain ⟨s0, s1, s2, s3, s4, s5⟩ := hS.below hb0
    obtain ⟨th, hth⟩ : ∃ th : ByteArray, th = ⟨s.held.toArray⟩ := ⟨_, rfl⟩
    have HS := Lib.hid hS
    clear hS
    rw [← hth] at s4 g1
    have HTH := Lib.hid hth
    clear hth
    have hC := fun W (h : Below w0.heap.size w0 W) => tkReads_calls b s c s.rd W ((HS.out.below hb0).below h) hc hh
    generalize readsX s c s.rd = X at *
    have HC := Lib.hid hC
    clear hC
    go_quiet (fail)
    have hbq := fun n => below_drewN (Below.refl w0.heap.size w0) n
    go_wp2_with (go_at_call 186; refine (HC.out _ (hbq _)).mono ?_; rintro e w1 ⟨rfl, hb⟩; have hb1 := hb0.trans (((hbq _).trans (hb.mono (Nat.le_refl _))).mono hz0); have hB1 := (hB0.below (hbq _)).below hb; have d0 := hB1.cell 0 _ rfl; have f0 := hB1.free 0; have d1 := hB1.cell 1 _ rfl; have f1 := hB1.free 1; have d2 := hB1.cell 2 _ rfl; have f2 := hB1.free 2; have d3 := hB1.cell 3 _ rfl; have f3 := hB1.free 3; have d4 := hB1.cell 4 _ rfl; have f4 := hB1.free 4; have d5 := hB1.cell 5 _ rfl; have f5 := hB1.free 5)
    exact bodyPost_ret (v := stV X) (by simp [results, Tryz.results137, go_sem, d0, d1, d2, d3, d4, d5]) rfl ⟨rfl, below6 hb1 _ _ _ _ _ _⟩
  · have hR9 : R = match betweenX ⟨0, s.held, true, [], [], 0⟩ c 4 with | some o => o | none => holdsX s c := by rw [hR]; unfold heldNameX; rw [if_neg h1]; rfl
    have HR := Lib.hid hR9
    clear hR9 hR
    have g1 : decide (s.rd < ((⟨s.held.toArray⟩ : ByteArray).size : Int)) = false := decide_eq_false (by rw [hsz]; exact h1)
    clear hsz h1
    go_enter Tryz.func137, Tryz.ntmps137
    go_upto_region 1 with (fail)
    have hB0 : Blk w.heap.size 23 stZ (w.alloc (.cells #[.int .i64 0, .string ⟨#[]⟩, .bool false, .string ⟨#[]⟩, .string ⟨#[]⟩, .int .i64 0] 23)) := Blk.new w _ _
    have hb0 := (Below.refl w.heap.size w).alloc (Nat.le_refl _) (.cells #[.int .i64 0, .string ⟨#[]⟩, .bool false, .string ⟨#[]⟩, .string ⟨#[]⟩, .int .i64 0] 23)
    have hz0 : w.heap.size ≤ (w.alloc (.cells #[.int .i64 0, .string ⟨#[]⟩, .bool false, .string ⟨#[]⟩, .string ⟨#[]⟩, .int .i64 0] 23)).heap.size := hb0.size
    generalize w.alloc (.cells #[.int .i64 0, .string ⟨#[]⟩, .bool false, .string ⟨#[]⟩, .string ⟨#[]⟩, .int .i64 0] 23) = w0 at *
    obtain ⟨s0, s1, s2, s3, s4, s5⟩ := hS.below hb0
    obtain ⟨th, hth⟩ : ∃ th : ByteArray, th = ⟨s.held.toArray⟩ := ⟨_, rfl⟩
    have HS := Lib.hid hS
    clear hS
    rw [← hth] at s4 g1
    have HTH := Lib.hid hth
    clear hth
    go_quiet (fail)
    obtain rfl := HTH.out
    refine ex_at_world ?_
    intro wd hwd
    have hbd : Below w0.heap.size w0 wd := by rw [hwd]; exact below_drewN (Below.refl _ w0) _
    clear hwd s0 s1 s2 s3 s4 s5 g1
    have hb1 := hb0.trans (hbd.mono hz0)
    have hB1 := hB0.below hbd
    have hz1 : w.heap.size ≤ wd.heap.size := hb1.size
    clear hbd hb0 hB0 hz0
    obtain ⟨s0, s1, s2, s3, s4, s5⟩ := HS.out.below hb1
    go_upto_region 4 with (fail)
    refine wp_at_world ?_
    intro wq hwq
    have hE : Blk wd.heap.size 23 [.int .i64 0, .string ⟨s.held.toArray⟩, .bool true, .string ⟨#[]⟩, .string ⟨#[]⟩, .int .i64 0] wq := by rw [hwq]; exact Blk.new wd [.int .i64 0, .string ⟨s.held.toArray⟩, .bool true, .string ⟨#[]⟩, .string ⟨#[]⟩, .int .i64 0] 23
    have hbe : Below wd.heap.size wd wq := by rw [hwq]; exact (Below.refl _ wd).alloc (Nat.le_refl _) _
    clear hwq
    have hbx := hb1.trans (hbe.mono hz1)
    have hBx := hB1.below hbe
    have hSx := HS.out.below hbx
    have hEx : StAt wd.heap.size ⟨0, s.held, true, [], [], 0⟩ wq := StAt.of (r := []) hE
    have hzx : w.heap.size ≤ wq.heap.size := hbx.size
    clear s0 s1 s2 s3 s4 s5 hbe hE HS hb1 hB1 hz1
    generalize wd.heap.size = ge at *
    cases hbt : betweenX ⟨0, s.held, true, [], [], 0⟩ c 4 with
    | some o =>
      obtain rfl : R = o := by rw [HR.out, hbt]
      have HBT := Lib.hid (show Calls Tryz.prog 179 #[.pointer (some ⟨ge, 0, none⟩), .int .u8 c, .int .i64 4] wq (BtPost (some R) wq) by rw [← hbt]; exact tkBetween_calls ge _ c 4 wq hEx hc)
      clear hbt HR
      go_upto_region 5 with ((go_at_call 179; refine HBT.out.mono ?_; rintro e w1 ⟨hy, hn, hb⟩; obtain rfl := hy R rfl; have hb1 := hbx.trans (hb.mono hzx); have hB1 := hBx.below hb; have hlw := hB1.lt; have hz1 : w.heap.size ≤ w1.heap.size := (by omega); have hne1 : w1.heap.size ≠ w.heap.size := (by omega); have hne2 : w.heap.size ≠ w1.heap.size := (by omega); clear hy hn))
      refine wp_at_world ?_
      intro w2 hw2
      obtain ⟨hO, hbo⟩ : Blk w1.heap.size 23 [.int .i64 R.pl, .string ⟨R.nm.toArray⟩, .bool R.fin, .string ⟨R.attr.toArray⟩, .string ⟨R.held.toArray⟩, .int .i64 R.rd] w2 ∧ Below w1.heap.size w1 w2 := by rw [hw2]; exact ⟨Blk.new w1 [.int .i64 R.pl, .string ⟨R.nm.toArray⟩, .bool R.fin, .string ⟨R.attr.toArray⟩, .string ⟨R.held.toArray⟩, .int .i64 R.rd] 23, (Below.refl _ w1).alloc (Nat.le_refl _) _⟩
      have hb2 := hb1.trans (hbo.mono hz1)
      have hB2 := hB1.below hbo
      clear hw2
      have d0 := hB2.cell 0 _ rfl
      have f0 := hB2.free 0
      have d1 := hB2.cell 1 _ rfl
      have f1 := hB2.free 1
      have d2 := hB2.cell 2 _ rfl
      have f2 := hB2.free 2
      have d3 := hB2.cell 3 _ rfl
      have f3 := hB2.free 3
      have d4 := hB2.cell 4 _ rfl
      have f4 := hB2.free 4
      have d5 := hB2.cell 5 _ rfl
      have f5 := hB2.free 5
      have c0 := hO.cell 0 _ rfl
      have c1 := hO.cell 1 _ rfl
      have c2 := hO.cell 2 _ rfl
      have c3 := hO.cell 3 _ rfl
      have c4 := hO.cell 4 _ rfl
      have c5 := hO.cell 5 _ rfl
      go_wp2
      exact bodyPost_ret (v := stV R) (by simp [results, Tryz.results137, go_sem, d0, d1, d2, d3, d4, d5]) rfl ⟨rfl, below6 hb2 _ _ _ _ _ _⟩
    | none =>
      obtain rfl : R = holdsX s c := by rw [HR.out, hbt]
      have HBT := Lib.hid (show Calls Tryz.prog 179 #[.pointer (some ⟨ge, 0, none⟩), .int .u8 c, .int .i64 4] wq (BtPost none wq) by rw [← hbt]; exact tkBetween_calls ge _ c 4 wq hEx hc)
      clear hbt HR
      go_upto_region 7 with ((go_at_call 179; refine HBT.out.mono ?_; rintro e w1 ⟨hy, hn, hb⟩; obtain rfl := hn rfl; have hb1 := hbx.trans (hb.mono hzx); have hB1 := hBx.below hb; have hlw := hB1.lt; have hz1 : w.heap.size ≤ w1.heap.size := (by omega); have hne1 : w1.heap.size ≠ w.heap.size := (by omega); have hne2 : w.heap.size ≠ w1.heap.size := (by omega); clear hy hn))
      refine wp_at_world ?_
      intro w2 hw2
      have hbo : Below w1.heap.size w1 w2 := by rw [hw2]; exact (Below.refl _ w1).alloc (Nat.le_refl _) _
      have hb2 := hb1.trans (hbo.mono hz1)
      have hB2 := hB1.below hbo
      have hS2 := (hSx.below hb).below hbo
      have hz2 : w.heap.size ≤ w2.heap.size := hb2.size
      clear hw2 hbo hB1 hb1 hlw hz1 hne1 hne2
      have HC := Lib.hid (tkHolds_calls b s c w2 hS2 hc)
      generalize holdsX s c = X at *
      go_wp2_with (go_at_call 134; refine HC.out.mono ?_; rintro e w3 ⟨rfl, hb3⟩; have hb4 := hb2.trans (hb3.mono hz2); have hB4 := hB2.below hb3; have d0 := hB4.cell 0 _ rfl; have f0 := hB4.free 0; have d1 := hB4.cell 1 _ rfl; have f1 := hB4.free 1; have d2 := hB4.cell 2 _ rfl; have f2 := hB4.free 2; have d3 := hB4.cell 3 _ rfl; have f3 := hB4.free 3; have d4 := hB4.cell 4 _ rfl; have f4 := hB4.free 4; have d5 := hB4.cell 5 _ rfl; have f5 := hB4.free 5)
      exact bodyPost_ret (v := stV X) (by simp [results, Tryz.results137, go_sem, d0, d1, d2, d3, d4, d5]) rfl ⟨rfl, below6 hb4 _ _ _ _ _ _⟩
end Go.Proofs.YtafkfamfhagokaaGreatDoor.S
