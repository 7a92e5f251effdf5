/-
  THE WALKS of package value: May at a value without items.
-/
import Derived.Test.YtafkfamfhagokaaGreatDoorCtxW7
set_option linter.unusedVariables false
set_option linter.unusedSimpArgs false
namespace Go.Proofs.YtafkfamfhagokaaGreatDoor.S
open Go.RowKit

/-- a value without items behind a pointer -/
def LfAt (g : Nat) (k n : Int) (t : ByteArray) (w : World) : Prop := w.cell? ⟨g, 0, none⟩ = some (.int .i64 k) ∧ w.cell? ⟨g, 1, none⟩ = some (.int .i64 n) ∧ w.cell? ⟨g, 2, none⟩ = some (.int .u64 0) ∧
  w.cell? ⟨g, 3, none⟩ = some (.string t) ∧ w.cell? ⟨g, 4, none⟩ = some (.slice none 0 0) ∧ w.cell? ⟨g, 5, none⟩ = some (.slice none 0 0)
theorem LfAt.below {g : Nat} {k n : Int} {t : ByteArray} {w w' : World} (h : LfAt g k n t w) (hb : Below w.heap.size w w') : LfAt g k n t w' := by
  obtain ⟨h0, h1, h2, h3, h4, h5⟩ := h
  exact ⟨cellK hb h0, cellK hb h1, cellK hb h2, cellK hb h3, cellK hb h4, cellK hb h5⟩
abbrev lfV (k n : Int) (t : ByteArray) : Value := .agg #[.int .i64 k, .int .i64 n, .int .u64 0, .string t, .slice none 0 0, .slice none 0 0]
theorem lf_of {g : Nat} {T : TypeId} {k n : Int} {t : ByteArray} {w : World} (h : Blk g T [.int .i64 k, .int .i64 n, .int .u64 0, .string t, .slice none 0 0, .slice none 0 0] w) : LfAt g k n t w := ⟨h.cell 0 _ rfl, h.cell 1 _ rfl, h.cell 2 _ rfl, h.cell 3 _ rfl, h.cell 4 _ rfl, h.cell 5 _ rfl⟩
theorem lf_empty : ((⟨#[]⟩ : ByteArray).toList == []) = true := by rw [Lib.toList_data]; rfl
set_option maxRecDepth 100000 in
set_option maxHeartbeats 2000000 in
theorem vPlain_txt (g : Nat) (t : ByteArray) (ht : t.size ≤ 65536) (w : World) (hL : LfAt g 4 0 t w) : Calls Tryz.prog 207 #[.pointer (some ⟨g, 0, none⟩)] w fun e w' => e = .returned (.bool true) ∧ Below w.heap.size w w' := by
  obtain ⟨l0, l1, l2, l3, l4, l5⟩ := hL
  have em := lf_empty
  go_enter Tryz.func207, Tryz.ntmps207
  go_wp2
  first | (go_ret; exact ⟨rfl, Below.refl _ _⟩) | (go_quiet (fail); go_wp2; go_ret; exact ⟨rfl, below_drewN (Below.refl _ _) _⟩)
set_option maxRecDepth 100000 in
set_option maxHeartbeats 2000000 in
theorem vOwn_txt (g : Nat) (t : ByteArray) (ht : t.size ≤ 65536) (w : World) (hL : LfAt g 4 0 t w) : Calls Tryz.prog 164 #[.pointer (some ⟨g, 0, none⟩)] w fun e w' => e = .returned (.bool true) ∧ Below w.heap.size w w' := by
  have HP := Lib.hid (vPlain_txt g t ht w hL)
  have HL := Lib.hid hL
  have ht1 : decide ((t.size : Int) ≤ 65536) = true := decide_eq_true (by omega)
  go_enter Tryz.func164, Tryz.ntmps164
  go_wp2_with ((go_at_call 207; refine HP.out.mono ?_; rintro e w1 ⟨rfl, hb1⟩; obtain ⟨l0, l1, l2, l3, l4, l5⟩ := HL.out.below hb1))
  go_ret
  exact ⟨rfl, hb1⟩
set_option maxRecDepth 100000 in
set_option maxHeartbeats 2000000 in
theorem vMay1_txt (g m : Nat) (t : ByteArray) (ht : t.size ≤ 65536) (w : World) (hL : LfAt g 4 0 t w) (hM : Blk m 3 [.int .i64 1024] w) : Calls Tryz.prog 98 #[.pointer (some ⟨g, 0, none⟩), .int .i64 1, .pointer (some ⟨m, 0, none⟩)] w fun e w' => e = .returned (.bool true) ∧ w.grownBy w' (some m) := by
  have m0 := hM.cell 0 _ rfl
  have mf := hM.free 0
  have hne : g ≠ m := by
    intro e
    subst e
    have := hL.2.1
    have h2 : w.cell? ⟨g, 1, none⟩ = none := by unfold World.cell?; rw [show w.heap[g]? = _ from hM]; rfl
    rw [h2] at this
    cases this
  have hL2 : LfAt g 4 0 t (w.setCell ⟨m, 0, none⟩ (.int .i64 1023)) := by
    obtain ⟨l0, l1, l2, l3, l4, l5⟩ := hL
    have hg := grownBy_set w m 0 (.int .i64 1023)
    have hq : some g ≠ some m := fun e => hne (Option.some.inj e)
    exact ⟨hg.cell l0 hq, hg.cell l1 hq, hg.cell l2 hq, hg.cell l3 hq, hg.cell l4 hq, hg.cell l5 hq⟩
  have hM2 : Blk m 3 [.int .i64 1023] (w.setCell ⟨m, 0, none⟩ (.int .i64 1023)) := hM.set 0 (.int .i64 1023)
  have hg2 := grownBy_set w m 0 (.int .i64 1023)
  go_enter Tryz.func98, Tryz.ntmps98
  go_upto_region 2 with (fail)
  generalize w.setCell ⟨m, 0, none⟩ (.int .i64 1023) = w2 at *
  clear m0 mf hM hL
  have m0 := hM2.cell 0 _ rfl
  have HO := Lib.hid (vOwn_txt g t ht w2 hL2)
  have HL := Lib.hid hL2
  go_wp2_with (go_at_call 164; refine HO.out.mono ?_; rintro e w1 ⟨rfl, hb1⟩; obtain ⟨l0, l1, l2, l3, l4, l5⟩ := HL.out.below hb1)
  go_loopg [31] 0 (fun gk v31 wr => v31 = .int .i64 0 ∧ w1 = wr)
  case atStart => exact ⟨rfl, rfl⟩
  case round =>
    obtain ⟨rfl, rfl⟩ := hrel
    go_wp2
    go_ret
    exact ⟨rfl, gb_trans hg2 (grownBy_below hb1)⟩
set_option maxRecDepth 100000 in
set_option maxHeartbeats 2000000 in
theorem vMay_txt (t : ByteArray) (ht : t.size ≤ 65536) (w : World) : Calls Tryz.prog 44 #[lfV 4 0 t] w fun e w' => e = .returned (.bool true) ∧ Below w.heap.size w w' := by
  go_enter Tryz.func44, Tryz.ntmps44
  go_upto_region 2 with (fail)
  refine wp_at_world ?_
  intro w2 hw2
  have h1 := Blk.new w [.int .i64 4, .int .i64 0, .int .u64 0, .string t, .slice none 0 0, .slice none 0 0] 30
  have b1 := (Below.refl w.heap.size w).alloc (Nat.le_refl _) (.cells #[.int .i64 4, .int .i64 0, .int .u64 0, .string t, .slice none 0 0, .slice none 0 0] 30)
  have z1 : (w.alloc (.cells #[.int .i64 4, .int .i64 0, .int .u64 0, .string t, .slice none 0 0, .slice none 0 0] 30)).heap.size = w.heap.size + 1 := by simp
  change Blk w.heap.size _ _ (w.alloc (.cells #[.int .i64 4, .int .i64 0, .int .u64 0, .string t, .slice none 0 0, .slice none 0 0] 30)) at h1
  have h2 := Blk.new (w.alloc (.cells #[.int .i64 4, .int .i64 0, .int .u64 0, .string t, .slice none 0 0, .slice none 0 0] 30)) [.int .i64 1024] 3
  have b2 := (Below.refl (w.alloc (.cells #[.int .i64 4, .int .i64 0, .int .u64 0, .string t, .slice none 0 0, .slice none 0 0] 30)).heap.size (w.alloc (.cells #[.int .i64 4, .int .i64 0, .int .u64 0, .string t, .slice none 0 0, .slice none 0 0] 30))).alloc (Nat.le_refl _) (.cells #[.int .i64 1024] 3)
  rw [z1] at h2
  have hL : LfAt w.heap.size 4 0 t w2 := by rw [hw2]; exact (lf_of h1).below b2
  have hM : Blk (w.heap.size + 1) 3 [.int .i64 1024] w2 := by rw [hw2]; exact h2
  have hb : Below w.heap.size w w2 := by rw [hw2]; exact b1.trans (b2.mono (by omega))
  clear hw2 h1 h2 b1 b2 z1
  have HC := Lib.hid (vMay1_txt w.heap.size (w.heap.size + 1) t ht w2 hL hM)
  go_wp2_with (go_at_call 98; refine HC.out.mono ?_; rintro e w3 ⟨rfl, hg3⟩)
  go_ret
  exact ⟨rfl, hb.grown hg3 hb.size fun k hk => by cases hk; exact Nat.le_succ _⟩
set_option maxRecDepth 100000 in
set_option maxHeartbeats 2000000 in
theorem vPlain_lst (g : Nat) (w : World) (hL : LfAt g 5 0 ⟨#[]⟩ w) : Calls Tryz.prog 207 #[.pointer (some ⟨g, 0, none⟩)] w fun e w' => e = .returned (.bool true) ∧ Below w.heap.size w w' := by
  obtain ⟨l0, l1, l2, l3, l4, l5⟩ := hL
  have em := lf_empty
  go_enter Tryz.func207, Tryz.ntmps207
  go_wp2
  first | (go_ret; exact ⟨rfl, Below.refl _ _⟩) | (go_quiet (fail); go_wp2; go_ret; exact ⟨rfl, below_drewN (Below.refl _ _) _⟩)
set_option maxRecDepth 100000 in
set_option maxHeartbeats 2000000 in
theorem vOwn_lst (g : Nat) (w : World) (hL : LfAt g 5 0 ⟨#[]⟩ w) : Calls Tryz.prog 164 #[.pointer (some ⟨g, 0, none⟩)] w fun e w' => e = .returned (.bool true) ∧ Below w.heap.size w w' := by
  have HP := Lib.hid (vPlain_lst g  w hL)
  have HL := Lib.hid hL
  go_enter Tryz.func164, Tryz.ntmps164
  go_wp2_with ((go_at_call 207; refine HP.out.mono ?_; rintro e w1 ⟨rfl, hb1⟩; obtain ⟨l0, l1, l2, l3, l4, l5⟩ := HL.out.below hb1))
  go_ret
  exact ⟨rfl, hb1⟩
set_option maxRecDepth 100000 in
set_option maxHeartbeats 2000000 in
theorem vMay1_lst (g m : Nat) (w : World) (hL : LfAt g 5 0 ⟨#[]⟩ w) (hM : Blk m 3 [.int .i64 1024] w) : Calls Tryz.prog 98 #[.pointer (some ⟨g, 0, none⟩), .int .i64 1, .pointer (some ⟨m, 0, none⟩)] w fun e w' => e = .returned (.bool true) ∧ w.grownBy w' (some m) := by
  have m0 := hM.cell 0 _ rfl
  have mf := hM.free 0
  have hne : g ≠ m := by
    intro e
    subst e
    have := hL.2.1
    have h2 : w.cell? ⟨g, 1, none⟩ = none := by unfold World.cell?; rw [show w.heap[g]? = _ from hM]; rfl
    rw [h2] at this
    cases this
  have hL2 : LfAt g 5 0 ⟨#[]⟩ (w.setCell ⟨m, 0, none⟩ (.int .i64 1023)) := by
    obtain ⟨l0, l1, l2, l3, l4, l5⟩ := hL
    have hg := grownBy_set w m 0 (.int .i64 1023)
    have hq : some g ≠ some m := fun e => hne (Option.some.inj e)
    exact ⟨hg.cell l0 hq, hg.cell l1 hq, hg.cell l2 hq, hg.cell l3 hq, hg.cell l4 hq, hg.cell l5 hq⟩
  have hM2 : Blk m 3 [.int .i64 1023] (w.setCell ⟨m, 0, none⟩ (.int .i64 1023)) := hM.set 0 (.int .i64 1023)
  have hg2 := grownBy_set w m 0 (.int .i64 1023)
  go_enter Tryz.func98, Tryz.ntmps98
  go_upto_region 2 with (fail)
  generalize w.setCell ⟨m, 0, none⟩ (.int .i64 1023) = w2 at *
  clear m0 mf hM hL
  have m0 := hM2.cell 0 _ rfl
  have HO := Lib.hid (vOwn_lst g  w2 hL2)
  have HL := Lib.hid hL2
  go_wp2_with (go_at_call 164; refine HO.out.mono ?_; rintro e w1 ⟨rfl, hb1⟩; obtain ⟨l0, l1, l2, l3, l4, l5⟩ := HL.out.below hb1)
  go_loopg [31] 0 (fun gk v31 wr => v31 = .int .i64 0 ∧ w1 = wr)
  case atStart => exact ⟨rfl, rfl⟩
  case round =>
    obtain ⟨rfl, rfl⟩ := hrel
    go_wp2
    go_ret
    exact ⟨rfl, gb_trans hg2 (grownBy_below hb1)⟩
set_option maxRecDepth 100000 in
set_option maxHeartbeats 2000000 in
theorem vMay_lst (w : World) : Calls Tryz.prog 44 #[lfV 5 0 ⟨#[]⟩] w fun e w' => e = .returned (.bool true) ∧ Below w.heap.size w w' := by
  go_enter Tryz.func44, Tryz.ntmps44
  go_upto_region 2 with (fail)
  refine wp_at_world ?_
  intro w2 hw2
  have h1 := Blk.new w [.int .i64 5, .int .i64 0, .int .u64 0, .string ⟨#[]⟩, .slice none 0 0, .slice none 0 0] 30
  have b1 := (Below.refl w.heap.size w).alloc (Nat.le_refl _) (.cells #[.int .i64 5, .int .i64 0, .int .u64 0, .string ⟨#[]⟩, .slice none 0 0, .slice none 0 0] 30)
  have z1 : (w.alloc (.cells #[.int .i64 5, .int .i64 0, .int .u64 0, .string ⟨#[]⟩, .slice none 0 0, .slice none 0 0] 30)).heap.size = w.heap.size + 1 := by simp
  change Blk w.heap.size _ _ (w.alloc (.cells #[.int .i64 5, .int .i64 0, .int .u64 0, .string ⟨#[]⟩, .slice none 0 0, .slice none 0 0] 30)) at h1
  have h2 := Blk.new (w.alloc (.cells #[.int .i64 5, .int .i64 0, .int .u64 0, .string ⟨#[]⟩, .slice none 0 0, .slice none 0 0] 30)) [.int .i64 1024] 3
  have b2 := (Below.refl (w.alloc (.cells #[.int .i64 5, .int .i64 0, .int .u64 0, .string ⟨#[]⟩, .slice none 0 0, .slice none 0 0] 30)).heap.size (w.alloc (.cells #[.int .i64 5, .int .i64 0, .int .u64 0, .string ⟨#[]⟩, .slice none 0 0, .slice none 0 0] 30))).alloc (Nat.le_refl _) (.cells #[.int .i64 1024] 3)
  rw [z1] at h2
  have hL : LfAt w.heap.size 5 0 ⟨#[]⟩ w2 := by rw [hw2]; exact (lf_of h1).below b2
  have hM : Blk (w.heap.size + 1) 3 [.int .i64 1024] w2 := by rw [hw2]; exact h2
  have hb : Below w.heap.size w w2 := by rw [hw2]; exact b1.trans (b2.mono (by omega))
  clear hw2 h1 h2 b1 b2 z1
  have HC := Lib.hid (vMay1_lst w.heap.size (w.heap.size + 1)  w2 hL hM)
  go_wp2_with (go_at_call 98; refine HC.out.mono ?_; rintro e w3 ⟨rfl, hg3⟩)
  go_ret
  exact ⟨rfl, hb.grown hg3 hb.size fun k hk => by cases hk; exact Nat.le_succ _⟩
set_option maxRecDepth 100000 in
set_option maxHeartbeats 2000000 in
theorem vPlain_int (g : Nat) (x : Int) (hx : 9007199254740991 < x) (w : World) (hL : LfAt g 2 x ⟨#[]⟩ w) : Calls Tryz.prog 207 #[.pointer (some ⟨g, 0, none⟩)] w fun e w' => e = .returned (.bool true) ∧ Below w.heap.size w w' := by
  obtain ⟨l0, l1, l2, l3, l4, l5⟩ := hL
  have em := lf_empty
  go_enter Tryz.func207, Tryz.ntmps207
  go_wp2
  first | (go_ret; exact ⟨rfl, Below.refl _ _⟩) | (go_quiet (fail); go_wp2; go_ret; exact ⟨rfl, below_drewN (Below.refl _ _) _⟩)
set_option maxRecDepth 100000 in
set_option maxHeartbeats 2000000 in
theorem vInt_no (x : Int) (hx : 9007199254740991 < x) (w : World) : Calls Tryz.prog 208 #[.int .i64 x] w fun e w' => e = .returned (.bool false) ∧ w = w' := by
  have hx1 : decide (x ≤ 9007199254740991) = false := decide_eq_false (by omega)
  have hx2 : decide ((-9007199254740991 : Int) ≤ x) = true := decide_eq_true (by omega)
  go_enter Tryz.func208, Tryz.ntmps208
  go_wp2
  go_ret
  exact ⟨rfl, rfl⟩
set_option maxRecDepth 100000 in
set_option maxHeartbeats 2000000 in
theorem vOwn_int (g : Nat) (x : Int) (hx : 9007199254740991 < x) (w : World) (hL : LfAt g 2 x ⟨#[]⟩ w) : Calls Tryz.prog 164 #[.pointer (some ⟨g, 0, none⟩)] w fun e w' => e = .returned (.bool false) ∧ Below w.heap.size w w' := by
  have HP := Lib.hid (vPlain_int g x hx w hL)
  have HL := Lib.hid hL
  have hx1 : decide (x ≤ 9007199254740991) = false := decide_eq_false (by omega)
  have hx2 : decide ((-9007199254740991 : Int) ≤ x) = true := decide_eq_true (by omega)
  go_enter Tryz.func164, Tryz.ntmps164
  go_wp2_with (first | (go_at_call 207; refine HP.out.mono ?_; rintro e w1 ⟨rfl, hb1⟩; obtain ⟨l0, l1, l2, l3, l4, l5⟩ := HL.out.below hb1) | (go_at_call 208; refine (vInt_no x hx _).mono ?_; rintro e w1 ⟨rfl, rfl⟩))
  go_ret
  exact ⟨rfl, hb1⟩
set_option maxRecDepth 100000 in
set_option maxHeartbeats 2000000 in
theorem vMay1_int (g m : Nat) (x : Int) (hx : 9007199254740991 < x) (w : World) (hL : LfAt g 2 x ⟨#[]⟩ w) (hM : Blk m 3 [.int .i64 1024] w) : Calls Tryz.prog 98 #[.pointer (some ⟨g, 0, none⟩), .int .i64 1, .pointer (some ⟨m, 0, none⟩)] w fun e w' => e = .returned (.bool false) ∧ w.grownBy w' (some m) := by
  have m0 := hM.cell 0 _ rfl
  have mf := hM.free 0
  have hne : g ≠ m := by
    intro e
    subst e
    have := hL.2.1
    have h2 : w.cell? ⟨g, 1, none⟩ = none := by unfold World.cell?; rw [show w.heap[g]? = _ from hM]; rfl
    rw [h2] at this
    cases this
  have hL2 : LfAt g 2 x ⟨#[]⟩ (w.setCell ⟨m, 0, none⟩ (.int .i64 1023)) := by
    obtain ⟨l0, l1, l2, l3, l4, l5⟩ := hL
    have hg := grownBy_set w m 0 (.int .i64 1023)
    have hq : some g ≠ some m := fun e => hne (Option.some.inj e)
    exact ⟨hg.cell l0 hq, hg.cell l1 hq, hg.cell l2 hq, hg.cell l3 hq, hg.cell l4 hq, hg.cell l5 hq⟩
  have hM2 : Blk m 3 [.int .i64 1023] (w.setCell ⟨m, 0, none⟩ (.int .i64 1023)) := hM.set 0 (.int .i64 1023)
  have hg2 := grownBy_set w m 0 (.int .i64 1023)
  go_enter Tryz.func98, Tryz.ntmps98
  go_upto_region 2 with (fail)
  generalize w.setCell ⟨m, 0, none⟩ (.int .i64 1023) = w2 at *
  clear m0 mf hM hL
  have m0 := hM2.cell 0 _ rfl
  have HO := Lib.hid (vOwn_int g x hx w2 hL2)
  have HL := Lib.hid hL2
  go_wp2_with (go_at_call 164; refine HO.out.mono ?_; rintro e w1 ⟨rfl, hb1⟩; obtain ⟨l0, l1, l2, l3, l4, l5⟩ := HL.out.below hb1)
  go_ret
  exact ⟨rfl, gb_trans hg2 (grownBy_below hb1)⟩
set_option maxRecDepth 100000 in
set_option maxHeartbeats 2000000 in
theorem vMay_int (x : Int) (hx : 9007199254740991 < x) (w : World) : Calls Tryz.prog 44 #[lfV 2 x ⟨#[]⟩] w fun e w' => e = .returned (.bool false) ∧ Below w.heap.size w w' := by
  go_enter Tryz.func44, Tryz.ntmps44
  go_upto_region 2 with (fail)
  refine wp_at_world ?_
  intro w2 hw2
  have h1 := Blk.new w [.int .i64 2, .int .i64 x, .int .u64 0, .string ⟨#[]⟩, .slice none 0 0, .slice none 0 0] 30
  have b1 := (Below.refl w.heap.size w).alloc (Nat.le_refl _) (.cells #[.int .i64 2, .int .i64 x, .int .u64 0, .string ⟨#[]⟩, .slice none 0 0, .slice none 0 0] 30)
  have z1 : (w.alloc (.cells #[.int .i64 2, .int .i64 x, .int .u64 0, .string ⟨#[]⟩, .slice none 0 0, .slice none 0 0] 30)).heap.size = w.heap.size + 1 := by simp
  change Blk w.heap.size _ _ (w.alloc (.cells #[.int .i64 2, .int .i64 x, .int .u64 0, .string ⟨#[]⟩, .slice none 0 0, .slice none 0 0] 30)) at h1
  have h2 := Blk.new (w.alloc (.cells #[.int .i64 2, .int .i64 x, .int .u64 0, .string ⟨#[]⟩, .slice none 0 0, .slice none 0 0] 30)) [.int .i64 1024] 3
  have b2 := (Below.refl (w.alloc (.cells #[.int .i64 2, .int .i64 x, .int .u64 0, .string ⟨#[]⟩, .slice none 0 0, .slice none 0 0] 30)).heap.size (w.alloc (.cells #[.int .i64 2, .int .i64 x, .int .u64 0, .string ⟨#[]⟩, .slice none 0 0, .slice none 0 0] 30))).alloc (Nat.le_refl _) (.cells #[.int .i64 1024] 3)
  rw [z1] at h2
  have hL : LfAt w.heap.size 2 x ⟨#[]⟩ w2 := by rw [hw2]; exact (lf_of h1).below b2
  have hM : Blk (w.heap.size + 1) 3 [.int .i64 1024] w2 := by rw [hw2]; exact h2
  have hb : Below w.heap.size w w2 := by rw [hw2]; exact b1.trans (b2.mono (by omega))
  clear hw2 h1 h2 b1 b2 z1
  have HC := Lib.hid (vMay1_int w.heap.size (w.heap.size + 1) x hx w2 hL hM)
  go_wp2_with (go_at_call 98; refine HC.out.mono ?_; rintro e w3 ⟨rfl, hg3⟩)
  go_ret
  exact ⟨rfl, hb.grown hg3 hb.size fun k hk => by cases hk; exact Nat.le_succ _⟩
end Go.Proofs.YtafkfamfhagokaaGreatDoor.S
