/-
  THE WALKS of package tok (states): parts.
-/
import Derived.Test.YtafkfamfhagokaaGreatDoorPlainC
import Derived.Test.YtafkfamfhagokaaGreatDoorState
import Derived.Test.YtafkfamfhagokaaGreatDoorByteWalks
import Derived.Test.YtafkfamfhagokaaGreatDoorOwn
import Derived.RegionTactic
import Derived.ChangeAlike
import Derived.BigRegion
import Derived.BigQuiet
import Derived.StillTailTactics
import Derived.Deep.QuietTactic
import Derived.Deep.RegionHeld3
import Derived.Deep.Cut
set_option linter.unusedVariables false
set_option linter.unusedSimpArgs false
namespace Go.Proofs.YtafkfamfhagokaaGreatDoor.S
open Go.RowKit

theorem cellK {W W' : World} (hb : Below W.heap.size W W') {p : Addr} {x : Value} (h : W.cell? p = some x) : W'.cell? p = some x := (hb.cell (World.block_lt_of_cell? W _ h)).trans h
/-- a state as a value -/
abbrev stV (s : Sx) : Value := .agg #[.int .i64 s.pl, .string ⟨s.nm.toArray⟩, .bool s.fin, .string ⟨s.attr.toArray⟩, .string ⟨s.held.toArray⟩, .int .i64 s.rd]
abbrev stZ : List Value := [.int .i64 0, .string ⟨#[]⟩, .bool false, .string ⟨#[]⟩, .string ⟨#[]⟩, .int .i64 0]
/-- a state behind a pointer -/
def StAt (b : Nat) (s : Sx) (w : World) : Prop := w.cell? ⟨b, 0, none⟩ = some (.int .i64 s.pl) ∧ w.cell? ⟨b, 1, none⟩ = some (.string ⟨s.nm.toArray⟩) ∧ w.cell? ⟨b, 2, none⟩ = some (.bool s.fin) ∧
  w.cell? ⟨b, 3, none⟩ = some (.string ⟨s.attr.toArray⟩) ∧ w.cell? ⟨b, 4, none⟩ = some (.string ⟨s.held.toArray⟩) ∧ w.cell? ⟨b, 5, none⟩ = some (.int .i64 s.rd)
theorem StAt.below {b : Nat} {s : Sx} {w w' : World} (h : StAt b s w) (hb : Below w.heap.size w w') : StAt b s w' := by
  obtain ⟨h0, h1, h2, h3, h4, h5⟩ := h
  exact ⟨cellK hb h0, cellK hb h1, cellK hb h2, cellK hb h3, cellK hb h4, cellK hb h5⟩
theorem StAt.lt {b : Nat} {s : Sx} {w : World} (h : StAt b s w) : b < w.heap.size := World.block_lt_of_cell? w _ h.1
theorem StAt.of {b : Nat} {s : Sx} {T : TypeId} {w : World} {r : List Value} (h : Blk b T ([.int .i64 s.pl, .string ⟨s.nm.toArray⟩, .bool s.fin, .string ⟨s.attr.toArray⟩, .string ⟨s.held.toArray⟩, .int .i64 s.rd] ++ r) w) : StAt b s w :=
  ⟨h.cell 0 _ rfl, h.cell 1 _ rfl, h.cell 2 _ rfl, h.cell 3 _ rfl, h.cell 4 _ rfl, h.cell 5 _ rfl⟩
theorem below6 {B r : Nat} {w w1 : World} (h : Below B w w1) (a0 a1 a2 a3 a4 a5 : Value) (hr : B ≤ r := by exact Nat.le_refl _) :
    Below B w ((((((w1.setCell ⟨r, 0, none⟩ a0).setCell ⟨r, 1, none⟩ a1).setCell ⟨r, 2, none⟩ a2).setCell ⟨r, 3, none⟩ a3).setCell ⟨r, 4, none⟩ a4).setCell ⟨r, 5, none⟩ a5) :=
  (((((h.setCell hr _).setCell hr _).setCell hr _).setCell hr _).setCell hr _).setCell hr _
/-- what a function that gives a state leaves -/
def TkPost (R : Sx) (w : World) (e : Ending) (w' : World) : Prop := e = .returned (stV R) ∧ Below w.heap.size w w'
set_option maxRecDepth 100000 in
set_option maxHeartbeats 600000 in
theorem tkBlank_calls (c : Nat) (w : World) (h1 : c < 256) :
    Calls Tryz.prog 181 #[.int .u8 c] w fun e w' => e = .returned (.bool (blankB c)) ∧ w = w' := by
  obtain ⟨R, hR⟩ : ∃ R, R = blankB c := ⟨_, rfl⟩
  rw [← hR]
  rcases (show c = 32 ∨ (9 ≤ c ∧ c ≤ 13 ∧ c ≠ 11) ∨ c = 11 ∨ c < 9 ∨ (13 < c ∧ c ≠ 32) by omega) with h | ⟨h2, h3, h4⟩ | h | h | ⟨h2, h3⟩
  · obtain rfl : R = true := by rw [hR, h]; rfl
    clear hR
    have q0 : ((c : Int) == 32) = true := beq_iff_eq.2 (by omega)
    go_enter Tryz.func181, Tryz.ntmps181
    go_wp2
    go_ret
    exact ⟨rfl, rfl⟩
  · obtain rfl : R = true := by rw [hR]; unfold blankB; simp; omega
    clear hR
    have q0 : ((c : Int) == 32) = false := beq_eq_false_iff_ne.2 (by omega)
    have q1 : decide (9 ≤ (c : Int)) = true := decide_eq_true (by omega)
    have q2 : decide ((c : Int) ≤ 13) = true := decide_eq_true (by omega)
    have q3 : ((c : Int) != 11) = true := bne_iff_ne.2 (by omega)
    have q4 : ((c : Int) == 11) = false := beq_eq_false_iff_ne.2 (by omega)
    go_enter Tryz.func181, Tryz.ntmps181
    go_wp2
    go_ret
    exact ⟨rfl, rfl⟩
  all_goals
    obtain rfl : R = false := by rw [hR]; unfold blankB; simp; omega
    clear hR
    have q0 : ((c : Int) == 32) = false := beq_eq_false_iff_ne.2 (by omega)
    go_enter Tryz.func181, Tryz.ntmps181
    go_wp2
    all_goals go_ret
    all_goals exact ⟨ret_bool (by simp <;> omega), rfl⟩
set_option maxRecDepth 100000 in
set_option maxHeartbeats 600000 in
theorem tkAt_calls (x : Int) (w : World) : Calls Tryz.prog 175 #[.int .i64 x] w (TkPost (atX x) w) := by
  go_enter Tryz.func175, Tryz.ntmps175
  go_upto_region 1 with (fail)
  have hB0 : Blk w.heap.size 23 stZ (w.alloc (.cells #[.int .i64 0, .string ⟨#[]⟩, .bool false, .string ⟨#[]⟩, .string ⟨#[]⟩, .int .i64 0] 23)) := Blk.new w _ _
  have hb0 := (Below.refl w.heap.size w).alloc (Nat.le_refl _) (.cells #[.int .i64 0, .string ⟨#[]⟩, .bool false, .string ⟨#[]⟩, .string ⟨#[]⟩, .int .i64 0] 23)
  have hz0 : w.heap.size ≤ (w.alloc (.cells #[.int .i64 0, .string ⟨#[]⟩, .bool false, .string ⟨#[]⟩, .string ⟨#[]⟩, .int .i64 0] 23)).heap.size := hb0.size
  generalize w.alloc (.cells #[.int .i64 0, .string ⟨#[]⟩, .bool false, .string ⟨#[]⟩, .string ⟨#[]⟩, .int .i64 0] 23) = w0 at *
  have d0 := hB0.cell 0 _ rfl
  have f0 := hB0.free 0
  have d1 := hB0.cell 1 _ rfl
  have f1 := hB0.free 1
  have d2 := hB0.cell 2 _ rfl
  have f2 := hB0.free 2
  have d3 := hB0.cell 3 _ rfl
  have f3 := hB0.free 3
  have d4 := hB0.cell 4 _ rfl
  have f4 := hB0.free 4
  have d5 := hB0.cell 5 _ rfl
  have f5 := hB0.free 5
  go_wp2
  exact bodyPost_ret (v := stV (atX x)) (by simp [results, Tryz.results175, go_sem, atX, d0, d1, d2, d3, d4, d5]) rfl ⟨rfl, below6 hb0 _ _ _ _ _ _⟩
set_option maxRecDepth 100000 in
set_option maxHeartbeats 600000 in
theorem inX_calls (b : Nat) (s : Sx) (x : Int) (w : World) (hS : StAt b s w) : Calls Tryz.prog 173 #[.pointer (some ⟨b, 0, none⟩), .int .i64 x] w (TkPost (inX s x) w) := by
  have hlt := hS.lt
  have hne : w.heap.size ≠ b := by omega
  go_enter Tryz.func173, Tryz.ntmps173
  go_upto_region 1 with (fail)
  have hB0 : Blk w.heap.size 23 stZ (w.alloc (.cells #[.int .i64 0, .string ⟨#[]⟩, .bool false, .string ⟨#[]⟩, .string ⟨#[]⟩, .int .i64 0] 23)) := Blk.new w _ _
  have hb0 := (Below.refl w.heap.size w).alloc (Nat.le_refl _) (.cells #[.int .i64 0, .string ⟨#[]⟩, .bool false, .string ⟨#[]⟩, .string ⟨#[]⟩, .int .i64 0] 23)
  have hz0 : w.heap.size ≤ (w.alloc (.cells #[.int .i64 0, .string ⟨#[]⟩, .bool false, .string ⟨#[]⟩, .string ⟨#[]⟩, .int .i64 0] 23)).heap.size := hb0.size
  generalize w.alloc (.cells #[.int .i64 0, .string ⟨#[]⟩, .bool false, .string ⟨#[]⟩, .string ⟨#[]⟩, .int .i64 0] 23) = w0 at *
  obtain ⟨s0, s1, s2, s3, s4, s5⟩ := hS.below hb0
  have d0 := hB0.cell 0 _ rfl
  have f0 := hB0.free 0
  have d1 := hB0.cell 1 _ rfl
  have f1 := hB0.free 1
  have d2 := hB0.cell 2 _ rfl
  have f2 := hB0.free 2
  have d3 := hB0.cell 3 _ rfl
  have f3 := hB0.free 3
  have d4 := hB0.cell 4 _ rfl
  have f4 := hB0.free 4
  have d5 := hB0.cell 5 _ rfl
  have f5 := hB0.free 5
  go_region
  go_wp2
  exact bodyPost_ret (v := stV (inX s x)) (by simp [results, Tryz.results173, go_sem, inX, d0, d1, d2, d3, d4, d5]) rfl ⟨rfl, (below6 hb0 _ _ _ _ _ _).drew⟩
set_option maxRecDepth 100000 in
set_option maxHeartbeats 600000 in
theorem heldX_calls (b : Nat) (s : Sx) (x : Int) (w : World) (hS : StAt b s w) : Calls Tryz.prog 174 #[.pointer (some ⟨b, 0, none⟩), .int .i64 x] w (TkPost (heldX s x) w) := by
  have hlt := hS.lt
  have hne : w.heap.size ≠ b := by omega
  go_enter Tryz.func174, Tryz.ntmps174
  go_upto_region 1 with (fail)
  have hB0 : Blk w.heap.size 23 stZ (w.alloc (.cells #[.int .i64 0, .string ⟨#[]⟩, .bool false, .string ⟨#[]⟩, .string ⟨#[]⟩, .int .i64 0] 23)) := Blk.new w _ _
  have hb0 := (Below.refl w.heap.size w).alloc (Nat.le_refl _) (.cells #[.int .i64 0, .string ⟨#[]⟩, .bool false, .string ⟨#[]⟩, .string ⟨#[]⟩, .int .i64 0] 23)
  have hz0 : w.heap.size ≤ (w.alloc (.cells #[.int .i64 0, .string ⟨#[]⟩, .bool false, .string ⟨#[]⟩, .string ⟨#[]⟩, .int .i64 0] 23)).heap.size := hb0.size
  generalize w.alloc (.cells #[.int .i64 0, .string ⟨#[]⟩, .bool false, .string ⟨#[]⟩, .string ⟨#[]⟩, .int .i64 0] 23) = w0 at *
  obtain ⟨s0, s1, s2, s3, s4, s5⟩ := hS.below hb0
  have d0 := hB0.cell 0 _ rfl
  have f0 := hB0.free 0
  have d1 := hB0.cell 1 _ rfl
  have f1 := hB0.free 1
  have d2 := hB0.cell 2 _ rfl
  have f2 := hB0.free 2
  have d3 := hB0.cell 3 _ rfl
  have f3 := hB0.free 3
  have d4 := hB0.cell 4 _ rfl
  have f4 := hB0.free 4
  have d5 := hB0.cell 5 _ rfl
  have f5 := hB0.free 5
  go_wp2
  exact bodyPost_ret (v := stV (heldX s x)) (by simp [results, Tryz.results174, go_sem, heldX, d0, d1, d2, d3, d4, d5]) rfl ⟨rfl, below6 hb0 _ _ _ _ _ _⟩
set_option maxRecDepth 100000 in
set_option maxHeartbeats 600000 in
theorem attrX_calls (b : Nat) (s : Sx) (x : Int) (n : List UInt8) (w : World) (hS : StAt b s w) : Calls Tryz.prog 172 #[.pointer (some ⟨b, 0, none⟩), .int .i64 x, .string ⟨n.toArray⟩] w (TkPost (attrX s x n) w) := by
  have hlt := hS.lt
  have hne : w.heap.size ≠ b := by omega
  go_enter Tryz.func172, Tryz.ntmps172
  go_upto_region 1 with (fail)
  have hB0 : Blk w.heap.size 23 stZ (w.alloc (.cells #[.int .i64 0, .string ⟨#[]⟩, .bool false, .string ⟨#[]⟩, .string ⟨#[]⟩, .int .i64 0] 23)) := Blk.new w _ _
  have hb0 := (Below.refl w.heap.size w).alloc (Nat.le_refl _) (.cells #[.int .i64 0, .string ⟨#[]⟩, .bool false, .string ⟨#[]⟩, .string ⟨#[]⟩, .int .i64 0] 23)
  have hz0 : w.heap.size ≤ (w.alloc (.cells #[.int .i64 0, .string ⟨#[]⟩, .bool false, .string ⟨#[]⟩, .string ⟨#[]⟩, .int .i64 0] 23)).heap.size := hb0.size
  generalize w.alloc (.cells #[.int .i64 0, .string ⟨#[]⟩, .bool false, .string ⟨#[]⟩, .string ⟨#[]⟩, .int .i64 0] 23) = w0 at *
  obtain ⟨s0, s1, s2, s3, s4, s5⟩ := hS.below hb0
  have d0 := hB0.cell 0 _ rfl
  have f0 := hB0.free 0
  have d1 := hB0.cell 1 _ rfl
  have f1 := hB0.free 1
  have d2 := hB0.cell 2 _ rfl
  have f2 := hB0.free 2
  have d3 := hB0.cell 3 _ rfl
  have f3 := hB0.free 3
  have d4 := hB0.cell 4 _ rfl
  have f4 := hB0.free 4
  have d5 := hB0.cell 5 _ rfl
  have f5 := hB0.free 5
  go_region
  go_wp2
  exact bodyPost_ret (v := stV (attrX s x n)) (by simp [results, Tryz.results172, go_sem, attrX, d0, d1, d2, d3, d4, d5]) rfl ⟨rfl, (below6 hb0 _ _ _ _ _ _).drew⟩
theorem lowI_lowN (c : Nat) : lowI (c : Int) = (lowN c : Int) := by unfold lowI lowN; split <;> split <;> omega
theorem lowN_lt {c : Nat} (h : c < 256) : lowN c < 256 := by unfold lowN; split <;> omega
theorem more_str (n : List UInt8) (c : Nat) (h : c < 256) : (⟨n.toArray⟩ : ByteArray) ++ strOfNums [((lowN c : Nat) : Int)] = ⟨(n ++ [(lowN c).toUInt8]).toArray⟩ := by
  apply ByteArray.ext
  simp [ByteArray.data_append, strOfNums]
set_option maxRecDepth 100000 in
set_option maxHeartbeats 600000 in
theorem tkMore_calls (n : List UInt8) (c : Nat) (hc : c < 256) (w : World) : Calls Tryz.prog 178 #[.string ⟨n.toArray⟩, .int .u8 c] w fun e w' => e = .returned (.string ⟨(moreX n c).toArray⟩) ∧ Below w.heap.size w w' := by
  have hsz : (⟨n.toArray⟩ : ByteArray).size = n.length := rfl
  have hL := fun W => lower_calls (c : Int) W (by omega) (by omega)
  rw [lowI_lowN] at hL
  have hll := lowN_lt hc
  by_cases h : 32 ≤ n.length
  · have hb : decide ((32 : Int) ≤ (n.length : Int)) = true := decide_eq_true (by omega)
    have hm : moreX n c = n := by unfold moreX; rw [if_pos h]
    rw [hm]
    generalize (⟨n.toArray⟩ : ByteArray) = t at *
    clear hm hL
    go_enter Tryz.func178, Tryz.ntmps178
    rw [← hsz] at hb
    go_wp2
    go_ret
    exact ⟨rfl, Below.refl _ _⟩
  · have hb : decide ((32 : Int) ≤ (n.length : Int)) = false := decide_eq_false (by omega)
    have hm : moreX n c = n ++ [(lowN c).toUInt8] := by unfold moreX; rw [if_neg h]
    rw [hm, ← more_str n c hc]
    generalize lowN c = d at *
    have hcv := run_convert_bytes_arg (P := Tryz.prog) (w := w.alloc (.cells #[.int .u8 d] 5)) 59 5 Tryz.underlying59 Tryz.underlying5 w.heap.size 0 1 1 [(d : Int)] rfl (by intro i hi; obtain rfl : i = 0 := (by omega); simp) 9 Tryz.underlying9
    have hts : (strOfNums [(d : Int)]).size = 1 := rfl
    generalize strOfNums [(d : Int)] = u at *
    have hct : ∀ W, (Op.stringOp .add ⟨n.toArray⟩ u).run Tryz.prog W = .ok (.string (⟨n.toArray⟩ ++ u)) W := fun W => run_string_add_sum W _ _ (by rw [hsz, hts]; omega)
    have hmd : (d : Int) % 256 = d := by omega
    have HL := Lib.hid hL
    clear hL hm
    generalize (⟨n.toArray⟩ : ByteArray) = t at *
    rw [← hsz] at hb
    go_enter Tryz.func178, Tryz.ntmps178
    go_wp2_with (go_at_call 138; refine (HL.out _).mono ?_; rintro e w1 ⟨rfl, rfl⟩)
    go_ret
    exact ⟨rfl, (Below.refl _ _).alloc (Nat.le_refl _) _⟩
end Go.Proofs.YtafkfamfhagokaaGreatDoor.S
