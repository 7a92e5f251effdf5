/-
  THE WALKS of package ctx (contexts): addresses, scripts.
-/
import Derived.Test.YtafkfamfhagokaaGreatDoorCtxW1
set_option linter.unusedVariables false
set_option linter.unusedSimpArgs false
namespace Go.Proofs.YtafkfamfhagokaaGreatDoor.S
open Go.RowKit

def AdPost (R : Option Int) (w : World) (e : Ending) (w' : World) : Prop := (∀ u, R = some u → e = .returned (.tuple #[.int .i64 u, .bool true])) ∧ (R = none → e = .returned (.tuple #[.int .i64 0, .bool false])) ∧ w = w'
theorem AdPost.yes {u : Int} {w : World} : AdPost (some u) w (.returned (.tuple #[.int .i64 u, .bool true])) w := ⟨(fun o' h => by cases h; rfl), (fun h => by cases h), rfl⟩
theorem AdPost.no {w : World} : AdPost none w (.returned (.tuple #[.int .i64 0, .bool false])) w := ⟨(fun o' h => by cases h), (fun _ => rfl), rfl⟩
set_option maxRecDepth 100000 in
set_option maxHeartbeats 2000000 in
theorem cxAddress_calls (u : Int) (c : Nat) (w : World) (hc : c < 256) : Calls Tryz.prog 67 #[.int .i64 u, .int .u8 c] w (AdPost (addressX u c) w) := by
  obtain ⟨R, hR⟩ : ∃ R, R = addressX u c := ⟨_, rfl⟩
  rw [← hR]
  rcases (show u = 3 ∨ u = 4 ∨ u = 2 ∨ u = 0 ∨ (u ≠ 3 ∧ u ≠ 4 ∧ u ≠ 2 ∧ u ≠ 0) by omega) with hu | hu | hu | hu | hu
  · have u3 : (u == 3) = true := beq_iff_eq.2 (by omega)
    have u4 : (u == 4) = false := beq_eq_false_iff_ne.2 (by omega)
    have u2 : (u == 2) = false := beq_eq_false_iff_ne.2 (by omega)
    have u0 : (u == 0) = false := beq_eq_false_iff_ne.2 (by omega)
    have v3 : (u != 3) = false := by rw [bne, u3]; rfl
    have v4 : (u != 4) = true := by rw [bne, u4]; rfl
    clear hu
    rcases (show c = 38 ∨ c = 58 ∨ c = 63 ∨ c = 35 ∨ c = 47 ∨ (c ≤ 32) ∨ (32 < c ∧ c ≠ 38 ∧ c ≠ 58 ∧ c ≠ 63 ∧ c ≠ 35 ∧ c ≠ 47) by omega) with hq | hq | hq | hq | hq | hq | hq
    · have n38 : (c == 38) = true := beq_iff_eq.2 (by omega)
      have n58 : (c == 58) = false := beq_eq_false_iff_ne.2 (by omega)
      have n47 : (c == 47) = false := beq_eq_false_iff_ne.2 (by omega)
      have nq : (c = 63 ∨ c = 35) = False := by simp; omega
      have n32 : decide (32 < c) = true := decide_eq_true (by omega)
      obtain rfl : R = some u := by rw [hR]; unfold addressX; simp only [u3, u4, u2, u0, v3, v4, n38, n58, n47, nq, n32, Bool.true_and, Bool.and_true, Bool.false_and, Bool.and_false, Bool.or_true, Bool.true_or, Bool.or_false, Bool.false_or, if_true, if_false, Bool.false_eq_true]
      clear hR n38 n58 n47 nq n32
      have m38 : ((c : Int) == 38) = true := beq_iff_eq.2 (by omega)
      have m58 : ((c : Int) == 58) = false := beq_eq_false_iff_ne.2 (by omega)
      have m63 : ((c : Int) == 63) = false := beq_eq_false_iff_ne.2 (by omega)
      have m35 : ((c : Int) == 35) = false := beq_eq_false_iff_ne.2 (by omega)
      have m47 : ((c : Int) == 47) = false := beq_eq_false_iff_ne.2 (by omega)
      have m32 : decide ((32 : Int) < (c : Int)) = true := decide_eq_true (by omega)
      clear hq
      go_enter Tryz.func67, Tryz.ntmps67
      go_wp2
      go_ret2
      exact AdPost.yes
    · have n38 : (c == 38) = false := beq_eq_false_iff_ne.2 (by omega)
      have n58 : (c == 58) = true := beq_iff_eq.2 (by omega)
      have n47 : (c == 47) = false := beq_eq_false_iff_ne.2 (by omega)
      have nq : (c = 63 ∨ c = 35) = False := by simp; omega
      have n32 : decide (32 < c) = true := decide_eq_true (by omega)
      obtain rfl : R = some u := by rw [hR]; unfold addressX; simp only [u3, u4, u2, u0, v3, v4, n38, n58, n47, nq, n32, Bool.true_and, Bool.and_true, Bool.false_and, Bool.and_false, Bool.or_true, Bool.true_or, Bool.or_false, Bool.false_or, if_true, if_false, Bool.false_eq_true]
      clear hR n38 n58 n47 nq n32
      have m38 : ((c : Int) == 38) = false := beq_eq_false_iff_ne.2 (by omega)
      have m58 : ((c : Int) == 58) = true := beq_iff_eq.2 (by omega)
      have m63 : ((c : Int) == 63) = false := beq_eq_false_iff_ne.2 (by omega)
      have m35 : ((c : Int) == 35) = false := beq_eq_false_iff_ne.2 (by omega)
      have m47 : ((c : Int) == 47) = false := beq_eq_false_iff_ne.2 (by omega)
      have m32 : decide ((32 : Int) < (c : Int)) = true := decide_eq_true (by omega)
      clear hq
      go_enter Tryz.func67, Tryz.ntmps67
      go_wp2
      go_ret2
      exact AdPost.yes
    · have n38 : (c == 38) = false := beq_eq_false_iff_ne.2 (by omega)
      have n58 : (c == 58) = false := beq_eq_false_iff_ne.2 (by omega)
      have n47 : (c == 47) = false := beq_eq_false_iff_ne.2 (by omega)
      have nq : (c = 63 ∨ c = 35) = True := by simp; omega
      have n32 : decide (32 < c) = true := decide_eq_true (by omega)
      obtain rfl : R = some 4 := by rw [hR]; unfold addressX; simp only [u3, u4, u2, u0, v3, v4, n38, n58, n47, nq, n32, Bool.true_and, Bool.and_true, Bool.false_and, Bool.and_false, Bool.or_true, Bool.true_or, Bool.or_false, Bool.false_or, if_true, if_false, Bool.false_eq_true]
      clear hR n38 n58 n47 nq n32
      have m38 : ((c : Int) == 38) = false := beq_eq_false_iff_ne.2 (by omega)
      have m58 : ((c : Int) == 58) = false := beq_eq_false_iff_ne.2 (by omega)
      have m63 : ((c : Int) == 63) = true := beq_iff_eq.2 (by omega)
      have m35 : ((c : Int) == 35) = false := beq_eq_false_iff_ne.2 (by omega)
      have m47 : ((c : Int) == 47) = false := beq_eq_false_iff_ne.2 (by omega)
      have m32 : decide ((32 : Int) < (c : Int)) = true := decide_eq_true (by omega)
      clear hq
      go_enter Tryz.func67, Tryz.ntmps67
      go_wp2
      go_ret2
      exact AdPost.yes
    · have n38 : (c == 38) = false := beq_eq_false_iff_ne.2 (by omega)
      have n58 : (c == 58) = false := beq_eq_false_iff_ne.2 (by omega)
      have n47 : (c == 47) = false := beq_eq_false_iff_ne.2 (by omega)
      have nq : (c = 63 ∨ c = 35) = True := by simp; omega
      have n32 : decide (32 < c) = true := decide_eq_true (by omega)
      obtain rfl : R = some 4 := by rw [hR]; unfold addressX; simp only [u3, u4, u2, u0, v3, v4, n38, n58, n47, nq, n32, Bool.true_and, Bool.and_true, Bool.false_and, Bool.and_false, Bool.or_true, Bool.true_or, Bool.or_false, Bool.false_or, if_true, if_false, Bool.false_eq_true]
      clear hR n38 n58 n47 nq n32
      have m38 : ((c : Int) == 38) = false := beq_eq_false_iff_ne.2 (by omega)
      have m58 : ((c : Int) == 58) = false := beq_eq_false_iff_ne.2 (by omega)
      have m63 : ((c : Int) == 63) = false := beq_eq_false_iff_ne.2 (by omega)
      have m35 : ((c : Int) == 35) = true := beq_iff_eq.2 (by omega)
      have m47 : ((c : Int) == 47) = false := beq_eq_false_iff_ne.2 (by omega)
      have m32 : decide ((32 : Int) < (c : Int)) = true := decide_eq_true (by omega)
      clear hq
      go_enter Tryz.func67, Tryz.ntmps67
      go_wp2
      go_ret2
      exact AdPost.yes
    · have n38 : (c == 38) = false := beq_eq_false_iff_ne.2 (by omega)
      have n58 : (c == 58) = false := beq_eq_false_iff_ne.2 (by omega)
      have n47 : (c == 47) = true := beq_iff_eq.2 (by omega)
      have nq : (c = 63 ∨ c = 35) = False := by simp; omega
      have n32 : decide (32 < c) = true := decide_eq_true (by omega)
      obtain rfl : R = some u := by rw [hR]; unfold addressX; simp only [u3, u4, u2, u0, v3, v4, n38, n58, n47, nq, n32, Bool.true_and, Bool.and_true, Bool.false_and, Bool.and_false, Bool.or_true, Bool.true_or, Bool.or_false, Bool.false_or, if_true, if_false, Bool.false_eq_true]
      clear hR n38 n58 n47 nq n32
      have m38 : ((c : Int) == 38) = false := beq_eq_false_iff_ne.2 (by omega)
      have m58 : ((c : Int) == 58) = false := beq_eq_false_iff_ne.2 (by omega)
      have m63 : ((c : Int) == 63) = false := beq_eq_false_iff_ne.2 (by omega)
      have m35 : ((c : Int) == 35) = false := beq_eq_false_iff_ne.2 (by omega)
      have m47 : ((c : Int) == 47) = true := beq_iff_eq.2 (by omega)
      have m32 : decide ((32 : Int) < (c : Int)) = true := decide_eq_true (by omega)
      clear hq
      go_enter Tryz.func67, Tryz.ntmps67
      go_wp2
      go_ret2
      exact AdPost.yes
    · have n38 : (c == 38) = false := beq_eq_false_iff_ne.2 (by omega)
      have n58 : (c == 58) = false := beq_eq_false_iff_ne.2 (by omega)
      have n47 : (c == 47) = false := beq_eq_false_iff_ne.2 (by omega)
      have nq : (c = 63 ∨ c = 35) = False := by simp; omega
      have n32 : decide (32 < c) = false := decide_eq_false (by omega)
      obtain rfl : R = some u := by rw [hR]; unfold addressX; simp only [u3, u4, u2, u0, v3, v4, n38, n58, n47, nq, n32, Bool.true_and, Bool.and_true, Bool.false_and, Bool.and_false, Bool.or_true, Bool.true_or, Bool.or_false, Bool.false_or, if_true, if_false, Bool.false_eq_true]
      clear hR n38 n58 n47 nq n32
      have m38 : ((c : Int) == 38) = false := beq_eq_false_iff_ne.2 (by omega)
      have m58 : ((c : Int) == 58) = false := beq_eq_false_iff_ne.2 (by omega)
      have m63 : ((c : Int) == 63) = false := beq_eq_false_iff_ne.2 (by omega)
      have m35 : ((c : Int) == 35) = false := beq_eq_false_iff_ne.2 (by omega)
      have m47 : ((c : Int) == 47) = false := beq_eq_false_iff_ne.2 (by omega)
      have m32 : decide ((32 : Int) < (c : Int)) = false := decide_eq_false (by omega)
      clear hq
      go_enter Tryz.func67, Tryz.ntmps67
      go_wp2
      go_ret2
      exact AdPost.yes
    · have n38 : (c == 38) = false := beq_eq_false_iff_ne.2 (by omega)
      have n58 : (c == 58) = false := beq_eq_false_iff_ne.2 (by omega)
      have n47 : (c == 47) = false := beq_eq_false_iff_ne.2 (by omega)
      have nq : (c = 63 ∨ c = 35) = False := by simp; omega
      have n32 : decide (32 < c) = true := decide_eq_true (by omega)
      obtain rfl : R = some u := by rw [hR]; unfold addressX; simp only [u3, u4, u2, u0, v3, v4, n38, n58, n47, nq, n32, Bool.true_and, Bool.and_true, Bool.false_and, Bool.and_false, Bool.or_true, Bool.true_or, Bool.or_false, Bool.false_or, if_true, if_false, Bool.false_eq_true]
      clear hR n38 n58 n47 nq n32
      have m38 : ((c : Int) == 38) = false := beq_eq_false_iff_ne.2 (by omega)
      have m58 : ((c : Int) == 58) = false := beq_eq_false_iff_ne.2 (by omega)
      have m63 : ((c : Int) == 63) = false := beq_eq_false_iff_ne.2 (by omega)
      have m35 : ((c : Int) == 35) = false := beq_eq_false_iff_ne.2 (by omega)
      have m47 : ((c : Int) == 47) = false := beq_eq_false_iff_ne.2 (by omega)
      have m32 : decide ((32 : Int) < (c : Int)) = true := decide_eq_true (by omega)
      clear hq
      go_enter Tryz.func67, Tryz.ntmps67
      go_wp2
      go_ret2
      exact AdPost.yes
  · have u3 : (u == 3) = false := beq_eq_false_iff_ne.2 (by omega)
    have u4 : (u == 4) = true := beq_iff_eq.2 (by omega)
    have u2 : (u == 2) = false := beq_eq_false_iff_ne.2 (by omega)
    have u0 : (u == 0) = false := beq_eq_false_iff_ne.2 (by omega)
    have v3 : (u != 3) = true := by rw [bne, u3]; rfl
    have v4 : (u != 4) = false := by rw [bne, u4]; rfl
    clear hu
    rcases (show c = 38 ∨ c = 58 ∨ c = 63 ∨ c = 35 ∨ c = 47 ∨ (c ≤ 32) ∨ (32 < c ∧ c ≠ 38 ∧ c ≠ 58 ∧ c ≠ 63 ∧ c ≠ 35 ∧ c ≠ 47) by omega) with hq | hq | hq | hq | hq | hq | hq
    · have n38 : (c == 38) = true := beq_iff_eq.2 (by omega)
      have n58 : (c == 58) = false := beq_eq_false_iff_ne.2 (by omega)
      have n47 : (c == 47) = false := beq_eq_false_iff_ne.2 (by omega)
      have nq : (c = 63 ∨ c = 35) = False := by simp; omega
      have n32 : decide (32 < c) = true := decide_eq_true (by omega)
      obtain rfl : R = some u := by rw [hR]; unfold addressX; simp only [u3, u4, u2, u0, v3, v4, n38, n58, n47, nq, n32, Bool.true_and, Bool.and_true, Bool.false_and, Bool.and_false, Bool.or_true, Bool.true_or, Bool.or_false, Bool.false_or, if_true, if_false, Bool.false_eq_true]
      clear hR n38 n58 n47 nq n32
      have m38 : ((c : Int) == 38) = true := beq_iff_eq.2 (by omega)
      have m58 : ((c : Int) == 58) = false := beq_eq_false_iff_ne.2 (by omega)
      have m63 : ((c : Int) == 63) = false := beq_eq_false_iff_ne.2 (by omega)
      have m35 : ((c : Int) == 35) = false := beq_eq_false_iff_ne.2 (by omega)
      have m47 : ((c : Int) == 47) = false := beq_eq_false_iff_ne.2 (by omega)
      have m32 : decide ((32 : Int) < (c : Int)) = true := decide_eq_true (by omega)
      clear hq
      go_enter Tryz.func67, Tryz.ntmps67
      go_wp2
      go_ret2
      exact AdPost.yes
    · have n38 : (c == 38) = false := beq_eq_false_iff_ne.2 (by omega)
      have n58 : (c == 58) = true := beq_iff_eq.2 (by omega)
      have n47 : (c == 47) = false := beq_eq_false_iff_ne.2 (by omega)
      have nq : (c = 63 ∨ c = 35) = False := by simp; omega
      have n32 : decide (32 < c) = true := decide_eq_true (by omega)
      obtain rfl : R = some u := by rw [hR]; unfold addressX; simp only [u3, u4, u2, u0, v3, v4, n38, n58, n47, nq, n32, Bool.true_and, Bool.and_true, Bool.false_and, Bool.and_false, Bool.or_true, Bool.true_or, Bool.or_false, Bool.false_or, if_true, if_false, Bool.false_eq_true]
      clear hR n38 n58 n47 nq n32
      have m38 : ((c : Int) == 38) = false := beq_eq_false_iff_ne.2 (by omega)
      have m58 : ((c : Int) == 58) = true := beq_iff_eq.2 (by omega)
      have m63 : ((c : Int) == 63) = false := beq_eq_false_iff_ne.2 (by omega)
      have m35 : ((c : Int) == 35) = false := beq_eq_false_iff_ne.2 (by omega)
      have m47 : ((c : Int) == 47) = false := beq_eq_false_iff_ne.2 (by omega)
      have m32 : decide ((32 : Int) < (c : Int)) = true := decide_eq_true (by omega)
      clear hq
      go_enter Tryz.func67, Tryz.ntmps67
      go_wp2
      go_ret2
      exact AdPost.yes
    · have n38 : (c == 38) = false := beq_eq_false_iff_ne.2 (by omega)
      have n58 : (c == 58) = false := beq_eq_false_iff_ne.2 (by omega)
      have n47 : (c == 47) = false := beq_eq_false_iff_ne.2 (by omega)
      have nq : (c = 63 ∨ c = 35) = True := by simp; omega
      have n32 : decide (32 < c) = true := decide_eq_true (by omega)
      obtain rfl : R = some 4 := by rw [hR]; unfold addressX; simp only [u3, u4, u2, u0, v3, v4, n38, n58, n47, nq, n32, Bool.true_and, Bool.and_true, Bool.false_and, Bool.and_false, Bool.or_true, Bool.true_or, Bool.or_false, Bool.false_or, if_true, if_false, Bool.false_eq_true]
      clear hR n38 n58 n47 nq n32
      have m38 : ((c : Int) == 38) = false := beq_eq_false_iff_ne.2 (by omega)
      have m58 : ((c : Int) == 58) = false := beq_eq_false_iff_ne.2 (by omega)
      have m63 : ((c : Int) == 63) = true := beq_iff_eq.2 (by omega)
      have m35 : ((c : Int) == 35) = false := beq_eq_false_iff_ne.2 (by omega)
      have m47 : ((c : Int) == 47) = false := beq_eq_false_iff_ne.2 (by omega)
      have m32 : decide ((32 : Int) < (c : Int)) = true := decide_eq_true (by omega)
      clear hq
      go_enter Tryz.func67, Tryz.ntmps67
      go_wp2
      go_ret2
      exact AdPost.yes
    · have n38 : (c == 38) = false := beq_eq_false_iff_ne.2 (by omega)
      have n58 : (c == 58) = false := beq_eq_false_iff_ne.2 (by omega)
      have n47 : (c == 47) = false := beq_eq_false_iff_ne.2 (by omega)
      have nq : (c = 63 ∨ c = 35) = True := by simp; omega
      have n32 : decide (32 < c) = true := decide_eq_true (by omega)
      obtain rfl : R = some 4 := by rw [hR]; unfold addressX; simp only [u3, u4, u2, u0, v3, v4, n38, n58, n47, nq, n32, Bool.true_and, Bool.and_true, Bool.false_and, Bool.and_false, Bool.or_true, Bool.true_or, Bool.or_false, Bool.false_or, if_true, if_false, Bool.false_eq_true]
      clear hR n38 n58 n47 nq n32
      have m38 : ((c : Int) == 38) = false := beq_eq_false_iff_ne.2 (by omega)
      have m58 : ((c : Int) == 58) = false := beq_eq_false_iff_ne.2 (by omega)
      have m63 : ((c : Int) == 63) = false := beq_eq_false_iff_ne.2 (by omega)
      have m35 : ((c : Int) == 35) = true := beq_iff_eq.2 (by omega)
      have m47 : ((c : Int) == 47) = false := beq_eq_false_iff_ne.2 (by omega)
      have m32 : decide ((32 : Int) < (c : Int)) = true := decide_eq_true (by omega)
      clear hq
      go_enter Tryz.func67, Tryz.ntmps67
      go_wp2
      go_ret2
      exact AdPost.yes
    · have n38 : (c == 38) = false := beq_eq_false_iff_ne.2 (by omega)
      have n58 : (c == 58) = false := beq_eq_false_iff_ne.2 (by omega)
      have n47 : (c == 47) = true := beq_iff_eq.2 (by omega)
      have nq : (c = 63 ∨ c = 35) = False := by simp; omega
      have n32 : decide (32 < c) = true := decide_eq_true (by omega)
      obtain rfl : R = some u := by rw [hR]; unfold addressX; simp only [u3, u4, u2, u0, v3, v4, n38, n58, n47, nq, n32, Bool.true_and, Bool.and_true, Bool.false_and, Bool.and_false, Bool.or_true, Bool.true_or, Bool.or_false, Bool.false_or, if_true, if_false, Bool.false_eq_true]
      clear hR n38 n58 n47 nq n32
      have m38 : ((c : Int) == 38) = false := beq_eq_false_iff_ne.2 (by omega)
      have m58 : ((c : Int) == 58) = false := beq_eq_false_iff_ne.2 (by omega)
      have m63 : ((c : Int) == 63) = false := beq_eq_false_iff_ne.2 (by omega)
      have m35 : ((c : Int) == 35) = false := beq_eq_false_iff_ne.2 (by omega)
      have m47 : ((c : Int) == 47) = true := beq_iff_eq.2 (by omega)
      have m32 : decide ((32 : Int) < (c : Int)) = true := decide_eq_true (by omega)
      clear hq
      go_enter Tryz.func67, Tryz.ntmps67
      go_wp2
      go_ret2
      exact AdPost.yes
    · have n38 : (c == 38) = false := beq_eq_false_iff_ne.2 (by omega)
      have n58 : (c == 58) = false := beq_eq_false_iff_ne.2 (by omega)
      have n47 : (c == 47) = false := beq_eq_false_iff_ne.2 (by omega)
      have nq : (c = 63 ∨ c = 35) = False := by simp; omega
      have n32 : decide (32 < c) = false := decide_eq_false (by omega)
      obtain rfl : R = some u := by rw [hR]; unfold addressX; simp only [u3, u4, u2, u0, v3, v4, n38, n58, n47, nq, n32, Bool.true_and, Bool.and_true, Bool.false_and, Bool.and_false, Bool.or_true, Bool.true_or, Bool.or_false, Bool.false_or, if_true, if_false, Bool.false_eq_true]
      clear hR n38 n58 n47 nq n32
      have m38 : ((c : Int) == 38) = false := beq_eq_false_iff_ne.2 (by omega)
      have m58 : ((c : Int) == 58) = false := beq_eq_false_iff_ne.2 (by omega)
      have m63 : ((c : Int) == 63) = false := beq_eq_false_iff_ne.2 (by omega)
      have m35 : ((c : Int) == 35) = false := beq_eq_false_iff_ne.2 (by omega)
      have m47 : ((c : Int) == 47) = false := beq_eq_false_iff_ne.2 (by omega)
      have m32 : decide ((32 : Int) < (c : Int)) = false := decide_eq_false (by omega)
      clear hq
      go_enter Tryz.func67, Tryz.ntmps67
      go_wp2
      go_ret2
      exact AdPost.yes
    · have n38 : (c == 38) = false := beq_eq_false_iff_ne.2 (by omega)
      have n58 : (c == 58) = false := beq_eq_false_iff_ne.2 (by omega)
      have n47 : (c == 47) = false := beq_eq_false_iff_ne.2 (by omega)
      have nq : (c = 63 ∨ c = 35) = False := by simp; omega
      have n32 : decide (32 < c) = true := decide_eq_true (by omega)
      obtain rfl : R = some u := by rw [hR]; unfold addressX; simp only [u3, u4, u2, u0, v3, v4, n38, n58, n47, nq, n32, Bool.true_and, Bool.and_true, Bool.false_and, Bool.and_false, Bool.or_true, Bool.true_or, Bool.or_false, Bool.false_or, if_true, if_false, Bool.false_eq_true]
      clear hR n38 n58 n47 nq n32
      have m38 : ((c : Int) == 38) = false := beq_eq_false_iff_ne.2 (by omega)
      have m58 : ((c : Int) == 58) = false := beq_eq_false_iff_ne.2 (by omega)
      have m63 : ((c : Int) == 63) = false := beq_eq_false_iff_ne.2 (by omega)
      have m35 : ((c : Int) == 35) = false := beq_eq_false_iff_ne.2 (by omega)
      have m47 : ((c : Int) == 47) = false := beq_eq_false_iff_ne.2 (by omega)
      have m32 : decide ((32 : Int) < (c : Int)) = true := decide_eq_true (by omega)
      clear hq
      go_enter Tryz.func67, Tryz.ntmps67
      go_wp2
      go_ret2
      exact AdPost.yes
  · have u3 : (u == 3) = false := beq_eq_false_iff_ne.2 (by omega)
    have u4 : (u == 4) = false := beq_eq_false_iff_ne.2 (by omega)
    have u2 : (u == 2) = true := beq_iff_eq.2 (by omega)
    have u0 : (u == 0) = false := beq_eq_false_iff_ne.2 (by omega)
    have v3 : (u != 3) = true := by rw [bne, u3]; rfl
    have v4 : (u != 4) = true := by rw [bne, u4]; rfl
    clear hu
    rcases (show c = 38 ∨ c = 58 ∨ c = 63 ∨ c = 35 ∨ c = 47 ∨ (c ≤ 32) ∨ (32 < c ∧ c ≠ 38 ∧ c ≠ 58 ∧ c ≠ 63 ∧ c ≠ 35 ∧ c ≠ 47) by omega) with hq | hq | hq | hq | hq | hq | hq
    · have n38 : (c == 38) = true := beq_iff_eq.2 (by omega)
      have n58 : (c == 58) = false := beq_eq_false_iff_ne.2 (by omega)
      have n47 : (c == 47) = false := beq_eq_false_iff_ne.2 (by omega)
      have nq : (c = 63 ∨ c = 35) = False := by simp; omega
      have n32 : decide (32 < c) = true := decide_eq_true (by omega)
      obtain rfl : R = none := by rw [hR]; unfold addressX; simp only [u3, u4, u2, u0, v3, v4, n38, n58, n47, nq, n32, Bool.true_and, Bool.and_true, Bool.false_and, Bool.and_false, Bool.or_true, Bool.true_or, Bool.or_false, Bool.false_or, if_true, if_false, Bool.false_eq_true]
      clear hR n38 n58 n47 nq n32
      have m38 : ((c : Int) == 38) = true := beq_iff_eq.2 (by omega)
      have m58 : ((c : Int) == 58) = false := beq_eq_false_iff_ne.2 (by omega)
      have m63 : ((c : Int) == 63) = false := beq_eq_false_iff_ne.2 (by omega)
      have m35 : ((c : Int) == 35) = false := beq_eq_false_iff_ne.2 (by omega)
      have m47 : ((c : Int) == 47) = false := beq_eq_false_iff_ne.2 (by omega)
      have m32 : decide ((32 : Int) < (c : Int)) = true := decide_eq_true (by omega)
      clear hq
      go_enter Tryz.func67, Tryz.ntmps67
      go_wp2
      go_ret2
      exact AdPost.no
    · have n38 : (c == 38) = false := beq_eq_false_iff_ne.2 (by omega)
      have n58 : (c == 58) = true := beq_iff_eq.2 (by omega)
      have n47 : (c == 47) = false := beq_eq_false_iff_ne.2 (by omega)
      have nq : (c = 63 ∨ c = 35) = False := by simp; omega
      have n32 : decide (32 < c) = true := decide_eq_true (by omega)
      obtain rfl : R = none := by rw [hR]; unfold addressX; simp only [u3, u4, u2, u0, v3, v4, n38, n58, n47, nq, n32, Bool.true_and, Bool.and_true, Bool.false_and, Bool.and_false, Bool.or_true, Bool.true_or, Bool.or_false, Bool.false_or, if_true, if_false, Bool.false_eq_true]
      clear hR n38 n58 n47 nq n32
      have m38 : ((c : Int) == 38) = false := beq_eq_false_iff_ne.2 (by omega)
      have m58 : ((c : Int) == 58) = true := beq_iff_eq.2 (by omega)
      have m63 : ((c : Int) == 63) = false := beq_eq_false_iff_ne.2 (by omega)
      have m35 : ((c : Int) == 35) = false := beq_eq_false_iff_ne.2 (by omega)
      have m47 : ((c : Int) == 47) = false := beq_eq_false_iff_ne.2 (by omega)
      have m32 : decide ((32 : Int) < (c : Int)) = true := decide_eq_true (by omega)
      clear hq
      go_enter Tryz.func67, Tryz.ntmps67
      go_wp2
      go_ret2
      exact AdPost.no
    · have n38 : (c == 38) = false := beq_eq_false_iff_ne.2 (by omega)
      have n58 : (c == 58) = false := beq_eq_false_iff_ne.2 (by omega)
      have n47 : (c == 47) = false := beq_eq_false_iff_ne.2 (by omega)
      have nq : (c = 63 ∨ c = 35) = True := by simp; omega
      have n32 : decide (32 < c) = true := decide_eq_true (by omega)
      obtain rfl : R = some 4 := by rw [hR]; unfold addressX; simp only [u3, u4, u2, u0, v3, v4, n38, n58, n47, nq, n32, Bool.true_and, Bool.and_true, Bool.false_and, Bool.and_false, Bool.or_true, Bool.true_or, Bool.or_false, Bool.false_or, if_true, if_false, Bool.false_eq_true]
      clear hR n38 n58 n47 nq n32
      have m38 : ((c : Int) == 38) = false := beq_eq_false_iff_ne.2 (by omega)
      have m58 : ((c : Int) == 58) = false := beq_eq_false_iff_ne.2 (by omega)
      have m63 : ((c : Int) == 63) = true := beq_iff_eq.2 (by omega)
      have m35 : ((c : Int) == 35) = false := beq_eq_false_iff_ne.2 (by omega)
      have m47 : ((c : Int) == 47) = false := beq_eq_false_iff_ne.2 (by omega)
      have m32 : decide ((32 : Int) < (c : Int)) = true := decide_eq_true (by omega)
      clear hq
      go_enter Tryz.func67, Tryz.ntmps67
      go_wp2
      go_ret2
      exact AdPost.yes
    · have n38 : (c == 38) = false := beq_eq_false_iff_ne.2 (by omega)
      have n58 : (c == 58) = false := beq_eq_false_iff_ne.2 (by omega)
      have n47 : (c == 47) = false := beq_eq_false_iff_ne.2 (by omega)
      have nq : (c = 63 ∨ c = 35) = True := by simp; omega
      have n32 : decide (32 < c) = true := decide_eq_true (by omega)
      obtain rfl : R = some 4 := by rw [hR]; unfold addressX; simp only [u3, u4, u2, u0, v3, v4, n38, n58, n47, nq, n32, Bool.true_and, Bool.and_true, Bool.false_and, Bool.and_false, Bool.or_true, Bool.true_or, Bool.or_false, Bool.false_or, if_true, if_false, Bool.false_eq_true]
      clear hR n38 n58 n47 nq n32
      have m38 : ((c : Int) == 38) = false := beq_eq_false_iff_ne.2 (by omega)
      have m58 : ((c : Int) == 58) = false := beq_eq_false_iff_ne.2 (by omega)
      have m63 : ((c : Int) == 63) = false := beq_eq_false_iff_ne.2 (by omega)
      have m35 : ((c : Int) == 35) = true := beq_iff_eq.2 (by omega)
      have m47 : ((c : Int) == 47) = false := beq_eq_false_iff_ne.2 (by omega)
      have m32 : decide ((32 : Int) < (c : Int)) = true := decide_eq_true (by omega)
      clear hq
      go_enter Tryz.func67, Tryz.ntmps67
      go_wp2
      go_ret2
      exact AdPost.yes
    · have n38 : (c == 38) = false := beq_eq_false_iff_ne.2 (by omega)
      have n58 : (c == 58) = false := beq_eq_false_iff_ne.2 (by omega)
      have n47 : (c == 47) = true := beq_iff_eq.2 (by omega)
      have nq : (c = 63 ∨ c = 35) = False := by simp; omega
      have n32 : decide (32 < c) = true := decide_eq_true (by omega)
      obtain rfl : R = some 3 := by rw [hR]; unfold addressX; simp only [u3, u4, u2, u0, v3, v4, n38, n58, n47, nq, n32, Bool.true_and, Bool.and_true, Bool.false_and, Bool.and_false, Bool.or_true, Bool.true_or, Bool.or_false, Bool.false_or, if_true, if_false, Bool.false_eq_true]
      clear hR n38 n58 n47 nq n32
      have m38 : ((c : Int) == 38) = false := beq_eq_false_iff_ne.2 (by omega)
      have m58 : ((c : Int) == 58) = false := beq_eq_false_iff_ne.2 (by omega)
      have m63 : ((c : Int) == 63) = false := beq_eq_false_iff_ne.2 (by omega)
      have m35 : ((c : Int) == 35) = false := beq_eq_false_iff_ne.2 (by omega)
      have m47 : ((c : Int) == 47) = true := beq_iff_eq.2 (by omega)
      have m32 : decide ((32 : Int) < (c : Int)) = true := decide_eq_true (by omega)
      clear hq
      go_enter Tryz.func67, Tryz.ntmps67
      go_wp2
      go_ret2
      exact AdPost.yes
    · have n38 : (c == 38) = false := beq_eq_false_iff_ne.2 (by omega)
      have n58 : (c == 58) = false := beq_eq_false_iff_ne.2 (by omega)
      have n47 : (c == 47) = false := beq_eq_false_iff_ne.2 (by omega)
      have nq : (c = 63 ∨ c = 35) = False := by simp; omega
      have n32 : decide (32 < c) = false := decide_eq_false (by omega)
      obtain rfl : R = some u := by rw [hR]; unfold addressX; simp only [u3, u4, u2, u0, v3, v4, n38, n58, n47, nq, n32, Bool.true_and, Bool.and_true, Bool.false_and, Bool.and_false, Bool.or_true, Bool.true_or, Bool.or_false, Bool.false_or, if_true, if_false, Bool.false_eq_true]
      clear hR n38 n58 n47 nq n32
      have m38 : ((c : Int) == 38) = false := beq_eq_false_iff_ne.2 (by omega)
      have m58 : ((c : Int) == 58) = false := beq_eq_false_iff_ne.2 (by omega)
      have m63 : ((c : Int) == 63) = false := beq_eq_false_iff_ne.2 (by omega)
      have m35 : ((c : Int) == 35) = false := beq_eq_false_iff_ne.2 (by omega)
      have m47 : ((c : Int) == 47) = false := beq_eq_false_iff_ne.2 (by omega)
      have m32 : decide ((32 : Int) < (c : Int)) = false := decide_eq_false (by omega)
      clear hq
      go_enter Tryz.func67, Tryz.ntmps67
      go_wp2
      go_ret2
      exact AdPost.yes
    · have n38 : (c == 38) = false := beq_eq_false_iff_ne.2 (by omega)
      have n58 : (c == 58) = false := beq_eq_false_iff_ne.2 (by omega)
      have n47 : (c == 47) = false := beq_eq_false_iff_ne.2 (by omega)
      have nq : (c = 63 ∨ c = 35) = False := by simp; omega
      have n32 : decide (32 < c) = true := decide_eq_true (by omega)
      obtain rfl : R = some u := by rw [hR]; unfold addressX; simp only [u3, u4, u2, u0, v3, v4, n38, n58, n47, nq, n32, Bool.true_and, Bool.and_true, Bool.false_and, Bool.and_false, Bool.or_true, Bool.true_or, Bool.or_false, Bool.false_or, if_true, if_false, Bool.false_eq_true]
      clear hR n38 n58 n47 nq n32
      have m38 : ((c : Int) == 38) = false := beq_eq_false_iff_ne.2 (by omega)
      have m58 : ((c : Int) == 58) = false := beq_eq_false_iff_ne.2 (by omega)
      have m63 : ((c : Int) == 63) = false := beq_eq_false_iff_ne.2 (by omega)
      have m35 : ((c : Int) == 35) = false := beq_eq_false_iff_ne.2 (by omega)
      have m47 : ((c : Int) == 47) = false := beq_eq_false_iff_ne.2 (by omega)
      have m32 : decide ((32 : Int) < (c : Int)) = true := decide_eq_true (by omega)
      clear hq
      go_enter Tryz.func67, Tryz.ntmps67
      go_wp2
      go_ret2
      exact AdPost.yes
  · have u3 : (u == 3) = false := beq_eq_false_iff_ne.2 (by omega)
    have u4 : (u == 4) = false := beq_eq_false_iff_ne.2 (by omega)
    have u2 : (u == 2) = false := beq_eq_false_iff_ne.2 (by omega)
    have u0 : (u == 0) = true := beq_iff_eq.2 (by omega)
    have v3 : (u != 3) = true := by rw [bne, u3]; rfl
    have v4 : (u != 4) = true := by rw [bne, u4]; rfl
    clear hu
    rcases (show c = 38 ∨ c = 58 ∨ c = 63 ∨ c = 35 ∨ c = 47 ∨ (c ≤ 32) ∨ (32 < c ∧ c ≠ 38 ∧ c ≠ 58 ∧ c ≠ 63 ∧ c ≠ 35 ∧ c ≠ 47) by omega) with hq | hq | hq | hq | hq | hq | hq
    · have n38 : (c == 38) = true := beq_iff_eq.2 (by omega)
      have n58 : (c == 58) = false := beq_eq_false_iff_ne.2 (by omega)
      have n47 : (c == 47) = false := beq_eq_false_iff_ne.2 (by omega)
      have nq : (c = 63 ∨ c = 35) = False := by simp; omega
      have n32 : decide (32 < c) = true := decide_eq_true (by omega)
      obtain rfl : R = none := by rw [hR]; unfold addressX; simp only [u3, u4, u2, u0, v3, v4, n38, n58, n47, nq, n32, Bool.true_and, Bool.and_true, Bool.false_and, Bool.and_false, Bool.or_true, Bool.true_or, Bool.or_false, Bool.false_or, if_true, if_false, Bool.false_eq_true]
      clear hR n38 n58 n47 nq n32
      have m38 : ((c : Int) == 38) = true := beq_iff_eq.2 (by omega)
      have m58 : ((c : Int) == 58) = false := beq_eq_false_iff_ne.2 (by omega)
      have m63 : ((c : Int) == 63) = false := beq_eq_false_iff_ne.2 (by omega)
      have m35 : ((c : Int) == 35) = false := beq_eq_false_iff_ne.2 (by omega)
      have m47 : ((c : Int) == 47) = false := beq_eq_false_iff_ne.2 (by omega)
      have m32 : decide ((32 : Int) < (c : Int)) = true := decide_eq_true (by omega)
      clear hq
      go_enter Tryz.func67, Tryz.ntmps67
      go_wp2
      go_ret2
      exact AdPost.no
    · have n38 : (c == 38) = false := beq_eq_false_iff_ne.2 (by omega)
      have n58 : (c == 58) = true := beq_iff_eq.2 (by omega)
      have n47 : (c == 47) = false := beq_eq_false_iff_ne.2 (by omega)
      have nq : (c = 63 ∨ c = 35) = False := by simp; omega
      have n32 : decide (32 < c) = true := decide_eq_true (by omega)
      obtain rfl : R = some 3 := by rw [hR]; unfold addressX; simp only [u3, u4, u2, u0, v3, v4, n38, n58, n47, nq, n32, Bool.true_and, Bool.and_true, Bool.false_and, Bool.and_false, Bool.or_true, Bool.true_or, Bool.or_false, Bool.false_or, if_true, if_false, Bool.false_eq_true]
      clear hR n38 n58 n47 nq n32
      have m38 : ((c : Int) == 38) = false := beq_eq_false_iff_ne.2 (by omega)
      have m58 : ((c : Int) == 58) = true := beq_iff_eq.2 (by omega)
      have m63 : ((c : Int) == 63) = false := beq_eq_false_iff_ne.2 (by omega)
      have m35 : ((c : Int) == 35) = false := beq_eq_false_iff_ne.2 (by omega)
      have m47 : ((c : Int) == 47) = false := beq_eq_false_iff_ne.2 (by omega)
      have m32 : decide ((32 : Int) < (c : Int)) = true := decide_eq_true (by omega)
      clear hq
      go_enter Tryz.func67, Tryz.ntmps67
      go_wp2
      go_ret2
      exact AdPost.yes
    · have n38 : (c == 38) = false := beq_eq_false_iff_ne.2 (by omega)
      have n58 : (c == 58) = false := beq_eq_false_iff_ne.2 (by omega)
      have n47 : (c == 47) = false := beq_eq_false_iff_ne.2 (by omega)
      have nq : (c = 63 ∨ c = 35) = True := by simp; omega
      have n32 : decide (32 < c) = true := decide_eq_true (by omega)
      obtain rfl : R = some 4 := by rw [hR]; unfold addressX; simp only [u3, u4, u2, u0, v3, v4, n38, n58, n47, nq, n32, Bool.true_and, Bool.and_true, Bool.false_and, Bool.and_false, Bool.or_true, Bool.true_or, Bool.or_false, Bool.false_or, if_true, if_false, Bool.false_eq_true]
      clear hR n38 n58 n47 nq n32
      have m38 : ((c : Int) == 38) = false := beq_eq_false_iff_ne.2 (by omega)
      have m58 : ((c : Int) == 58) = false := beq_eq_false_iff_ne.2 (by omega)
      have m63 : ((c : Int) == 63) = true := beq_iff_eq.2 (by omega)
      have m35 : ((c : Int) == 35) = false := beq_eq_false_iff_ne.2 (by omega)
      have m47 : ((c : Int) == 47) = false := beq_eq_false_iff_ne.2 (by omega)
      have m32 : decide ((32 : Int) < (c : Int)) = true := decide_eq_true (by omega)
      clear hq
      go_enter Tryz.func67, Tryz.ntmps67
      go_wp2
      go_ret2
      exact AdPost.yes
    · have n38 : (c == 38) = false := beq_eq_false_iff_ne.2 (by omega)
      have n58 : (c == 58) = false := beq_eq_false_iff_ne.2 (by omega)
      have n47 : (c == 47) = false := beq_eq_false_iff_ne.2 (by omega)
      have nq : (c = 63 ∨ c = 35) = True := by simp; omega
      have n32 : decide (32 < c) = true := decide_eq_true (by omega)
      obtain rfl : R = some 4 := by rw [hR]; unfold addressX; simp only [u3, u4, u2, u0, v3, v4, n38, n58, n47, nq, n32, Bool.true_and, Bool.and_true, Bool.false_and, Bool.and_false, Bool.or_true, Bool.true_or, Bool.or_false, Bool.false_or, if_true, if_false, Bool.false_eq_true]
      clear hR n38 n58 n47 nq n32
      have m38 : ((c : Int) == 38) = false := beq_eq_false_iff_ne.2 (by omega)
      have m58 : ((c : Int) == 58) = false := beq_eq_false_iff_ne.2 (by omega)
      have m63 : ((c : Int) == 63) = false := beq_eq_false_iff_ne.2 (by omega)
      have m35 : ((c : Int) == 35) = true := beq_iff_eq.2 (by omega)
      have m47 : ((c : Int) == 47) = false := beq_eq_false_iff_ne.2 (by omega)
      have m32 : decide ((32 : Int) < (c : Int)) = true := decide_eq_true (by omega)
      clear hq
      go_enter Tryz.func67, Tryz.ntmps67
      go_wp2
      go_ret2
      exact AdPost.yes
    · have n38 : (c == 38) = false := beq_eq_false_iff_ne.2 (by omega)
      have n58 : (c == 58) = false := beq_eq_false_iff_ne.2 (by omega)
      have n47 : (c == 47) = true := beq_iff_eq.2 (by omega)
      have nq : (c = 63 ∨ c = 35) = False := by simp; omega
      have n32 : decide (32 < c) = true := decide_eq_true (by omega)
      obtain rfl : R = some 3 := by rw [hR]; unfold addressX; simp only [u3, u4, u2, u0, v3, v4, n38, n58, n47, nq, n32, Bool.true_and, Bool.and_true, Bool.false_and, Bool.and_false, Bool.or_true, Bool.true_or, Bool.or_false, Bool.false_or, if_true, if_false, Bool.false_eq_true]
      clear hR n38 n58 n47 nq n32
      have m38 : ((c : Int) == 38) = false := beq_eq_false_iff_ne.2 (by omega)
      have m58 : ((c : Int) == 58) = false := beq_eq_false_iff_ne.2 (by omega)
      have m63 : ((c : Int) == 63) = false := beq_eq_false_iff_ne.2 (by omega)
      have m35 : ((c : Int) == 35) = false := beq_eq_false_iff_ne.2 (by omega)
      have m47 : ((c : Int) == 47) = true := beq_iff_eq.2 (by omega)
      have m32 : decide ((32 : Int) < (c : Int)) = true := decide_eq_true (by omega)
      clear hq
      go_enter Tryz.func67, Tryz.ntmps67
      go_wp2
      go_ret2
      exact AdPost.yes
    · have n38 : (c == 38) = false := beq_eq_false_iff_ne.2 (by omega)
      have n58 : (c == 58) = false := beq_eq_false_iff_ne.2 (by omega)
      have n47 : (c == 47) = false := beq_eq_false_iff_ne.2 (by omega)
      have nq : (c = 63 ∨ c = 35) = False := by simp; omega
      have n32 : decide (32 < c) = false := decide_eq_false (by omega)
      obtain rfl : R = some u := by rw [hR]; unfold addressX; simp only [u3, u4, u2, u0, v3, v4, n38, n58, n47, nq, n32, Bool.true_and, Bool.and_true, Bool.false_and, Bool.and_false, Bool.or_true, Bool.true_or, Bool.or_false, Bool.false_or, if_true, if_false, Bool.false_eq_true]
      clear hR n38 n58 n47 nq n32
      have m38 : ((c : Int) == 38) = false := beq_eq_false_iff_ne.2 (by omega)
      have m58 : ((c : Int) == 58) = false := beq_eq_false_iff_ne.2 (by omega)
      have m63 : ((c : Int) == 63) = false := beq_eq_false_iff_ne.2 (by omega)
      have m35 : ((c : Int) == 35) = false := beq_eq_false_iff_ne.2 (by omega)
      have m47 : ((c : Int) == 47) = false := beq_eq_false_iff_ne.2 (by omega)
      have m32 : decide ((32 : Int) < (c : Int)) = false := decide_eq_false (by omega)
      clear hq
      go_enter Tryz.func67, Tryz.ntmps67
      go_wp2
      go_ret2
      exact AdPost.yes
    · have n38 : (c == 38) = false := beq_eq_false_iff_ne.2 (by omega)
      have n58 : (c == 58) = false := beq_eq_false_iff_ne.2 (by omega)
      have n47 : (c == 47) = false := beq_eq_false_iff_ne.2 (by omega)
      have nq : (c = 63 ∨ c = 35) = False := by simp; omega
      have n32 : decide (32 < c) = true := decide_eq_true (by omega)
      obtain rfl : R = some 1 := by rw [hR]; unfold addressX; simp only [u3, u4, u2, u0, v3, v4, n38, n58, n47, nq, n32, Bool.true_and, Bool.and_true, Bool.false_and, Bool.and_false, Bool.or_true, Bool.true_or, Bool.or_false, Bool.false_or, if_true, if_false, Bool.false_eq_true]
      clear hR n38 n58 n47 nq n32
      have m38 : ((c : Int) == 38) = false := beq_eq_false_iff_ne.2 (by omega)
      have m58 : ((c : Int) == 58) = false := beq_eq_false_iff_ne.2 (by omega)
      have m63 : ((c : Int) == 63) = false := beq_eq_false_iff_ne.2 (by omega)
      have m35 : ((c : Int) == 35) = false := beq_eq_false_iff_ne.2 (by omega)
      have m47 : ((c : Int) == 47) = false := beq_eq_false_iff_ne.2 (by omega)
      have m32 : decide ((32 : Int) < (c : Int)) = true := decide_eq_true (by omega)
      clear hq
      go_enter Tryz.func67, Tryz.ntmps67
      go_wp2
      go_ret2
      exact AdPost.yes
  · have u3 : (u == 3) = false := beq_eq_false_iff_ne.2 (by omega)
    have u4 : (u == 4) = false := beq_eq_false_iff_ne.2 (by omega)
    have u2 : (u == 2) = false := beq_eq_false_iff_ne.2 (by omega)
    have u0 : (u == 0) = false := beq_eq_false_iff_ne.2 (by omega)
    have v3 : (u != 3) = true := by rw [bne, u3]; rfl
    have v4 : (u != 4) = true := by rw [bne, u4]; rfl
    clear hu
    rcases (show c = 38 ∨ c = 58 ∨ c = 63 ∨ c = 35 ∨ c = 47 ∨ (c ≤ 32) ∨ (32 < c ∧ c ≠ 38 ∧ c ≠ 58 ∧ c ≠ 63 ∧ c ≠ 35 ∧ c ≠ 47) by omega) with hq | hq | hq | hq | hq | hq | hq
    · have n38 : (c == 38) = true := beq_iff_eq.2 (by omega)
      have n58 : (c == 58) = false := beq_eq_false_iff_ne.2 (by omega)
      have n47 : (c == 47) = false := beq_eq_false_iff_ne.2 (by omega)
      have nq : (c = 63 ∨ c = 35) = False := by simp; omega
      have n32 : decide (32 < c) = true := decide_eq_true (by omega)
      obtain rfl : R = none := by rw [hR]; unfold addressX; simp only [u3, u4, u2, u0, v3, v4, n38, n58, n47, nq, n32, Bool.true_and, Bool.and_true, Bool.false_and, Bool.and_false, Bool.or_true, Bool.true_or, Bool.or_false, Bool.false_or, if_true, if_false, Bool.false_eq_true]
      clear hR n38 n58 n47 nq n32
      have m38 : ((c : Int) == 38) = true := beq_iff_eq.2 (by omega)
      have m58 : ((c : Int) == 58) = false := beq_eq_false_iff_ne.2 (by omega)
      have m63 : ((c : Int) == 63) = false := beq_eq_false_iff_ne.2 (by omega)
      have m35 : ((c : Int) == 35) = false := beq_eq_false_iff_ne.2 (by omega)
      have m47 : ((c : Int) == 47) = false := beq_eq_false_iff_ne.2 (by omega)
      have m32 : decide ((32 : Int) < (c : Int)) = true := decide_eq_true (by omega)
      clear hq
      go_enter Tryz.func67, Tryz.ntmps67
      go_wp2
      go_ret2
      exact AdPost.no
    · have n38 : (c == 38) = false := beq_eq_false_iff_ne.2 (by omega)
      have n58 : (c == 58) = true := beq_iff_eq.2 (by omega)
      have n47 : (c == 47) = false := beq_eq_false_iff_ne.2 (by omega)
      have nq : (c = 63 ∨ c = 35) = False := by simp; omega
      have n32 : decide (32 < c) = true := decide_eq_true (by omega)
      obtain rfl : R = some 3 := by rw [hR]; unfold addressX; simp only [u3, u4, u2, u0, v3, v4, n38, n58, n47, nq, n32, Bool.true_and, Bool.and_true, Bool.false_and, Bool.and_false, Bool.or_true, Bool.true_or, Bool.or_false, Bool.false_or, if_true, if_false, Bool.false_eq_true]
      clear hR n38 n58 n47 nq n32
      have m38 : ((c : Int) == 38) = false := beq_eq_false_iff_ne.2 (by omega)
      have m58 : ((c : Int) == 58) = true := beq_iff_eq.2 (by omega)
      have m63 : ((c : Int) == 63) = false := beq_eq_false_iff_ne.2 (by omega)
      have m35 : ((c : Int) == 35) = false := beq_eq_false_iff_ne.2 (by omega)
      have m47 : ((c : Int) == 47) = false := beq_eq_false_iff_ne.2 (by omega)
      have m32 : decide ((32 : Int) < (c : Int)) = true := decide_eq_true (by omega)
      clear hq
      go_enter Tryz.func67, Tryz.ntmps67
      go_wp2
      go_ret2
      exact AdPost.yes
    · have n38 : (c == 38) = false := beq_eq_false_iff_ne.2 (by omega)
      have n58 : (c == 58) = false := beq_eq_false_iff_ne.2 (by omega)
      have n47 : (c == 47) = false := beq_eq_false_iff_ne.2 (by omega)
      have nq : (c = 63 ∨ c = 35) = True := by simp; omega
      have n32 : decide (32 < c) = true := decide_eq_true (by omega)
      obtain rfl : R = some 4 := by rw [hR]; unfold addressX; simp only [u3, u4, u2, u0, v3, v4, n38, n58, n47, nq, n32, Bool.true_and, Bool.and_true, Bool.false_and, Bool.and_false, Bool.or_true, Bool.true_or, Bool.or_false, Bool.false_or, if_true, if_false, Bool.false_eq_true]
      clear hR n38 n58 n47 nq n32
      have m38 : ((c : Int) == 38) = false := beq_eq_false_iff_ne.2 (by omega)
      have m58 : ((c : Int) == 58) = false := beq_eq_false_iff_ne.2 (by omega)
      have m63 : ((c : Int) == 63) = true := beq_iff_eq.2 (by omega)
      have m35 : ((c : Int) == 35) = false := beq_eq_false_iff_ne.2 (by omega)
      have m47 : ((c : Int) == 47) = false := beq_eq_false_iff_ne.2 (by omega)
      have m32 : decide ((32 : Int) < (c : Int)) = true := decide_eq_true (by omega)
      clear hq
      go_enter Tryz.func67, Tryz.ntmps67
      go_wp2
      go_ret2
      exact AdPost.yes
    · have n38 : (c == 38) = false := beq_eq_false_iff_ne.2 (by omega)
      have n58 : (c == 58) = false := beq_eq_false_iff_ne.2 (by omega)
      have n47 : (c == 47) = false := beq_eq_false_iff_ne.2 (by omega)
      have nq : (c = 63 ∨ c = 35) = True := by simp; omega
      have n32 : decide (32 < c) = true := decide_eq_true (by omega)
      obtain rfl : R = some 4 := by rw [hR]; unfold addressX; simp only [u3, u4, u2, u0, v3, v4, n38, n58, n47, nq, n32, Bool.true_and, Bool.and_true, Bool.false_and, Bool.and_false, Bool.or_true, Bool.true_or, Bool.or_false, Bool.false_or, if_true, if_false, Bool.false_eq_true]
      clear hR n38 n58 n47 nq n32
      have m38 : ((c : Int) == 38) = false := beq_eq_false_iff_ne.2 (by omega)
      have m58 : ((c : Int) == 58) = false := beq_eq_false_iff_ne.2 (by omega)
      have m63 : ((c : Int) == 63) = false := beq_eq_false_iff_ne.2 (by omega)
      have m35 : ((c : Int) == 35) = true := beq_iff_eq.2 (by omega)
      have m47 : ((c : Int) == 47) = false := beq_eq_false_iff_ne.2 (by omega)
      have m32 : decide ((32 : Int) < (c : Int)) = true := decide_eq_true (by omega)
      clear hq
      go_enter Tryz.func67, Tryz.ntmps67
      go_wp2
      go_ret2
      exact AdPost.yes
    · have n38 : (c == 38) = false := beq_eq_false_iff_ne.2 (by omega)
      have n58 : (c == 58) = false := beq_eq_false_iff_ne.2 (by omega)
      have n47 : (c == 47) = true := beq_iff_eq.2 (by omega)
      have nq : (c = 63 ∨ c = 35) = False := by simp; omega
      have n32 : decide (32 < c) = true := decide_eq_true (by omega)
      obtain rfl : R = some 3 := by rw [hR]; unfold addressX; simp only [u3, u4, u2, u0, v3, v4, n38, n58, n47, nq, n32, Bool.true_and, Bool.and_true, Bool.false_and, Bool.and_false, Bool.or_true, Bool.true_or, Bool.or_false, Bool.false_or, if_true, if_false, Bool.false_eq_true]
      clear hR n38 n58 n47 nq n32
      have m38 : ((c : Int) == 38) = false := beq_eq_false_iff_ne.2 (by omega)
      have m58 : ((c : Int) == 58) = false := beq_eq_false_iff_ne.2 (by omega)
      have m63 : ((c : Int) == 63) = false := beq_eq_false_iff_ne.2 (by omega)
      have m35 : ((c : Int) == 35) = false := beq_eq_false_iff_ne.2 (by omega)
      have m47 : ((c : Int) == 47) = true := beq_iff_eq.2 (by omega)
      have m32 : decide ((32 : Int) < (c : Int)) = true := decide_eq_true (by omega)
      clear hq
      go_enter Tryz.func67, Tryz.ntmps67
      go_wp2
      go_ret2
      exact AdPost.yes
    · have n38 : (c == 38) = false := beq_eq_false_iff_ne.2 (by omega)
      have n58 : (c == 58) = false := beq_eq_false_iff_ne.2 (by omega)
      have n47 : (c == 47) = false := beq_eq_false_iff_ne.2 (by omega)
      have nq : (c = 63 ∨ c = 35) = False := by simp; omega
      have n32 : decide (32 < c) = false := decide_eq_false (by omega)
      obtain rfl : R = some u := by rw [hR]; unfold addressX; simp only [u3, u4, u2, u0, v3, v4, n38, n58, n47, nq, n32, Bool.true_and, Bool.and_true, Bool.false_and, Bool.and_false, Bool.or_true, Bool.true_or, Bool.or_false, Bool.false_or, if_true, if_false, Bool.false_eq_true]
      clear hR n38 n58 n47 nq n32
      have m38 : ((c : Int) == 38) = false := beq_eq_false_iff_ne.2 (by omega)
      have m58 : ((c : Int) == 58) = false := beq_eq_false_iff_ne.2 (by omega)
      have m63 : ((c : Int) == 63) = false := beq_eq_false_iff_ne.2 (by omega)
      have m35 : ((c : Int) == 35) = false := beq_eq_false_iff_ne.2 (by omega)
      have m47 : ((c : Int) == 47) = false := beq_eq_false_iff_ne.2 (by omega)
      have m32 : decide ((32 : Int) < (c : Int)) = false := decide_eq_false (by omega)
      clear hq
      go_enter Tryz.func67, Tryz.ntmps67
      go_wp2
      go_ret2
      exact AdPost.yes
    · have n38 : (c == 38) = false := beq_eq_false_iff_ne.2 (by omega)
      have n58 : (c == 58) = false := beq_eq_false_iff_ne.2 (by omega)
      have n47 : (c == 47) = false := beq_eq_false_iff_ne.2 (by omega)
      have nq : (c = 63 ∨ c = 35) = False := by simp; omega
      have n32 : decide (32 < c) = true := decide_eq_true (by omega)
      obtain rfl : R = some u := by rw [hR]; unfold addressX; simp only [u3, u4, u2, u0, v3, v4, n38, n58, n47, nq, n32, Bool.true_and, Bool.and_true, Bool.false_and, Bool.and_false, Bool.or_true, Bool.true_or, Bool.or_false, Bool.false_or, if_true, if_false, Bool.false_eq_true]
      clear hR n38 n58 n47 nq n32
      have m38 : ((c : Int) == 38) = false := beq_eq_false_iff_ne.2 (by omega)
      have m58 : ((c : Int) == 58) = false := beq_eq_false_iff_ne.2 (by omega)
      have m63 : ((c : Int) == 63) = false := beq_eq_false_iff_ne.2 (by omega)
      have m35 : ((c : Int) == 35) = false := beq_eq_false_iff_ne.2 (by omega)
      have m47 : ((c : Int) == 47) = false := beq_eq_false_iff_ne.2 (by omega)
      have m32 : decide ((32 : Int) < (c : Int)) = true := decide_eq_true (by omega)
      clear hq
      go_enter Tryz.func67, Tryz.ntmps67
      go_wp2
      go_ret2
      exact AdPost.yes
/-- a place in a script behind a pointer -/
def LgAt (g : Nat) (l : Int) (js : Bool) (w : World) : Prop := w.cell? ⟨g, 0, none⟩ = some (.int .i64 l) ∧ w.cell? ⟨g, 1, none⟩ = some (.bool js)
theorem LgAt.below {g : Nat} {l : Int} {js : Bool} {w w' : World} (h : LgAt g l js w) (hb : Below w.heap.size w w') : LgAt g l js w' := ⟨cellK hb h.1, cellK hb h.2⟩
set_option maxRecDepth 100000 in
set_option maxHeartbeats 2000000 in
theorem lgCode_calls (g : Nat) (l : Int) (js : Bool) (c : Nat) (w : World) (hL : LgAt g l js w) (hc : c < 256) : Calls Tryz.prog 139 #[.pointer (some ⟨g, 0, none⟩), .int .u8 c] w fun e w' => e = .returned (.int .i64 (codeX js c)) ∧ w = w' := by
  obtain ⟨R, hR⟩ : ∃ R : Int, R = codeX js c := ⟨_, rfl⟩
  rw [← hR]
  obtain ⟨l0, l1⟩ := hL
  by_cases h0 : c = 34
  · obtain rfl : R = 1 := by rw [hR]; unfold codeX; rw [if_pos h0]
    have t34 : ((c : Int) == 34) = true := beq_iff_eq.2 (by omega)
    clear hR h0
    go_enter Tryz.func139, Tryz.ntmps139
    go_wp2
    go_ret
    exact ⟨rfl, rfl⟩
  have t34 : ((c : Int) == 34) = false := beq_eq_false_iff_ne.2 (by omega)
  by_cases h1 : c = 39
  · obtain rfl : R = 2 := by rw [hR]; unfold codeX; rw [if_neg h0]; rw [if_pos h1]
    have t39 : ((c : Int) == 39) = true := beq_iff_eq.2 (by omega)
    clear hR h0 h1
    go_enter Tryz.func139, Tryz.ntmps139
    go_wp2
    go_ret
    exact ⟨rfl, rfl⟩
  have t39 : ((c : Int) == 39) = false := beq_eq_false_iff_ne.2 (by omega)
  by_cases h2 : c = 47
  · obtain rfl : R = 5 := by rw [hR]; unfold codeX; rw [if_neg h0]; rw [if_neg h1]; rw [if_pos h2]
    have t47 : ((c : Int) == 47) = true := beq_iff_eq.2 (by omega)
    clear hR h0 h1 h2
    go_enter Tryz.func139, Tryz.ntmps139
    go_wp2
    go_ret
    exact ⟨rfl, rfl⟩
  have t47 : ((c : Int) == 47) = false := beq_eq_false_iff_ne.2 (by omega)
  have hR2 : R = if (js && c == 96 || !js && c == 92) = true then 9 else 0 := by rw [hR]; unfold codeX; rw [if_neg h0, if_neg h1, if_neg h2]
  clear hR h0 h1 h2
  cases js with
  | true =>
    by_cases h : c = 96
    · obtain rfl : R = 9 := by rw [hR2]; simp [h]
      have t9 : ((c : Int) == 96) = true := beq_iff_eq.2 (by omega)
      clear hR2 h
      go_enter Tryz.func139, Tryz.ntmps139
      go_wp2
      go_ret
      exact ⟨rfl, rfl⟩
    · obtain rfl : R = 0 := by rw [hR2]; simp [h]
      have t9 : ((c : Int) == 96) = false := beq_eq_false_iff_ne.2 (by omega)
      clear hR2 h
      go_enter Tryz.func139, Tryz.ntmps139
      go_wp2
      go_ret
      exact ⟨rfl, rfl⟩
  | false =>
    by_cases h : c = 92
    · obtain rfl : R = 9 := by rw [hR2]; simp [h]
      have t9 : ((c : Int) == 92) = true := beq_iff_eq.2 (by omega)
      clear hR2 h
      go_enter Tryz.func139, Tryz.ntmps139
      go_wp2
      go_ret
      exact ⟨rfl, rfl⟩
    · obtain rfl : R = 0 := by rw [hR2]; simp [h]
      have t9 : ((c : Int) == 92) = false := beq_eq_false_iff_ne.2 (by omega)
      clear hR2 h
      go_enter Tryz.func139, Tryz.ntmps139
      go_wp2
      go_ret
      exact ⟨rfl, rfl⟩
set_option maxRecDepth 100000 in
set_option maxHeartbeats 2000000 in
theorem lgText_calls (g : Nat) (l : Int) (js : Bool) (c q : Nat) (x : Int) (w : World) (hL : LgAt g l js w) : Calls Tryz.prog 187 #[.pointer (some ⟨g, 0, none⟩), .int .u8 c, .int .u8 q, .int .i64 x] w fun e w' => e = .returned (.int .i64 (textLX l c q x)) ∧ w = w' := by
  obtain ⟨R, hR⟩ : ∃ R : Int, R = textLX l c q x := ⟨_, rfl⟩
  rw [← hR]
  obtain ⟨l0, l1⟩ := hL
  by_cases h0 : c = 92
  · obtain rfl : R = x := by rw [hR]; unfold textLX; rw [if_pos h0]
    have t0 : ((c : Int) == 92) = true := beq_iff_eq.2 (by omega)
    clear hR h0
    go_enter Tryz.func187, Tryz.ntmps187
    go_wp2
    go_ret
    exact ⟨rfl, rfl⟩
  have t0 : ((c : Int) == 92) = false := beq_eq_false_iff_ne.2 (by omega)
  by_cases h1 : c = q
  · obtain rfl : R = 0 := by rw [hR]; unfold textLX; rw [if_neg h0, if_pos h1]
    have t1 : ((c : Int) == (q : Int)) = true := beq_iff_eq.2 (by omega)
    clear hR h0 h1
    go_enter Tryz.func187, Tryz.ntmps187
    go_wp2
    go_ret
    exact ⟨rfl, rfl⟩
  have t1 : ((c : Int) == (q : Int)) = false := beq_eq_false_iff_ne.2 (by omega)
  by_cases h2 : c = 10
  · obtain rfl : R = 9 := by rw [hR]; unfold textLX; rw [if_neg h0, if_neg h1, if_pos h2]
    have t2 : ((c : Int) == 10) = true := beq_iff_eq.2 (by omega)
    clear hR h0 h1 h2
    go_enter Tryz.func187, Tryz.ntmps187
    go_wp2
    go_ret
    exact ⟨rfl, rfl⟩
  have t2 : ((c : Int) == 10) = false := beq_eq_false_iff_ne.2 (by omega)
  obtain rfl : R = l := by rw [hR]; unfold textLX; rw [if_neg h0, if_neg h1, if_neg h2]
  clear hR h0 h1 h2
  go_enter Tryz.func187, Tryz.ntmps187
  go_wp2
  go_ret
  exact ⟨rfl, rfl⟩
set_option maxRecDepth 100000 in
set_option maxHeartbeats 2000000 in
theorem lgDouble_calls (g : Nat) (l : Int) (js : Bool) (c : Nat) (w : World) (hL : LgAt g l js w) (hc : c < 256) : Calls Tryz.prog 140 #[.pointer (some ⟨g, 0, none⟩), .int .u8 c] w fun e w' => e = .returned (.int .i64 (textLX l c 34 3)) ∧ w = w' := by
  obtain ⟨R, hR⟩ : ∃ R : Int, R = textLX l c 34 3 := ⟨_, rfl⟩
  rw [← hR]
  obtain rfl : R = textLX l c 34 3 := hR
  have HC := Lib.hid (lgText_calls g l js c 34 3 w hL)
  generalize (textLX l c 34 3 : Int) = X at *
  go_enter Tryz.func140, Tryz.ntmps140
  go_wp2_with (go_at_call 187; refine HC.out.mono ?_; rintro e w1 ⟨rfl, rfl⟩)
  go_ret
  exact ⟨rfl, rfl⟩
set_option maxRecDepth 100000 in
set_option maxHeartbeats 2000000 in
theorem lgSingle_calls (g : Nat) (l : Int) (js : Bool) (c : Nat) (w : World) (hL : LgAt g l js w) (hc : c < 256) : Calls Tryz.prog 141 #[.pointer (some ⟨g, 0, none⟩), .int .u8 c] w fun e w' => e = .returned (.int .i64 (textLX l c 39 4)) ∧ w = w' := by
  obtain ⟨R, hR⟩ : ∃ R : Int, R = textLX l c 39 4 := ⟨_, rfl⟩
  rw [← hR]
  obtain rfl : R = textLX l c 39 4 := hR
  have HC := Lib.hid (lgText_calls g l js c 39 4 w hL)
  generalize (textLX l c 39 4 : Int) = X at *
  go_enter Tryz.func141, Tryz.ntmps141
  go_wp2_with (go_at_call 187; refine HC.out.mono ?_; rintro e w1 ⟨rfl, rfl⟩)
  go_ret
  exact ⟨rfl, rfl⟩
set_option maxRecDepth 100000 in
set_option maxHeartbeats 2000000 in
theorem lgDoubleSlash_calls (g : Nat) (l : Int) (js : Bool) (c : Nat) (w : World) (hL : LgAt g l js w) (hc : c < 256) : Calls Tryz.prog 142 #[.pointer (some ⟨g, 0, none⟩), .int .u8 c] w fun e w' => e = .returned (.int .i64 (1)) ∧ w = w' := by
  obtain ⟨R, hR⟩ : ∃ R : Int, R = 1 := ⟨_, rfl⟩
  rw [← hR]
  obtain rfl : R = 1 := hR
  go_enter Tryz.func142, Tryz.ntmps142
  go_wp2
  go_ret
  exact ⟨rfl, rfl⟩
set_option maxRecDepth 100000 in
set_option maxHeartbeats 2000000 in
theorem lgSingleSlash_calls (g : Nat) (l : Int) (js : Bool) (c : Nat) (w : World) (hL : LgAt g l js w) (hc : c < 256) : Calls Tryz.prog 143 #[.pointer (some ⟨g, 0, none⟩), .int .u8 c] w fun e w' => e = .returned (.int .i64 (2)) ∧ w = w' := by
  obtain ⟨R, hR⟩ : ∃ R : Int, R = 2 := ⟨_, rfl⟩
  rw [← hR]
  obtain rfl : R = 2 := hR
  go_enter Tryz.func143, Tryz.ntmps143
  go_wp2
  go_ret
  exact ⟨rfl, rfl⟩
set_option maxRecDepth 100000 in
set_option maxHeartbeats 2000000 in
theorem lgDirty_calls (g : Nat) (l : Int) (js : Bool) (c : Nat) (w : World) (hL : LgAt g l js w) (hc : c < 256) : Calls Tryz.prog 148 #[.pointer (some ⟨g, 0, none⟩), .int .u8 c] w fun e w' => e = .returned (.int .i64 (9)) ∧ w = w' := by
  obtain ⟨R, hR⟩ : ∃ R : Int, R = 9 := ⟨_, rfl⟩
  rw [← hR]
  obtain rfl : R = 9 := hR
  go_enter Tryz.func148, Tryz.ntmps148
  go_wp2
  go_ret
  exact ⟨rfl, rfl⟩
set_option maxRecDepth 100000 in
set_option maxHeartbeats 2000000 in
theorem lgBlock_calls (g : Nat) (l : Int) (js : Bool) (c : Nat) (w : World) (hL : LgAt g l js w) (hc : c < 256) : Calls Tryz.prog 146 #[.pointer (some ⟨g, 0, none⟩), .int .u8 c] w fun e w' => e = .returned (.int .i64 (blockX c)) ∧ w = w' := by
  obtain ⟨R, hR⟩ : ∃ R : Int, R = blockX c := ⟨_, rfl⟩
  rw [← hR]
  by_cases h0 : c = 42
  · obtain rfl : R = 8 := by rw [hR]; unfold blockX; rw [if_pos h0]
    have t42 : ((c : Int) == 42) = true := beq_iff_eq.2 (by omega)
    clear hR h0
    go_enter Tryz.func146, Tryz.ntmps146
    go_wp2
    go_ret
    exact ⟨rfl, rfl⟩
  have t42 : ((c : Int) == 42) = false := beq_eq_false_iff_ne.2 (by omega)
  obtain rfl : R = 7 := by rw [hR]; unfold blockX; rw [if_neg h0]
  clear hR h0
  go_enter Tryz.func146, Tryz.ntmps146
  go_wp2
  go_ret
  exact ⟨rfl, rfl⟩
set_option maxRecDepth 100000 in
set_option maxHeartbeats 2000000 in
theorem lgBlockStar_calls (g : Nat) (l : Int) (js : Bool) (c : Nat) (w : World) (hL : LgAt g l js w) (hc : c < 256) : Calls Tryz.prog 147 #[.pointer (some ⟨g, 0, none⟩), .int .u8 c] w fun e w' => e = .returned (.int .i64 (if c = 47 then 0 else blockX c)) ∧ w = w' := by
  obtain ⟨R, hR⟩ : ∃ R : Int, R = if c = 47 then 0 else blockX c := ⟨_, rfl⟩
  rw [← hR]
  by_cases h0 : c = 47
  · obtain rfl : R = 0 := by rw [hR]; rw [if_pos h0]
    have t47 : ((c : Int) == 47) = true := beq_iff_eq.2 (by omega)
    clear hR h0
    go_enter Tryz.func147, Tryz.ntmps147
    go_wp2
    go_ret
    exact ⟨rfl, rfl⟩
  have t47 : ((c : Int) == 47) = false := beq_eq_false_iff_ne.2 (by omega)
  obtain rfl : R = blockX c := by rw [hR, if_neg h0]
  have HC := Lib.hid (lgBlock_calls g l js c w hL hc)
  generalize blockX c = X at *
  clear hR h0
  go_enter Tryz.func147, Tryz.ntmps147
  go_wp2_with (go_at_call 146; refine HC.out.mono ?_; rintro e w1 ⟨rfl, rfl⟩)
  go_ret
  exact ⟨rfl, rfl⟩
set_option maxRecDepth 100000 in
set_option maxHeartbeats 2000000 in
theorem lgLine_calls (g : Nat) (l : Int) (js : Bool) (c : Nat) (w : World) (hL : LgAt g l js w) (hc : c < 256) : Calls Tryz.prog 145 #[.pointer (some ⟨g, 0, none⟩), .int .u8 c] w fun e w' => e = .returned (.int .i64 (if (js && c == 10) = true then 0 else 6)) ∧ w = w' := by
  obtain ⟨R, hR⟩ : ∃ R : Int, R = if (js && c == 10) = true then 0 else 6 := ⟨_, rfl⟩
  rw [← hR]
  obtain ⟨l0, l1⟩ := hL
  cases js with
  | false =>
    obtain rfl : R = 6 := by rw [hR]; rfl
    clear hR
    go_enter Tryz.func145, Tryz.ntmps145
    go_wp2
    go_ret
    exact ⟨rfl, rfl⟩
  | true =>
  by_cases h : c = 10
  · obtain rfl : R = 0 := by rw [hR]; simp [h]
    have t9 : ((c : Int) == 10) = true := beq_iff_eq.2 (by omega)
    clear hR h
    go_enter Tryz.func145, Tryz.ntmps145
    go_wp2
    go_ret
    exact ⟨rfl, rfl⟩
  · obtain rfl : R = 6 := by rw [hR]; simp [h]
    have t9 : ((c : Int) == 10) = false := beq_eq_false_iff_ne.2 (by omega)
    clear hR h
    go_enter Tryz.func145, Tryz.ntmps145
    go_wp2
    go_ret
    exact ⟨rfl, rfl⟩
set_option maxRecDepth 100000 in
set_option maxHeartbeats 2000000 in
theorem lgSlash_calls (g : Nat) (l : Int) (js : Bool) (c : Nat) (w : World) (hL : LgAt g l js w) (hc : c < 256) : Calls Tryz.prog 144 #[.pointer (some ⟨g, 0, none⟩), .int .u8 c] w fun e w' => e = .returned (.int .i64 (if c = 42 then 7 else if js = false then codeX js c else if c = 47 then 6 else 9)) ∧ w = w' := by
  obtain ⟨R, hR⟩ : ∃ R : Int, R = if c = 42 then 7 else if js = false then codeX js c else if c = 47 then 6 else 9 := ⟨_, rfl⟩
  rw [← hR]
  have hLL := hL
  obtain ⟨l0, l1⟩ := hL
  by_cases h0 : c = 42
  · obtain rfl : R = 7 := by rw [hR]; rw [if_pos h0]
    have t42 : ((c : Int) == 42) = true := beq_iff_eq.2 (by omega)
    clear hR h0
    go_enter Tryz.func144, Tryz.ntmps144
    go_wp2
    go_ret
    exact ⟨rfl, rfl⟩
  have t42 : ((c : Int) == 42) = false := beq_eq_false_iff_ne.2 (by omega)
  cases js with
  | false =>
    obtain rfl : R = codeX false c := by rw [hR, if_neg h0, if_pos rfl]
    have HC := Lib.hid (lgCode_calls g l false c w hLL hc)
    generalize codeX false c = X at *
    clear hR h0
    go_enter Tryz.func144, Tryz.ntmps144
    go_wp2_with (go_at_call 139; refine HC.out.mono ?_; rintro e w1 ⟨rfl, rfl⟩)
    go_ret
    exact ⟨rfl, rfl⟩
  | true =>
  by_cases h1 : c = 47
  · obtain rfl : R = 6 := by rw [hR, if_neg h0, if_neg (by decide), if_pos h1]
    have t9 : ((c : Int) == 47) = true := beq_iff_eq.2 (by omega)
    clear hR h0 h1
    go_enter Tryz.func144, Tryz.ntmps144
    go_wp2
    go_ret
    exact ⟨rfl, rfl⟩
  · obtain rfl : R = 9 := by rw [hR, if_neg h0, if_neg (by decide), if_neg h1]
    have t9 : ((c : Int) == 47) = false := beq_eq_false_iff_ne.2 (by omega)
    clear hR h0 h1
    go_enter Tryz.func144, Tryz.ntmps144
    go_wp2
    go_ret
    exact ⟨rfl, rfl⟩
theorem lang_0 (js : Bool) (c : Nat) : langX 0 js c = codeX js c := by simp [langX]
theorem lang_1 (js : Bool) (c : Nat) : langX 1 js c = textLX 1 c 34 3 := by simp [langX]
theorem lang_2 (js : Bool) (c : Nat) : langX 2 js c = textLX 2 c 39 4 := by simp [langX]
theorem lang_3 (js : Bool) (c : Nat) : langX 3 js c = 1 := by simp [langX]
theorem lang_4 (js : Bool) (c : Nat) : langX 4 js c = 2 := by simp [langX]
theorem lang_5 (js : Bool) (c : Nat) : langX 5 js c = if c = 42 then 7 else if js = false then codeX js c else if c = 47 then 6 else 9 := by simp [langX]
theorem lang_6 (js : Bool) (c : Nat) : langX 6 js c = if (js && c == 10) = true then 0 else 6 := by simp [langX]
theorem lang_7 (js : Bool) (c : Nat) : langX 7 js c = blockX c := by simp [langX]
theorem lang_8 (js : Bool) (c : Nat) : langX 8 js c = if c = 47 then 0 else blockX c := by simp [langX]
theorem lang_9 (js : Bool) (c : Nat) : langX 9 js c = 9 := by simp [langX]
set_option maxRecDepth 100000 in
set_option maxHeartbeats 2000000 in
theorem lgNext_calls (g : Nat) (l : Int) (js : Bool) (c : Nat) (w : World) (hL : LgAt g l js w) (hc : c < 256) (h0 : 0 ≤ l) (h9 : l ≤ 9) : Calls Tryz.prog 68 #[.pointer (some ⟨g, 0, none⟩), .int .u8 c] w fun e w' => e = .returned (.int .i64 (langX l js c)) ∧ Below w.heap.size w w' := by
  obtain ⟨R, hR⟩ : ∃ R : Int, R = langX l js c := ⟨_, rfl⟩
  rw [← hR]
  have HL := Lib.hid hL
  obtain ⟨l0, l1⟩ := hL
  go_enter Tryz.func68, Tryz.ntmps68
  go_upto_region 1 with (fail)
  refine wp_region_lit ?_
  refine wpList_plain rfl (fun K hK => ?_)
  go_simp
  refine hK _ _ ?_
  clear hK K
  refine wpList_plain rfl (fun K hK => ?_)
  go_simp
  refine hK _ _ ?_
  clear hK K
  refine wpList_plain rfl (fun K hK => ?_)
  go_simp
  refine hK _ _ ?_
  clear hK K
  refine wpList_plain rfl (fun K hK => ?_)
  go_simp
  refine hK _ _ ?_
  clear hK K
  refine wpList_plain rfl (fun K hK => ?_)
  go_simp
  refine hK _ _ ?_
  clear hK K
  refine wpList_plain rfl (fun K hK => ?_)
  go_simp
  refine hK _ _ ?_
  clear hK K
  refine wpList_plain rfl (fun K hK => ?_)
  go_simp
  refine hK _ _ ?_
  clear hK K
  refine wpList_plain rfl (fun K hK => ?_)
  go_simp
  refine hK _ _ ?_
  clear hK K
  refine wpList_plain rfl (fun K hK => ?_)
  go_simp
  refine hK _ _ ?_
  clear hK K
  refine wpList_plain rfl (fun K hK => ?_)
  go_simp
  refine hK _ _ ?_
  clear hK K
  refine wpList_plain rfl (fun K hK => ?_)
  go_simp
  refine hK _ _ ?_
  clear hK K
  refine wpList_plain rfl (fun K hK => ?_)
  go_simp
  refine hK _ _ ?_
  clear hK K
  refine wpList_plain rfl (fun K hK => ?_)
  go_simp
  refine hK _ _ ?_
  clear hK K
  refine wpList_plain rfl (fun K hK => ?_)
  go_simp
  refine hK _ _ ?_
  clear hK K
  refine wpList_plain rfl (fun K hK => ?_)
  go_simp
  refine hK _ _ ?_
  clear hK K
  refine wpList_plain rfl (fun K hK => ?_)
  go_simp
  refine hK _ _ ?_
  clear hK K
  refine wpList_plain rfl (fun K hK => ?_)
  go_simp
  refine hK _ _ ?_
  clear hK K
  refine wpList_plain rfl (fun K hK => ?_)
  go_simp
  refine hK _ _ ?_
  clear hK K
  refine wpList_plain rfl (fun K hK => ?_)
  go_simp
  refine hK _ _ ?_
  clear hK K
  refine wpList_plain rfl (fun K hK => ?_)
  go_simp
  refine hK _ _ ?_
  clear hK K
  refine wpList_plain rfl (fun K hK => ?_)
  go_simp
  refine hK _ _ ?_
  clear hK K
  refine wpList_plain rfl (fun K hK => ?_)
  go_simp
  refine hK _ _ ?_
  clear hK K
  refine wpList_store_fresh rfl 132 (.tmp 5) (.tmp 26) rfl _ #[.func (.func 139) #[.pointer (some ⟨g, 0, none⟩)] #[], .func (.func 140) #[.pointer (some ⟨g, 0, none⟩)] #[], .func (.func 141) #[.pointer (some ⟨g, 0, none⟩)] #[], .func (.func 142) #[.pointer (some ⟨g, 0, none⟩)] #[], .func (.func 143) #[.pointer (some ⟨g, 0, none⟩)] #[], .func (.func 144) #[.pointer (some ⟨g, 0, none⟩)] #[], .func (.func 145) #[.pointer (some ⟨g, 0, none⟩)] #[], .func (.func 146) #[.pointer (some ⟨g, 0, none⟩)] #[], .func (.func 147) #[.pointer (some ⟨g, 0, none⟩)] #[], .func (.func 148) #[.pointer (some ⟨g, 0, none⟩)] #[]] ?_ ?_ ?_ ?_ ?_ ?_
  · rfl
  · rfl
  · kernel_rfl
  · rfl
  · kernel_rfl
  go_upto_region 2 with (fail)
  refine wp_at_world ?_
  intro w2 hw2
  have hA : Blk w.heap.size 132 [.func (.func 139) #[.pointer (some ⟨g, 0, none⟩)] #[], .func (.func 140) #[.pointer (some ⟨g, 0, none⟩)] #[], .func (.func 141) #[.pointer (some ⟨g, 0, none⟩)] #[], .func (.func 142) #[.pointer (some ⟨g, 0, none⟩)] #[], .func (.func 143) #[.pointer (some ⟨g, 0, none⟩)] #[], .func (.func 144) #[.pointer (some ⟨g, 0, none⟩)] #[], .func (.func 145) #[.pointer (some ⟨g, 0, none⟩)] #[], .func (.func 146) #[.pointer (some ⟨g, 0, none⟩)] #[], .func (.func 147) #[.pointer (some ⟨g, 0, none⟩)] #[], .func (.func 148) #[.pointer (some ⟨g, 0, none⟩)] #[]] w2 := by rw [hw2]; exact Blk.new w [.func (.func 139) #[.pointer (some ⟨g, 0, none⟩)] #[], .func (.func 140) #[.pointer (some ⟨g, 0, none⟩)] #[], .func (.func 141) #[.pointer (some ⟨g, 0, none⟩)] #[], .func (.func 142) #[.pointer (some ⟨g, 0, none⟩)] #[], .func (.func 143) #[.pointer (some ⟨g, 0, none⟩)] #[], .func (.func 144) #[.pointer (some ⟨g, 0, none⟩)] #[], .func (.func 145) #[.pointer (some ⟨g, 0, none⟩)] #[], .func (.func 146) #[.pointer (some ⟨g, 0, none⟩)] #[], .func (.func 147) #[.pointer (some ⟨g, 0, none⟩)] #[], .func (.func 148) #[.pointer (some ⟨g, 0, none⟩)] #[]] 132
  have hba : Below w.heap.size w w2 := by rw [hw2]; exact (Below.refl _ w).alloc (Nat.le_refl _) _
  clear hw2 l0 l1
  have HL2 := Lib.hid (HL.out.below hba)
  obtain ⟨l0, l1⟩ := HL.out.below hba
  rcases (show l = 0 ∨ l = 1 ∨ l = 2 ∨ l = 3 ∨ l = 4 ∨ l = 5 ∨ l = 6 ∨ l = 7 ∨ l = 8 ∨ l = 9 by omega) with rfl | rfl | rfl | rfl | rfl | rfl | rfl | rfl | rfl | rfl
  · have hRX : R = codeX js c := by rw [hR, lang_0]
    have hC := lgCode_calls g 0 js c w2 HL2.out hc
    rw [← hRX] at hC
    have HC := Lib.hid hC
    have ak := hA.cell 0 _ rfl
    clear hR hRX hC h0 h9
    go_wp2_with (go_at_call 139; refine HC.out.mono ?_; rintro e w1 ⟨rfl, rfl⟩)
    go_ret
    exact ⟨rfl, hba⟩
  · have hRX : R = textLX 1 c 34 3 := by rw [hR, lang_1]
    have hC := lgDouble_calls g 1 js c w2 HL2.out hc
    rw [← hRX] at hC
    have HC := Lib.hid hC
    have ak := hA.cell 1 _ rfl
    clear hR hRX hC h0 h9
    go_wp2_with (go_at_call 140; refine HC.out.mono ?_; rintro e w1 ⟨rfl, rfl⟩)
    go_ret
    exact ⟨rfl, hba⟩
  · have hRX : R = textLX 2 c 39 4 := by rw [hR, lang_2]
    have hC := lgSingle_calls g 2 js c w2 HL2.out hc
    rw [← hRX] at hC
    have HC := Lib.hid hC
    have ak := hA.cell 2 _ rfl
    clear hR hRX hC h0 h9
    go_wp2_with (go_at_call 141; refine HC.out.mono ?_; rintro e w1 ⟨rfl, rfl⟩)
    go_ret
    exact ⟨rfl, hba⟩
  · have hRX : R = 1 := by rw [hR, lang_3]
    have hC := lgDoubleSlash_calls g 3 js c w2 HL2.out hc
    rw [← hRX] at hC
    have HC := Lib.hid hC
    have ak := hA.cell 3 _ rfl
    clear hR hRX hC h0 h9
    go_wp2_with (go_at_call 142; refine HC.out.mono ?_; rintro e w1 ⟨rfl, rfl⟩)
    go_ret
    exact ⟨rfl, hba⟩
  · have hRX : R = 2 := by rw [hR, lang_4]
    have hC := lgSingleSlash_calls g 4 js c w2 HL2.out hc
    rw [← hRX] at hC
    have HC := Lib.hid hC
    have ak := hA.cell 4 _ rfl
    clear hR hRX hC h0 h9
    go_wp2_with (go_at_call 143; refine HC.out.mono ?_; rintro e w1 ⟨rfl, rfl⟩)
    go_ret
    exact ⟨rfl, hba⟩
  · have hRX : R = if c = 42 then 7 else if js = false then codeX js c else if c = 47 then 6 else 9 := by rw [hR, lang_5]
    have hC := lgSlash_calls g 5 js c w2 HL2.out hc
    rw [← hRX] at hC
    have HC := Lib.hid hC
    have ak := hA.cell 5 _ rfl
    clear hR hRX hC h0 h9
    go_wp2_with (go_at_call 144; refine HC.out.mono ?_; rintro e w1 ⟨rfl, rfl⟩)
    go_ret
    exact ⟨rfl, hba⟩
  · have hRX : R = if (js && c == 10) = true then 0 else 6 := by rw [hR, lang_6]
    have hC := lgLine_calls g 6 js c w2 HL2.out hc
    rw [← hRX] at hC
    have HC := Lib.hid hC
    have ak := hA.cell 6 _ rfl
    clear hR hRX hC h0 h9
    go_wp2_with (go_at_call 145; refine HC.out.mono ?_; rintro e w1 ⟨rfl, rfl⟩)
    go_ret
    exact ⟨rfl, hba⟩
  · have hRX : R = blockX c := by rw [hR, lang_7]
    have hC := lgBlock_calls g 7 js c w2 HL2.out hc
    rw [← hRX] at hC
    have HC := Lib.hid hC
    have ak := hA.cell 7 _ rfl
    clear hR hRX hC h0 h9
    go_wp2_with (go_at_call 146; refine HC.out.mono ?_; rintro e w1 ⟨rfl, rfl⟩)
    go_ret
    exact ⟨rfl, hba⟩
  · have hRX : R = if c = 47 then 0 else blockX c := by rw [hR, lang_8]
    have hC := lgBlockStar_calls g 8 js c w2 HL2.out hc
    rw [← hRX] at hC
    have HC := Lib.hid hC
    have ak := hA.cell 8 _ rfl
    clear hR hRX hC h0 h9
    go_wp2_with (go_at_call 147; refine HC.out.mono ?_; rintro e w1 ⟨rfl, rfl⟩)
    go_ret
    exact ⟨rfl, hba⟩
  · have hRX : R = 9 := by rw [hR, lang_9]
    have hC := lgDirty_calls g 9 js c w2 HL2.out hc
    rw [← hRX] at hC
    have HC := Lib.hid hC
    have ak := hA.cell 9 _ rfl
    clear hR hRX hC h0 h9
    go_wp2_with (go_at_call 148; refine HC.out.mono ?_; rintro e w1 ⟨rfl, rfl⟩)
    go_ret
    exact ⟨rfl, hba⟩
end Go.Proofs.YtafkfamfhagokaaGreatDoor.S
