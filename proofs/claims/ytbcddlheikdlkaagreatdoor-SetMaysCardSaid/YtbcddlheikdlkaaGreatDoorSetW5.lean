/-
  THE WALK of package set's bare.
-/
import Derived.Test.YtbcddlheikdlkaaGreatDoorSetW4
set_option linter.unusedVariables false
set_option linter.unusedSimpArgs false
namespace Go.Proofs.YtbcddlheikdlkaaGreatDoor.S
open Go.RowKit

theorem kind_cases (k : Nat) : k = 0 ∨ k = 1 ∨ k = 2 ∨ k = 3 ∨ k = 4 ∨ k = 5 ∨ k = 6 ∨ 7 ≤ k := by omega
theorem big_k {k : Nat} (h : 7 ≤ k) : isBlock k = false ∧ isTexted k = false ∧ isPiped k = false := by
  have n0 : (k == 0) = false := beq_eq_false_iff_ne.2 (by omega)
  have n1 : (k == 1) = false := beq_eq_false_iff_ne.2 (by omega)
  have n2 : (k == 2) = false := beq_eq_false_iff_ne.2 (by omega)
  have n3 : (k == 3) = false := beq_eq_false_iff_ne.2 (by omega)
  have n4 : (k == 4) = false := beq_eq_false_iff_ne.2 (by omega)
  have n5 : (k == 5) = false := beq_eq_false_iff_ne.2 (by omega)
  have n6 : (k == 6) = false := beq_eq_false_iff_ne.2 (by omega)
  simp [isBlock, isTexted, isPiped, n0, n1, n2, n3, n4, n5, n6]
set_option maxRecDepth 100000 in
set_option maxHeartbeats 16000000 in
theorem bare_calls (g off k : Nat) (t : ByteArray) (l : List UInt8) (hl : StrIs t l) (pn tn en : Nat) (pa ta ea : Option Addr) (pc tc ec : Nat) (hs : tn + en ≤ 9223372036854775807) (w : World)
    (c0 : w.cell? ⟨g, off, none⟩ = some (.int .i64 k)) (c1 : w.cell? ⟨g, off + 1, none⟩ = some (.string t)) (c2 : w.cell? ⟨g, off + 2, none⟩ = some (.slice pa pn pc)) (c3 : w.cell? ⟨g, off + 3, none⟩ = some (.slice ta tn tc)) (c4 : w.cell? ⟨g, off + 4, none⟩ = some (.slice ea en ec)) :
    Calls Tryz.prog 97 #[.pointer (some ⟨g, off, none⟩)] w fun e w' => e = .returned (.bool ((isBlock k || tn + en == 0) && (isTexted k || l.isEmpty) && (isPiped k || pn == 0))) ∧ Below w.heap.size w w' := by
  obtain ⟨R, hR⟩ : ∃ R, R = ((isBlock k || tn + en == 0) && (isTexted k || l.isEmpty) && (isPiped k || pn == 0)) := ⟨_, rfl⟩
  rw [← hR]
  have HR := Lib.hid hR
  clear hR
  go_enter Tryz.func97, Tryz.ntmps97
  go_upto_region 1 with (fail)
  go_cut [3] (fun v3 wx => v3 = .bool (isBlock k) ∧ w = wx)
  case first =>
    rcases kind_cases k with rfl | rfl | rfl | rfl | rfl | rfl | rfl | h7
    case' inr.inr.inr.inr.inr.inr.inr =>
      have q0 : ((k : Int) == 0) = false := beq_eq_false_iff_ne.2 (by omega)
      have q1 : ((k : Int) == 1) = false := beq_eq_false_iff_ne.2 (by omega)
      have q2 : ((k : Int) == 2) = false := beq_eq_false_iff_ne.2 (by omega)
      have q3 : ((k : Int) == 3) = false := beq_eq_false_iff_ne.2 (by omega)
      have q4 : ((k : Int) == 4) = false := beq_eq_false_iff_ne.2 (by omega)
      have q5 : ((k : Int) == 5) = false := beq_eq_false_iff_ne.2 (by omega)
      have q6 : ((k : Int) == 6) = false := beq_eq_false_iff_ne.2 (by omega)
      have HK := Lib.hid (big_k h7)
    all_goals
      go_wp2_with fail
      go_meet
      first | exact ⟨rfl, rfl⟩ | exact ⟨by rw [HK.out.1], rfl⟩
  case rest =>
  obtain ⟨rfl, rfl⟩ := hcut
  obtain ⟨bb, hbb⟩ : ∃ bb, bb = isBlock k := ⟨_, rfl⟩
  rw [← hbb]
  have HBB := Lib.hid hbb
  clear hbb
  go_upto_region 2 with (fail)
  go_cut [4] (fun v4 wx => v4 = .bool (isTexted k) ∧ w = wx)
  case first =>
    rcases kind_cases k with rfl | rfl | rfl | rfl | rfl | rfl | rfl | h7
    case' inr.inr.inr.inr.inr.inr.inr =>
      have q0 : ((k : Int) == 0) = false := beq_eq_false_iff_ne.2 (by omega)
      have q1 : ((k : Int) == 1) = false := beq_eq_false_iff_ne.2 (by omega)
      have q2 : ((k : Int) == 2) = false := beq_eq_false_iff_ne.2 (by omega)
      have q3 : ((k : Int) == 3) = false := beq_eq_false_iff_ne.2 (by omega)
      have q4 : ((k : Int) == 4) = false := beq_eq_false_iff_ne.2 (by omega)
      have q5 : ((k : Int) == 5) = false := beq_eq_false_iff_ne.2 (by omega)
      have q6 : ((k : Int) == 6) = false := beq_eq_false_iff_ne.2 (by omega)
      have HK := Lib.hid (big_k h7)
    all_goals
      go_wp2_with fail
      go_meet
      first | exact ⟨rfl, rfl⟩ | exact ⟨by rw [HK.out.2.1], rfl⟩
  case rest =>
  obtain ⟨rfl, rfl⟩ := hcut
  obtain ⟨bt, hbt⟩ : ∃ bt, bt = isTexted k := ⟨_, rfl⟩
  rw [← hbt]
  have HBT := Lib.hid hbt
  clear hbt
  go_upto_region 3 with (fail)
  go_cut [5] (fun v5 wx => v5 = .bool (isPiped k) ∧ w = wx)
  case first =>
    rcases kind_cases k with rfl | rfl | rfl | rfl | rfl | rfl | rfl | h7
    case' inr.inr.inr.inr.inr.inr.inr =>
      have q0 : ((k : Int) == 0) = false := beq_eq_false_iff_ne.2 (by omega)
      have q1 : ((k : Int) == 1) = false := beq_eq_false_iff_ne.2 (by omega)
      have q2 : ((k : Int) == 2) = false := beq_eq_false_iff_ne.2 (by omega)
      have q3 : ((k : Int) == 3) = false := beq_eq_false_iff_ne.2 (by omega)
      have q4 : ((k : Int) == 4) = false := beq_eq_false_iff_ne.2 (by omega)
      have q5 : ((k : Int) == 5) = false := beq_eq_false_iff_ne.2 (by omega)
      have q6 : ((k : Int) == 6) = false := beq_eq_false_iff_ne.2 (by omega)
      have HK := Lib.hid (big_k h7)
    all_goals
      cases bb
    all_goals try exact absurd HBB.out (by decide)
    all_goals try exact absurd HBB.out (by rw [HK.out.1]; decide)
    all_goals
      go_wp2_with fail
      go_meet
      first | exact ⟨rfl, rfl⟩ | exact ⟨by rw [HK.out.2.2], rfl⟩
  case rest =>
  obtain ⟨rfl, rfl⟩ := hcut
  obtain ⟨bp, hbp⟩ : ∃ bp, bp = isPiped k := ⟨_, rfl⟩
  rw [← hbp]
  have HBP := Lib.hid hbp
  clear hbp
  go_upto_region 4 with (fail)
  obtain ⟨B1, hB1⟩ : ∃ B1, B1 = (tn + en == 0) := ⟨_, rfl⟩
  obtain ⟨B2, hB2⟩ : ∃ B2, B2 = l.isEmpty := ⟨_, rfl⟩
  obtain ⟨B3, hB3⟩ : ∃ B3, B3 = (pn == 0) := ⟨_, rfl⟩
  have t1 := str_test hl [] B2 (by rw [hB2]; cases l <;> rfl)
  have z1 : (((tn : Int) + (en : Int)) == 0) = B1 := by rw [hB1, Bool.eq_iff_iff, beq_iff_eq, beq_iff_eq]; omega
  have z3 : ((pn : Int) == 0) = B3 := by rw [hB3, Bool.eq_iff_iff, beq_iff_eq, beq_iff_eq]; omega
  have H1 := Lib.hid hB1
  have H2 := Lib.hid hB2
  have H3 := Lib.hid hB3
  clear hB1 hB2 hB3 hl
  cases bb <;> cases bt <;> cases bp <;> cases B1 <;> cases B2 <;> cases B3
  all_goals
    go_quiet (fail)
    go_wp2
    go_ret
    exact ⟨by rw [HR.out, ← HBB.out, ← HBT.out, ← HBP.out, ← H1.out, ← H2.out, ← H3.out]; rfl, Below.drewN (Below.refl _ _) _⟩
end Go.Proofs.YtbcddlheikdlkaaGreatDoor.S
