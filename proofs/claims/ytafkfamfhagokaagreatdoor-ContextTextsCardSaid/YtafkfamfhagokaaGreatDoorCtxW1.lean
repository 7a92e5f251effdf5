/-
  THE WALKS of package ctx (contexts): places.
-/
import Derived.Test.YtafkfamfhagokaaGreatDoorTokW8
import Derived.Test.YtafkfamfhagokaaGreatDoorShelf
set_option linter.unusedVariables false
set_option linter.unusedSimpArgs false
namespace Go.Proofs.YtafkfamfhagokaaGreatDoor.S
open Go.RowKit

theorem hasP_eq (n : List UInt8) : Lib.hasPrefix n [111, 110] = decide (n.take 2 = [111, 110]) := by
  unfold Lib.hasPrefix
  match n with
  | [] => rfl
  | [a] => simp [List.isPrefixOf]
  | a :: b :: r =>
    rw [Bool.eq_iff_iff]
    simp only [List.isPrefixOf, List.take, Bool.and_true, Bool.and_eq_true, beq_iff_eq, decide_eq_true_eq, List.cons.injEq, and_true]
    exact ⟨fun ⟨h1, h2⟩ => ⟨h1.symm, h2.symm⟩, fun ⟨h1, h2⟩ => ⟨h1.symm, h2.symm⟩⟩
set_option maxRecDepth 100000 in
set_option maxHeartbeats 2000000 in
theorem tkAttr_calls (n : List UInt8) (w : World) : Calls Tryz.prog 116 #[.string ⟨n.toArray⟩] w fun e w' => e = .returned (.int .i64 (attrK n)) ∧ w = w' := by
  obtain ⟨R, hR⟩ : ∃ R, R = attrK n := ⟨_, rfl⟩
  rw [← hR]
  by_cases h0 : n = [104, 114, 101, 102]
  · obtain rfl : R = 1 := by rw [hR, h0]; decide +kernel
    have q0 := lit_test n [104, 114, 101, 102] true (beq_iff_eq.2 h0)
    clear hR h0
    generalize (⟨n.toArray⟩ : ByteArray) = t at *
    go_enter Tryz.func116, Tryz.ntmps116
    go_wp2
    go_ret
    exact ⟨rfl, rfl⟩
  by_cases h1 : n = [115, 114, 99]
  · obtain rfl : R = 1 := by rw [hR, h1]; decide +kernel
    have q0 := lit_test n [104, 114, 101, 102] false (beq_eq_false_iff_ne.2 h0)
    have q1 := lit_test n [115, 114, 99] true (beq_iff_eq.2 h1)
    clear hR h0 h1
    generalize (⟨n.toArray⟩ : ByteArray) = t at *
    go_enter Tryz.func116, Tryz.ntmps116
    go_wp2
    go_ret
    exact ⟨rfl, rfl⟩
  by_cases h2 : n = [97, 99, 116, 105, 111, 110]
  · obtain rfl : R = 1 := by rw [hR, h2]; decide +kernel
    have q0 := lit_test n [104, 114, 101, 102] false (beq_eq_false_iff_ne.2 h0)
    have q1 := lit_test n [115, 114, 99] false (beq_eq_false_iff_ne.2 h1)
    have q2 := lit_test n [97, 99, 116, 105, 111, 110] true (beq_iff_eq.2 h2)
    clear hR h0 h1 h2
    generalize (⟨n.toArray⟩ : ByteArray) = t at *
    go_enter Tryz.func116, Tryz.ntmps116
    go_wp2
    go_ret
    exact ⟨rfl, rfl⟩
  by_cases h3 : n = [102, 111, 114, 109, 97, 99, 116, 105, 111, 110]
  · obtain rfl : R = 1 := by rw [hR, h3]; decide +kernel
    have q0 := lit_test n [104, 114, 101, 102] false (beq_eq_false_iff_ne.2 h0)
    have q1 := lit_test n [115, 114, 99] false (beq_eq_false_iff_ne.2 h1)
    have q2 := lit_test n [97, 99, 116, 105, 111, 110] false (beq_eq_false_iff_ne.2 h2)
    have q3 := lit_test n [102, 111, 114, 109, 97, 99, 116, 105, 111, 110] true (beq_iff_eq.2 h3)
    clear hR h0 h1 h2 h3
    generalize (⟨n.toArray⟩ : ByteArray) = t at *
    go_enter Tryz.func116, Tryz.ntmps116
    go_wp2
    go_ret
    exact ⟨rfl, rfl⟩
  by_cases h4 : n = [99, 105, 116, 101]
  · obtain rfl : R = 1 := by rw [hR, h4]; decide +kernel
    have q0 := lit_test n [104, 114, 101, 102] false (beq_eq_false_iff_ne.2 h0)
    have q1 := lit_test n [115, 114, 99] false (beq_eq_false_iff_ne.2 h1)
    have q2 := lit_test n [97, 99, 116, 105, 111, 110] false (beq_eq_false_iff_ne.2 h2)
    have q3 := lit_test n [102, 111, 114, 109, 97, 99, 116, 105, 111, 110] false (beq_eq_false_iff_ne.2 h3)
    have q4 := lit_test n [99, 105, 116, 101] true (beq_iff_eq.2 h4)
    clear hR h0 h1 h2 h3 h4
    generalize (⟨n.toArray⟩ : ByteArray) = t at *
    go_enter Tryz.func116, Tryz.ntmps116
    go_wp2
    go_ret
    exact ⟨rfl, rfl⟩
  by_cases h5 : n = [115, 116, 121, 108, 101]
  · obtain rfl : R = 3 := by rw [hR, h5]; decide +kernel
    have q0 := lit_test n [104, 114, 101, 102] false (beq_eq_false_iff_ne.2 h0)
    have q1 := lit_test n [115, 114, 99] false (beq_eq_false_iff_ne.2 h1)
    have q2 := lit_test n [97, 99, 116, 105, 111, 110] false (beq_eq_false_iff_ne.2 h2)
    have q3 := lit_test n [102, 111, 114, 109, 97, 99, 116, 105, 111, 110] false (beq_eq_false_iff_ne.2 h3)
    have q4 := lit_test n [99, 105, 116, 101] false (beq_eq_false_iff_ne.2 h4)
    have q5 := lit_test n [115, 116, 121, 108, 101] true (beq_iff_eq.2 h5)
    clear hR h0 h1 h2 h3 h4 h5
    generalize (⟨n.toArray⟩ : ByteArray) = t at *
    go_enter Tryz.func116, Tryz.ntmps116
    go_wp2
    go_ret
    exact ⟨rfl, rfl⟩
  have q0 := lit_test n [104, 114, 101, 102] false (beq_eq_false_iff_ne.2 h0)
  have q1 := lit_test n [115, 114, 99] false (beq_eq_false_iff_ne.2 h1)
  have q2 := lit_test n [97, 99, 116, 105, 111, 110] false (beq_eq_false_iff_ne.2 h2)
  have q3 := lit_test n [102, 111, 114, 109, 97, 99, 116, 105, 111, 110] false (beq_eq_false_iff_ne.2 h3)
  have q4 := lit_test n [99, 105, 116, 101] false (beq_eq_false_iff_ne.2 h4)
  have q5 := lit_test n [115, 116, 121, 108, 101] false (beq_eq_false_iff_ne.2 h5)
  have hP := fun W => Tryz.strings_HasPrefix ⟨n.toArray⟩ ⟨#[111, 110]⟩ W
  rw [show (⟨n.toArray⟩ : ByteArray).data.toList = n from rfl, show (⟨#[111, 110]⟩ : ByteArray).data.toList = [111, 110] from rfl, hasP_eq] at hP
  have hsz : (⟨n.toArray⟩ : ByteArray).size = n.length := rfl
  have hR2 : R = if n.take 2 = [111, 110] ∧ 2 < n.length then 2 else 0 := by rw [hR]; unfold attrK; rw [if_neg (by simp [h0, h1, h2, h3, h4]), if_neg h5]
  clear hR h0 h1 h2 h3 h4 h5
  by_cases hp : n.take 2 = [111, 110]
  · rw [decide_eq_true hp] at hP
    have HP := Lib.hid hP
    clear hP
    by_cases hl : 2 < n.length
    · obtain rfl : R = 2 := by rw [hR2, if_pos ⟨hp, hl⟩]
      have g : decide ((2 : Int) < ((⟨n.toArray⟩ : ByteArray).size : Int)) = true := decide_eq_true (by rw [hsz]; omega)
      clear hR2 hp hl hsz
      generalize (⟨n.toArray⟩ : ByteArray) = t at *
      go_enter Tryz.func116, Tryz.ntmps116
      go_wp2_with (go_at_call 177; refine (HP.out _).mono ?_; rintro e w1 ⟨rfl, hw⟩; subst hw)
      go_ret
      exact ⟨rfl, rfl⟩
    · obtain rfl : R = 0 := by rw [hR2, if_neg (fun h => hl h.2)]
      have g : decide ((2 : Int) < ((⟨n.toArray⟩ : ByteArray).size : Int)) = false := decide_eq_false (by rw [hsz]; omega)
      clear hR2 hp hl hsz
      generalize (⟨n.toArray⟩ : ByteArray) = t at *
      go_enter Tryz.func116, Tryz.ntmps116
      go_wp2_with (go_at_call 177; refine (HP.out _).mono ?_; rintro e w1 ⟨rfl, hw⟩; subst hw)
      go_ret
      exact ⟨rfl, rfl⟩
  · rw [decide_eq_false hp] at hP
    have HP := Lib.hid hP
    clear hP
    obtain rfl : R = 0 := by rw [hR2, if_neg (fun h => hp h.1)]
    clear hR2 hp hsz
    generalize (⟨n.toArray⟩ : ByteArray) = t at *
    go_enter Tryz.func116, Tryz.ntmps116
    go_wp2_with (go_at_call 177; refine (HP.out _).mono ?_; rintro e w1 ⟨rfl, hw⟩; subst hw)
    go_ret
    exact ⟨rfl, rfl⟩
set_option maxRecDepth 100000 in
set_option maxHeartbeats 2000000 in
theorem cxQuoted_calls (b : Nat) (s : Sx) (w : World) (hS : StAt b s w) : Calls Tryz.prog 78 #[.pointer (some ⟨b, 0, none⟩)] w fun e w' => e = .returned (.bool (inQuotes s)) ∧ w = w' := by
  obtain ⟨R, hR⟩ : ∃ R, R = inQuotes s := ⟨_, rfl⟩
  rw [← hR]
  obtain ⟨s0, s1, s2, s3, s4, s5⟩ := hS
  rcases (show s.pl = 8 ∨ s.pl = 9 ∨ (s.pl ≠ 8 ∧ s.pl ≠ 9) by omega) with h | h | h
  · obtain rfl : R = true := by rw [hR]; unfold inQuotes; simp [h]
    have t8 : (s.pl == 8) = true := beq_iff_eq.2 (by omega)
    clear hR h
    go_enter Tryz.func78, Tryz.ntmps78
    go_wp2
    go_ret
    exact ⟨rfl, rfl⟩
  · obtain rfl : R = true := by rw [hR]; unfold inQuotes; simp [h]
    have t8 : (s.pl == 8) = false := beq_eq_false_iff_ne.2 (by omega)
    have t9 : (s.pl == 9) = true := beq_iff_eq.2 (by omega)
    clear hR h
    go_enter Tryz.func78, Tryz.ntmps78
    go_wp2
    go_ret
    exact ⟨rfl, rfl⟩
  · obtain rfl : R = false := by rw [hR]; unfold inQuotes; simp [h]
    have t8 : (s.pl == 8) = false := beq_eq_false_iff_ne.2 (by omega)
    have t9 : (s.pl == 9) = false := beq_eq_false_iff_ne.2 (by omega)
    clear hR h
    go_enter Tryz.func78, Tryz.ntmps78
    go_wp2
    go_ret
    exact ⟨rfl, rfl⟩
set_option maxRecDepth 100000 in
set_option maxHeartbeats 2000000 in
theorem cxHolds_calls (b : Nat) (s : Sx) (w : World) (hS : StAt b s w) : Calls Tryz.prog 115 #[.pointer (some ⟨b, 0, none⟩)] w fun e w' => e = .returned (.int .i64 (holdsK s)) ∧ w = w' := by
  obtain ⟨R, hR⟩ : ∃ R, R = holdsK s := ⟨_, rfl⟩
  rw [← hR]
  have hE := Lib.hid (fun W => tkElem_calls s.held W)
  obtain ⟨s0, s1, s2, s3, s4, s5⟩ := hS
  rcases (show s.pl < 19 ∨ 22 < s.pl ∨ (19 ≤ s.pl ∧ s.pl ≤ 22) by omega) with h | h | h
  · obtain rfl : R = 0 := by rw [hR]; unfold holdsK; rw [if_pos (.inl h)]
    have g1 : decide (s.pl < 19) = true := decide_eq_true (by omega)
    clear hR h
    go_enter Tryz.func115, Tryz.ntmps115
    go_wp2
    go_ret
    exact ⟨rfl, rfl⟩
  · obtain rfl : R = 0 := by rw [hR]; unfold holdsK; rw [if_pos (.inr h)]
    have g1 : decide (s.pl < 19) = false := decide_eq_false (by omega)
    have g2 : decide ((22 : Int) < s.pl) = true := decide_eq_true (by omega)
    clear hR h
    go_enter Tryz.func115, Tryz.ntmps115
    go_wp2
    go_ret
    exact ⟨rfl, rfl⟩
  · obtain rfl : R = elemK s.held := by rw [hR]; unfold holdsK; rw [if_neg (by omega)]
    have g1 : decide (s.pl < 19) = false := decide_eq_false (by omega)
    have g2 : decide ((22 : Int) < s.pl) = false := decide_eq_false (by omega)
    clear hR h
    go_enter Tryz.func115, Tryz.ntmps115
    go_wp2_with (go_at_call 176; refine (hE.out _).mono ?_; rintro e w1 ⟨rfl, rfl⟩)
    go_ret
    exact ⟨rfl, rfl⟩
theorem same_at {P : Program} {f : Nat} {args : Array Value} {v : Value} {w : World} (h : Calls P f args w fun e w' => e = .returned v ∧ w = w') : Calls P f args w fun e w' => e = .returned v ∧ w' = w := h.mono fun _ _ ⟨he, hw⟩ => ⟨he, hw.symm⟩
set_option maxRecDepth 100000 in
set_option maxHeartbeats 2000000 in
theorem cxCoded_calls (b : Nat) (s : Sx) (w : World) (hS : StAt b s w) : Calls Tryz.prog 79 #[.pointer (some ⟨b, 0, none⟩)] w fun e w' => e = .returned (.bool (codedX s)) ∧ w = w' := by
  obtain ⟨R, hR⟩ : ∃ R, R = codedX s := ⟨_, rfl⟩
  rw [← hR]
  obtain ⟨k, hk⟩ : ∃ k, k = holdsK s := ⟨_, rfl⟩
  have hH := cxHolds_calls b s w hS
  rw [← hk] at hH
  have HH := Lib.hid hH
  clear hH
  have hR2 : R = (k == 3 || k == 4) := by rw [hR, hk]; rfl
  clear hR hk
  rcases (show k = 3 ∨ k = 4 ∨ (k ≠ 3 ∧ k ≠ 4) by omega) with h | h | h
  · obtain rfl : R = true := by rw [hR2]; simp [h]
    have t3 : ((k : Int) == 3) = true := beq_iff_eq.2 (by omega)
    clear hR2 h
    go_enter Tryz.func79, Tryz.ntmps79
    go_wp2_with (go_at_call 115; refine HH.out.mono ?_; rintro e w1 ⟨rfl, rfl⟩)
    go_ret
    exact ⟨rfl, rfl⟩
  · obtain rfl : R = true := by rw [hR2]; simp [h]
    have t3 : ((k : Int) == 3) = false := beq_eq_false_iff_ne.2 (by omega)
    have t4 : ((k : Int) == 4) = true := beq_iff_eq.2 (by omega)
    clear hR2 h
    go_enter Tryz.func79, Tryz.ntmps79
    go_wp2_with (go_at_call 115; refine HH.out.mono ?_; rintro e w1 ⟨rfl, rfl⟩)
    go_ret
    exact ⟨rfl, rfl⟩
  · obtain rfl : R = false := by rw [hR2]; simp [h]
    have t3 : ((k : Int) == 3) = false := beq_eq_false_iff_ne.2 (by omega)
    have t4 : ((k : Int) == 4) = false := beq_eq_false_iff_ne.2 (by omega)
    clear hR2 h
    go_enter Tryz.func79, Tryz.ntmps79
    go_wp2_with (go_at_call 115; refine HH.out.mono ?_; rintro e w1 ⟨rfl, rfl⟩)
    go_ret
    exact ⟨rfl, rfl⟩
set_option maxRecDepth 100000 in
set_option maxHeartbeats 2000000 in
theorem cxReferred_calls (b : Nat) (s : Sx) (w : World) (hS : StAt b s w) : Calls Tryz.prog 62 #[.pointer (some ⟨b, 0, none⟩)] w fun e w' => e = .returned (.bool (referredX s)) ∧ w = w' := by
  obtain ⟨R, hR⟩ : ∃ R, R = referredX s := ⟨_, rfl⟩
  rw [← hR]
  obtain ⟨k, hk⟩ : ∃ k, k = holdsK s := ⟨_, rfl⟩
  have hH := cxHolds_calls b s w hS
  rw [← hk] at hH
  have HH := Lib.hid hH
  obtain ⟨q, hq⟩ : ∃ q, q = inQuotes s := ⟨_, rfl⟩
  have hQ := cxQuoted_calls b s w hS
  rw [← hq] at hQ
  have hR2 : R = (s.pl == 0 || (k == 2 || q)) := by rw [hR, hk, hq]; rfl
  clear hR hk hq hH
  obtain ⟨s0, s1, s2, s3, s4, s5⟩ := hS
  by_cases h0 : s.pl = 0
  · obtain rfl : R = true := by rw [hR2]; simp [h0]
    have t0 : (s.pl == 0) = true := beq_iff_eq.2 (by omega)
    clear hR2 h0 hQ
    go_enter Tryz.func62, Tryz.ntmps62
    go_wp2
    go_ret
    exact ⟨rfl, rfl⟩
  have t0 : (s.pl == 0) = false := beq_eq_false_iff_ne.2 (by omega)
  by_cases h2 : k = 2
  · obtain rfl : R = true := by rw [hR2]; simp [h2]
    have t2 : ((k : Int) == 2) = true := beq_iff_eq.2 (by omega)
    clear hR2 h0 h2 hQ
    go_enter Tryz.func62, Tryz.ntmps62
    go_wp2_with (go_at_call 115; refine HH.out.mono ?_; rintro e w1 ⟨rfl, rfl⟩)
    go_ret
    exact ⟨rfl, rfl⟩
  have t2 : ((k : Int) == 2) = false := beq_eq_false_iff_ne.2 (by omega)
  obtain rfl : R = q := by rw [hR2, beq_eq_false_iff_ne.2 h0, beq_eq_false_iff_ne.2 h2]; rfl
  have HQ := Lib.hid hQ
  clear hR2 h0 h2 hQ
  go_enter Tryz.func62, Tryz.ntmps62
  go_wp2_with (first | (go_at_call 115; refine HH.out.mono ?_; rintro e w1 ⟨rfl, rfl⟩) | (go_at_call 78; refine HQ.out.mono ?_; rintro e w1 ⟨rfl, rfl⟩))
  go_ret
  exact ⟨rfl, rfl⟩
set_option maxRecDepth 100000 in
set_option maxHeartbeats 2000000 in
theorem cxKind_calls (b : Nat) (s : Sx) (w : World) (hS : StAt b s w) : Calls Tryz.prog 61 #[.pointer (some ⟨b, 0, none⟩)] w fun e w' => e = .returned (.int .i64 (kindX s)) ∧ w = w' := by
  obtain ⟨R, hR⟩ : ∃ R, R = kindX s := ⟨_, rfl⟩
  rw [← hR]
  obtain ⟨k, hk⟩ : ∃ k, k = holdsK s := ⟨_, rfl⟩
  have hH := cxHolds_calls b s w hS
  rw [← hk] at hH
  have HH := Lib.hid hH
  obtain ⟨q, hq⟩ : ∃ q, q = inQuotes s := ⟨_, rfl⟩
  have hQ := cxQuoted_calls b s w hS
  rw [← hq] at hQ
  have hR2 : R = if (q && !s.fin) = true then attrK s.attr else if k = 3 then 2 else if k = 4 then 3 else 0 := by rw [hR, hk, hq]; rfl
  have HA := Lib.hid (fun W => tkAttr_calls s.attr W)
  clear hR hk hq hH
  obtain ⟨s0, s1, s2, s3, s4, s5⟩ := hS
  have go : (q && !s.fin) = false → Calls Tryz.prog 61 #[.pointer (some ⟨b, 0, none⟩)] w fun e w' => e = .returned (.int .i64 R) ∧ w = w' := fun hb => by
    rw [hb, if_neg (by decide)] at hR2
    rcases (show k = 3 ∨ k = 4 ∨ (k ≠ 3 ∧ k ≠ 4) by omega) with h | h | h
    · obtain rfl : R = 2 := by rw [hR2]; simp [h]
      have t3 : ((k : Int) == 3) = true := beq_iff_eq.2 (by omega)
      clear hR2 h
      cases q with
      | true =>
        have hf : s.fin = true := by simpa using hb
        rw [hf] at s2
        have HQ := Lib.hid hQ
        clear hQ hb hf
        go_enter Tryz.func61, Tryz.ntmps61
        go_wp2_with (first | (go_at_call 115; refine HH.out.mono ?_; rintro e w1 ⟨rfl, rfl⟩) | (go_at_call 78; refine HQ.out.mono ?_; rintro e w1 ⟨rfl, rfl⟩))
        go_ret
        exact ⟨rfl, rfl⟩
      | false =>
        have HQ := Lib.hid hQ
        clear hQ hb
        go_enter Tryz.func61, Tryz.ntmps61
        go_wp2_with (first | (go_at_call 115; refine HH.out.mono ?_; rintro e w1 ⟨rfl, rfl⟩) | (go_at_call 78; refine HQ.out.mono ?_; rintro e w1 ⟨rfl, rfl⟩))
        go_ret
        exact ⟨rfl, rfl⟩
    · obtain rfl : R = 3 := by rw [hR2]; simp [h]
      have t3 : ((k : Int) == 3) = false := beq_eq_false_iff_ne.2 (by omega)
      have t4 : ((k : Int) == 4) = true := beq_iff_eq.2 (by omega)
      clear hR2 h
      cases q with
      | true =>
        have hf : s.fin = true := by simpa using hb
        rw [hf] at s2
        have HQ := Lib.hid hQ
        clear hQ hb hf
        go_enter Tryz.func61, Tryz.ntmps61
        go_wp2_with (first | (go_at_call 115; refine HH.out.mono ?_; rintro e w1 ⟨rfl, rfl⟩) | (go_at_call 78; refine HQ.out.mono ?_; rintro e w1 ⟨rfl, rfl⟩))
        go_ret
        exact ⟨rfl, rfl⟩
      | false =>
        have HQ := Lib.hid hQ
        clear hQ hb
        go_enter Tryz.func61, Tryz.ntmps61
        go_wp2_with (first | (go_at_call 115; refine HH.out.mono ?_; rintro e w1 ⟨rfl, rfl⟩) | (go_at_call 78; refine HQ.out.mono ?_; rintro e w1 ⟨rfl, rfl⟩))
        go_ret
        exact ⟨rfl, rfl⟩
    · obtain rfl : R = 0 := by rw [hR2]; simp [h]
      have t3 : ((k : Int) == 3) = false := beq_eq_false_iff_ne.2 (by omega)
      have t4 : ((k : Int) == 4) = false := beq_eq_false_iff_ne.2 (by omega)
      clear hR2 h
      cases q with
      | true =>
        have hf : s.fin = true := by simpa using hb
        rw [hf] at s2
        have HQ := Lib.hid hQ
        clear hQ hb hf
        go_enter Tryz.func61, Tryz.ntmps61
        go_wp2_with (first | (go_at_call 115; refine HH.out.mono ?_; rintro e w1 ⟨rfl, rfl⟩) | (go_at_call 78; refine HQ.out.mono ?_; rintro e w1 ⟨rfl, rfl⟩))
        go_ret
        exact ⟨rfl, rfl⟩
      | false =>
        have HQ := Lib.hid hQ
        clear hQ hb
        go_enter Tryz.func61, Tryz.ntmps61
        go_wp2_with (first | (go_at_call 115; refine HH.out.mono ?_; rintro e w1 ⟨rfl, rfl⟩) | (go_at_call 78; refine HQ.out.mono ?_; rintro e w1 ⟨rfl, rfl⟩))
        go_ret
        exact ⟨rfl, rfl⟩
  cases hqf : (q && !s.fin) with
  | false => exact go hqf
  | true =>
    clear go
    obtain rfl : R = attrK s.attr := by rw [hR2, hqf, if_pos rfl]
    rw [Bool.and_eq_true] at hqf
    obtain ⟨rfl, hf⟩ := hqf
    have hf : s.fin = false := by simpa using hf
    rw [hf] at s2
    have HQ := Lib.hid hQ
    clear hQ hf hR2
    go_enter Tryz.func61, Tryz.ntmps61
    go_wp2_with (first | (go_at_call 78; refine HQ.out.mono ?_; rintro e w1 ⟨rfl, rfl⟩) | (go_at_call 116; refine (HA.out _).mono ?_; rintro e w1 ⟨rfl, rfl⟩))
    go_ret
    exact ⟨rfl, rfl⟩
set_option maxRecDepth 100000 in
set_option maxHeartbeats 2000000 in
theorem cxZone_calls (b : Nat) (s : Sx) (w : World) (hS : StAt b s w) : Calls Tryz.prog 63 #[.pointer (some ⟨b, 0, none⟩)] w fun e w' => e = .returned (.int .i64 (zoneX s)) ∧ w = w' := by
  obtain ⟨R, hR⟩ : ∃ R, R = zoneX s := ⟨_, rfl⟩
  rw [← hR]
  obtain ⟨q, hq⟩ : ∃ q, q = inQuotes s := ⟨_, rfl⟩
  have hQ := cxQuoted_calls b s w hS
  rw [← hq] at hQ
  obtain ⟨k, hk⟩ : ∃ k, k = codedX s := ⟨_, rfl⟩
  have hC := cxCoded_calls b s w hS
  rw [← hk] at hC
  have hR2 : R = if q = true then 1 else if k = true then 2 else 0 := by rw [hR, hk, hq]; rfl
  clear hR hk hq
  cases q with
  | true =>
    obtain rfl : R = 1 := hR2
    have HQ := Lib.hid hQ
    clear hQ hC
    go_enter Tryz.func63, Tryz.ntmps63
    go_wp2_with (go_at_call 78; refine HQ.out.mono ?_; rintro e w1 ⟨rfl, rfl⟩)
    go_ret
    exact ⟨rfl, rfl⟩
  | false =>
  have HQ := Lib.hid hQ
  have HC := Lib.hid hC
  clear hQ hC
  cases k with
  | true =>
    obtain rfl : R = 2 := hR2
    go_enter Tryz.func63, Tryz.ntmps63
    go_wp2_with (first | (go_at_call 78; refine HQ.out.mono ?_; rintro e w1 ⟨rfl, rfl⟩) | (go_at_call 79; refine HC.out.mono ?_; rintro e w1 ⟨rfl, rfl⟩))
    go_ret
    exact ⟨rfl, rfl⟩
  | false =>
    obtain rfl : R = 0 := hR2
    go_enter Tryz.func63, Tryz.ntmps63
    go_wp2_with (first | (go_at_call 78; refine HQ.out.mono ?_; rintro e w1 ⟨rfl, rfl⟩) | (go_at_call 79; refine HC.out.mono ?_; rintro e w1 ⟨rfl, rfl⟩))
    go_ret
    exact ⟨rfl, rfl⟩
end Go.Proofs.YtafkfamfhagokaaGreatDoor.S
