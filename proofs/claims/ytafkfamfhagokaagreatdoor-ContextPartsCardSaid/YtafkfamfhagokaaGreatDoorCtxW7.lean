/-
  THE WALKS of package ctx (contexts): Hole.
-/
import Derived.Test.YtafkfamfhagokaaGreatDoorCtxW6
set_option linter.unusedVariables false
set_option linter.unusedSimpArgs false
namespace Go.Proofs.YtafkfamfhagokaaGreatDoor.S
open Go.RowKit

def LnPost (R : Except Nat Nat) (w : World) (e : Ending) (w' : World) : Prop := (∀ x, R = .ok x → e = .returned (.tuple #[.int .i64 x, .int .i64 0])) ∧ (∀ k, R = .error k → e = .returned (.tuple #[.int .i64 0, .int .i64 k])) ∧ w = w'
theorem LnPost.ok {x : Nat} {w : World} : LnPost (.ok x) w (.returned (.tuple #[.int .i64 x, .int .i64 0])) w := ⟨(fun x' h => by cases h; rfl), (fun k h => by cases h), rfl⟩
theorem LnPost.no {k : Nat} {w : World} : LnPost (.error k) w (.returned (.tuple #[.int .i64 0, .int .i64 k])) w := ⟨(fun x' h => by cases h), (fun k' h => by cases h; rfl), rfl⟩
def PlPost (R : Except Nat (Nat × Cx)) (g : Nat) (w : World) (e : Ending) (w' : World) : Prop := (∀ x d, R = .ok (x, d) → e = .returned (.tuple #[.int .i64 x, .int .i64 0]) ∧ Blk g 25 (cxCells d) w') ∧ (∀ k, R = .error k → e = .returned (.tuple #[.int .i64 0, .int .i64 k])) ∧ w.grownBy w' (some g)
theorem PlPost.ok {x : Nat} {d : Cx} {R : Except Nat (Nat × Cx)} {g : Nat} {w w' : World} (h : R = .ok (x, d)) (hB : Blk g 25 (cxCells d) w') (hg : w.grownBy w' (some g)) : PlPost R g w (.returned (.tuple #[.int .i64 x, .int .i64 0])) w' := ⟨(fun x' d' h' => by rw [h] at h'; cases h'; exact ⟨rfl, hB⟩), (fun k h' => by rw [h] at h'; cases h'), hg⟩
theorem PlPost.no {k : Nat} {R : Except Nat (Nat × Cx)} {g : Nat} {w w' : World} (h : R = .error k) (hg : w.grownBy w' (some g)) : PlPost R g w (.returned (.tuple #[.int .i64 0, .int .i64 k])) w' := ⟨(fun x' d' h' => by rw [h] at h'; cases h'), (fun k' h' => by rw [h] at h'; cases h'; rfl), hg⟩
set_option maxRecDepth 100000 in
set_option maxHeartbeats 2000000 in
theorem cxInLang_calls (g : Nat) (c : Cx) (a b d : Nat) (w : World) (hB : Blk g 25 (cxCells c) w) : Calls Tryz.prog 80 #[.pointer (some ⟨g, 0, none⟩), .int .i64 a, .int .i64 b, .int .i64 d] w (LnPost (inLangX c a b d) w) := by
  obtain ⟨R, hR⟩ : ∃ R, R = inLangX c a b d := ⟨_, rfl⟩
  rw [← hR]
  have c7 := hB.cell 7 _ rfl
  have c9 := hB.cell 9 _ rfl
  clear hB
  by_cases h0 : c.lang = 0
  · have t0 : (c.lang == 0) = true := beq_iff_eq.2 h0
    by_cases h3 : c.kd = 3
    · have t3 : (c.kd == 3) = true := beq_iff_eq.2 h3
      obtain rfl : R = .ok d := by rw [hR]; unfold inLangX; rw [if_pos ⟨h0, h3⟩]
      clear hR h0 h3
      go_enter Tryz.func80, Tryz.ntmps80
      go_wp2
      go_ret2
      exact LnPost.ok
    · have t3 : (c.kd == 3) = false := beq_eq_false_iff_ne.2 h3
      obtain rfl : R = .ok a := by rw [hR]; unfold inLangX; rw [if_neg (fun h => h3 h.2), if_pos h0]
      clear hR h0 h3
      go_enter Tryz.func80, Tryz.ntmps80
      go_wp2
      go_ret2
      exact LnPost.ok
  have t0 : (c.lang == 0) = false := beq_eq_false_iff_ne.2 h0
  by_cases h2 : c.kd = 2
  · have t2 : (c.kd == 2) = true := beq_iff_eq.2 h2
    by_cases h1 : c.lang = 1
    · have t1 : (c.lang == 1) = true := beq_iff_eq.2 h1
      obtain rfl : R = .ok b := by rw [hR]; unfold inLangX; rw [if_neg (fun h => h0 h.1), if_neg h0, if_pos ⟨h2, .inl h1⟩]
      clear hR h0 h1 h2
      go_enter Tryz.func80, Tryz.ntmps80
      go_wp2
      go_ret2
      exact LnPost.ok
    have t1 : (c.lang == 1) = false := beq_eq_false_iff_ne.2 h1
    by_cases h4 : c.lang = 2
    · have t4 : (c.lang == 2) = true := beq_iff_eq.2 h4
      obtain rfl : R = .ok b := by rw [hR]; unfold inLangX; rw [if_neg (fun h => h0 h.1), if_neg h0, if_pos ⟨h2, .inr h4⟩]
      clear hR h0 h1 h2 h4
      go_enter Tryz.func80, Tryz.ntmps80
      go_wp2
      go_ret2
      exact LnPost.ok
    · have t4 : (c.lang == 2) = false := beq_eq_false_iff_ne.2 h4
      obtain rfl : R = .error 2004 := by rw [hR]; unfold inLangX; rw [if_neg (fun h => h0 h.1), if_neg h0, if_neg (fun h => h.2.elim h1 h4)]
      clear hR h0 h1 h2 h4
      go_enter Tryz.func80, Tryz.ntmps80
      go_wp2
      go_ret2
      exact LnPost.no
  · have t2 : (c.kd == 2) = false := beq_eq_false_iff_ne.2 h2
    obtain rfl : R = .error 2004 := by rw [hR]; unfold inLangX; rw [if_neg (fun h => h0 h.1), if_neg h0, if_neg (fun h => h2 h.1)]
    clear hR h0 h2
    go_enter Tryz.func80, Tryz.ntmps80
    go_wp2
    go_ret2
    exact LnPost.no
def urlR (c : Cx) : Except Nat (Nat × Cx) := if c.url = 1 then .error 2003 else if c.url = 0 then .ok (1, ⟨c.st, c.ref, c.kd, 2, c.lang⟩) else .ok (2, c)
set_option maxRecDepth 100000 in
set_option maxHeartbeats 2000000 in
theorem cxInUrl_calls (g : Nat) (c : Cx) (w : World) (hB : Blk g 25 (cxCells c) w) : Calls Tryz.prog 81 #[.pointer (some ⟨g, 0, none⟩)] w (PlPost (urlR c) g w) := by
  have c8 := hB.cell 8 _ rfl
  have f8 := hB.free 8
  by_cases h1 : c.url = 1
  · have HR := Lib.hid (show urlR c = .error 2003 by unfold urlR; rw [if_pos h1])
    have t1 : (c.url == 1) = true := beq_iff_eq.2 h1
    clear h1
    go_enter Tryz.func81, Tryz.ntmps81
    go_wp2
    go_ret2
    exact PlPost.no HR.out (World.grownBy.refl _ _)
  have t1 : (c.url == 1) = false := beq_eq_false_iff_ne.2 h1
  by_cases h0 : c.url = 0
  · have HR := Lib.hid (show urlR c = .ok (1, ⟨c.st, c.ref, c.kd, 2, c.lang⟩) by unfold urlR; rw [if_neg h1, if_pos h0])
    have t0 : (c.url == 0) = true := beq_iff_eq.2 h0
    clear h1 h0
    go_enter Tryz.func81, Tryz.ntmps81
    go_wp2
    go_ret2
    exact PlPost.ok HR.out (hB.set 8 (.int .i64 2)) (grownBy_set w g 8 _)
  · have HR := Lib.hid (show urlR c = .ok (2, c) by unfold urlR; rw [if_neg h1, if_neg h0])
    have t0 : (c.url == 0) = false := beq_eq_false_iff_ne.2 h0
    clear h1 h0
    go_enter Tryz.func81, Tryz.ntmps81
    go_wp2
    go_ret2
    exact PlPost.ok HR.out hB (World.grownBy.refl _ _)
set_option maxRecDepth 100000 in
set_option maxHeartbeats 8000000 in
theorem cxPlace_calls (g : Nat) (c : Cx) (w : World) (hB : Blk g 25 (cxCells c) w) : Calls Tryz.prog 32 #[.pointer (some ⟨g, 0, none⟩)] w (PlPost (placeC c) g w) := by
  have c0 := hB.cell 0 _ rfl
  have c6 := hB.cell 6 _ rfl
  have c7 := hB.cell 7 _ rfl
  have hQ := cxQuoted_calls g c.st w (cx_st hB)
  have hC := cxCoded_calls g c.st w (cx_st hB)
  have hL1 := cxInLang_calls g c 3 4 5 w hB
  have hL2 := cxInLang_calls g c 6 7 8 w hB
  have hU := cxInUrl_calls g c w hB
  obtain ⟨R, hR⟩ : ∃ R, R = placeC c := ⟨_, rfl⟩
  rw [← hR]
  obtain ⟨q, hq⟩ : ∃ q, q = inQuotes c.st := ⟨_, rfl⟩
  obtain ⟨cd, hcd⟩ : ∃ cd, cd = codedX c.st := ⟨_, rfl⟩
  rw [← hq] at hQ
  rw [← hcd] at hC
  have hR2 : R = if (c.st.pl == 0 || c.st.pl == 19 || q) = false then .error 2001 else if cd = true then (inLangX c 3 4 5).map fun e => (e, c) else if c.ref = true then .error 2002 else if c.kd = 1 then urlR c else if c.kd = 0 then .ok (0, c) else (inLangX c 6 7 8).map fun e => (e, c) := by rw [hR, hq, hcd]; rfl
  generalize inLangX c 3 4 5 = r1 at *
  generalize inLangX c 6 7 8 = r2 at *
  generalize urlR c = r3 at *
  have HQ := Lib.hid hQ
  have HC := Lib.hid hC
  have HL1 := Lib.hid hL1
  have HL2 := Lib.hid hL2
  have HU := Lib.hid hU
  have HR2 := Lib.hid hR2
  clear hQ hC hL1 hL2 hU hR hR2 hq hcd
  go_enter Tryz.func32, Tryz.ntmps32
  go_upto_region 2 with (fail)
  obtain ⟨op, hop⟩ : ∃ op, op = (c.st.pl == 0 || c.st.pl == 19 || q) := ⟨_, rfl⟩
  go_cut [4, 5] (fun v4 v5 wx => v4 = .pointer (some ⟨g, 0, none⟩) ∧ v5 = .bool op ∧ w = wx)
  case first =>
    clear HR2
    by_cases h0 : c.st.pl = 0
    · obtain rfl : op = true := by rw [hop]; simp [h0]
      have t0 : (c.st.pl == 0) = true := beq_iff_eq.2 h0
      clear hop h0
      go_wp2_with fail
      go_meet
      exact ⟨rfl, rfl, rfl⟩
    have t0 : (c.st.pl == 0) = false := beq_eq_false_iff_ne.2 h0
    by_cases h1 : c.st.pl = 19
    · obtain rfl : op = true := by rw [hop]; simp [h1]
      have t1 : (c.st.pl == 19) = true := beq_iff_eq.2 h1
      clear hop h0 h1
      go_wp2_with fail
      go_meet
      exact ⟨rfl, rfl, rfl⟩
    · obtain rfl : op = q := by rw [hop, t0, beq_eq_false_iff_ne.2 h1]; rfl
      have t1 : (c.st.pl == 19) = false := beq_eq_false_iff_ne.2 h1
      clear hop h0 h1
      go_wp2_with (go_at_call 78; refine HQ.out.mono ?_; rintro e w1 ⟨rfl, rfl⟩)
      go_meet
      exact ⟨rfl, rfl, rfl⟩
  case rest =>
  obtain ⟨rfl, rfl, rfl⟩ := hcut
  have hR3 := HR2.out
  rw [← hop] at hR3
  have HR3 := Lib.hid hR3
  clear hR3 HR2 hop HQ c0
  cases op with
  | false =>
    have HE := Lib.hid (show R = .error 2001 by rw [HR3.out]; rfl)
    clear HR3
    go_wp2
    go_ret2
    exact PlPost.no HE.out (World.grownBy.refl _ _)
  | true =>
  cases cd with
  | true =>
    have HE := Lib.hid (show R = r1.map fun e => (e, c) by rw [HR3.out]; rfl)
    clear HR3
    cases r1 with
    | error k =>
      have HE2 := Lib.hid (show R = .error k from HE.out)
      clear HE
      go_wp2_with (first | (go_at_call 79; refine HC.out.mono ?_; rintro e w1 ⟨rfl, rfl⟩) | (go_at_call 80; refine HL1.out.mono ?_; rintro e w1 ⟨hy, hn, hw1⟩; obtain rfl := hn k rfl; obtain rfl := hw1))
      go_ret2
      exact PlPost.no HE2.out (World.grownBy.refl _ _)
    | ok x =>
      have HE2 := Lib.hid (show R = .ok (x, c) from HE.out)
      clear HE
      go_wp2_with (first | (go_at_call 79; refine HC.out.mono ?_; rintro e w1 ⟨rfl, rfl⟩) | (go_at_call 80; refine HL1.out.mono ?_; rintro e w1 ⟨hy, hn, hw1⟩; obtain rfl := hy x rfl; obtain rfl := hw1))
      go_ret2
      exact PlPost.ok HE2.out hB (World.grownBy.refl _ _)
  | false =>
  cases hr : c.ref with
  | true =>
    rw [hr] at c6
    have HE := Lib.hid (show R = .error 2002 by rw [HR3.out, if_neg (by decide), if_neg (by decide), if_pos hr])
    clear HR3 hr
    go_wp2_with (go_at_call 79; refine HC.out.mono ?_; rintro e w1 ⟨rfl, rfl⟩)
    go_ret2
    exact PlPost.no HE.out (World.grownBy.refl _ _)
  | false =>
  rw [hr] at c6
  have HR4 := Lib.hid (show R = if c.kd = 1 then r3 else if c.kd = 0 then .ok (0, c) else r2.map fun e => (e, c) by rw [HR3.out, if_neg (by decide), if_neg (by decide), if_neg (by rw [hr]; decide)])
  clear HR3 hr
  by_cases h1 : c.kd = 1
  · have HE := Lib.hid (show R = r3 by rw [HR4.out, if_pos h1])
    have t1 : (c.kd == 1) = true := beq_iff_eq.2 h1
    clear HR4 h1
    cases r3 with
    | error k =>
      have HE2 := Lib.hid (show R = .error k from HE.out)
      clear HE
      go_wp2_with (first | (go_at_call 79; refine HC.out.mono ?_; rintro e w1 ⟨rfl, rfl⟩) | (go_at_call 81; refine HU.out.mono ?_; rintro e w1 ⟨hy, hn, hg1⟩; obtain rfl := hn k rfl))
      go_ret2
      exact PlPost.no HE2.out hg1
    | ok x =>
      obtain ⟨x, d⟩ := x
      have HE2 := Lib.hid (show R = .ok (x, d) from HE.out)
      clear HE
      go_wp2_with (first | (go_at_call 79; refine HC.out.mono ?_; rintro e w1 ⟨rfl, rfl⟩) | (go_at_call 81; refine HU.out.mono ?_; rintro e w1 ⟨hy, hn, hg1⟩; obtain ⟨rfl, hB1⟩ := hy x d rfl))
      go_ret2
      exact PlPost.ok HE2.out hB1 hg1
  have t1 : (c.kd == 1) = false := beq_eq_false_iff_ne.2 h1
  by_cases h0 : c.kd = 0
  · have HE := Lib.hid (show R = .ok (0, c) by rw [HR4.out, if_neg h1, if_pos h0])
    have t0 : (c.kd == 0) = true := beq_iff_eq.2 h0
    clear HR4 h1 h0
    go_wp2_with (go_at_call 79; refine HC.out.mono ?_; rintro e w1 ⟨rfl, rfl⟩)
    go_ret2
    exact PlPost.ok HE.out hB (World.grownBy.refl _ _)
  have t0 : (c.kd == 0) = false := beq_eq_false_iff_ne.2 h0
  have HE := Lib.hid (show R = r2.map fun e => (e, c) by rw [HR4.out, if_neg h1, if_neg h0])
  clear HR4 h1 h0
  cases r2 with
  | error k =>
    have HE2 := Lib.hid (show R = .error k from HE.out)
    clear HE
    go_wp2_with (first | (go_at_call 79; refine HC.out.mono ?_; rintro e w1 ⟨rfl, rfl⟩) | (go_at_call 80; refine HL2.out.mono ?_; rintro e w1 ⟨hy, hn, hw1⟩; obtain rfl := hn k rfl; obtain rfl := hw1))
    go_ret2
    exact PlPost.no HE2.out (World.grownBy.refl _ _)
  | ok x =>
    have HE2 := Lib.hid (show R = .ok (x, c) from HE.out)
    clear HE
    go_wp2_with (first | (go_at_call 79; refine HC.out.mono ?_; rintro e w1 ⟨rfl, rfl⟩) | (go_at_call 80; refine HL2.out.mono ?_; rintro e w1 ⟨hy, hn, hw1⟩; obtain rfl := hy x rfl; obtain rfl := hw1))
    go_ret2
    exact PlPost.ok HE2.out hB (World.grownBy.refl _ _)
def HlPost (R : Except Nat (Nat × Cx)) (w : World) (e : Ending) (w' : World) : Prop :=
  (∀ x d, R = .ok (x, d) → e = .returned (.tuple #[.int .i64 x, cxV d, .int .i64 0])) ∧ (∀ k, R = .error k → e = .returned (.tuple #[.int .i64 0, cxV cx0, .int .i64 k])) ∧ Below w.heap.size w w'
theorem HlPost.ok {x : Nat} {d : Cx} {R : Except Nat (Nat × Cx)} {w w' : World} (h : R = .ok (x, d)) (hg : Below w.heap.size w w') : HlPost R w (.returned (.tuple #[.int .i64 x, cxV d, .int .i64 0])) w' := ⟨(fun x' d' h' => by rw [h] at h'; cases h'; rfl), (fun k h' => by rw [h] at h'; cases h'), hg⟩
theorem HlPost.no {k : Nat} {R : Except Nat (Nat × Cx)} {w w' : World} (h : R = .error k) (hg : Below w.heap.size w w') : HlPost R w (.returned (.tuple #[.int .i64 0, cxV cx0, .int .i64 k])) w' := ⟨(fun x' d' h' => by rw [h] at h'; cases h'), (fun k' h' => by rw [h] at h'; cases h'; rfl), hg⟩
theorem place_err {c : Cx} {k : Nat} (h : placeC c = .error k) : k ≠ 0 := by
  unfold placeC inLangX at h
  repeat' split at h
  all_goals first | (change Except.error _ = Except.error _ at h; cases h; decide) | (change Except.ok _ = Except.error _ at h; cases h)
set_option maxRecDepth 100000 in
set_option maxHeartbeats 8000000 in
theorem cxHole_calls (c : Cx) (w : World) (hMY : MayOk c) : Calls Tryz.prog 15 #[cxV c] w (HlPost (holeC c) w) := by
  obtain ⟨R, hR⟩ : ∃ R, R = holeC c := ⟨_, rfl⟩
  rw [← hR]
  have HR := Lib.hid hR
  clear hR
  go_enter Tryz.func15, Tryz.ntmps15
  go_upto_region 1 with (fail)
  refine wp_at_world ?_
  intro w0 hw0
  obtain ⟨hC0, hB0, hb0⟩ : Blk w.heap.size 25 (cxCells c) w0 ∧ Blk (w.heap.size + 1) 25 cxZ w0 ∧ Below w.heap.size w w0 := by rw [hw0]; exact boxed3 w c
  have hz0 : w.heap.size ≤ w0.heap.size := hb0.size
  have hn1 : w.heap.size + 1 ≠ w.heap.size := by omega
  have hn2 : w.heap.size ≠ w.heap.size + 1 := by omega
  clear hw0
  have hM := hMY w.heap.size w0 hC0
  cases hm : mayX c with
  | false =>
    rw [hm] at hM
    have HMY := Lib.hid hM
    have HR1 := Lib.hid (show R = .error 2000 by rw [HR.out]; unfold holeC; rw [if_neg (by rw [hm]; decide)])
    clear hM hm HR
    go_wp2_with (go_at_call 28; refine HMY.out.mono ?_; rintro e w1 ⟨rfl, hb1⟩; have hB1 := hB0.below hb1; have d0 := hB1.cell 0 _ rfl; have f0 := hB1.free 0; have d1 := hB1.cell 1 _ rfl; have f1 := hB1.free 1; have d2 := hB1.cell 2 _ rfl; have f2 := hB1.free 2; have d3 := hB1.cell 3 _ rfl; have f3 := hB1.free 3; have d4 := hB1.cell 4 _ rfl; have f4 := hB1.free 4; have d5 := hB1.cell 5 _ rfl; have f5 := hB1.free 5; have d6 := hB1.cell 6 _ rfl; have f6 := hB1.free 6; have d7 := hB1.cell 7 _ rfl; have f7 := hB1.free 7; have d8 := hB1.cell 8 _ rfl; have f8 := hB1.free 8; have d9 := hB1.cell 9 _ rfl; have f9 := hB1.free 9)
    exact bodyPost_ret (v := .tuple #[.int .i64 0, cxV cx0, .int .i64 2000]) (by simp [results, Tryz.results15, go_sem, cx0, atX, d0, d1, d2, d3, d4, d5, d6, d7, d8, d9]) rfl (HlPost.no HR1.out (below10 (hb0.trans (hb1.mono hz0)) (Nat.le_succ _) _ _ _ _ _ _ _ _ _ _))
  | true =>
  rw [hm] at hM
  have HMY := Lib.hid hM
  have HR1 := Lib.hid (show R = placeC c by rw [HR.out]; unfold holeC; rw [if_pos hm])
  clear hM hm HR hMY
  go_upto_region 3 with (go_at_call 28; refine HMY.out.mono ?_; rintro e w1 ⟨rfl, hb1⟩)
  have hC1 := hC0.below hb1
  have hB1 := hB0.below hb1
  have hbw := hb0.trans (hb1.mono hz0)
  clear hC0 hB0 hb0 hb1 hz0 HMY
  have hP := cxPlace_calls w.heap.size c w1 hC1
  have her : ∀ k, placeC c = .error k → k ≠ 0 := fun k h => place_err h
  have hRp := HR1.out
  generalize placeC c = rp at *
  have HP := Lib.hid hP
  have HER := Lib.hid her
  have HRP := Lib.hid hRp
  clear hP her hRp HR1 hC1
  cases rp with
  | error k =>
    have hk0 := HER.out k rfl
    have tk : ((k : Int) != 0) = true := bne_iff_ne.2 (by omega)
    clear hk0 HER
    go_wp2_with (go_at_call 32; refine HP.out.mono ?_; rintro e w2 ⟨hy, hn, hg2⟩; obtain rfl := hn k rfl; have hB2 := hB1.grown hg2 (fun e => hn1 (Option.some.inj e)); have d0 := hB2.cell 0 _ rfl; have f0 := hB2.free 0; have d1 := hB2.cell 1 _ rfl; have f1 := hB2.free 1; have d2 := hB2.cell 2 _ rfl; have f2 := hB2.free 2; have d3 := hB2.cell 3 _ rfl; have f3 := hB2.free 3; have d4 := hB2.cell 4 _ rfl; have f4 := hB2.free 4; have d5 := hB2.cell 5 _ rfl; have f5 := hB2.free 5; have d6 := hB2.cell 6 _ rfl; have f6 := hB2.free 6; have d7 := hB2.cell 7 _ rfl; have f7 := hB2.free 7; have d8 := hB2.cell 8 _ rfl; have f8 := hB2.free 8; have d9 := hB2.cell 9 _ rfl; have f9 := hB2.free 9; clear hy hn)
    exact bodyPost_ret (v := .tuple #[.int .i64 0, cxV cx0, .int .i64 k]) (by simp [results, Tryz.results15, go_sem, cx0, atX, d0, d1, d2, d3, d4, d5, d6, d7, d8, d9]) rfl (HlPost.no HRP.out (below10 (hbw.grown hg2 hbw.size (fun k hk => by cases hk; exact Nat.le_refl _)) (Nat.le_succ _) _ _ _ _ _ _ _ _ _ _))
  | ok x =>
    obtain ⟨x, d⟩ := x
    clear HER
    go_upto_region 6 with (go_at_call 32; refine HP.out.mono ?_; rintro e w2 ⟨hy, hn, hg2⟩; obtain ⟨rfl, hC2⟩ := hy x d rfl; have hB2 := hB1.grown hg2 (fun e => hn1 (Option.some.inj e)); clear hy hn)
    have hb2 := hbw.grown hg2 hbw.size (fun k hk => by cases hk; exact Nat.le_refl _)
    have c0 := hC2.cell 0 _ rfl
    have c1 := hC2.cell 1 _ rfl
    have c2 := hC2.cell 2 _ rfl
    have c3 := hC2.cell 3 _ rfl
    have c4 := hC2.cell 4 _ rfl
    have c5 := hC2.cell 5 _ rfl
    have c6 := hC2.cell 6 _ rfl
    have c7 := hC2.cell 7 _ rfl
    have c8 := hC2.cell 8 _ rfl
    have c9 := hC2.cell 9 _ rfl
    have d0 := hB2.cell 0 _ rfl
    have f0 := hB2.free 0
    have d1 := hB2.cell 1 _ rfl
    have f1 := hB2.free 1
    have d2 := hB2.cell 2 _ rfl
    have f2 := hB2.free 2
    have d3 := hB2.cell 3 _ rfl
    have f3 := hB2.free 3
    have d4 := hB2.cell 4 _ rfl
    have f4 := hB2.free 4
    have d5 := hB2.cell 5 _ rfl
    have f5 := hB2.free 5
    have d6 := hB2.cell 6 _ rfl
    have f6 := hB2.free 6
    have d7 := hB2.cell 7 _ rfl
    have f7 := hB2.free 7
    have d8 := hB2.cell 8 _ rfl
    have f8 := hB2.free 8
    have d9 := hB2.cell 9 _ rfl
    have f9 := hB2.free 9
    go_region
    go_wp2
    exact bodyPost_ret (v := .tuple #[.int .i64 x, cxV d, .int .i64 0]) (by simp [results, Tryz.results15, go_sem, d0, d1, d2, d3, d4, d5, d6, d7, d8, d9]) rfl (HlPost.ok HRP.out (below10 hb2 (Nat.le_succ _) _ _ _ _ _ _ _ _ _ _).drew)
set_option maxRecDepth 100000 in
set_option maxHeartbeats 2000000 in
theorem cxStart_calls (w : World) : Calls Tryz.prog 20 #[] w fun e w' => e = .returned (cxV cx0) ∧ Below w.heap.size w w' := by
  go_enter Tryz.func20, Tryz.ntmps20
  go_upto_region 1 with (fail)
  have hB0 := Blk.new w cxZ 25
  change Blk w.heap.size _ _ (w.alloc (.cells #[.int .i64 0, .string ⟨#[]⟩, .bool false, .string ⟨#[]⟩, .string ⟨#[]⟩, .int .i64 0, .bool false, .int .i64 0, .int .i64 0, .int .i64 0] 25)) at hB0
  have hb0 := (Below.refl w.heap.size w).alloc (Nat.le_refl _) (.cells #[.int .i64 0, .string ⟨#[]⟩, .bool false, .string ⟨#[]⟩, .string ⟨#[]⟩, .int .i64 0, .bool false, .int .i64 0, .int .i64 0, .int .i64 0] 25)
  generalize w.alloc (.cells #[.int .i64 0, .string ⟨#[]⟩, .bool false, .string ⟨#[]⟩, .string ⟨#[]⟩, .int .i64 0, .bool false, .int .i64 0, .int .i64 0, .int .i64 0] 25) = w0 at *
  have d0 := hB0.cell 0 _ rfl
  have f0 := hB0.free 0
  have d1 := hB0.cell 1 _ rfl
  have f1 := hB0.free 1
  have d2 := hB0.cell 2 _ rfl
  have f2 := hB0.free 2
  have d3 := hB0.cell 3 _ rfl
  have f3 := hB0.free 3
  have d4 := hB0.cell 4 _ rfl
  have f4 := hB0.free 4
  have d5 := hB0.cell 5 _ rfl
  have f5 := hB0.free 5
  have d6 := hB0.cell 6 _ rfl
  have f6 := hB0.free 6
  have d7 := hB0.cell 7 _ rfl
  have f7 := hB0.free 7
  have d8 := hB0.cell 8 _ rfl
  have f8 := hB0.free 8
  have d9 := hB0.cell 9 _ rfl
  have f9 := hB0.free 9
  go_wp2
  exact bodyPost_ret (v := cxV cx0) (by simp [results, Tryz.results20, go_sem, cx0, atX, d0, d1, d2, d3, d4, d5, d6, d7, d8, d9]) rfl ⟨rfl, below10 hb0 (Nat.le_refl _) _ _ _ _ _ _ _ _ _ _⟩
end Go.Proofs.YtafkfamfhagokaaGreatDoor.S
