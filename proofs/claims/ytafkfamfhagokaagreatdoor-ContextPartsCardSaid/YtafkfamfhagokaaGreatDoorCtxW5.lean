/-
  THE WALKS of package ctx (contexts): step.
-/
import Derived.Test.YtafkfamfhagokaaGreatDoorCtxW4
import Derived.Test.YtafkfamfhagokaaGreatDoorPlainC2
import Derived.Deep.DeepCutAuto
set_option linter.unusedVariables false
set_option linter.unusedSimpArgs false
namespace Go.Proofs.YtafkfamfhagokaaGreatDoor.S
open Go.RowKit

theorem set6 {g : Nat} {T : TypeId} {u0 u1 u2 u3 u4 u5 : Value} {r : List Value} {w : World} (h : Blk g T (u0 :: u1 :: u2 :: u3 :: u4 :: u5 :: r) w) (a0 a1 a2 a3 a4 a5 : Value) :
    Blk g T (a0 :: a1 :: a2 :: a3 :: a4 :: a5 :: r) ((((((w.setCell ⟨g, 0, none⟩ a0).setCell ⟨g, 1, none⟩ a1).setCell ⟨g, 2, none⟩ a2).setCell ⟨g, 3, none⟩ a3).setCell ⟨g, 4, none⟩ a4).setCell ⟨g, 5, none⟩ a5) := by
  have h := (((((h.set 0 a0).set 1 a1).set 2 a2).set 3 a3).set 4 a4).set 5 a5
  simpa only [List.set_cons_zero, List.set_cons_succ] using h
theorem gb_trans {w w1 w2 : World} {row : Option Nat} (h1 : w.grownBy w1 row) (h2 : w1.grownBy w2 row) : w.grownBy w2 row :=
  ⟨h2.os.trans h1.os, h2.tape.trans h1.tape, h2.output.trans h1.output, Nat.le_trans h1.size h2.size, fun k hk hne => (h2.block k (Nat.lt_of_lt_of_le hk h1.size) hne).trans (h1.block k hk hne)⟩
theorem gb_set6 (g : Nat) (w : World) (a0 a1 a2 a3 a4 a5 : Value) : w.grownBy ((((((w.setCell ⟨g, 0, none⟩ a0).setCell ⟨g, 1, none⟩ a1).setCell ⟨g, 2, none⟩ a2).setCell ⟨g, 3, none⟩ a3).setCell ⟨g, 4, none⟩ a4).setCell ⟨g, 5, none⟩ a5) (some g) :=
  gb_trans (gb_trans (gb_trans (gb_trans (gb_trans (grownBy_set _ g 0 _) (grownBy_set _ g 1 _)) (grownBy_set _ g 2 _)) (grownBy_set _ g 3 _)) (grownBy_set _ g 4 _)) (grownBy_set _ g 5 _)
def SpPost (R : Except Nat Cx) (g : Nat) (w : World) (e : Ending) (w' : World) : Prop :=
  (∀ d, R = .ok d → e = .returned (.int .i64 0) ∧ Blk g 25 (cxCells d) w') ∧ (∀ k, R = .error k → e = .returned (.int .i64 k)) ∧ w.grownBy w' (some g)
theorem SpPost.ok {d : Cx} {R : Except Nat Cx} {g : Nat} {w w' : World} (h : R = .ok d) (hB : Blk g 25 (cxCells d) w') (hg : w.grownBy w' (some g)) : SpPost R g w (.returned (.int .i64 0)) w' :=
  ⟨(fun d' h' => by rw [h] at h'; cases h'; exact ⟨rfl, hB⟩), (fun k h' => by rw [h] at h'; cases h'), hg⟩
theorem SpPost.no {k : Nat} {R : Except Nat Cx} {g : Nat} {w w' : World} (h : R = .error k) (hg : w.grownBy w' (some g)) : SpPost R g w (.returned (.int .i64 k)) w' :=
  ⟨(fun d' h' => by rw [h] at h'; cases h'), (fun k' h' => by rw [h] at h'; cases h'; rfl), hg⟩
theorem wordB_eq (b : Nat) : wordB b = (letterI (b : Int) || (digitI (b : Int) || b == 35)) := by
  unfold wordB letN digitI
  rw [Bool.or_assoc]
  congr 2
  rw [Bool.eq_iff_iff]
  simp
  omega
set_option maxRecDepth 100000 in
set_option maxHeartbeats 8000000 in
theorem cxStep_calls (g : Nat) (c : Cx) (b : Nat) (w : World) (hB : Blk g 25 (cxCells c) w) (hb : b < 256) (hm : mayX c = true) : Calls Tryz.prog 29 #[.pointer (some ⟨g, 0, none⟩), .int .u8 b] w (SpPost (stepC c b) g w) := by
  obtain ⟨R, hR⟩ : ∃ R, R = stepC c b := ⟨_, rfl⟩
  rw [← hR]
  have HR := Lib.hid hR
  have HM := Lib.hid ((mayX_iff c).1 hm)
  clear hR hm
  obtain ⟨was, hwas⟩ : ∃ was, was = zoneX c.st := ⟨_, rfl⟩
  have hZ1 := cxZone_calls g c.st w (cx_st hB)
  rw [← hwas] at hZ1
  have HZ1 := Lib.hid hZ1
  have HWAS := Lib.hid hwas
  clear hZ1 hwas
  obtain ⟨st, hst⟩ : ∃ st, st = stepX c.st b := ⟨_, rfl⟩
  have hST := tkStep_calls c.st b w hb HM.out.1
  rw [← hst] at hST
  have HST := Lib.hid hST
  have HSTE := Lib.hid hst
  clear hST hst
  have c0 := hB.cell 0 _ rfl
  have c1 := hB.cell 1 _ rfl
  have c2 := hB.cell 2 _ rfl
  have c3 := hB.cell 3 _ rfl
  have c4 := hB.cell 4 _ rfl
  have c5 := hB.cell 5 _ rfl
  go_enter Tryz.func29, Tryz.ntmps29
  go_upto_region 3 with (first | (go_at_call 63; refine HZ1.out.mono ?_; rintro e w1 ⟨rfl, rfl⟩) | (go_at_call 64; refine HST.out.mono ?_; rintro e w1 ⟨rfl, hb1⟩; have hB1 := hB.below hb1; have d0 := hB1.cell 0 _ rfl; have f0 := hB1.free 0; have d1 := hB1.cell 1 _ rfl; have f1 := hB1.free 1; have d2 := hB1.cell 2 _ rfl; have f2 := hB1.free 2; have d3 := hB1.cell 3 _ rfl; have f3 := hB1.free 3; have d4 := hB1.cell 4 _ rfl; have f4 := hB1.free 4; have d5 := hB1.cell 5 _ rfl; have f5 := hB1.free 5))
  refine wp_at_world ?_
  intro w2 hw2
  have hB2 : Blk g 25 (cxCells ⟨st, c.ref, c.kd, c.url, c.lang⟩) w2 := by rw [hw2]; exact set6 hB1 _ _ _ _ _ _
  have hg2 : w.grownBy w2 (some g) := by rw [hw2]; exact gb_trans (grownBy_below hb1) (gb_set6 g w1 _ _ _ _ _ _)
  clear hw2 hB1 hb1 d0 d1 d2 d3 d4 d5 f0 f1 f2 f3 f4 f5 c0 c1 c2 c3 c4 c5 hB
  obtain ⟨now, hnow⟩ : ∃ now, now = zoneX st := ⟨_, rfl⟩
  have hZ2 := cxZone_calls g st w2 (cx_st hB2)
  rw [← hnow] at hZ2
  have HZ2 := Lib.hid hZ2
  have HNOW := Lib.hid hnow
  clear hZ2 hnow
  go_upto_region 4 with (go_at_call 63; refine HZ2.out.mono ?_; rintro e w3 ⟨rfl, rfl⟩)
  have hLT := fun W => letter_calls (b : Int) W (by omega) (by omega)
  have hDG := fun W => digit_calls (b : Int) W (by omega) (by omega)
  obtain ⟨wd, hwd⟩ : ∃ wd, wd = wordB b := ⟨_, rfl⟩
  have hwd2 := hwd
  rw [wordB_eq] at hwd2
  have HWD := Lib.hid hwd
  clear hwd
  go_cut [7] (fun v7 wx => v7 = .bool wd ∧ w2 = wx)
  case first =>
    cases hl : letterI (b : Int) with
    | true =>
      rw [hl] at hLT hwd2
      obtain rfl : wd = true := hwd2
      clear hl
      go_wp2_with (go_at_call 65; refine (hLT _).mono ?_; rintro e w4 ⟨rfl, rfl⟩)
      go_meet
      exact ⟨rfl, rfl⟩
    | false =>
    rw [hl] at hLT hwd2
    cases hd : digitI (b : Int) with
    | true =>
      rw [hd] at hDG hwd2
      obtain rfl : wd = true := hwd2
      clear hl hd
      go_wp2_with (first | (go_at_call 65; refine (hLT _).mono ?_; rintro e w4 ⟨rfl, rfl⟩) | (go_at_call 66; refine (hDG _).mono ?_; rintro e w4 ⟨rfl, rfl⟩))
      go_meet
      exact ⟨rfl, rfl⟩
    | false =>
    rw [hd] at hDG hwd2
    rw [Bool.false_or, Bool.false_or] at hwd2
    by_cases h35 : b = 35
    · obtain rfl : wd = true := by rw [hwd2]; simp [h35]
      have t35 : ((b : Int) == 35) = true := beq_iff_eq.2 (by omega)
      clear hl hd h35 hwd2
      go_wp2_with (first | (go_at_call 65; refine (hLT _).mono ?_; rintro e w4 ⟨rfl, rfl⟩) | (go_at_call 66; refine (hDG _).mono ?_; rintro e w4 ⟨rfl, rfl⟩))
      go_meet
      exact ⟨rfl, rfl⟩
    · obtain rfl : wd = false := by rw [hwd2]; simp [h35]
      have t35 : ((b : Int) == 35) = false := beq_eq_false_iff_ne.2 (by omega)
      clear hl hd h35 hwd2
      go_wp2_with (first | (go_at_call 65; refine (hLT _).mono ?_; rintro e w4 ⟨rfl, rfl⟩) | (go_at_call 66; refine (hDG _).mono ?_; rintro e w4 ⟨rfl, rfl⟩))
      go_meet
      exact ⟨rfl, rfl⟩
  case rest =>
  obtain ⟨rfl, rfl⟩ := hcut
  clear hLT hDG hwd2
  obtain ⟨rq, hrq⟩ : ∃ rq, rq = referredX st := ⟨_, rfl⟩
  have hRF := cxReferred_calls g st w2 (cx_st hB2)
  rw [← hrq] at hRF
  obtain ⟨ref, href⟩ : ∃ ref, ref = (rq && (b == 38 || (c.ref && wd))) := ⟨_, rfl⟩
  have HRF := Lib.hid hRF
  have HRQ := Lib.hid hrq
  have HREF := Lib.hid href
  clear hRF hrq
  go_upto_region 5 with (fail)
  have c6 := hB2.cell 6 _ rfl
  have f6 := hB2.free 6
  go_cut [6] (fun v6 wx => v6 = .int .i64 now ∧ Blk g 25 (cxCells ⟨st, ref, c.kd, c.url, c.lang⟩) wx ∧ w2.grownBy wx (some g))
  case first =>
    cases rq with
    | false =>
      obtain rfl : ref = false := by rw [href]; rfl
      clear href 
      go_wp2_with (go_at_call 62; refine HRF.out.mono ?_; rintro e w4 ⟨rfl, rfl⟩)
      go_meet
      exact ⟨rfl, hB2.set 6 (.bool _), grownBy_set w2 g 6 _⟩
    | true =>
    by_cases h38 : b = 38
    · have t38 : ((b : Int) == 38) = true := beq_iff_eq.2 (by omega)
      obtain rfl : ref = true := by rw [href]; simp [h38]
      clear href h38
      go_wp2_with (go_at_call 62; refine HRF.out.mono ?_; rintro e w4 ⟨rfl, rfl⟩)
      go_meet
      exact ⟨rfl, hB2.set 6 (.bool _), grownBy_set w2 g 6 _⟩
    have t38 : ((b : Int) == 38) = false := beq_eq_false_iff_ne.2 (by omega)
    have n38 : (b == 38) = false := beq_eq_false_iff_ne.2 h38
    clear h38
    cases hcr : c.ref with
    | false =>
      rw [hcr] at c6
      obtain rfl : ref = false := by rw [href]; rw [n38, hcr]; rfl
      clear href n38 hcr
      go_wp2_with (go_at_call 62; refine HRF.out.mono ?_; rintro e w4 ⟨rfl, rfl⟩)
      go_meet
      exact ⟨rfl, hB2.set 6 (.bool _), grownBy_set w2 g 6 _⟩
    | true =>
      rw [hcr] at c6
      obtain rfl : ref = wd := by rw [href]; rw [n38, hcr]; cases wd <;> rfl
      clear href n38 hcr
      go_wp2_with (go_at_call 62; refine HRF.out.mono ?_; rintro e w4 ⟨rfl, rfl⟩)
      go_meet
      exact ⟨rfl, hB2.set 6 (.bool _), grownBy_set w2 g 6 _⟩
  case rest =>
  obtain ⟨rfl, hB3, hg3⟩ := hcut
  have hg3 := gb_trans hg2 hg3
  clear hg2 hB2 href HRF c6 f6
  generalize wc = w3 at *
  have hRR : R = (if now = 0 ∨ now ≠ was then .ok ⟨st, ref, kindX st, 0, 0⟩ else if c.kd = 1 then (match addressX c.url b with | none => .error 2003 | some u => .ok ⟨st, ref, c.kd, u, c.lang⟩) else if c.kd = 2 ∨ c.kd = 3 then .ok ⟨st, ref, c.kd, c.url, if now = 1 ∧ b = 38 then 9 else langX c.lang (c.kd == 2) b⟩ else .ok ⟨st, ref, c.kd, c.url, c.lang⟩) := by
    rw [HR.out, HREF.out, HRQ.out, HWD.out, HNOW.out, HWAS.out, HSTE.out]
    rfl
  have HRR := Lib.hid hRR
  have hkr := HM.out.2.2.2.2.2
  clear hRR HR HREF HRQ HWD HNOW HWAS HSTE HZ1 HZ2 HST
  have c7 := hB3.cell 7 _ rfl
  have c8 := hB3.cell 8 _ rfl
  have c9 := hB3.cell 9 _ rfl
  have f7 := hB3.free 7
  have f8 := hB3.free 8
  have f9 := hB3.free 9
  by_cases hz : now = 0 ∨ now ≠ was
  · have hR1 : R = .ok ⟨st, ref, kindX st, 0, 0⟩ := by rw [HRR.out, if_pos hz]
    have HR1 := Lib.hid hR1
    clear hR1 HRR
    have hK := cxKind_calls g st w3 (cx_st hB3)
    generalize kindX st = kq at *
    have HK := Lib.hid hK
    clear hK
    have fin : Blk g 25 (cxCells ⟨st, ref, kq, 0, 0⟩) (((w3.setCell ⟨g, 7, none⟩ (.int .i64 kq)).setCell ⟨g, 8, none⟩ (.int .i64 0)).setCell ⟨g, 9, none⟩ (.int .i64 0)) := by
      have h := ((hB3.set 7 (.int .i64 kq)).set 8 (.int .i64 0)).set 9 (.int .i64 0)
      simpa only [List.set_cons_zero, List.set_cons_succ] using h
    have fing := gb_trans hg3 (gb_trans (gb_trans (grownBy_set w3 g 7 (.int .i64 kq)) (grownBy_set _ g 8 (.int .i64 0))) (grownBy_set _ g 9 (.int .i64 0)))
    have HFIN := Lib.hid fin
    have HFG := Lib.hid fing
    clear fin fing
    by_cases h0 : now = 0
    · have t0 : ((now : Int) == 0) = true := beq_iff_eq.2 (by omega)
      clear hz h0
      go_wp2_with (go_at_call 61; refine HK.out.mono ?_; rintro e w4 ⟨rfl, rfl⟩)
      go_ret
      exact SpPost.ok HR1.out HFIN.out HFG.out
    · have t0 : ((now : Int) == 0) = false := beq_eq_false_iff_ne.2 (by omega)
      have t1 : ((now : Int) != (was : Int)) = true := bne_iff_ne.2 (by omega)
      clear hz h0
      go_wp2_with (go_at_call 61; refine HK.out.mono ?_; rintro e w4 ⟨rfl, rfl⟩)
      go_ret
      exact SpPost.ok HR1.out HFIN.out HFG.out
  have hz0 : now ≠ 0 := fun h => hz (.inl h)
  have t0 : ((now : Int) == 0) = false := beq_eq_false_iff_ne.2 (by omega)
  have t1 : ((now : Int) != (was : Int)) = false := by rw [bne, beq_iff_eq.2 (by omega)]; rfl
  have hR1 := HRR.out
  rw [if_neg hz] at hR1
  have HR1 := Lib.hid hR1
  clear hz hz0 hR1 HRR
  by_cases hk1 : c.kd = 1
  · have k1 : (c.kd == 1) = true := beq_iff_eq.2 hk1
    have hR2 : R = match addressX c.url b with | none => .error 2003 | some u => .ok ⟨st, ref, c.kd, u, c.lang⟩ := by rw [HR1.out, if_pos hk1]
    have hA := cxAddress_calls c.url b w3 hb
    generalize addressX c.url b = A at *
    have HA := Lib.hid hA
    clear hA HR1 hk1
    cases A with
    | none =>
      have HR2 := Lib.hid (show R = .error 2003 from hR2)
      clear hR2
      go_wp2_with (go_at_call 67; refine HA.out.mono ?_; rintro e w4 ⟨-, hn, hw4⟩; obtain rfl := hn rfl; obtain rfl := hw4)
      go_ret
      exact SpPost.no HR2.out hg3
    | some u =>
      have HR2 := Lib.hid (show R = .ok ⟨st, ref, c.kd, u, c.lang⟩ from hR2)
      clear hR2
      go_wp2_with (go_at_call 67; refine HA.out.mono ?_; rintro e w4 ⟨hy, -, hw4⟩; obtain rfl := hy u rfl; obtain rfl := hw4)
      go_ret
      exact SpPost.ok HR2.out (hB3.set 8 (.int .i64 u)) (gb_trans hg3 (grownBy_set w3 g 8 _))
  have k1 : (c.kd == 1) = false := beq_eq_false_iff_ne.2 hk1
  have hR2 := HR1.out
  rw [if_neg hk1] at hR2
  have HR2 := Lib.hid hR2
  clear hR2 HR1 hk1
  by_cases hk23 : c.kd = 2 ∨ c.kd = 3
  case neg =>
    have k2 : (c.kd == 2) = false := beq_eq_false_iff_ne.2 (by omega)
    have k3 : (c.kd == 3) = false := beq_eq_false_iff_ne.2 (by omega)
    have hR3 := HR2.out
    rw [if_neg hk23] at hR3
    have HR3 := Lib.hid hR3
    clear hR3 HR2 hk23
    go_wp2
    go_ret
    exact SpPost.ok HR3.out hB3 hg3
  have hR3 := HR2.out
  rw [if_pos hk23] at hR3
  have HR3 := Lib.hid hR3
  clear hR3 HR2
  obtain ⟨js, hjs⟩ : ∃ js, js = (c.kd == 2) := ⟨_, rfl⟩
  have hjs3 : js = false → (c.kd == 3) = true := fun h => beq_iff_eq.2 (by have := beq_eq_false_iff_ne.1 (hjs.symm.trans h); omega)
  have k2 : (c.kd == 2) = js := hjs.symm
  have hR4 := HR3.out
  rw [← hjs] at hR4
  have HR4 := Lib.hid hR4
  clear hk23 hjs hR4 HR3
  obtain ⟨h90, h99⟩ := hkr.2
  have hN := fun W (hb' : Below w3.heap.size w3 W) (hL : LgAt w3.heap.size c.lang js W) => lgNext_calls w3.heap.size c.lang js b W hL hb h90 h99
  generalize langX c.lang js b = lv at *
  have HN := Lib.hid hN
  clear hN hkr h90 h99 HM
  cases js with
  | false =>
    have k3 := hjs3 rfl
    clear hjs3
    go_upto_region 17 with (fail)
    go_region
    refine ex_at_world ?_
    intro w5 hw5
    have hL5 : LgAt w3.heap.size c.lang false w5 := by
      rw [hw5]
      have h := Blk.new w3 [.int .i64 c.lang, .bool false] 92
      exact ⟨h.cell 0 _ rfl, h.cell 1 _ rfl⟩
    have hb5 : Below w3.heap.size w3 w5 := by rw [hw5]; exact ((Below.refl _ w3).alloc (Nat.le_refl _) _).drew
    clear hw5
    have HN5 := Lib.hid (HN.out w5 hb5 hL5)
    have hB5 := hB3.below hb5
    have hg5 := gb_trans hg3 (grownBy_below (row := some g) hb5)
    clear HN hL5 hb5 hB3 hg3 c7 c8 c9 f7 f8 f9
    generalize w3.heap.size = gl at *
    go_upto_region 19 with (go_at_call 68; refine HN5.out.mono ?_; rintro e w6 ⟨rfl, hb6⟩; have hB6 := hB5.below hb6; have c9 := hB6.cell 9 _ rfl; have f9 := hB6.free 9)
    have hg6 := gb_trans hg5 (grownBy_below (row := some g) hb6)
    have hB7 := hB6.set 9 (.int .i64 lv)
    have hg7 := gb_trans hg6 (grownBy_set w6 g 9 (.int .i64 lv))
    clear c9 f9 hB6 hg6 hB5 hg5 hb6
    generalize w6.setCell ⟨g, 9, none⟩ (.int .i64 lv) = w7 at *
    have c9 := hB7.cell 9 _ rfl
    have f9 := hB7.free 9
    by_cases hn1 : now = 1
    · have n1 : ((now : Int) == 1) = true := beq_iff_eq.2 (by omega)
      by_cases h38 : b = 38
      · have t38 : ((b : Int) == 38) = true := beq_iff_eq.2 (by omega)
        have HF := Lib.hid (show R = .ok ⟨st, ref, c.kd, c.url, 9⟩ by rw [HR4.out, if_pos ⟨hn1, h38⟩])
        clear hn1 h38 HR4
        go_wp2
        go_ret
        exact SpPost.ok HF.out (hB7.set 9 (.int .i64 9)) (gb_trans hg7 (grownBy_set w7 g 9 _))
      · have t38 : ((b : Int) == 38) = false := beq_eq_false_iff_ne.2 (by omega)
        have HF := Lib.hid (show R = .ok ⟨st, ref, c.kd, c.url, lv⟩ by rw [HR4.out, if_neg (fun h => h38 h.2)])
        clear hn1 h38 HR4
        go_wp2
        go_ret
        exact SpPost.ok HF.out hB7 hg7
    · have n1 : ((now : Int) == 1) = false := beq_eq_false_iff_ne.2 (by omega)
      have HF := Lib.hid (show R = .ok ⟨st, ref, c.kd, c.url, lv⟩ by rw [HR4.out, if_neg (fun h => hn1 h.1)])
      clear hn1 HR4
      go_wp2
      go_ret
      exact SpPost.ok HF.out hB7 hg7
  | true =>
    clear hjs3
    go_upto_region 17 with (fail)
    go_region
    refine ex_at_world ?_
    intro w5 hw5
    have hL5 : LgAt w3.heap.size c.lang true w5 := by
      rw [hw5]
      have h := Blk.new w3 [.int .i64 c.lang, .bool true] 92
      exact ⟨h.cell 0 _ rfl, h.cell 1 _ rfl⟩
    have hb5 : Below w3.heap.size w3 w5 := by rw [hw5]; exact ((Below.refl _ w3).alloc (Nat.le_refl _) _).drew
    clear hw5
    have HN5 := Lib.hid (HN.out w5 hb5 hL5)
    have hB5 := hB3.below hb5
    have hg5 := gb_trans hg3 (grownBy_below (row := some g) hb5)
    clear HN hL5 hb5 hB3 hg3 c7 c8 c9 f7 f8 f9
    generalize w3.heap.size = gl at *
    go_upto_region 19 with (go_at_call 68; refine HN5.out.mono ?_; rintro e w6 ⟨rfl, hb6⟩; have hB6 := hB5.below hb6; have c9 := hB6.cell 9 _ rfl; have f9 := hB6.free 9)
    have hg6 := gb_trans hg5 (grownBy_below (row := some g) hb6)
    have hB7 := hB6.set 9 (.int .i64 lv)
    have hg7 := gb_trans hg6 (grownBy_set w6 g 9 (.int .i64 lv))
    clear c9 f9 hB6 hg6 hB5 hg5 hb6
    generalize w6.setCell ⟨g, 9, none⟩ (.int .i64 lv) = w7 at *
    have c9 := hB7.cell 9 _ rfl
    have f9 := hB7.free 9
    by_cases hn1 : now = 1
    · have n1 : ((now : Int) == 1) = true := beq_iff_eq.2 (by omega)
      by_cases h38 : b = 38
      · have t38 : ((b : Int) == 38) = true := beq_iff_eq.2 (by omega)
        have HF := Lib.hid (show R = .ok ⟨st, ref, c.kd, c.url, 9⟩ by rw [HR4.out, if_pos ⟨hn1, h38⟩])
        clear hn1 h38 HR4
        go_wp2
        go_ret
        exact SpPost.ok HF.out (hB7.set 9 (.int .i64 9)) (gb_trans hg7 (grownBy_set w7 g 9 _))
      · have t38 : ((b : Int) == 38) = false := beq_eq_false_iff_ne.2 (by omega)
        have HF := Lib.hid (show R = .ok ⟨st, ref, c.kd, c.url, lv⟩ by rw [HR4.out, if_neg (fun h => h38 h.2)])
        clear hn1 h38 HR4
        go_wp2
        go_ret
        exact SpPost.ok HF.out hB7 hg7
    · have n1 : ((now : Int) == 1) = false := beq_eq_false_iff_ne.2 (by omega)
      have HF := Lib.hid (show R = .ok ⟨st, ref, c.kd, c.url, lv⟩ by rw [HR4.out, if_neg (fun h => hn1 h.1)])
      clear hn1 HR4
      go_wp2
      go_ret
      exact SpPost.ok HF.out hB7 hg7
end Go.Proofs.YtafkfamfhagokaaGreatDoor.S
