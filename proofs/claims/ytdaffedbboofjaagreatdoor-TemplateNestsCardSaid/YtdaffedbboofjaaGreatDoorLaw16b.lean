/-
  THE WALK of the law TemplateNests (chapter 16).
-/
import Derived.Test.YtdaffedbboofjaaGreatDoorNests1
import Derived.Test.YtdaffedbboofjaaGreatDoorNests2
import Derived.Test.YtdaffedbboofjaaGreatDoorNests3
set_option linter.unusedVariables false
set_option linter.unusedSimpArgs false
namespace Go.Proofs.YtdaffedbboofjaaGreatDoor.S
open Go.RowKit

theorem wdK_len (c : Nat) : (wdK c).length ≤ 5 := by unfold wdK; repeat' split
                                                     all_goals decide
theorem opn_succ (c k : Nat) : opn c (k + 1) = opn c k ++ [123, 123] ++ wdK c ++ [32, 46, 125, 125] := by unfold opn; rw [List.replicate_succ', List.flatten_append]; simp
theorem cls_succ (o : Bool) (k : Nat) : cls o (k + 1) = cls o k ++ ((if o = true then [123, 123, 101, 108, 115, 101, 125, 125, 121] else []) ++ [123, 123, 101, 110, 100, 125, 125]) := by unfold cls; rw [List.replicate_succ', List.flatten_append]; simp
theorem opn_len (c k : Nat) : (opn c k).length ≤ 11 * k := by
  induction k with
  | zero => exact Nat.le_refl _
  | succ k ih => have := wdK_len c; rw [opn_succ]; simp only [List.length_append, List.length_cons, List.length_nil]; omega
theorem cls_len (o : Bool) (k : Nat) : (cls o k).length ≤ 16 * k := by
  induction k with
  | zero => exact Nat.le_refl _
  | succ k ih =>
    rw [cls_succ]
    cases o <;> simp <;> omega
theorem StrIs.cat {a b : ByteArray} {l r : List UInt8} (h1 : StrIs a l) (h2 : StrIs b r) : StrIs (a ++ b) (l ++ r) := by
  unfold StrIs at *
  rw [← h1, ← h2]
  simp [ByteArray.data_append]
theorem mask31w (x : Int) : ∃ n : Nat, n ≤ 31 ∧ bits .and .i64 x 31 = (n : Int) :=
  ⟨(x % 32).toNat, by omega, (i64_mask 5 (by decide) x).trans (by show x % 32 = _; omega)⟩
theorem join_run (x y : ByteArray) (h : x.size + y.size ≤ 9223372036854775807) : ∀ W, (Op.stringOp .add x y).run Tryz.prog W = .ok (.string (x ++ y)) W := fun W => run_string_add_sum W x y h
set_option maxRecDepth 100000 in
set_option maxHeartbeats 16000000 in
theorem templateNests_calls (deep kind : Int) (o : Bool) (w : World) (hE : Env w) :
    Calls Tryz.prog 4 #[.int .i64 deep, .int .i64 kind, .bool o] w fun e w' => e = .returned (.bool true) ∧ Below w.heap.size w w' := by
  obtain ⟨a, ha, hax⟩ := mask31w deep
  go_enter Tryz.func4, Tryz.ntmps4
  go_wp2_with fail
  refine (awake16_calls _ hE).mono ?_
  rintro e w1 ⟨rfl, hb1⟩
  obtain ⟨c, hc, hc2⟩ : ∃ c : Nat, wrap64 ((IntKind.u64.wrap kind).tmod 3) = (c : Int) ∧ c ≤ 2 := by
    have h0 : 0 ≤ kind % 18446744073709551616 := Int.emod_nonneg _ (by decide)
    refine ⟨((kind % 18446744073709551616) % 3).toNat, ?_, by omega⟩
    rw [IntKind.wrap_u64, Int.tmod_eq_emod_of_nonneg h0]
    unfold wrap64
    omega
  obtain ⟨K, hKa⟩ : ∃ K, K = 1 + a := ⟨_, rfl⟩
  have hKi : (1 : Int) + (a : Int) = (K : Int) := by omega
  have hK : K ≤ 32 := by omega
  have hK1 : 1 ≤ K := by omega
  clear hKa
  go_upto_region 4 with (fail)
  go_cut [8] (fun v8 wx => ∃ y : ByteArray, v8 = .string y ∧ StrIs y (wdK c) ∧ Below w.heap.size w wx)
  case first =>
    have hba := fun o => hb1.alloc hb1.size o
    have hr : c = 0 ∨ c = 1 ∨ c = 2 := by omega
    rcases hr with rfl | rfl | rfl
    all_goals go_wp2_with fail
    all_goals go_meet
    all_goals exact ⟨_, rfl, rfl, hba _⟩
  case rest =>
  obtain ⟨wd, rfl, hwd, hb2⟩ := hcut
  have hwl : wd.size ≤ 5 := by rw [hwd.size]; exact wdK_len c
  go_wp2
  go_loopg [9, 10, 11] K (fun gk v9 v10 v11 wr => ∃ (i : Nat) (x y : ByteArray), v11 = .int .i64 i ∧ v9 = .string x ∧ v10 = .string y ∧ i + gk = K ∧ StrIs x (opn c i) ∧ StrIs y (cls o i) ∧ wc = wr)
  case atStart => exact ⟨0, ⟨#[]⟩, ⟨#[]⟩, rfl, rfl, rfl, by omega, rfl, rfl, rfl⟩
  case round =>
    obtain ⟨i, x, y, rfl, rfl, rfl, hig, hx, hy, rfl⟩ := hrel
    have HIG := Lib.hid hig
    have hiz : i ≤ K := by omega
    clear hig
    have hxs : x.size ≤ 400 := by have := opn_len c i; rw [hx.size]; omega
    have hys : y.size ≤ 600 := by have := cls_len o i; rw [hy.size]; omega
    by_cases h1 : i < K
    · have h1b : decide ((i : Int) < (K : Int)) = true := decide_eq_true (by omega)
      have j1 := join_run x ⟨#[123, 123]⟩ (by show _ + 2 ≤ _; omega)
      have j2 := join_run (x ++ ⟨#[123, 123]⟩) wd (by rw [ByteArray.size_append]; show _ + 2 + _ ≤ _; omega)
      have j3 := join_run (x ++ ⟨#[123, 123]⟩ ++ wd) ⟨#[32, 46, 125, 125]⟩ (by rw [ByteArray.size_append, ByteArray.size_append]; show _ + 2 + _ + 4 ≤ _; omega)
      have hx' : StrIs (x ++ ⟨#[123, 123]⟩ ++ wd ++ ⟨#[32, 46, 125, 125]⟩) (opn c (i + 1)) := by
        rw [opn_succ]
        exact ((hx.cat rfl).cat hwd).cat rfl
      have HX := Lib.hid hx'
      have HWD := Lib.hid hwd
      clear hx hx' hwd
      cases o with
      | true =>
        have j4 := join_run y ⟨#[123, 123, 101, 108, 115, 101, 125, 125, 121]⟩ (by show _ + 9 ≤ _; omega)
        have j5 := join_run (y ++ ⟨#[123, 123, 101, 108, 115, 101, 125, 125, 121]⟩) ⟨#[123, 123, 101, 110, 100, 125, 125]⟩ (by rw [ByteArray.size_append]; show _ + 9 + 7 ≤ _; omega)
        have hy' : StrIs (y ++ ⟨#[123, 123, 101, 108, 115, 101, 125, 125, 121]⟩ ++ ⟨#[123, 123, 101, 110, 100, 125, 125]⟩) (cls true (i + 1)) := by
          rw [cls_succ, if_pos rfl, ← List.append_assoc]
          exact (hy.cat rfl).cat rfl
        have HY := Lib.hid hy'
        clear hy hy'
        go_wp2
        go_roundg (gk - 1)
        case measure => have := HIG.out; omega
        case rel => exact ⟨i + 1, _, _, by go_num, rfl, rfl, by have := HIG.out; omega, HX.out, HY.out, rfl⟩
      | false =>
        have j4 := join_run y ⟨#[123, 123, 101, 110, 100, 125, 125]⟩ (by show _ + 7 ≤ _; omega)
        have hy' : StrIs (y ++ ⟨#[123, 123, 101, 110, 100, 125, 125]⟩) (cls false (i + 1)) := by
          rw [cls_succ, if_neg (by decide), List.nil_append]
          exact hy.cat rfl
        have HY := Lib.hid hy'
        clear hy hy'
        go_wp2
        go_roundg (gk - 1)
        case measure => have := HIG.out; omega
        case rel => exact ⟨i + 1, _, _, by go_num, rfl, rfl, by have := HIG.out; omega, HX.out, HY.out, rfl⟩
    · have h1b : decide ((i : Int) < (K : Int)) = false := decide_eq_false (by omega)
      obtain rfl : K = i := by omega
      clear HIG hiz
      have j1 := join_run x ⟨#[120]⟩ (by show _ + 1 ≤ _; omega)
      have j2 := join_run (x ++ ⟨#[120]⟩) y (by rw [ByteArray.size_append]; show _ + 1 + _ ≤ _; omega)
      have j3 := join_run (x ++ ⟨#[120]⟩ ++ y) ⟨#[123, 123, 101, 110, 100, 125, 125]⟩ (by rw [ByteArray.size_append, ByteArray.size_append]; show _ + 1 + _ + 7 ≤ _; omega)
      have j4 := join_run x ⟨#[123, 123]⟩ (by show _ + 2 ≤ _; omega)
      have j5 := join_run (x ++ ⟨#[123, 123]⟩) wd (by rw [ByteArray.size_append]; show _ + 2 + _ ≤ _; omega)
      have j6 := join_run (x ++ ⟨#[123, 123]⟩ ++ wd) ⟨#[32, 46, 125, 125, 120]⟩ (by rw [ByteArray.size_append, ByteArray.size_append]; show _ + 2 + _ + 5 ≤ _; omega)
      have j7 := join_run (x ++ ⟨#[123, 123]⟩ ++ wd ++ ⟨#[32, 46, 125, 125, 120]⟩) y (by rw [ByteArray.size_append, ByteArray.size_append, ByteArray.size_append]; show _ + 2 + _ + 5 + _ ≤ _; omega)
      have hs1 : (x ++ ⟨#[120]⟩ ++ y).data.toList = src1 c o K := (hx.cat rfl).cat hy
      have hs2 : (x ++ ⟨#[120]⟩ ++ y ++ ⟨#[123, 123, 101, 110, 100, 125, 125]⟩).data.toList = src2 c o K := ((hx.cat rfl).cat hy).cat rfl
      have hs3 : (x ++ ⟨#[123, 123]⟩ ++ wd ++ ⟨#[32, 46, 125, 125, 120]⟩ ++ y).data.toList = src3 c o K := (((hx.cat rfl).cat hwd).cat rfl).cat hy
      have tn1 := range_eq (nest1 c o hc2) (show K < 33 by omega)
      have tn2 := range_eq (nest2 c o hc2) (show K < 33 by omega)
      have tn3 := range_eq (nest3 c o hc2) (show K < 33 by omega)
      have hEc := hE.below hb2
      have hC1 := fun W (h : Env W) => tmplParse_calls (x ++ ⟨#[120]⟩ ++ y) W h
      have hC2 := fun W (h : Env W) => tmplParse_calls (x ++ ⟨#[120]⟩ ++ y ++ ⟨#[123, 123, 101, 110, 100, 125, 125]⟩) W h
      have hC3 := fun W (h : Env W) => tmplParse_calls (x ++ ⟨#[123, 123]⟩ ++ wd ++ ⟨#[32, 46, 125, 125, 120]⟩ ++ y) W h
      simp only [hs1, tn1] at hC1
      simp only [hs2, tn2] at hC2
      simp only [hs3, tn3] at hC3
      clear hs1 hs2 hs3 tn1 tn2 tn3 hx hy hxs hys hwd hwl
      by_cases h16 : K ≤ 16
      · have hKb : decide ((16 : Int) < (K : Int)) = false := decide_eq_false (by omega)
        obtain ⟨B, e3, hB, he3, hBe⟩ : ∃ (B : Bool) (e3 : Nat), decide ((K : Int) < 16) = B ∧ res3 K = .error e3 ∧ ((B = true ∧ e3 = 1600) ∨ (B = false ∧ e3 = 1603)) := by
          by_cases h15 : K ≤ 15
          · exact ⟨_, 1600, decide_eq_true (by omega), if_pos h15, .inl ⟨rfl, rfl⟩⟩
          · exact ⟨_, 1603, decide_eq_false (by omega), if_neg h15, .inr ⟨rfl, rfl⟩⟩
        have hr1 : res1 c o K = .ok (nestI c o K) := if_pos h16
        have hr2 : res2 K = .error 1600 := if_pos h16
        go_wp2_with fail
        refine (hC1 _ hEc).mono ?_
        rintro e w3 ⟨hok, -, hb3⟩
        obtain ⟨v1, rfl, hI⟩ := hok _ hr1
        obtain ⟨va, vc, rfl⟩ := hI.slice
        have hbw := hb2.trans (hb3.mono hb2.size)
        clear hok hC1
        go_wp2_with fail
        refine (hC2 _ (hE.below hbw)).mono ?_
        rintro e w4 ⟨-, hno, hb4⟩
        obtain rfl := hno _ hr2
        have hI := hI.blw hb4
        have hbw := hbw.trans (hb4.mono hbw.size)
        clear hno hC2
        go_wp2_with fail
        refine (hC3 _ (hE.below hbw)).mono ?_
        rintro e w5 ⟨-, hno, hb5⟩
        obtain rfl := hno _ he3
        have hI := hI.blw hb5
        have hbw := hbw.trans (hb5.mono hbw.size)
        clear hno hC3 hb3 hb4 hb5 j1 j2 j3 j4 j5 j6 j7
        have HR := Lib.hid he3
        clear he3
        obtain ⟨C3, hC3⟩ : ∃ C3 : Nat, C3 = 3 + c := ⟨_, rfl⟩
        have hC3i : (3 : Int) + (c : Int) = (C3 : Int) := by omega
        have hC3l : C3 ≤ 5 := by omega
        have HC3 := Lib.hid hC3
        clear hC3
        rcases hBe with ⟨rfl, rfl⟩ | ⟨rfl, rfl⟩
        all_goals
          go_wp2_with (go_at_call 15; go_in)
          go_loopg [12, 18] K (fun gk v12 v18 wr => ∃ (i : Nat) (v : Value), v12 = v ∧ v18 = .int .i64 i ∧ i + gk = K ∧ Its wc.heap.size (fun _ => True) w5 v (nestI c o gk) ∧ w5 = wr)
          case atStart => exact ⟨0, _, rfl, rfl, by omega, hI, rfl⟩
          case round =>
            obtain ⟨i, v, hvv, rfl, hig, hJ, rfl⟩ := hrel
            have HI := Lib.hid hI
            clear hI
            by_cases h1 : i < K
            · obtain ⟨g, rfl⟩ : ∃ g, gk = g + 1 := ⟨gk - 1, by omega⟩
              have h1b : decide ((i : Int) < (K : Int)) = true := decide_eq_true (by omega)
              have HIG := Lib.hid hig
              have hiz : i ≤ K := by omega
              clear hig
              obtain ⟨b, cap, pv, tv, ev, hv, gcc, e0, -, -, e3, e4, -, gT, hL⟩ := hJ.at 0 (by show 0 < 1; decide)
              have hv : v = .slice (some ⟨b, 0, none⟩) 1 cap := hv
              have hcc : 1 ≤ cap := gcc
              have d0 : w5.cell? ⟨b, 0, none⟩ = some (.int .i64 C3) := by rw [HC3.out]; exact e0
              have d3 : w5.cell? ⟨b, 3, none⟩ = some tv := e3
              have d4 : w5.cell? ⟨b, 4, none⟩ = some ev := e4
              have hT : Its wc.heap.size (fun _ => True) w5 tv (nestI c o g) := gT
              obtain ⟨sa, sc, hev⟩ := hL.slice
              have HT := Lib.hid hT
              clear hJ hL hT gT e0 e3 e4 gcc
              subst hv
              subst hvv
              cases o with
              | true =>
                have hev : ev = .slice sa 1 sc := hev
                subst hev
                go_wp2
                go_roundg g
                case measure => omega
                case rel => exact ⟨i + 1, _, rfl, by go_num, by have := HIG.out; omega, HT.out, rfl⟩
              | false =>
                have hev : ev = .slice sa 0 sc := hev
                subst hev
                go_wp2
                go_roundg g
                case measure => omega
                case rel => exact ⟨i + 1, _, rfl, by go_num, by have := HIG.out; omega, HT.out, rfl⟩
            · have h1b : decide ((i : Int) < (K : Int)) = false := decide_eq_false (by omega)
              obtain rfl : gk = 0 := by omega
              have hJ : Its wc.heap.size (fun _ => True) w5 v [.mk 0 [120] [] [] []] := hJ
              obtain ⟨ja, jc, rfl⟩ := hJ.slice
              subst hvv
              have hQ := its_lit w5 #[.int .i64 0, .string ⟨#[120]⟩, .slice none 0 0, .slice none 0 0, .slice none 0 0] [⟨.mk 0 [120] [] [] [], .slice none 0 0, .slice none 0 0, .slice none 0 0⟩] 1 w.heap.size rfl rfl (by omega) hbw.size (by
                intro z hz
                simp only [List.mem_cons, List.not_mem_nil, or_false] at hz
                subst hz
                exact ⟨cms_nil _ _, its_nil _ _ _, its_nil _ _ _⟩)
              have b6 := (Below.refl w5.heap.size w5).alloc (Nat.le_refl _) (.cells #[.int .i64 0, .string ⟨#[120]⟩, .slice none 0 0, .slice none 0 0, .slice none 0 0] 37)
              have hJ := hJ.blw b6
              have hbw := hbw.trans (b6.mono hbw.size)
              go_wp2_with fail
              refine (sameItems_n _ [.mk 0 [120] [] [] []] (Nat.le_refl _) _ _ _ _ _ _ _ hJ hQ).mono ?_
              rintro e w9 ⟨rfl, hb9⟩
              go_wp2
              go_ret
              exact ⟨rfl, hbw.trans (hb9.mono hbw.size)⟩
      · have hKb : decide ((16 : Int) < (K : Int)) = true := decide_eq_true (by omega)
        have hr1 : res1 c o K = .error 1603 := if_neg h16
        have hr2 : res2 K = .error 1603 := if_neg h16
        have hr3 : res3 K = .error 1603 := if_neg (by omega)
        go_wp2_with fail
        refine (hC1 _ hEc).mono ?_
        rintro e w3 ⟨-, hno, hb3⟩
        obtain rfl := hno _ hr1
        have hbw := hb2.trans (hb3.mono hb2.size)
        clear hno hC1
        go_wp2_with fail
        refine (hC2 _ (hE.below hbw)).mono ?_
        rintro e w4 ⟨-, hno, hb4⟩
        obtain rfl := hno _ hr2
        have hbw := hbw.trans (hb4.mono hbw.size)
        clear hno hC2
        go_wp2_with fail
        refine (hC3 _ (hE.below hbw)).mono ?_
        rintro e w5 ⟨-, hno, hb5⟩
        obtain rfl := hno _ hr3
        have hbw := hbw.trans (hb5.mono hbw.size)
        clear hno hC3
        go_wp2_with (go_at_call 15; go_in)
        go_ret
        exact ⟨rfl, hbw⟩
end Go.Proofs.YtdaffedbboofjaaGreatDoor.S
