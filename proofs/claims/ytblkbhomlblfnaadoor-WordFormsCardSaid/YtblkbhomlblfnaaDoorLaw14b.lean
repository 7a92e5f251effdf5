/-
  THE WALK of the law WordForms (chapter 14).
-/
import Derived.Test.YtblkbhomlblfnaaDoorLaw14a
set_option linter.unusedVariables false
set_option linter.unusedSimpArgs false
namespace Go.Proofs.YtblkbhomlblfnaaDoor.S
open Go.RowKit

def wantA (n : Nat) : Nat := if 14 ≤ n then 1402 else 1400
def wantE (n : Nat) : Nat := if 19 ≤ n then 1401 else if 14 ≤ n then 1402 else 1400
def pthL : Nat → List UInt8
  | 0 => []
  | i + 1 => pthL i ++ [46, 98]
theorem pthL_len : ∀ i, (pthL i).length = 2 * i
  | 0 => rfl
  | i + 1 => by rw [pthL, List.length_append, pthL_len i]; simp; omega
theorem forms_long (a : Nat) (h : a ≤ 7) : (wordsL ([36] ++ List.replicate (29 + a) 97 ++ [32, 46] ++ List.replicate (29 + a) 97 ++ [32] ++ List.replicate (29 + a) 97)).2 = if 29 + a ≤ 32 then 0 else 1400 := by
  have e := (by decide +kernel : ∀ a : Fin 8, (wordsL ([36] ++ List.replicate (29 + a.val) 97 ++ [32, 46] ++ List.replicate (29 + a.val) 97 ++ [32] ++ List.replicate (29 + a.val) 97)).2 = if 29 + a.val ≤ 32 then 0 else 1400)
  exact e ⟨a, by omega⟩
theorem forms_path (a : Nat) (h : a ≤ 7) : (wordsL ([36, 97] ++ pthL (5 + a))).2 = if 5 + a ≤ 8 then 0 else 1400 := by
  have e := (by decide +kernel : ∀ a : Fin 8, (wordsL ([36, 97] ++ pthL (5 + a.val))).2 = if 5 + a.val ≤ 8 then 0 else 1400)
  exact e ⟨a, by omega⟩
theorem words_slice {base : Nat} {v : Value} {w : World} (h : Wds base v [] w) : ∃ a c, v = .slice a 0 c := h.slice

set_option maxRecDepth 100000 in
set_option maxHeartbeats 16000000 in
theorem wordForms_calls (which x : Int) (w : World) (hE : Env w) :
    Calls Tryd.prog 7 #[.int .i64 which, .int .i64 x] w fun e w' => e = .returned (.bool true) ∧ Below w.heap.size w w' := by
  obtain ⟨a, ha, hax⟩ := mask7w x
  obtain ⟨b, hb, hbx⟩ := mask7w (x / 8)
  go_enter Tryd.func7, Tryd.ntmps7
  go_wp2_with fail
  refine (awake14_calls _ hE).mono ?_
  rintro e w1 ⟨rfl, hb1⟩
  obtain ⟨n, hn, hn22⟩ : ∃ n : Nat, wrap64 ((IntKind.u64.wrap which).tmod 22) = (n : Int) ∧ n ≤ 21 := by
    have h0 : 0 ≤ which % 18446744073709551616 := Int.emod_nonneg _ (by decide)
    refine ⟨((which % 18446744073709551616) % 22).toNat, ?_, by omega⟩
    rw [IntKind.wrap_u64, Int.tmod_eq_emod_of_nonneg h0]
    unfold wrap64
    omega
  have HB := Lib.hid hb
  go_upto_if 28 with (fail)
  go_cut [7] (fun v7 wx => v7 = .int .i64 (wantA n : Nat) ∧ (w1.alloc (.cells #[.string ⟨#[37]⟩, .string ⟨#[97, 37]⟩, .string ⟨#[58]⟩, .string ⟨#[58, 32, 61]⟩, .string ⟨#[36]⟩, .string ⟨#[36, 49]⟩, .string ⟨#[46, 49]⟩, .string ⟨#[46, 46]⟩, .string ⟨#[46, 97, 46]⟩, .string ⟨#[36, 120, 46]⟩, .string ⟨#[49, 97]⟩, .string ⟨#[97, 58, 61]⟩, .string ⟨#[34, 97, 34, 98]⟩, .string ⟨#[46, 97, 36, 120]⟩, .string ⟨#[45, 32, 49]⟩, .string ⟨#[45]⟩, .string ⟨#[45, 45, 49]⟩, .string ⟨#[57, 48, 48, 55, 49, 57, 57, 50, 53, 52, 55, 52, 48, 57, 57, 50]⟩, .string ⟨#[45, 57, 57, 57, 57, 57, 57, 57, 57, 57, 57, 57, 57, 57, 57, 57, 57, 57, 57, 57, 57]⟩, .string ⟨#[34, 97]⟩, .string ⟨#[34, 92, 113, 34]⟩, .string ⟨#[34, 92]⟩] 9)) = wx)
  case first =>
    cases h14 : decide (14 ≤ (n : Int)) with
    | true =>
      have h : 14 ≤ n := by have := of_decide_eq_true h14; omega
      have H := Lib.hid h
      clear h
      go_wp2
      go_meet
      exact ⟨by unfold wantA; rw [if_pos H.out]; rfl, rfl⟩
    | false =>
      have h : ¬ 14 ≤ n := by have := of_decide_eq_false h14; omega
      have H := Lib.hid h
      clear h
      go_wp2
      go_meet
      exact ⟨by unfold wantA; rw [if_neg H.out]; rfl, rfl⟩
  case rest =>
  obtain ⟨rfl, rfl⟩ := hcut
  go_upto_if 30 with (fail)
  go_cut [7] (fun v7 wx => v7 = .int .i64 (wantE n : Nat) ∧ (w1.alloc (.cells #[.string ⟨#[37]⟩, .string ⟨#[97, 37]⟩, .string ⟨#[58]⟩, .string ⟨#[58, 32, 61]⟩, .string ⟨#[36]⟩, .string ⟨#[36, 49]⟩, .string ⟨#[46, 49]⟩, .string ⟨#[46, 46]⟩, .string ⟨#[46, 97, 46]⟩, .string ⟨#[36, 120, 46]⟩, .string ⟨#[49, 97]⟩, .string ⟨#[97, 58, 61]⟩, .string ⟨#[34, 97, 34, 98]⟩, .string ⟨#[46, 97, 36, 120]⟩, .string ⟨#[45, 32, 49]⟩, .string ⟨#[45]⟩, .string ⟨#[45, 45, 49]⟩, .string ⟨#[57, 48, 48, 55, 49, 57, 57, 50, 53, 52, 55, 52, 48, 57, 57, 50]⟩, .string ⟨#[45, 57, 57, 57, 57, 57, 57, 57, 57, 57, 57, 57, 57, 57, 57, 57, 57, 57, 57, 57, 57]⟩, .string ⟨#[34, 97]⟩, .string ⟨#[34, 92, 113, 34]⟩, .string ⟨#[34, 92]⟩] 9)) = wx)
  case first =>
    cases h19 : decide (19 ≤ (n : Int)) with
    | true =>
      have h : 19 ≤ n := by have := of_decide_eq_true h19; omega
      have H := Lib.hid h
      clear h
      go_wp2
      go_meet
      exact ⟨by unfold wantE; rw [if_pos H.out]; rfl, rfl⟩
    | false =>
      have h : ¬ 19 ≤ n := by have := of_decide_eq_false h19; omega
      have H := Lib.hid h
      clear h
      go_wp2
      go_meet
      exact ⟨by unfold wantE; rw [if_neg H.out]; rfl, rfl⟩
  case rest =>
  obtain ⟨rfl, rfl⟩ := hcut
  obtain ⟨wn, hwn⟩ : ∃ wn, wn = wantE n := ⟨_, rfl⟩
  rw [← hwn]
  go_upto_region 10 with (fail)
  go_cut [6, 8, 9] (fun v6 v8 v9 wx => v9 = .int .i64 (wn : Nat) ∧ (∃ a c, v8 = .slice a 0 c) ∧ Below w.heap.size w wx)
  case first =>
    have hE2 := fun (o : Obj) => hE.below (hb1.alloc hb1.size o)
    have hr : n = 0 ∨ n = 1 ∨ n = 2 ∨ n = 3 ∨ n = 4 ∨ n = 5 ∨ n = 6 ∨ n = 7 ∨ n = 8 ∨ n = 9 ∨ n = 10 ∨ n = 11 ∨ n = 12 ∨ n = 13 ∨ n = 14 ∨ n = 15 ∨ n = 16 ∨ n = 17 ∨ n = 18 ∨ n = 19 ∨ n = 20 ∨ n = 21 := by omega
    have HWN := Lib.hid hwn
    clear hwn
    rcases hr with rfl | rfl | rfl | rfl | rfl | rfl | rfl | rfl | rfl | rfl | rfl | rfl | rfl | rfl | rfl | rfl | rfl | rfl | rfl | rfl | rfl | rfl
    all_goals clear hn22
    all_goals go_wp2_with fail
    all_goals refine (words_calls _ _ (hE2 _) (by decide)).mono ?_
    all_goals rintro e w2 ⟨v, ds, k, rfl, hP, hb2, hs⟩
    all_goals obtain ⟨rfl, rfl⟩ := Prod.mk.inj (hs.symm.trans (show _ = (([] : List Wd), wn) by rw [HWN.out]; decide +kernel))
    all_goals obtain ⟨a, c, rfl⟩ := words_slice hP
    all_goals have hbz := (hb1.alloc hb1.size _).trans (hb2.mono (hb1.alloc hb1.size _).size)
    all_goals clear hs hP hb2
    all_goals go_wp2
    all_goals go_meet
    all_goals exact ⟨rfl, ⟨a, c, rfl⟩, hbz⟩
  case rest =>
  obtain ⟨rfl, ⟨a1, q1, rfl⟩, hb2⟩ := hcut
  have HBB := Lib.hid hwn
  clear hwn hn hn22
  obtain ⟨N, hNa⟩ : ∃ N, N = 29 + a := ⟨_, rfl⟩
  have hNi : (29 : Int) + (a : Int) = (N : Int) := by omega
  have hN36 : N ≤ 36 := by omega
  have HNA := Lib.hid hNa
  clear hNa
  go_wp2
  go_loopg [10, 11] N (fun gk v10 v11 wr => ∃ (i : Nat) (y : ByteArray), v11 = .int .i64 i ∧ v10 = .string y ∧ i + gk = N ∧ StrIs y (List.replicate i 97) ∧ wc = wr)
  case atStart => exact ⟨0, ⟨#[]⟩, rfl, rfl, by omega, rfl, rfl⟩
  case round =>
    obtain ⟨i, y, rfl, rfl, hig, hy, rfl⟩ := hrel
    have HIG := Lib.hid hig
    have hiz : i ≤ N := by omega
    clear hig
    have hys : y.size ≤ 40 := by rw [hy.size, List.length_replicate]; omega
    by_cases h1 : i < N
    · have h1b : decide ((i : Int) < (N : Int)) = true := decide_eq_true (by omega)
      have hcat := cat_s y ⟨#[97]⟩ (by show _ + _ ≤ _; exact Nat.le_trans (Nat.add_le_add_right hys _) (by decide))
      have hst : StrIs (y ++ ⟨#[97]⟩) (List.replicate (i + 1) 97) := by rw [List.replicate_succ']; exact hy.app rfl
      have HST := Lib.hid hst
      clear hst hy
      go_wp2
      go_roundg (gk - 1)
      case measure => have := HIG.out; omega
      case rel => exact ⟨i + 1, _, by go_num, rfl, by have := HIG.out; omega, HST.out, rfl⟩
    · have h1b : decide ((i : Int) < (N : Int)) = false := decide_eq_false (by omega)
      obtain rfl : N = i := by omega
      clear HIG hiz
      have hy1s : y.size = N := by rw [hy.size, List.length_replicate]
      have c1 := cat_s ⟨#[36]⟩ y (by show 1 + _ ≤ _; omega)
      have c2 := cat_s (⟨#[36]⟩ ++ y) ⟨#[32, 46]⟩ (by rw [ByteArray.size_append]; show 1 + _ + 2 ≤ _; omega)
      have c3 := cat_s (⟨#[36]⟩ ++ y ++ ⟨#[32, 46]⟩) y (by rw [ByteArray.size_append, ByteArray.size_append]; show 1 + _ + 2 + _ ≤ _; omega)
      have c4 := cat_s (⟨#[36]⟩ ++ y ++ ⟨#[32, 46]⟩ ++ y) ⟨#[32]⟩ (by rw [ByteArray.size_append, ByteArray.size_append, ByteArray.size_append]; show 1 + _ + 2 + _ + 1 ≤ _; omega)
      have c5 := cat_s (⟨#[36]⟩ ++ y ++ ⟨#[32, 46]⟩ ++ y ++ ⟨#[32]⟩) y (by rw [ByteArray.size_append, ByteArray.size_append, ByteArray.size_append, ByteArray.size_append]; show 1 + _ + 2 + _ + 1 + _ ≤ _; omega)
      have hl : (⟨#[36]⟩ ++ y ++ ⟨#[32, 46]⟩ ++ y ++ ⟨#[32]⟩ ++ y : ByteArray).data.toList = [36] ++ y.data.toList ++ [32, 46] ++ y.data.toList ++ [32] ++ y.data.toList := by simp [ByteArray.data_append]
      have hls : (⟨#[36]⟩ ++ y ++ ⟨#[32, 46]⟩ ++ y ++ ⟨#[32]⟩ ++ y : ByteArray).size ≤ 1073741824 := by
        rw [ByteArray.size_append, ByteArray.size_append, ByteArray.size_append, ByteArray.size_append, ByteArray.size_append]
        show 1 + _ + 2 + _ + 1 + _ ≤ _
        omega
      have hfl := forms_long a ha
      rw [← HNA.out, ← show y.data.toList = _ from hy, ← hl] at hfl
      have HFL := Lib.hid hfl
      clear hfl hl hy hys
      go_wp2_with fail
      clear c1 c2 c3 c4 c5
      refine (words_calls _ _ (hE.below hb2) hls).mono ?_
      rintro e w3 ⟨v3, ds3, n3, rfl, hW3, hb3', hs3⟩
      have hb3 := hb2.trans (hb3'.mono hb2.size)
      have hn3 : n3 = if N ≤ 32 then 0 else 1400 := by have h := HFL.out; rw [hs3] at h; exact h
      obtain ⟨a3, q3, rfl⟩ := hW3.slice
      generalize ds3.length = l3 at *
      generalize (⟨#[36]⟩ ++ y ++ ⟨#[32, 46]⟩ ++ y ++ ⟨#[32]⟩ ++ y : ByteArray) = y6 at *
      generalize (⟨#[36]⟩ ++ y ++ ⟨#[32, 46]⟩ ++ y ++ ⟨#[32]⟩ : ByteArray) = y5 at *
      generalize (⟨#[36]⟩ ++ y ++ ⟨#[32, 46]⟩ ++ y : ByteArray) = y4 at *
      generalize (⟨#[36]⟩ ++ y ++ ⟨#[32, 46]⟩ : ByteArray) = y3 at *
      generalize (⟨#[36]⟩ ++ y : ByteArray) = y2' at *
      have HN3 := Lib.hid hn3
      have HY1 := Lib.hid hy1s
      clear hs3 HFL hls hn3 hy1s hW3 h1b h1 hb3'
      obtain ⟨M, hMa⟩ : ∃ M, M = 5 + b := ⟨_, rfl⟩
      have hMi : (5 : Int) + (b : Int) = (M : Int) := by omega
      have hM12 : M ≤ 12 := by omega
      have HMA := Lib.hid hMa
      clear hMa
      go_wp2
      go_loopg [14, 15] M (fun gk v14 v15 wr => ∃ (i : Nat) (y : ByteArray), v15 = .int .i64 i ∧ v14 = .string y ∧ i + gk = M ∧ StrIs y (pthL i) ∧ w3 = wr)
      case atStart => exact ⟨0, ⟨#[]⟩, rfl, rfl, by omega, rfl, rfl⟩
      case round =>
        obtain ⟨i, y2, rfl, rfl, hig, hy2', rfl⟩ := hrel
        have HIG := Lib.hid hig
        have hiz : i ≤ M := by omega
        clear hig
        have hys2 : y2.size ≤ 40 := by rw [hy2'.size, pthL_len]; omega
        by_cases h1 : i < M
        · have h1b : decide ((i : Int) < (M : Int)) = true := decide_eq_true (by omega)
          have hcat := cat_s y2 ⟨#[46, 98]⟩ (by show _ + 2 ≤ _; omega)
          have hst : StrIs (y2 ++ ⟨#[46, 98]⟩) (pthL (i + 1)) := hy2'.app rfl
          have HST := Lib.hid hst
          clear hst hy2'
          go_wp2
          go_roundg (gk - 1)
          case measure => have := HIG.out; omega
          case rel => exact ⟨i + 1, _, by go_num, rfl, by have := HIG.out; omega, HST.out, rfl⟩
        · have h1b : decide ((i : Int) < (M : Int)) = false := decide_eq_false (by omega)
          obtain rfl : M = i := by omega
          clear HIG hiz
          have hy2 : StrIs y2 (pthL M) := hy2'
          have hy2s : y2.size = 2 * M := by rw [hy2.size, pthL_len]
          have hcp := cat_s ⟨#[36, 97]⟩ y2 (by show 2 + _ ≤ _; omega)
          have hl2 : (⟨#[36, 97]⟩ ++ y2 : ByteArray).data.toList = [36, 97] ++ pthL M := by rw [ByteArray.data_append, Array.toList_append, hy2]
          have hls2 : (⟨#[36, 97]⟩ ++ y2 : ByteArray).size ≤ 1073741824 := by rw [ByteArray.size_append]; show 2 + _ ≤ _; omega
          have hfp := forms_path b HB.out
          rw [← HMA.out, ← hl2] at hfp
          have HFP := Lib.hid hfp
          have HY2 := Lib.hid hy2s
          clear hfp hl2 hy2 hy2' hy2s
          go_wp2_with fail
          clear hcp
          refine (words_calls _ _ (hE.below hb3) hls2).mono ?_
          rintro e w4 ⟨v4, ds4, n4, rfl, hW4, hb4, hs4⟩
          have hbw := hb3.trans (hb4.mono hb3.size)
          have hn4 : n4 = if M ≤ 8 then 0 else 1400 := by have h := HFP.out; rw [hs4] at h; exact h
          obtain ⟨a4, q4, rfl⟩ := hW4.slice
          generalize ds4.length = l4 at *
          generalize (⟨#[36, 97]⟩ ++ y2 : ByteArray) = z3 at *
          have HN4 := Lib.hid hn4
          clear hs4 hW4 hls2 hn4 HFP
          by_cases hf : N ≤ 32
          · have hn3' : n3 = 0 := by rw [HN3.out, if_pos hf]
            have hfb : decide ((y.size : Int) ≤ 32) = true := decide_eq_true (by have := HY1.out; omega)
            by_cases hg : M ≤ 8
            · have hn4' : n4 = 0 := by rw [HN4.out, if_pos hg]
              have hgb : decide ((y2.size : Int) ≤ 16) = true := decide_eq_true (by have := HY2.out; omega)
              subst hn3' hn4'
              clear HN3 HN4
              go_wp2_with (go_at_call 18; go_in)
              go_ret
              exact ⟨rfl, hbw⟩
            · have hn4' : n4 = 1400 := by rw [HN4.out, if_neg hg]
              have hgb : decide ((y2.size : Int) ≤ 16) = false := decide_eq_false (by have := HY2.out; omega)
              subst hn3' hn4'
              clear HN3 HN4
              go_wp2_with (go_at_call 18; go_in)
              go_ret
              exact ⟨rfl, hbw⟩
          · have hn3' : n3 = 1400 := by rw [HN3.out, if_neg hf]
            have hfb : decide ((y.size : Int) ≤ 32) = false := decide_eq_false (by have := HY1.out; omega)
            by_cases hg : M ≤ 8
            · have hn4' : n4 = 0 := by rw [HN4.out, if_pos hg]
              have hgb : decide ((y2.size : Int) ≤ 16) = true := decide_eq_true (by have := HY2.out; omega)
              subst hn3' hn4'
              clear HN3 HN4
              go_wp2_with (go_at_call 18; go_in)
              go_ret
              exact ⟨rfl, hbw⟩
            · have hn4' : n4 = 1400 := by rw [HN4.out, if_neg hg]
              have hgb : decide ((y2.size : Int) ≤ 16) = false := decide_eq_false (by have := HY2.out; omega)
              subst hn3' hn4'
              clear HN3 HN4
              go_wp2_with (go_at_call 18; go_in)
              go_ret
              exact ⟨rfl, hbw⟩
end Go.Proofs.YtblkbhomlblfnaaDoor.S
