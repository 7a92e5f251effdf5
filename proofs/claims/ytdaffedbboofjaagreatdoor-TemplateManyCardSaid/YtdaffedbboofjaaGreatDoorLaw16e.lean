/-
  THE WALK of the law TemplateMany (chapter 16).
-/
import Derived.Test.YtdaffedbboofjaaGreatDoorTmplAll
set_option linter.unusedVariables false
set_option linter.unusedSimpArgs false
namespace Go.Proofs.YtdaffedbboofjaaGreatDoor.S
open Go.RowKit

def manyS (k : Nat) : List UInt8 := (List.replicate k ([116, 123, 123, 46, 125, 125] : List UInt8)).flatten
def manyI (k : Nat) : List It := (List.replicate k [It.mk 0 [116] [] [] [], It.mk 1 [] dotP [] []]).flatten
theorem manyS_succ (i : Nat) : manyS (i + 1) = manyS i ++ [116, 123, 123, 46, 125, 125] := by unfold manyS; rw [List.replicate_succ', List.flatten_append]; simp
theorem manyS_len (i : Nat) : (manyS i).length = 6 * i := by
  induction i with
  | zero => rfl
  | succ i ih => rw [manyS_succ, List.length_append, ih]; simp; omega
theorem manyI_succ (k : Nat) : manyI (k + 1) = It.mk 0 [116] [] [] [] :: It.mk 1 [] dotP [] [] :: manyI k := by unfold manyI; rw [List.replicate_succ, List.flatten_cons]; rfl
theorem manyI_len (k : Nat) : (manyI k).length = 2 * k := by
  induction k with
  | zero => rfl
  | succ k ih => rw [manyI_succ, List.length_cons, List.length_cons, ih]; omega
theorem manyI_get : ∀ (k i : Nat), i < k → (manyI k)[2 * i]? = some (It.mk 0 [116] [] [] []) ∧ (manyI k)[2 * i + 1]? = some (It.mk 1 [] dotP [] [])
  | 0, i, h => absurd h (Nat.not_lt_zero _)
  | k + 1, 0, _ => by rw [manyI_succ]; exact ⟨rfl, rfl⟩
  | k + 1, i + 1, h => by
    have ih := manyI_get k i (by omega)
    rw [manyI_succ, show 2 * (i + 1) = 2 * i + 1 + 1 by omega]
    exact ih
set_option maxRecDepth 1000000 in
theorem many_ok (j : Nat) (h : j ≤ 7) : tmplL (manyS (505 + j)) = .ok (manyI (505 + j)) := by
  have hr : j = 0 ∨ j = 1 ∨ j = 2 ∨ j = 3 ∨ j = 4 ∨ j = 5 ∨ j = 6 ∨ j = 7 := by omega
  rcases hr with rfl | rfl | rfl | rfl | rfl | rfl | rfl | rfl
  all_goals (show _ = _; kernel_rfl)
set_option maxRecDepth 1000000 in
theorem many_no (j : Nat) (h : j ≤ 11) : tmplL (manyS (513 + j)) = .error 1302 := by
  have hr : j = 0 ∨ j = 1 ∨ j = 2 ∨ j = 3 ∨ j = 4 ∨ j = 5 ∨ j = 6 ∨ j = 7 ∨ j = 8 ∨ j = 9 ∨ j = 10 ∨ j = 11 := by omega
  rcases hr with rfl | rfl | rfl | rfl | rfl | rfl | rfl | rfl | rfl | rfl | rfl | rfl
  all_goals (show _ = _; kernel_rfl)
set_option maxRecDepth 100000 in
set_option maxHeartbeats 16000000 in
theorem templateMany_calls (many : Int) (w : World) (hE : Env w) :
    Calls Tryz.prog 7 #[.int .i64 many] w fun e w' => e = .returned (.bool true) ∧ Below w.heap.size w w' := by
  go_enter Tryz.func7, Tryz.ntmps7
  go_wp2_with fail
  refine (awake16_calls _ hE).mono ?_
  rintro e w1 ⟨rfl, hb1⟩
  obtain ⟨n, hn, hn19⟩ : ∃ n : Nat, wrap64 ((IntKind.u64.wrap many).tmod 20) = (n : Int) ∧ n ≤ 19 := by
    have h0 : 0 ≤ many % 18446744073709551616 := Int.emod_nonneg _ (by decide)
    refine ⟨((many % 18446744073709551616) % 20).toNat, ?_, by omega⟩
    rw [IntKind.wrap_u64, Int.tmod_eq_emod_of_nonneg h0]
    unfold wrap64
    omega
  obtain ⟨K, hKa⟩ : ∃ K, K = 505 + n := ⟨_, rfl⟩
  have hKi : (505 : Int) + (n : Int) = (K : Int) := by omega
  have hK : K ≤ 524 := by omega
  have HKA := Lib.hid hKa
  clear hKa
  go_wp2
  go_loopg [4, 5] K (fun gk v4 v5 wr => ∃ (i : Nat) (y : ByteArray), v5 = .int .i64 i ∧ v4 = .string y ∧ i + gk = K ∧ StrIs y (manyS i) ∧ w1 = wr)
  case atStart => exact ⟨0, ⟨#[]⟩, rfl, rfl, by omega, rfl, rfl⟩
  case round =>
    obtain ⟨i, y, rfl, rfl, hig, hy, rfl⟩ := hrel
    have HIG := Lib.hid hig
    have hiz : i ≤ K := by omega
    clear hig
    have hys : y.size ≤ 4000 := by rw [hy.size, manyS_len]; omega
    by_cases h1 : i < K
    · have h1b : decide ((i : Int) < (K : Int)) = true := decide_eq_true (by omega)
      have hcat := fun W => run_string_add_sum (P := Tryz.prog) W y ⟨#[116, 123, 123, 46, 125, 125]⟩ (by show _ + 6 ≤ _; omega)
      have hst : StrIs (y ++ ⟨#[116, 123, 123, 46, 125, 125]⟩) (manyS (i + 1)) := by
        rw [manyS_succ]
        unfold StrIs at *
        rw [← hy]
        simp [ByteArray.data_append]
      have HST := Lib.hid hst
      clear hst hy
      go_wp2
      go_roundg (gk - 1)
      case measure => have := HIG.out; omega
      case rel => exact ⟨i + 1, _, by go_num, rfl, by have := HIG.out; omega, HST.out, rfl⟩
    · have h1b : decide ((i : Int) < (K : Int)) = false := decide_eq_false (by omega)
      obtain rfl : K = i := by omega
      have hC := tmplParse_calls y w1 (hE.below hb1)
      rw [show y.data.toList = manyS K from hy] at hC
      clear HIG hiz hy hys
      by_cases h7 : n ≤ 7
      · have hm := many_ok n h7
        rw [← HKA.out] at hm
        rw [hm] at hC
        have hKb : decide ((1024 : Int) < 2 * (K : Int)) = false := decide_eq_false (by have := HKA.out; omega)
        clear hm HKA h7 hn hn19 hKi
        go_wp2_with fail
        refine hC.mono ?_
        rintro e w2 ⟨hok, -, hb2⟩
        obtain ⟨v, rfl, hI⟩ := hok _ rfl
        have hbw := hb1.trans (hb2.mono hb1.size)
        obtain ⟨sa, sc, rfl⟩ := hI.slice
        have hKL := manyI_len K
        rw [hKL] at *
        clear hok hC hb2
        go_wp2_with (go_at_call 15; go_in)
        clear hKb
        go_loopg [8] K (fun gk v8 wr => ∃ i : Nat, i + gk = K ∧ v8 = .int .i64 i ∧ w2 = wr)
        case atStart => exact ⟨0, by omega, rfl, rfl⟩
        case round =>
          obtain ⟨i, hig, rfl, rfl⟩ := hrel
          have HIG := Lib.hid hig
          have hiz : i ≤ K := by omega
          clear hig
          by_cases hi : i < K
          · have hib : decide ((i : Int) < (K : Int)) = true := decide_eq_true (by omega)
            obtain ⟨hg0, hg1⟩ := manyI_get K i hi
            obtain ⟨hl0, he0⟩ := List.getElem?_eq_some_iff.1 hg0
            obtain ⟨hl1, he1⟩ := List.getElem?_eq_some_iff.1 hg1
            obtain ⟨b, cap, pv, tv, ev, hv, hcc, d0, d1, -⟩ := hI.at (2 * i) hl0
            obtain ⟨b', cap', pv', tv', ev', hv', hcc', e0, -⟩ := hI.at (2 * i + 1) hl1
            rw [manyI_len] at hv hv' hcc hcc'
            obtain ⟨rfl, -, rfl⟩ := Value.slice.inj hv
            obtain ⟨hbb, -, -⟩ := Value.slice.inj hv'
            injection hbb with hbb
            injection hbb with hbb
            subst hbb
            rw [he0] at d0 d1
            rw [he1] at e0
            have d0 : w2.cell? ⟨b, 2 * i * 5, none⟩ = some (.int .i64 0) := d0
            have d1 : w2.cell? ⟨b, 2 * i * 5 + 1, none⟩ = some (.string ⟨#[116]⟩) := d1
            have e0 : w2.cell? ⟨b, (2 * i + 1) * 5, none⟩ = some (.int .i64 1) := e0
            have ht0 : (2 * (i : Int)).toNat = 2 * i := by omega
            have ht1 : (2 * (i : Int) + 1).toNat = 2 * i + 1 := by omega
            clear hv hv' hg0 hg1 hl0 hl1 he0 he1 hI
            go_wp2
            go_roundg (gk - 1)
            case measure => have := HIG.out; omega
            case rel => exact ⟨i + 1, by have := HIG.out; omega, by go_num, rfl⟩
          · have hib : decide ((i : Int) < (K : Int)) = false := decide_eq_false (by omega)
            clear hI
            go_wp2
            go_ret
            exact ⟨rfl, hbw⟩
      · have hm := many_no (n - 8) (by omega)
        rw [show 513 + (n - 8) = K by have := HKA.out; omega] at hm
        rw [hm] at hC
        have hKb : decide ((1024 : Int) < 2 * (K : Int)) = true := decide_eq_true (by have := HKA.out; omega)
        clear hm HKA h7 hn hn19 hKi
        go_wp2_with fail
        refine hC.mono ?_
        rintro e w2 ⟨-, hno, hb2⟩
        obtain rfl := hno 1302 rfl
        have hbw := hb1.trans (hb2.mono hb1.size)
        clear hno hC hb2
        go_wp2_with (go_at_call 15; go_in)
        go_ret
        exact ⟨rfl, hbw⟩
end Go.Proofs.YtdaffedbboofjaaGreatDoor.S
