/-
  THE WALK of the law SplitForms (chapter 13).
-/
import Derived.Test.YtblkbhomlblfnaaDoorLaw13d
import Derived.Laws.MakeOwn
set_option linter.unusedVariables false
set_option linter.unusedSimpArgs false
namespace Go.Proofs.YtblkbhomlblfnaaDoor.S
open Go.RowKit

theorem mask31 (c : Int) : ∃ n : Nat, n ≤ 31 ∧ bits .and .i64 c 31 = (n : Int) :=
  ⟨(c % 32).toNat, by omega, (i64_mask 5 (by decide) c).trans (by show c % 32 = _; omega)⟩
theorem mask7' (c : Int) : ∃ n : Nat, n ≤ 7 ∧ bits .and .i64 c 7 = (n : Int) :=
  ⟨(c % 8).toNat, by omega, (i64_mask 3 (by decide) c).trans (by show c % 8 = _; omega)⟩
theorem ps_slice {base : Nat} {v : Value} {ps : List Pc} {w : World} (h : Pcs base v ps w) : ∃ a c, v = .slice a ps.length c := by
  obtain ⟨a, c, h, _⟩ := own_slice h
  exact ⟨a, c, h⟩

theorem zeros_made (n : Nat) : (madeCells (Value.int .u8 0).cells (n * 1)).toList = Lib.byteCells (List.replicate n 0) := by
  apply List.ext_getElem
  · simp [madeCells, Lib.byteCells]
  · intro i h1 h2
    simp [madeCells, Lib.byteCells, Value.cells, Nat.mod_one]
theorem bytes_zeros {base : Nat} {v : Value} {w : World} (n : Nat) (h : w.ownsRow base 5 1 v n (madeCells (Value.int .u8 0).cells (n * 1)).toList) : Bytes base v (List.replicate n 0) w := by
  unfold Bytes
  rw [List.length_replicate, ← zeros_made]
  exact h
theorem grow_below {w w' : World} (h : w.grownBy w' none) : Below w.heap.size w w' := (Below.refl _ w).grown h (Nat.le_refl _) fun k hk => by cases hk
theorem splitR_big {l : List UInt8} (h : 65536 < l.length) : splitR l = ([], 1301) := if_pos h
set_option maxRecDepth 100000 in
set_option maxHeartbeats 4000000 in
theorem splitForms_calls (which x : Int) (w : World) (hE : Env w) :
    Calls Tryd.prog 13 #[.int .i64 which, .int .i64 x] w fun e w' => e = .returned (.bool true) ∧ Below w.heap.size w w' := by
  obtain ⟨m7, hm7, hx7⟩ := mask7' x
  obtain ⟨m31, hm31, hx31⟩ := mask31 x
  go_enter Tryd.func13, Tryd.ntmps13
  go_wp2_with fail
  refine (awake13_calls _ hE).mono ?_
  rintro e w1 ⟨rfl, hb1⟩
  go_upto_region 4 with (fail)
  obtain ⟨n, hn, hn9⟩ : ∃ n : Nat, wrap64 ((IntKind.u64.wrap which).tmod 9) = (n : Int) ∧ n ≤ 8 := by
    have h0 : 0 ≤ which % 18446744073709551616 := Int.emod_nonneg _ (by decide)
    refine ⟨((which % 18446744073709551616) % 9).toNat, ?_, by omega⟩
    rw [IntKind.wrap_u64, Int.tmod_eq_emod_of_nonneg h0]
    unfold wrap64
    omega
  go_cut [6, 7] (fun v6 v7 wx => v7 = .int .i64 1300 ∧ (∃ a c, v6 = .slice a 0 c) ∧ Below w.heap.size w wx)
  case first =>
    have hE2 := fun (o : Obj) => hE.below (hb1.alloc hb1.size o)
    have hr : n = 0 ∨ n = 1 ∨ n = 2 ∨ n = 3 ∨ n = 4 ∨ n = 5 ∨ n = 6 ∨ n = 7 ∨ n = 8 := by omega
    rcases hr with rfl | rfl | rfl | rfl | rfl | rfl | rfl | rfl | rfl
    all_goals clear hn9
    all_goals go_wp2_with fail
    all_goals refine (lexSplit_any _ _ (hE2 _)).mono ?_
    all_goals rintro e w2 ⟨v, ps, k, rfl, hP, hb2, hs⟩
    all_goals obtain ⟨rfl, rfl⟩ := Prod.mk.inj (hs.symm.trans (show _ = (([] : List Pc), 1300) by decide +kernel))
    all_goals obtain ⟨a, c, rfl⟩ := ps_slice hP
    all_goals have hbz := (hb1.alloc hb1.size _).trans (hb2.mono (hb1.alloc hb1.size _).size)
    all_goals clear hs hP hb2
    all_goals go_wp2
    all_goals go_meet
    all_goals exact ⟨rfl, ⟨a, c, rfl⟩, hbz⟩
  case rest =>
  obtain ⟨rfl, ⟨a1, q1, rfl⟩, hbx⟩ := hcut
  obtain ⟨i0, hi, hz0, hz1, hz2⟩ := info_parts byteInfo
  obtain ⟨N, hN⟩ : ∃ N : Nat, N = 253 + m7 := ⟨_, rfl⟩
  have hNi : (253 : Int) + (m7 : Int) = (N : Int) := by omega
  have hNl : N ≤ 260 ∧ 253 ≤ N := by omega
  obtain ⟨w6, hmk, hown, hg6⟩ := run_make_full (P := Tryd.prog) wc wc.heap.size 25 5 i0 (.int .u8 0) 1 Tryd.underlying25 hi hz0 hz1 .i64 .i64 N (by rw [hz2]; omega) (by simp only [maxLen]; omega) (Nat.le_refl _)
  have hB6 := bytes_string (bytes_zeros N hown)
  obtain ⟨Z, hZ⟩ : ∃ Z : ByteArray, Z = ⟨(List.replicate N 0).toArray⟩ := ⟨_, rfl⟩
  have hZl : Z.data.toList = List.replicate N 0 := by rw [hZ]
  have hZs : Z.size ≤ 260 := by rw [← size_list, hZl, List.length_replicate]; omega
  rw [← hZ] at hB6
  have hb6 : Below w.heap.size w w6 := hbx.grown hg6 hbx.size (fun k hk => by cases hk)
  have hc1 := cat_at ⟨#[123, 123]⟩ Z (by show 2 + _ ≤ _; omega)
  have hc2 := cat_at (⟨#[123, 123]⟩ ++ Z) ⟨#[125, 125]⟩ (by rw [ByteArray.size_append]; show 2 + _ + 2 ≤ _; omega)
  have hl : (⟨#[123, 123]⟩ ++ Z ++ ⟨#[125, 125]⟩ : ByteArray).data.toList = [123, 123] ++ List.replicate N 0 ++ [125, 125] := by
    rw [ByteArray.data_append, ByteArray.data_append, Array.toList_append, Array.toList_append, hZl]
  have hp := splitR_long N (by omega) (by omega)
  rw [← hl] at hp
  have HP := Lib.hid hp
  have HZ := Lib.hid hZ
  clear hp hl hZl hZs hown hg6 hN hi hz0 hz1 hz2 hZ
  go_wp2_with fail
  clear hc1 hc2 hmk hB6
  refine (lexSplit_any _ _ (hE.below hb6)).mono ?_
  rintro e w7 ⟨v7, ps7, n7, rfl, hP7, hb7, hs⟩
  rw [HP.out] at hs
  clear HP
  have hb7 := hb6.trans (hb7.mono hb6.size)
  generalize (⟨#[123, 123]⟩ ++ Z ++ ⟨#[125, 125]⟩ : ByteArray) = z2 at *
  generalize (⟨#[123, 123]⟩ ++ Z : ByteArray) = z1 at *
  obtain ⟨M, hM⟩ : ∃ M : Nat, M = 500 + m31 := ⟨_, rfl⟩
  have hMi : (500 : Int) + (m31 : Int) = (M : Int) := by omega
  have hMl : M ≤ 531 ∧ 500 ≤ M := by omega
  have HS := Lib.hid hs
  have HP7 := Lib.hid hP7
  clear hs hP7 hM
  go_wp2
  go_loopg [12, 14] M (fun gk v12 v14 wr => ∃ (k : Nat) (y : ByteArray), v14 = .int .i64 k ∧ v12 = .string y ∧ k + gk = M ∧ StrIs y (manyL k) ∧ w7 = wr)
  case atStart => exact ⟨0, ⟨#[]⟩, rfl, rfl, by omega, rfl, rfl⟩
  case round =>
    obtain ⟨k, y, rfl, rfl, hkg, hy, rfl⟩ := hrel
    have HKG := Lib.hid hkg
    have hkm : k ≤ M := by omega
    clear hkg
    have hys : y.size ≤ 4000 := by rw [hy.size, manyL_len]; omega
    by_cases h1 : k < M
    · have h1b : decide ((k : Int) < (M : Int)) = true := decide_eq_true (by omega)
      have hcat := cat_at y ⟨#[98, 123, 123, 46, 125, 125]⟩ (by show _ + 6 ≤ _; omega)
      have hst : StrIs (y ++ ⟨#[98, 123, 123, 46, 125, 125]⟩) (manyL (k + 1)) := by rw [manyL_back]; exact hy.cat rfl
      have HST := Lib.hid hst
      clear hst hy
      go_wp2
      go_roundg (gk - 1)
      case measure => have := HKG.out; omega
      case rel => exact ⟨k + 1, _, by go_num, rfl, by have := HKG.out; omega, HST.out, rfl⟩
    · have h1b : decide ((k : Int) < (M : Int)) = false := decide_eq_false (by omega)
      obtain rfl : k = M := by omega
      have HY := Lib.hid hy
      clear hy HKG hkm
      go_wp2_with fail
      refine (lexSplit_any _ _ (hE.below hb7)).mono ?_
      rintro e w8 ⟨v8, ps8, n8, rfl, hP8, hb8, hs⟩
      rw [show y.data.toList = manyL k from HY.out, splitR_many k (by omega)] at hs
      have hb8' := hb8
      have hb8 := hb7.trans (hb8.mono hb7.size)
      obtain ⟨i0, hi, hz0, hz1, hz2⟩ := info_parts byteInfo
      obtain ⟨T, hT⟩ : ∃ T : Nat, T = 65537 := ⟨_, rfl⟩
      have hTi : (T : Int) = 65537 := by omega
      have HT := Lib.hid hT
      clear hT
      obtain ⟨w9, hmk, hown, hg9⟩ := run_make_full (P := Tryd.prog) w8 w8.heap.size 25 5 i0 (.int .u8 0) 1 Tryd.underlying25 hi hz0 hz1 .i64 .i64 T (by have := HT.out; rw [hz2]; omega) (by have := HT.out; simp only [maxLen]; omega) (Nat.le_refl _)
      have hB9 := bytes_string (bytes_zeros T hown)
      rw [hTi] at hmk
      obtain ⟨V, hV⟩ : ∃ V : ByteArray, V = ⟨(List.replicate T 0).toArray⟩ := ⟨_, rfl⟩
      have hVl : V.data.toList = List.replicate T 0 := by rw [hV]
      rw [← hV] at hB9
      have hbig : splitR V.data.toList = ([], 1301) := splitR_big (by have := HT.out; rw [hVl, List.length_replicate]; omega)
      have HBIG := Lib.hid hbig
      have hb9 : Below w.heap.size w w9 := hb8.grown hg9 hb8.size (fun k hk => by cases hk)
      have HS8 := Lib.hid hs
      have HP8 := Lib.hid hP8
      have HG9 := Lib.hid hg9
      clear hs hP8 hbig hV hVl hown hg9 hi hz0 hz1 hz2 hTi
      go_wp2_with fail
      refine (lexSplit_any _ _ (hE.below hb9)).mono ?_
      rintro e w10 ⟨v10, ps10, n10, rfl, hP10, hb10, hs⟩
      rw [HBIG.out] at hs
      obtain ⟨rfl, rfl⟩ := Prod.mk.inj hs.symm
      clear hs HBIG hmk hB9
      have hbw := hb9.trans (hb10.mono hb9.size)
      obtain ⟨a10, c10, rfl⟩ := ps_slice hP10
      have hP8 := own_below (own_below HP8.out (grow_below HG9.out)) hb10
      have hP7 := own_below (own_below (own_below HP7.out (hb8'.mono (Nat.le_refl _))) (grow_below HG9.out)) hb10
      obtain ⟨a8, c8, rfl⟩ := ps_slice hP8
      obtain ⟨a7, c7, rfl⟩ := ps_slice hP7
      clear hP10 HG9 hb10 hb9
      have h256 : ∃ B, B = decide (256 < N) := ⟨_, rfl⟩
      go_upto_if 83 with (go_at_call 18; go_in)
      go_cut [19] (fun v19 wx => v19 = .bool true ∧ w10 = wx)
      case first =>
        by_cases hk : 256 < N
        · have hs := HS.out
          rw [if_pos hk] at hs
          obtain ⟨rfl, rfl⟩ := Prod.mk.inj hs.symm
          clear hs HS
          have hkb : decide (256 < (N : Int)) = true := decide_eq_true (by omega)
          clear hP7 hP8
          go_wp2_with (go_at_call 18; go_in)
          go_meet
          exact ⟨rfl, rfl⟩
        · have hs := HS.out
          rw [if_neg hk] at hs
          obtain ⟨rfl, rfl⟩ := Prod.mk.inj hs.symm
          clear hs HS
          have hkb : decide (256 < (N : Int)) = false := decide_eq_false (by omega)
          obtain ⟨bb, cap, hv, hbb, hcc⟩ := Pcs.form hP7 (by simp)
          obtain ⟨rfl, -, rfl⟩ := Value.slice.inj hv
          obtain ⟨d00, d01, d02⟩ := Pcs.at hP7 0 (by simp)
          simp only [List.length_cons, List.length_nil, Nat.zero_add, List.getElem_cons_zero] at d00 d01 d02 hcc ⊢
          rw [← HZ.out] at d01
          clear hP7 hP8 hv
          go_wp2_with (go_at_call 18; go_in)
          go_meet
          exact ⟨rfl, rfl⟩
      case rest =>
      obtain ⟨rfl, rfl⟩ := hcut
      by_cases hk : 1024 < 2 * k
      · have hs := HS8.out
        rw [if_pos hk] at hs
        obtain ⟨rfl, rfl⟩ := Prod.mk.inj hs.symm
        clear hs HS8
        have hkb : decide (1024 < 2 * (k : Int)) = true := decide_eq_true (by omega)
        clear hP7 hP8
        go_wp2_with (go_at_call 18; go_in)
        go_ret
        exact ⟨rfl, hbw⟩
      · have hs := HS8.out
        rw [if_neg hk] at hs
        obtain ⟨rfl, rfl⟩ := Prod.mk.inj hs.symm
        clear hs HS8
        have hkb : decide (1024 < 2 * (k : Int)) = false := decide_eq_false (by omega)
        have hml := manyP_len k 0
        clear hP7 hP8
        go_wp2_with (go_at_call 18; go_in)
        go_ret
        exact ⟨rfl, hbw⟩
end Go.Proofs.YtblkbhomlblfnaaDoor.S
