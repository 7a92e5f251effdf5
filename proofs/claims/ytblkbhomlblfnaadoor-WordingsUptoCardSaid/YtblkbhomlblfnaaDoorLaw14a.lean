/-
  THE WALK of the law WordInts (chapter 14).
-/
import Derived.Test.YtblkbhomlblfnaaDoorAwake14
import Derived.Test.YtblkbhomlblfnaaDoorPlainW3
set_option linter.unusedVariables false
set_option linter.unusedSimpArgs false
namespace Go.Proofs.YtblkbhomlblfnaaDoor.S
open Go.RowKit

theorem cat_s (a b : ByteArray) (h : a.size + b.size ≤ 9223372036854775807) (W : World) : (Op.stringOp .add a b).run Tryd.prog W = .ok (.string (a ++ b)) W := run_string_add_sum W a b h
theorem StrIs.app {a b : ByteArray} {l r : List UInt8} (h1 : StrIs a l) (h2 : StrIs b r) : StrIs (a ++ b) (l ++ r) := by
  unfold StrIs at *
  rw [← h1, ← h2]
  simp [ByteArray.data_append]
theorem mask7w (c : Int) : ∃ n : Nat, n ≤ 7 ∧ bits .and .i64 c 7 = (n : Int) :=
  ⟨(c % 8).toNat, by omega, (i64_mask 3 (by decide) c).trans (by show c % 8 = _; omega)⟩
theorem mask53 (c : Int) : ∃ n : Nat, n ≤ 9007199254740991 ∧ bits .and .i64 c 9007199254740991 = (n : Int) :=
  ⟨(c % 9007199254740992).toNat, by omega, (i64_mask 53 (by decide) c).trans (by show c % 9007199254740992 = _; omega)⟩
set_option maxRecDepth 100000 in
set_option maxHeartbeats 8000000 in
theorem wordInts_calls (x zeros : Int) (neg : Bool) (w : World) (hE : Env w) :
    Calls Tryd.prog 8 #[.int .i64 x, .int .i64 zeros, .bool neg] w fun e w' => e = .returned (.bool true) ∧ Below w.heap.size w w' := by
  obtain ⟨z, hz7, hz⟩ := mask7w zeros
  obtain ⟨k, hk, hkx⟩ := mask53 x
  go_enter Tryd.func8, Tryd.ntmps8
  go_wp2_with fail
  refine (awake14_calls _ hE).mono ?_
  rintro e w1 ⟨rfl, hb1⟩
  have hE1 := hE.below hb1
  go_wp2
  go_loopg [8, 9] z (fun gk v8 v9 wr => ∃ (i : Nat) (y : ByteArray), v9 = .int .i64 i ∧ v8 = .string y ∧ i + gk = z ∧ StrIs y (List.replicate i 48) ∧ w1 = wr)
  case atStart => exact ⟨0, ⟨#[]⟩, rfl, rfl, by omega, rfl, rfl⟩
  case round =>
    obtain ⟨i, y, rfl, rfl, hig, hy, rfl⟩ := hrel
    have HIG := Lib.hid hig
    have hiz : i ≤ z := by omega
    clear hig
    have hys : y.size ≤ 7 := by rw [hy.size, List.length_replicate]; omega
    by_cases h1 : i < z
    · have h1b : decide ((i : Int) < (z : Int)) = true := decide_eq_true (by omega)
      have hcat := cat_s y ⟨#[48]⟩ (by show _ + 1 ≤ _; omega)
      have hst : StrIs (y ++ ⟨#[48]⟩) (List.replicate (i + 1) 48) := by rw [List.replicate_succ']; exact hy.app rfl
      have HST := Lib.hid hst
      clear hst hy
      go_wp2
      go_roundg (gk - 1)
      case measure => have := HIG.out; omega
      case rel => exact ⟨i + 1, _, by go_num, rfl, by have := HIG.out; omega, HST.out, rfl⟩
    · have h1b : decide ((i : Int) < (z : Int)) = false := decide_eq_false (by omega)
      obtain rfl : i = z := by omega
      clear HIG hiz
      go_wp2_with fail
      refine (decimal_calls k _ (by omega)).mono ?_
      rintro e w2 ⟨r, rfl, hr, hb2⟩
      have hb12 := hb1.trans (hb2.mono hb1.size)
      have hE2 := hE1.below hb2
      have hdl := decR_len 16 k [] (by omega)
      have hrs : r.size ≤ 17 := by rw [hr.size]; exact hdl
      have hD := hy.app hr
      have hDs : (y ++ r).size ≤ 24 := by rw [ByteArray.size_append]; omega
      have hcat := cat_s y r (by omega)
      obtain ⟨D, hDD⟩ : ∃ D, D = y ++ r := ⟨_, rfl⟩
      rw [← hDD] at hD hDs hcat
      have hp := wordsL_ints neg i k hk
      have HP := Lib.hid hp
      have HD := Lib.hid hD
      clear hr hdl hrs hDD hy hp hD hys
      go_upto_if 28 with (fail)
      have hcat2 := cat_s ⟨#[45]⟩ D (by show 1 + _ ≤ _; omega)
      clear hcat
      go_cut [7, 8] (fun v7 v8 wx => ∃ S, v7 = .int .i64 (if neg = true then -(k : Int) else k) ∧ v8 = .string S ∧ StrIs S ((if neg = true then [45] else []) ++ (List.replicate i 48 ++ decL k)) ∧ S.size ≤ 25 ∧ w2 = wx)
      case first =>
        cases neg with
        | true =>
          have hS : StrIs (⟨#[45]⟩ ++ D) ([45] ++ (List.replicate i 48 ++ decL k)) := StrIs.app rfl HD.out
          have HS := Lib.hid hS
          have hSs : (⟨#[45]⟩ ++ D : ByteArray).size ≤ 25 := by rw [ByteArray.size_append]; show 1 + _ ≤ _; omega
          have HSS := Lib.hid hSs
          clear hS hSs
          go_wp2
          go_meet
          exact ⟨_, rfl, rfl, HS.out, HSS.out, rfl⟩
        | false =>
          go_wp2
          go_meet
          exact ⟨D, rfl, rfl, HD.out, by omega, rfl⟩
      case rest =>
      obtain ⟨S, rfl, rfl, hS, hSs, rfl⟩ := hcut
      have hp := HP.out
      rw [← show S.data.toList = _ from hS] at hp
      generalize (if neg = true then -(k : Int) else k) = q at *
      have c1 := cat_s S ⟨#[124]⟩ (by show _ + 1 ≤ _; omega)
      have c2 := cat_s (S ++ ⟨#[124]⟩) S (by rw [ByteArray.size_append]; show _ + 1 + _ ≤ _; omega)
      have hl : (S ++ ⟨#[124]⟩ ++ S : ByteArray).data.toList = S.data.toList ++ [124] ++ S.data.toList := by simp [ByteArray.data_append]
      have hls : (S ++ ⟨#[124]⟩ ++ S : ByteArray).size ≤ 1073741824 := by rw [ByteArray.size_append, ByteArray.size_append]; show _ + 1 + _ ≤ _; omega
      rw [← hl] at hp
      have HP2 := Lib.hid hp
      clear hp hl hS HP HD hcat2 hDs
      go_wp2_with fail
      refine (words_calls _ _ hE2 hls).mono ?_
      rintro e w3 ⟨v, ds, n, rfl, hW, hb3, hs⟩
      rw [HP2.out] at hs
      obtain ⟨rfl, rfl⟩ := Prod.mk.inj hs.symm
      clear hs HP2 c1 c2 hls
      have hbw := hb12.trans (hb3.mono hb12.size)
      obtain ⟨b, cap, pv, rfl, d0, d1, d2, d3, -⟩ := hW.at 0 (by simp)
      obtain ⟨b', cap', pv', hv', e0, e1, e2, e3, -⟩ := hW.at 1 (by simp)
      obtain ⟨g1, -, g2⟩ := Value.slice.inj hv'
      obtain rfl : b = b' := by simpa using g1
      clear g1 g2
      obtain ⟨b'', cap'', pv'', hv'', f0, f1, f2, f3, -⟩ := hW.at 2 (by simp)
      obtain ⟨g1, -, g2⟩ := Value.slice.inj hv''
      obtain rfl : b = b'' := by simpa using g1
      clear g1 g2
      simp only [List.length_cons, List.length_nil, Nat.zero_add, List.getElem_cons_zero, List.getElem_cons_succ] at d0 d3 e0 f3 ⊢
      generalize (S ++ ⟨#[124]⟩ ++ S : ByteArray) = z2 at *
      generalize (S ++ ⟨#[124]⟩ : ByteArray) = z1 at *
      clear hW hv' hv'' d1 d2 e1 e2 e3 f0 f1 f2
      go_wp2_with (go_at_call 18; go_in)
      go_ret
      exact ⟨rfl, hbw⟩
end Go.Proofs.YtblkbhomlblfnaaDoor.S
