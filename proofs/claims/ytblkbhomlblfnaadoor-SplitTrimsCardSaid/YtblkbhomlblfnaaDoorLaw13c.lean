/-
  THE WALK of the law SplitTrims (chapter 13).
-/
import Derived.Test.YtblkbhomlblfnaaDoorLaw13b
import Derived.Test.YtblkbhomlblfnaaDoorPlainS2
import Derived.Test.YtblkbhomlblfnaaDoorPlainM
set_option linter.unusedVariables false
set_option linter.unusedSimpArgs false
namespace Go.Proofs.YtblkbhomlblfnaaDoor.S
open Go.RowKit

theorem mask7 (c : Int) : ∃ n : Nat, n ≤ 7 ∧ bits .and .i64 c 7 = (n : Int) :=
  ⟨(c % 8).toNat, by omega, (i64_mask 3 (by decide) c).trans (by show c % 8 = _; omega)⟩
theorem mask3 (c : Int) : ∃ n : Nat, n ≤ 3 ∧ bits .and .i64 c 3 = (n : Int) :=
  ⟨(c % 4).toNat, by omega, (i64_mask 2 (by decide) c).trans (by show c % 4 = _; omega)⟩
set_option maxRecDepth 100000 in
set_option maxHeartbeats 4000000 in
theorem blanks_calls (x : Int) (w : World) :
    Calls Tryd.prog 30 #[.int .i64 x] w fun e w' => ∃ r : ByteArray, e = .returned (.string r) ∧ (∀ b ∈ r.data.toList, blk b.toNat = true) ∧ r.size ≤ 14 ∧ Below w.heap.size w w' := by
  obtain ⟨m, hm7, hm⟩ := mask7 x
  go_enter Tryd.func30, Tryd.ntmps30
  go_wp2
  go_loopg [3, 4] m (fun gk v3 v4 wr => ∃ (k : Nat) (y : ByteArray), v4 = .int .i64 k ∧ v3 = .string y ∧ k + gk = m ∧ y.size ≤ 2 * k ∧ Hid (∀ b ∈ y.data.toList, blk b.toNat = true) ∧ Below w.heap.size w wr)
  case atStart => exact ⟨0, ⟨#[]⟩, rfl, rfl, by omega, by show 0 ≤ 0; omega, (by intro b hb; cases hb), Below.refl _ _⟩
  case round =>
    obtain ⟨k, y, rfl, rfl, hkg, hyk, hy, hbr⟩ := hrel
    have HKG := Lib.hid hkg
    have hkm : k ≤ m := by omega
    clear hkg
    by_cases h1 : k < m
    · have h1b : decide ((k : Int) < (m : Int)) = true := decide_eq_true (by omega)
      obtain ⟨n, hn3, hn⟩ := mask3 (x / 2 ^ (3 + 2 * k))
      have hc : ∀ z : ByteArray, z.size ≤ 2 → ∀ W, (Op.stringOp .add y z).run Tryd.prog W = .ok (.string (y ++ z)) W := fun z hz W => cat_at y z (by omega) W
      have hc1 := hc ⟨#[32]⟩ (by decide)
      have hc2 := hc ⟨#[10]⟩ (by decide)
      have hc3 := hc ⟨#[9]⟩ (by decide)
      have hc4 := hc ⟨#[32, 32]⟩ (by decide)
      clear hc
      have hN : ∀ z : ByteArray, z.size ≤ 2 → (∀ b ∈ z.data.toList, blk b.toNat = true) → (y ++ z).size ≤ 2 * (k + 1) ∧ Hid (∀ b ∈ (y ++ z).data.toList, blk b.toNat = true) := fun z hz hb => by
        refine ⟨by rw [ByteArray.size_append]; omega, ?_⟩
        intro b hbm
        rw [ByteArray.data_append, Array.toList_append] at hbm
        rcases List.mem_append.1 hbm with h | h
        · exact hy.out b h
        · exact hb b h
      have HN := Lib.hid hN
      clear hN
      have hr : n = 0 ∨ n = 1 ∨ n = 2 ∨ n = 3 := by omega
      rcases hr with rfl | rfl | rfl | rfl
      all_goals clear hn3
      all_goals go_wp2
      all_goals go_roundg (gk - 1)
      all_goals first
        | (case measure => have := HKG.out; omega)
        | skip
      · exact ⟨k + 1, _, by go_num, rfl, by have := HKG.out; omega, (HN.out ⟨#[32]⟩ (by decide) (by decide)).1, (HN.out ⟨#[32]⟩ (by decide) (by decide)).2, hbr.alloc hbr.size _⟩
      · exact ⟨k + 1, _, by go_num, rfl, by have := HKG.out; omega, (HN.out ⟨#[10]⟩ (by decide) (by decide)).1, (HN.out ⟨#[10]⟩ (by decide) (by decide)).2, hbr.alloc hbr.size _⟩
      · exact ⟨k + 1, _, by go_num, rfl, by have := HKG.out; omega, (HN.out ⟨#[9]⟩ (by decide) (by decide)).1, (HN.out ⟨#[9]⟩ (by decide) (by decide)).2, hbr.alloc hbr.size _⟩
      · exact ⟨k + 1, _, by go_num, rfl, by have := HKG.out; omega, (HN.out ⟨#[32, 32]⟩ (by decide) (by decide)).1, (HN.out ⟨#[32, 32]⟩ (by decide) (by decide)).2, hbr.alloc hbr.size _⟩
    · have h1b : decide ((k : Int) < (m : Int)) = false := decide_eq_false (by omega)
      have hk14 : y.size ≤ 14 := by omega
      clear hyk
      go_wp2
      go_ret
      exact ⟨y, rfl, hy.out, hk14, hbr⟩
set_option maxRecDepth 100000 in
set_option maxHeartbeats 4000000 in
theorem splitTrims_calls (ahead behind : Int) (left right : Bool) (w : World) (hE : Env w) :
    Calls Tryd.prog 11 #[.int .i64 ahead, .int .i64 behind, .bool left, .bool right] w fun e w' => e = .returned (.bool true) ∧ Below w.heap.size w w' := by
  go_enter Tryd.func11, Tryd.ntmps11
  go_wp2_with fail
  refine (awake13_calls _ hE).mono ?_
  rintro e w1 ⟨rfl, hb1⟩
  go_wp2_with fail
  refine (blanks_calls ahead _).mono ?_
  rintro e w2 ⟨a, rfl, ha, ha14, hb2⟩
  go_wp2_with fail
  refine (blanks_calls behind _).mono ?_
  rintro e w3 ⟨b, rfl, hb, hb14, hb3⟩
  have hb13 := (hb1.trans (hb2.mono hb1.size)).trans (hb3.mono (Nat.le_trans hb1.size hb2.size))
  have hE3 := hE.below hb13
  clear hb1 hb2 hb3
  have hc : ∀ p q : ByteArray, p.size ≤ 1000 → q.size ≤ 1000 → ∀ W, (Op.stringOp .add p q).run Tryd.prog W = .ok (.string (p ++ q)) W := fun p q hp hq W => cat_at p q (by omega) W
  have c1 := hc ⟨#[117]⟩ a (by decide) (by omega)
  have c2 := hc b ⟨#[118]⟩ (by omega) (by decide)
  have HC := Lib.hid hc
  have HA := Lib.hid ha
  have HB := Lib.hid hb
  clear hc ha hb
  go_upto_if 27 with (fail)
  go_cut [11, 13] (fun v11 v13 wx => ∃ op xx, v11 = .string op ∧ v13 = .string xx ∧ op.data.toList = (if left = true then [123, 123, 45, 32] else [123, 123]) ∧ xx.data.toList = (if left = true then [117] else 117 :: a.data.toList) ∧ w3 = wx)
  case first =>
    cases left with
    | true =>
      go_wp2
      go_meet
      exact ⟨⟨#[123, 123, 45, 32]⟩, ⟨#[117]⟩, rfl, rfl, rfl, rfl, rfl⟩
    | false =>
      go_wp2
      go_meet
      exact ⟨⟨#[123, 123]⟩, ⟨#[117]⟩ ++ a, rfl, rfl, rfl, by simp [ByteArray.data_append], rfl⟩
  case rest =>
  obtain ⟨op, xx, rfl, rfl, hop, hxx, rfl⟩ := hcut
  go_upto_if 28 with (fail)
  go_cut [12, 14] (fun v12 v14 wx => ∃ en yy, v12 = .string en ∧ v14 = .string yy ∧ en.data.toList = (if right = true then [32, 45, 125, 125] else [125, 125]) ∧ yy.data.toList = (if right = true then [118] else b.data.toList ++ [118]) ∧ w3 = wx)
  case first =>
    cases right with
    | true =>
      go_wp2
      go_meet
      exact ⟨⟨#[32, 45, 125, 125]⟩, ⟨#[118]⟩, rfl, rfl, rfl, rfl, rfl⟩
    | false =>
      go_wp2
      go_meet
      exact ⟨⟨#[125, 125]⟩, b ++ ⟨#[118]⟩, rfl, rfl, rfl, by simp [ByteArray.data_append], rfl⟩
  case rest =>
  obtain ⟨en, yy, rfl, rfl, hen, hyy, rfl⟩ := hcut
  have hops : op.size ≤ 4 := by rw [← size_list, hop]; cases left <;> decide
  have hens : en.size ≤ 4 := by rw [← size_list, hen]; cases right <;> decide
  obtain ⟨p, hp⟩ := splitR_trims a.data.toList b.data.toList HA.out HB.out (by rw [size_list]; omega) (by rw [size_list]; omega) left right
  rw [← hop, ← hxx, ← hen, ← hyy] at hp
  have hsz : (⟨#[117]⟩ ++ a : ByteArray).size ≤ 15 := by rw [ByteArray.size_append]; show 1 + _ ≤ _; omega
  have hsz2 : (⟨#[117]⟩ ++ a ++ op : ByteArray).size ≤ 19 := by rw [ByteArray.size_append]; omega
  have hsz3 : (⟨#[117]⟩ ++ a ++ op ++ ⟨#[46, 122]⟩ : ByteArray).size ≤ 21 := by rw [ByteArray.size_append]; show _ + 2 ≤ _; omega
  have hsz4 : (⟨#[117]⟩ ++ a ++ op ++ ⟨#[46, 122]⟩ ++ en : ByteArray).size ≤ 25 := by rw [ByteArray.size_append]; omega
  have hsz5 : (⟨#[117]⟩ ++ a ++ op ++ ⟨#[46, 122]⟩ ++ en ++ b : ByteArray).size ≤ 39 := by rw [ByteArray.size_append]; omega
  have c3 := HC.out (⟨#[117]⟩ ++ a) op (by omega) (by omega)
  have c4 := HC.out (⟨#[117]⟩ ++ a ++ op) ⟨#[46, 122]⟩ (by omega) (by decide)
  have c5 := HC.out (⟨#[117]⟩ ++ a ++ op ++ ⟨#[46, 122]⟩) en (by omega) (by omega)
  have c6 := HC.out (⟨#[117]⟩ ++ a ++ op ++ ⟨#[46, 122]⟩ ++ en) b (by omega) (by omega)
  have c7 := HC.out (⟨#[117]⟩ ++ a ++ op ++ ⟨#[46, 122]⟩ ++ en ++ b) ⟨#[118]⟩ (by omega) (by decide)
  have hl : (⟨#[117]⟩ ++ a ++ op ++ ⟨#[46, 122]⟩ ++ en ++ b ++ ⟨#[118]⟩ : ByteArray).data.toList = 117 :: a.data.toList ++ op.data.toList ++ [46, 122] ++ en.data.toList ++ b.data.toList ++ [118] := by
    simp [ByteArray.data_append]
  rw [← hl] at hp
  have HP := Lib.hid hp
  clear hp hl hop hxx hen hyy hsz hsz2 hsz3 hsz4 hsz5 hops hens HC
  go_wp2_with fail
  clear c1 c2 c3 c4 c5 c6 c7
  refine (lexSplit_any _ _ hE3).mono ?_
  rintro e w4 ⟨v, ps, n, rfl, hP, hb4, hs⟩
  rw [HP.out] at hs
  obtain ⟨rfl, rfl⟩ := Prod.mk.inj hs.symm
  clear hs HP
  have hbw := hb13.trans (hb4.mono hb13.size)
  obtain ⟨bb, cap, rfl, hbb, hcc⟩ := Pcs.form hP (by simp)
  obtain ⟨d00, d01, d02⟩ := Pcs.at hP 0 (by simp)
  obtain ⟨d10, d11, d12⟩ := Pcs.at hP 1 (by simp)
  obtain ⟨d20, d21, d22⟩ := Pcs.at hP 2 (by simp)
  simp only [List.length_cons, List.length_nil, Nat.zero_add, List.getElem_cons_zero, List.getElem_cons_succ, size_list] at d00 d01 d02 d10 d11 d12 d20 d21 d22 hcc ⊢
  rw [show (⟨xx.data.toList.toArray⟩ : ByteArray) = xx from (StrIs.eq (r := xx) rfl).symm] at d01
  rw [show (⟨yy.data.toList.toArray⟩ : ByteArray) = yy from (StrIs.eq (r := yy) rfl).symm] at d21
  generalize (⟨#[117]⟩ ++ a ++ op ++ ⟨#[46, 122]⟩ ++ en ++ b ++ ⟨#[118]⟩ : ByteArray) = z7 at *
  generalize (⟨#[117]⟩ ++ a ++ op ++ ⟨#[46, 122]⟩ ++ en ++ b : ByteArray) = z6 at *
  generalize (⟨#[117]⟩ ++ a ++ op ++ ⟨#[46, 122]⟩ ++ en : ByteArray) = z5 at *
  generalize (⟨#[117]⟩ ++ a ++ op ++ ⟨#[46, 122]⟩ : ByteArray) = z4 at *
  generalize (⟨#[117]⟩ ++ a ++ op : ByteArray) = z3 at *
  generalize (⟨#[117]⟩ ++ a : ByteArray) = z2 at *
  clear hP
  go_wp2_with (go_at_call 18; go_in)
  go_ret
  exact ⟨rfl, hbw⟩
end Go.Proofs.YtblkbhomlblfnaaDoor.S
