/-
  THE PLAIN LAWS of chapter 13: two actions side by side; long ones, many.
-/
import Derived.Test.YtblkbhomlblfnaaDoorPlainS2
set_option linter.unusedVariables false
set_option linter.unusedSimpArgs false
namespace Go.Proofs.YtblkbhomlblfnaaDoor.S
open Go.RowKit

theorem limits_ok {l : List UInt8} {ps : List Pc} (hl : l.length ≤ 65536) (hs : splitL l = some ps) (hp : longP ps = false) (hn : ps.length ≤ 1024) : splitR l = (ps, 0) := by
  unfold splitR
  rw [if_neg (by omega), hs]
  dsimp only
  rw [hp, if_neg (by simp), if_neg (by omega)]
theorem longP_append (a b : List Pc) : longP (a ++ b) = (longP a || longP b) := by unfold longP; rw [List.any_append]
theorem longP_txt (t : List UInt8) (i : Nat) : longP (txtP t i) = false := by unfold txtP longP; split <;> simp
theorem digit_of (x : UInt8) (h : 48 ≤ x.toNat ∧ x.toNat ≤ 57) : x ≠ 123 ∧ x ≠ 125 ∧ x ≠ 34 ∧ x ≠ 13 ∧ x ≠ 45 ∧ blk x.toNat = false := by
  obtain ⟨h1, h2⟩ := h
  refine ⟨?_, ?_, ?_, ?_, ?_, ?_⟩
  · rintro rfl; revert h2; decide
  · rintro rfl; revert h2; decide
  · rintro rfl; revert h1; decide
  · rintro rfl; revert h1; decide
  · rintro rfl; revert h1; decide
  · unfold blk; generalize x.toNat = n at *; rw [Bool.or_eq_false_iff, Bool.or_eq_false_iff]; exact ⟨⟨beq_eq_false_iff_ne.2 (by omega), beq_eq_false_iff_ne.2 (by omega)⟩, beq_eq_false_iff_ne.2 (by omega)⟩
theorem splitR_one (s d t : List UInt8) (hs : ∀ b ∈ s, b ≠ 123 ∧ b ≠ 13) (ht : ∀ b ∈ t, b ≠ 123 ∧ b ≠ 13) (hd : ∀ b ∈ d, 48 ≤ b.toNat ∧ b.toNat ≤ 57) (hsl : s.length ≤ 200) (htl : t.length ≤ 200) (hdl : d.length ≤ 20) :
    splitR (s ++ [123, 123] ++ (46 :: 107 :: d) ++ [125, 125, 123, 123, 32, 32] ++ (46 :: 107 :: d) ++ [10, 125, 125] ++ t)
      = (txtP s 0 ++ [⟨true, 46 :: 107 :: d, s.length⟩, ⟨true, 46 :: 107 :: d, s.length + (46 :: 107 :: d).length + 4⟩] ++ txtP t (s.length + 2 * (46 :: 107 :: d).length + 11), 0) := by
  obtain ⟨a, ha⟩ : ∃ a, a = 46 :: 107 :: d := ⟨_, rfl⟩
  have hA : ∀ x ∈ a, x ≠ 123 ∧ x ≠ 125 ∧ x ≠ 34 ∧ x ≠ 13 ∧ x ≠ 45 ∧ blk x.toNat = false := by
    intro x hx
    rw [ha] at hx
    rcases List.mem_cons.1 hx with rfl | hx
    · decide
    · rcases List.mem_cons.1 hx with rfl | hx
      · decide
      · exact digit_of x (hd x hx)
  have hal : a.length ≤ 22 ∧ 2 ≤ a.length := by rw [ha]; simp; omega
  have hm : ∀ z, markL (a ++ z) = false := fun z => by rw [ha]; rfl
  have hm2 : ∀ z, markL (32 :: 32 :: z) = false := fun z => rfl
  have hq : ∀ z, blkN (a ++ z) = 0 := fun z => by rw [ha]; rfl
  have hq2 : ∀ z, blkN (32 :: 32 :: (a ++ z)) = 2 := fun z => by rw [ha]; rfl
  have hp : ∀ z, List.isPrefixOf [47, 42] (a ++ z) = false := fun z => by rw [ha]; rfl
  have hL : trimL a = a := by rw [ha]; exact trimL_stop _ _ (by decide)
  have hL2 : trimL (a ++ [10]) = a ++ [10] := by rw [ha]; exact trimL_stop _ _ (by decide)
  have t1 : actText a = a := by rw [actText_free a fun x hx => (hA x hx).2.2.2.2.1, hL, trimR_free a fun x hx => (hA x hx).2.2.2.2.2]
  have hf2 : ∀ x ∈ a ++ [10], x ≠ 45 := by
    intro x hx
    rcases List.mem_append.1 hx with hx | hx
    · exact (hA x hx).2.2.2.2.1
    · rw [List.mem_singleton.1 hx]; decide
  have t2 : actText (a ++ [10]) = a := by rw [actText_free _ hf2, hL2, trimR_tail 10 (by decide) a fun x hx => (hA x hx).2.2.2.2.2]
  have s1 : actTrims a = false := actTrims_free a fun x hx => (hA x hx).2.2.2.2.1
  have s2 : actTrims (a ++ [10]) = false := actTrims_free _ hf2
  rw [← ha]
  obtain ⟨l, hl⟩ : ∃ l, l = s ++ [123, 123] ++ a ++ [125, 125, 123, 123, 32, 32] ++ a ++ [10, 125, 125] ++ t := ⟨_, rfl⟩
  rw [← hl]
  have hid : linesL l = l := by
    apply linesL_id
    rw [hl]
    intro x hx
    simp only [List.mem_append, List.mem_cons, List.not_mem_nil, or_false] at hx
    rcases hx with (((((hx | hx) | hx) | hx) | hx) | hx) | hx
    · exact (hs x hx).2
    · rcases hx with rfl | rfl <;> decide
    · exact (hA x hx).2.2.2.1
    · rcases hx with rfl | rfl | rfl | rfl | rfl | rfl <;> decide
    · exact (hA x hx).2.2.2.1
    · rcases hx with rfl | rfl | rfl <;> decide
    · exact (ht x hx).2
  have hlen : l.length ≤ 500 ∧ 11 ≤ l.length := by rw [hl]; simp; omega
  obtain ⟨n, hn⟩ : ∃ n, l.length = n + 1 + 1 + 1 := ⟨l.length - 3, by omega⟩
  have e1 : ∀ z : List UInt8, endL false (a ++ 125 :: 125 :: z) = some a.length := fun z => endL_free z a fun x hx => ⟨(hA x hx).2.1, (hA x hx).2.2.1⟩
  have e2 : ∀ z : List UInt8, endL false (a ++ 10 :: 125 :: 125 :: z) = some (a.length + 1) := fun z => by
    have := endL_free z (a ++ [10]) (by
      intro x hx
      rcases List.mem_append.1 hx with hx | hx
      · exact ⟨(hA x hx).2.1, (hA x hx).2.2.1⟩
      · rw [List.mem_singleton.1 hx]; decide)
    simpa using this
  refine limits_ok (by omega) ?_ ?_ ?_
  · unfold splitL
    rw [hid, hn]
    have hl' : l = s ++ 123 :: 123 :: (a ++ 125 :: 125 :: (123 :: 123 :: 32 :: 32 :: (a ++ 10 :: 125 :: 125 :: t))) := by rw [hl]; simp
    rw [hl', split_step s _ (n + 1 + 1) 0 false (fun x hx => (hs x hx).1) 0 0 a.length (by rw [markN_eq (hm _)]; rfl) (hq _) (hp _) (e1 _)]
    simp only [List.drop_zero, hm, Bool.false_eq_true, if_false, List.take_left, t1, s1]
    have d1 : (a ++ 125 :: 125 :: (123 :: 123 :: 32 :: 32 :: (a ++ 10 :: 125 :: 125 :: t))).drop (a.length + 2) = [] ++ 123 :: 123 :: (32 :: 32 :: (a ++ 10 :: 125 :: 125 :: t)) := by simp [List.drop_append]
    rw [d1, split_step [] _ (n + 1) _ false (by simp) 0 2 (a.length + 1) (by rw [markN_eq (hm2 _)]; rfl) (hq2 _) (hp _) (e2 _)]
    have d2 : (a ++ 10 :: 125 :: 125 :: t).drop (a.length + 1 + 2) = t := by
      rw [show a.length + 1 + 2 = a.length + 3 by omega]
      simp [List.drop_append]
    have k2 : (a ++ 10 :: 125 :: 125 :: t).take (a.length + 1) = a ++ [10] := by simp [List.take_append, List.take_of_length_le]
    simp only [List.drop_zero, List.drop_succ_cons, hm2, Bool.false_eq_true, if_false, d2, k2, t2, s2]
    rw [splitF_end _ _ _ _ fun x hx => (ht x hx).1]
    simp only [Option.map_some, Bool.false_eq_true, if_false, List.length_nil, Option.some.injEq]
    rw [show txtP [] (0 + (s.length + 2 + 0 + 0 + a.length + 2)) = [] from rfl]
    have p1 : (0 : Nat) + s.length = s.length := by omega
    have p2 : 0 + (s.length + 2 + 0 + 0 + a.length + 2) + 0 = s.length + a.length + 4 := by omega
    have p3 : 0 + (s.length + 2 + 0 + 0 + a.length + 2) + (0 + 2 + 0 + 2 + (a.length + 1) + 2) = s.length + 2 * a.length + 11 := by omega
    rw [p1, p2, p3]
    simp
  · have h1 : decide (256 < a.length) = false := decide_eq_false (by omega)
    rw [longP_append, longP_append, longP_txt, longP_txt]
    simp [longP]
    omega
  · have h1 := txtP_len s 0
    have h2 := txtP_len t (s.length + 2 * a.length + 11)
    simp only [List.length_append, List.length_cons, List.length_nil]
    omega
/-- a long action -/
theorem splitR_long (k : Nat) (h1 : 1 ≤ k) (h2 : k ≤ 1000) : splitR ([123, 123] ++ List.replicate k 0 ++ [125, 125]) = if 256 < k then ([], 1301) else ([⟨true, List.replicate k 0, 0⟩], 0) := by
  obtain ⟨a, ha⟩ : ∃ a : List UInt8, a = List.replicate k 0 := ⟨_, rfl⟩
  rw [← ha]
  obtain ⟨k', rfl⟩ : ∃ k', k = k' + 1 := ⟨k - 1, by omega⟩
  have hal : a.length = k' + 1 := by rw [ha]; simp
  have hA : ∀ x ∈ a, x ≠ 123 ∧ x ≠ 125 ∧ x ≠ 34 ∧ x ≠ 13 ∧ x ≠ 45 ∧ blk x.toNat = false := by
    intro x hx
    rw [ha] at hx
    rw [(List.mem_replicate.1 hx).2]
    decide
  have hm : ∀ z, z ≠ [] → markL (a ++ z) = false := fun z hz => by
    rw [ha, List.replicate_succ]
    cases k' with
    | zero => cases z with
      | nil => exact absurd rfl hz
      | cons c y => rfl
    | succ j => rw [List.replicate_succ]; rfl
  have hq : ∀ z, blkN (a ++ z) = 0 := fun z => by rw [ha, List.replicate_succ]; rfl
  have hp : ∀ z, List.isPrefixOf [47, 42] (a ++ z) = false := fun z => by rw [ha, List.replicate_succ]; rfl
  have hL : trimL a = a := by rw [ha, List.replicate_succ]; exact trimL_stop _ _ (by decide)
  have t1 : actText a = a := by rw [actText_free a fun x hx => (hA x hx).2.2.2.2.1, hL, trimR_free a fun x hx => (hA x hx).2.2.2.2.2]
  have s1 : actTrims a = false := actTrims_free a fun x hx => (hA x hx).2.2.2.2.1
  have e1 : ∀ z : List UInt8, endL false (a ++ 125 :: 125 :: z) = some a.length := fun z => endL_free z a fun x hx => ⟨(hA x hx).2.1, (hA x hx).2.2.1⟩
  have hid : linesL ([123, 123] ++ a ++ [125, 125]) = [123, 123] ++ a ++ [125, 125] := by
    apply linesL_id
    intro x hx
    simp only [List.mem_append, List.mem_cons, List.not_mem_nil, or_false] at hx
    rcases hx with (hx | hx) | hx
    · rcases hx with rfl | rfl <;> decide
    · exact (hA x hx).2.2.2.1
    · rcases hx with rfl | rfl <;> decide
  have hs : splitL ([123, 123] ++ a ++ [125, 125]) = some [⟨true, a, 0⟩] := by
    unfold splitL
    rw [hid]
    obtain ⟨n, hn⟩ : ∃ n, ([123, 123] ++ a ++ [125, 125]).length = n + 1 := ⟨k' + 4, by simp [hal]⟩
    rw [hn, show [123, 123] ++ a ++ [125, 125] = [] ++ 123 :: 123 :: (a ++ 125 :: 125 :: []) by simp]
    rw [split_step [] _ n 0 false (by simp) 0 0 a.length (by rw [markN_eq (hm _ (by simp))]; rfl) (hq _) (hp _) (e1 _)]
    have d1 : (a ++ 125 :: 125 :: ([] : List UInt8)).drop (a.length + 2) = [] := by simp [List.drop_append]
    simp only [List.drop_zero, hm _ (List.cons_ne_nil _ _), Bool.false_eq_true, if_false, List.take_left, t1, s1, d1, splitF_nil]
    rfl
  unfold splitR
  rw [if_neg (by simp [hal]; omega), hs]
  dsimp only
  by_cases hk : 256 < k' + 1
  · rw [show longP [⟨true, a, 0⟩] = true by simp [longP, hal]; omega, if_pos rfl, if_pos hk]
  · rw [show longP [⟨true, a, 0⟩] = false by simp [longP, hal]; omega, if_neg (by simp), if_neg (by simp), if_neg hk]
/-- many of them -/
def manyL : Nat → List UInt8
  | 0 => []
  | m + 1 => [98, 123, 123, 46, 125, 125] ++ manyL m
def manyP : Nat → Nat → List Pc
  | 0, _ => []
  | m + 1, i => ⟨false, [98], i⟩ :: ⟨true, [46], i + 1⟩ :: manyP m (i + 6)
theorem manyL_back : ∀ m, manyL (m + 1) = manyL m ++ [98, 123, 123, 46, 125, 125]
  | 0 => rfl
  | m + 1 => by
    rw [show manyL (m + 1 + 1) = [98, 123, 123, 46, 125, 125] ++ manyL (m + 1) from rfl, show manyL (m + 1) = [98, 123, 123, 46, 125, 125] ++ manyL m from rfl, List.append_assoc, ← manyL_back m]
    rfl
theorem manyL_len : ∀ m, (manyL m).length = 6 * m
  | 0 => rfl
  | m + 1 => by rw [manyL, List.length_append, manyL_len m]; simp; omega
theorem manyL_no : ∀ m, ∀ x ∈ manyL m, x ≠ 13
  | 0, x, hx => by cases hx
  | m + 1, x, hx => by
    rcases List.mem_append.1 hx with hx | hx
    · have h2 : ∀ y ∈ ([98, 123, 123, 46, 125, 125] : List UInt8), y ≠ 13 := by decide
      exact h2 x hx
    · exact manyL_no m x hx
theorem manyP_len : ∀ m i, (manyP m i).length = 2 * m
  | 0, _ => rfl
  | m + 1, i => by simp [manyP, manyP_len m]; omega
theorem manyP_long : ∀ m i, longP (manyP m i) = false
  | 0, _ => rfl
  | m + 1, i => by
    have := manyP_long m (i + 6)
    unfold longP at *
    rw [manyP, List.any_cons, List.any_cons, this]
    rfl
theorem splitF_many : ∀ m n i, m ≤ n → splitF n (manyL m) i false = some (manyP m i)
  | 0, n, i, _ => splitF_nil n i false
  | m + 1, n, i, h => by
    obtain ⟨n', rfl⟩ : ∃ n', n = n' + 1 := ⟨n - 1, by omega⟩
    rw [show manyL (m + 1) = [98] ++ 123 :: 123 :: (46 :: 125 :: 125 :: manyL m) from rfl]
    have hm : markL (46 :: 125 :: 125 :: manyL m) = false := rfl
    have t1 : actText [46] = [46] := by decide
    have s1 : actTrims [46] = false := by decide
    rw [split_step [98] _ n' i false (by decide) 0 0 1 (by rw [markN_eq hm]; rfl) rfl rfl rfl]
    simp only [hm, List.drop_zero, List.drop_succ_cons, List.take_succ_cons, List.take_zero, Bool.false_eq_true, if_false, t1, s1]
    rw [splitF_many m n' _ (by omega)]
    rfl
theorem splitR_many (m : Nat) (h : m ≤ 1000) : splitR (manyL m) = if 1024 < 2 * m then ([], 1302) else (manyP m 0, 0) := by
  have hs : splitL (manyL m) = some (manyP m 0) := by
    unfold splitL
    rw [linesL_id _ (manyL_no m)]
    exact splitF_many m _ 0 (by rw [manyL_len]; omega)
  unfold splitR
  rw [if_neg (by rw [manyL_len]; omega), hs]
  dsimp only
  rw [manyP_long, if_neg (by simp), manyP_len]
end Go.Proofs.YtblkbhomlblfnaaDoor.S
