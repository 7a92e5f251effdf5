/-
  THE PLAIN LAWS of chapter 13's texts put together.
-/
import Derived.Test.YtblkbhomlblfnaaDoorRefLex4
set_option linter.unusedVariables false
set_option linter.unusedSimpArgs false
namespace Go.Proofs.YtblkbhomlblfnaaDoor.S
open Go.RowKit

theorem linesL_append (a : List UInt8) (b : UInt8) (r : List UInt8) (hb : b ≠ 10) : linesL (a ++ b :: r) = linesL a ++ linesL (b :: r) := by
  match a with
  | [] => rfl
  | [c] =>
    by_cases hc : c = 13
    · subst hc
      show linesL (13 :: (b :: r)) = _
      rw [linesL_cons13, show List.isPrefixOf [10] (b :: r) = false by simp [List.isPrefixOf, Ne.symm hb]]
      rfl
    · show linesL (c :: (b :: r)) = linesL [c] ++ _
      rw [linesL_cons c hc, linesL_cons c hc]
      rfl
  | c :: d :: x =>
    by_cases hc : c = 13
    · subst hc
      by_cases hd : d = 10
      · subst hd
        show 10 :: linesL (x ++ b :: r) = 10 :: linesL x ++ _
        rw [linesL_append x b r hb]; rfl
      · have h1 : ∀ z, linesL (13 :: d :: z) = 10 :: linesL (d :: z) := fun z => by
          rw [linesL_cons13, show List.isPrefixOf [10] (d :: z) = false by simp [List.isPrefixOf, Ne.symm hd]]
          rfl
        show linesL (13 :: d :: (x ++ b :: r)) = _
        rw [h1, h1, show d :: (x ++ b :: r) = (d :: x) ++ b :: r from rfl, linesL_append (d :: x) b r hb]
        rfl
    · show linesL (c :: ((d :: x) ++ b :: r)) = _
      rw [linesL_cons c hc, linesL_cons c hc, linesL_append (d :: x) b r hb]
      rfl
termination_by a.length
theorem linesL_id : ∀ l : List UInt8, (∀ b ∈ l, b ≠ 13) → linesL l = l
  | [], _ => rfl
  | c :: x, h => by
    rw [linesL_cons c (h c (by simp)), linesL_id x fun b hb => h b (by simp [hb])]
theorem linesL_free (z : UInt8) (hz : z ≠ 10) : ∀ l : List UInt8, (∀ b ∈ l, b ≠ z) → ∀ b ∈ linesL l, b ≠ z
  | [], _, b, hb => by cases hb
  | c :: x, h, b, hb => by
    by_cases hc : c = 13
    · subst hc
      rw [linesL_cons13] at hb
      rcases List.mem_cons.1 hb with rfl | hb
      · exact Ne.symm hz
      · split at hb
        · exact linesL_free z hz (x.drop 1) (fun b hb => h b (List.mem_cons_of_mem _ (List.mem_of_mem_drop hb))) b hb
        · exact linesL_free z hz x (fun b hb => h b (List.mem_cons_of_mem _ hb)) b hb
    · rw [linesL_cons c hc] at hb
      rcases List.mem_cons.1 hb with rfl | hb
      · exact h _ (by simp)
      · exact linesL_free z hz x (fun b hb => h b (List.mem_cons_of_mem _ hb)) b hb
termination_by l => l.length
decreasing_by all_goals (simp; try omega)

/-- no opening where its first sign does not stand -/
theorem hasI_free (p : List UInt8) (z : UInt8) : ∀ l : List UInt8, (∀ b ∈ l, b ≠ z) → hasI (z :: p) l = false
  | [], _ => rfl
  | b :: r, h => by
    have hb : b ≠ z := h b (by simp)
    rw [hasI_cons, hasI_free p z r fun c hc => h c (by simp [hc])]
    simp [List.isPrefixOf, Ne.symm hb]
/-- the first opening stands behind what has none -/
theorem hasI_behind (p : List UInt8) (z : UInt8) (r : List UInt8) : ∀ a : List UInt8, (∀ b ∈ a, b ≠ z) → List.isPrefixOf (z :: p) r = true → r ≠ [] → hasI (z :: p) (a ++ r) = true ∧ cutI (z :: p) (a ++ r) = a.length
  | [], _, hp, hr => by
    match r with
    | [] => exact absurd rfl hr
    | c :: x => exact ⟨by rw [List.nil_append, hasI_cons, hp, Bool.true_or], by rw [List.nil_append, cutI_cons, hp]; rfl⟩
  | b :: a, h, hp, hr => by
    have hb : b ≠ z := h b (by simp)
    obtain ⟨h1, h2⟩ := hasI_behind p z r a (fun c hc => h c (by simp [hc])) hp hr
    have : List.isPrefixOf (z :: p) (b :: (a ++ r)) = false := by simp [List.isPrefixOf, Ne.symm hb]
    exact ⟨by rw [List.cons_append, hasI_cons, h1, Bool.or_true], by rw [List.cons_append, cutI_cons, this, h2]; simp⟩
/-- a source without an opening is one text -/
theorem splitR_plain (l : List UInt8) (hl : l.length ≤ 65536) (h : ∀ b ∈ l, b ≠ 123) : splitR l = (txtP (linesL l) 0, 0) := by
  have hf := linesL_free 123 (by decide) l h
  have hh := hasI_free [123] 123 (linesL l) hf
  have hs : splitL l = some (txtP (linesL l) 0) := by
    unfold splitL
    cases hx : linesL l with
    | nil => rw [splitF_nil]; rfl
    | cons b r =>
      rw [hx] at hh
      rw [show (b :: r).length = r.length + 1 from rfl, splitF_none 0 false (by simp) hh, textT_none _ _ hh]
      congr 2
      rw [headT_cut, cutI_none _ _ hh]
      simp
  unfold splitR
  rw [if_neg (by omega), hs]
  dsimp only
  have h1 : longP (txtP (linesL l) 0) = false := by unfold txtP longP; split <;> simp
  have h2 : (txtP (linesL l) 0).length ≤ 1 := txtP_len _ _
  rw [h1, if_neg (by simp), if_neg (by omega)]
/-- a comment is nothing -/
theorem splitR_comment (c : List UInt8) (hl : c.length ≤ 65000) (h : ∀ b ∈ c, b ≠ 42) : splitR ([123, 123, 47, 42] ++ c ++ [42, 47, 125, 125]) = ([], 0) := by
  have hx : linesL ([123, 123, 47, 42] ++ c ++ [42, 47, 125, 125]) = 123 :: 123 :: 47 :: 42 :: (linesL c ++ [42, 47, 125, 125]) := by
    rw [linesL_append _ 42 [47, 125, 125] (by decide)]
    show linesL (123 :: 123 :: 47 :: 42 :: c) ++ _ = _
    rw [linesL_cons _ (by decide), linesL_cons _ (by decide), linesL_cons _ (by decide), linesL_cons _ (by decide)]
    rfl
  have hf := linesL_free 42 (by decide) c h
  obtain ⟨g1, g2⟩ := hasI_behind [47] 42 [42, 47, 125, 125] (linesL c) hf (by decide) (by simp)
  generalize linesL c = d at *
  have hcm : comL (d ++ [42, 47, 125, 125]) = some (d.length + 2 + 2, false) := by
    rw [comL_has g1, g2]
    have e1 : (d ++ [42, 47, 125, 125]).drop (d.length + 2) = ([125, 125] : List UInt8) := by simp [List.drop_append]
    dsimp only
    rw [e1, show blkN [125, 125] = 0 from by decide]
    simp only [Nat.lt_irrefl, decide_false, Bool.false_and, Bool.false_eq_true, if_false, Nat.add_zero, e1]
    rfl
  have hs : splitL ([123, 123, 47, 42] ++ c ++ [42, 47, 125, 125]) = some [] := by
    unfold splitL
    rw [hx]
    have hh : hasI [123, 123] (123 :: 123 :: 47 :: 42 :: (d ++ [42, 47, 125, 125])) = true := by rw [hasI_cons]; rfl
    have hcu : cutI [123, 123] (123 :: 123 :: 47 :: 42 :: (d ++ [42, 47, 125, 125])) = 0 := by rw [cutI_cons]; rfl
    have hm : ∀ z, markL (47 :: 42 :: z) = false := fun z => rfl
    have hop : openN (123 :: 123 :: 47 :: 42 :: (d ++ [42, 47, 125, 125])) = 2 := by
      unfold openN
      rw [hcu]
      simp only [Nat.zero_add, List.drop_succ_cons, List.drop_zero, hm, Bool.false_eq_true, if_false]
      rw [blkN_cons]
      rfl
    have htx : textT (123 :: 123 :: 47 :: 42 :: (d ++ [42, 47, 125, 125])) false = [] := by
      rw [textT_cut _ _ hh, headT_cut, hcu]
      simp [hm]
    generalize hn : (123 :: 123 :: 47 :: 42 :: (d ++ [42, 47, 125, 125])).length = n
    obtain ⟨m, rfl⟩ : ∃ m, n = m + 1 := ⟨n - 1, by simp at hn; omega⟩
    rw [splitF_some 0 false hh, hop, htx]
    simp only [List.drop_succ_cons, List.drop_zero]
    rw [if_pos (by rfl), hcm]
    dsimp only
    rw [List.drop_eq_nil_of_le (by simp; omega), splitF_nil]
    rfl
  unfold splitR
  rw [if_neg (by simp; omega), hs]
  rfl
end Go.Proofs.YtblkbhomlblfnaaDoor.S
