/-
  CHAPTER 13 IN PLAIN LEAN: laws of trims, of lines, of an action's end.
-/
import Derived.Test.YtbcddlheikdlkaaGreatDoorPlainL
import Derived.Test.YtbcddlheikdlkaaGreatDoorPlainE
set_option linter.unusedVariables false
namespace Go.Proofs.YtbcddlheikdlkaaGreatDoor.S

theorem blk_set (b : UInt8) : [32, 9, 10].contains b = blk b.toNat := by
  have h := (by decide +kernel : ∀ c : Fin 256, ([32, 9, 10] : List UInt8).contains (UInt8.ofNat c.val) = blk c.val)
  simpa using h ⟨b.toNat, b.toNat_lt⟩
theorem trimR_cons (b : UInt8) (r : List UInt8) : trimR (b :: r) = if trimR r = [] ∧ blk b.toNat = true then [] else b :: trimR r := rfl
theorem trimR_eq : ∀ l, trimR l = Lib.trimRightS l [32, 9, 10]
  | [] => rfl
  | b :: r => by
    have ih := trimR_eq r
    have hbs := blk_set b
    unfold Lib.trimRightS at *
    rw [List.reverse_cons, List.dropWhile_append, trimR_cons]
    by_cases h : trimR r = []
    · rw [h] at ih
      have h1 : List.dropWhile (fun x => [32, 9, 10].contains x) r.reverse = [] := List.reverse_eq_nil_iff.1 ih.symm
      rw [h1, h]
      cases hb : blk b.toNat <;> rw [hb] at hbs <;> simp_all
    · have h2 : (List.dropWhile (fun x => [32, 9, 10].contains x) r.reverse).isEmpty = false := by
        rw [ih] at h
        simpa using h
      rw [if_neg (by simp [h]), h2, ih]
      simp
theorem trimL_cons (b : UInt8) (r : List UInt8) : trimL (b :: r) = if blk b.toNat = true then trimL r else b :: r := by
  unfold trimL
  rw [blkN_cons]
  split <;> rfl
theorem trim_comm : ∀ l, trimL (trimR l) = trimR (trimL l)
  | [] => rfl
  | b :: r => by
    have ih := trim_comm r
    rw [trimL_cons]
    cases hb : blk b.toNat with
    | true =>
      rw [if_pos rfl, ← ih]
      rw [trimR_cons]
      by_cases h : trimR r = []
      · rw [if_pos ⟨h, hb⟩, h]
      · rw [if_neg (fun e => h e.1), trimL_cons, hb]
        rfl
    | false =>
      rw [if_neg (by simp), trimR_cons]
      rw [if_neg (by simp [hb]), trimL_cons, hb]
      rfl
theorem trim_both (l : List UInt8) : Lib.trimS l [32, 9, 10] = trimR (trimL l) := by
  unfold Lib.trimS
  rw [← trimR_eq, ← trimL_eq, trim_comm]
theorem trimR_len : ∀ l, (trimR l).length ≤ l.length
  | [] => Nat.le_refl _
  | b :: r => by have := trimR_len r; rw [trimR_cons]; split <;> simp; omega
theorem trimL_len (l : List UInt8) : (trimL l).length ≤ l.length := by unfold trimL; simp

theorem linesL_cons13 (l : List UInt8) : linesL (13 :: l) = 10 :: linesL (if List.isPrefixOf [10] l = true then l.drop 1 else l) := by
  cases l with
  | nil => rfl
  | cons d r =>
    by_cases hd : d = 10
    · subst hd; rfl
    · have h2 : (10 == d) = false := by simpa using fun h : 10 = d => hd h.symm
      simp only [List.isPrefixOf, h2, Bool.false_and, Bool.false_eq_true, if_false]
      conv => lhs; unfold linesL
      split <;> simp_all
theorem linesL_cons (c : UInt8) (hc : c ≠ 13) (l : List UInt8) : linesL (c :: l) = c :: linesL l := by
  conv => lhs; unfold linesL
  split <;> simp_all
theorem lines_law : ∀ l, Lib.replaceAll (Lib.replaceAll l [13, 10] [10]) [13] [10] = linesL l
  | [] => by rw [replaceAll_nil _ _ (by decide), replaceAll_nil _ _ (by decide)]; rfl
  | [c] => by
    have ih := lines_law []
    rw [replaceAll_cons _ _ (by decide) (by decide)]
    by_cases hc : c = 13
    · subst hc
      simp only [show List.isPrefixOf [13, 10] [(13 : UInt8)] = false from rfl, Bool.false_eq_true, if_false]
      rw [replaceAll_cons _ _ (by decide) (by decide)]
      simp only [List.isPrefixOf, beq_self_eq_true, Bool.true_and, if_true, List.length_cons, List.length_nil, List.drop_succ_cons, List.drop_zero]
      rw [ih]
      rfl
    · have h1 : List.isPrefixOf [13, 10] [c] = false := by simp [List.isPrefixOf]
      simp only [h1, Bool.false_eq_true, if_false]
      rw [replaceAll_cons _ _ (by decide) (by decide)]
      have h2 : (13 == c) = false := by simpa using fun h : 13 = c => hc h.symm
      simp only [List.isPrefixOf, h2, Bool.false_and, Bool.false_eq_true, if_false]
      rw [ih, linesL_cons c hc]
  | c :: d :: r => by
    rw [replaceAll_cons _ _ (by decide) (by decide)]
    by_cases hc : c = 13
    · subst hc
      by_cases hd : d = 10
      · subst hd
        have ih := lines_law r
        have h1 : List.isPrefixOf [13, 10] ((13 : UInt8) :: 10 :: r) = true := by simp [List.isPrefixOf]
        simp only [h1, if_true]
        simp only [List.length_cons, List.length_nil, List.drop_succ_cons, List.drop_zero, List.cons_append, List.nil_append]
        rw [replaceAll_cons _ _ (by decide) (by decide)]
        simp only [List.isPrefixOf, show ((13 : UInt8) == 10) = false from rfl, Bool.false_and, Bool.false_eq_true, if_false]
        rw [ih]
        rfl
      · have ih := lines_law (d :: r)
        have h2 : (10 == d) = false := by simpa using fun h : 10 = d => hd h.symm
        simp only [List.isPrefixOf, h2, Bool.and_false, Bool.false_and, Bool.false_eq_true, if_false]
        rw [replaceAll_cons _ _ (by decide) (by decide)]
        simp only [List.isPrefixOf, beq_self_eq_true, Bool.true_and, if_true, List.length_cons, List.length_nil, List.drop_succ_cons, List.drop_zero]
        rw [ih, linesL_cons13]
        simp only [List.isPrefixOf, h2, Bool.false_and, Bool.false_eq_true, if_false]
        rfl
    · have ih := lines_law (d :: r)
      have h2 : (13 == c) = false := by simpa using fun h : 13 = c => hc h.symm
      simp only [List.isPrefixOf, h2, Bool.false_and, Bool.false_eq_true, if_false]
      rw [replaceAll_cons _ _ (by decide) (by decide)]
      simp only [List.isPrefixOf, h2, Bool.false_and, Bool.false_eq_true, if_false]
      rw [ih, linesL_cons c hc]
theorem linesL_len : ∀ l, (linesL l).length ≤ l.length
  | [] => Nat.le_refl _
  | [c] => by
    by_cases hc : c = 13
    · subst hc; exact Nat.le_refl _
    · rw [linesL_cons c hc]; exact Nat.le_refl _
  | c :: d :: r => by
    have ih1 := linesL_len (d :: r)
    have ih2 := linesL_len r
    by_cases hc : c = 13
    · subst hc
      rw [linesL_cons13]
      simp only [List.length_cons] at *
      split
      · show (linesL r).length + 1 ≤ _; omega
      · omega
    · rw [linesL_cons c hc]
      simp only [List.length_cons] at *
      omega
/-- an action's end as a place; -1: it has none -/
def endZ (o : Option Nat) (i : Nat) : Int := match o with
  | some n => (i + n : Nat)
  | none => -1
theorem endZ_map (o : Option Nat) (i k : Nat) : endZ (o.map (· + k)) i = endZ o (i + k) := by
  cases o with
  | none => rfl
  | some n => exact congrArg (fun x : Nat => (x : Int)) (by omega : i + (n + k) = i + k + n)
theorem endL_false (b : UInt8) (r : List UInt8) (i : Nat) : endZ (endL false (b :: r)) i =
    if List.isPrefixOf [125, 125] (b :: r) = true then (i : Int) else if b = 34 then endZ (endL true r) (i + 1) else endZ (endL false r) (i + 1) := by
  rw [endL]
  split
  · rfl
  · split <;> exact endZ_map _ _ _
theorem endL_true (b : UInt8) (r : List UInt8) (i : Nat) : endZ (endL true (b :: r)) i =
    if b = 92 then endZ (endL true (r.drop 1)) (i + 2) else if b = 34 then endZ (endL false r) (i + 1) else endZ (endL true r) (i + 1) := by
  rw [endL.eq_def]
  dsimp only
  split
  · cases r with
    | nil => rfl
    | cons d r' => exact endZ_map _ _ _
  · split <;> exact endZ_map _ _ _
end Go.Proofs.YtbcddlheikdlkaaGreatDoor.S
