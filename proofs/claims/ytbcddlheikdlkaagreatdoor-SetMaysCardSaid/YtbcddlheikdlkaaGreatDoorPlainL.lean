/-
  CHAPTER 13 IN PLAIN LEAN: texts and actions of a source.
-/
import Derived.Lib.Index
import Derived.Lib.Strings
import Derived.Lib.SlTrimSet
set_option linter.unusedVariables false
namespace Go.Proofs.YtbcddlheikdlkaaGreatDoor.S

/-- a template's blank -/
def blk (c : Nat) : Bool := c == 32 || c == 9 || c == 10
/-- how many blanks stand at a text's begin -/
def blkN : List UInt8 → Nat
  | [] => 0
  | b :: r => if blk b.toNat then blkN r + 1 else 0
def trimL (l : List UInt8) : List UInt8 := l.drop (blkN l)
def trimR : List UInt8 → List UInt8
  | [] => []
  | b :: r => if trimR r = [] ∧ blk b.toNat = true then [] else b :: trimR r
/-- where p stands first; the length where it does not -/
def cutI (p : List UInt8) : List UInt8 → Nat
  | [] => 0
  | b :: r => if p.isPrefixOf (b :: r) then 0 else cutI p r + 1
def hasI (p : List UInt8) : List UInt8 → Bool
  | [] => false
  | b :: r => p.isPrefixOf (b :: r) || hasI p r
/-- how long an action is, up to its end's signs; t: within quotes -/
def endL : Bool → List UInt8 → Option Nat
  | _, [] => none
  | false, b :: r => if List.isPrefixOf [125, 125] (b :: r) = true then some 0 else if b = 34 then (endL true r).map (· + 1) else (endL false r).map (· + 1)
  | true, b :: r => if b = 92 then (match r with | [] => none | _ :: r' => (endL true r').map (· + 2)) else if b = 34 then (endL false r).map (· + 1) else (endL true r).map (· + 1)
/-- does a text end with a blank and a trim mark? -/
def actTrims (t : List UInt8) : Bool := decide (2 ≤ t.length) && (t.getD (t.length - 1) 0).toNat == 45 && blk (t.getD (t.length - 2) 0).toNat
def actText (t : List UInt8) : List UInt8 := trimR (trimL (if actTrims t = true then t.take (t.length - 1) else t))
/-- a comment, behind its begin: how many bytes it takes, whether it trims -/
def comL (l : List UInt8) : Option (Nat × Bool) :=
  if hasI [42, 47] l = true then
    let j := cutI [42, 47] l + 2
    let k := blkN (l.drop j)
    let tr := decide (0 < k) && List.isPrefixOf [45] (l.drop (j + k))
    let m := if tr = true then j + k + 1 else j + k
    if List.isPrefixOf [125, 125] (l.drop m) = true then some (m + 2, tr) else none
  else none
structure Pc where
  act : Bool
  text : List UInt8
  pos : Nat
  deriving DecidableEq
/-- the piece of a text, where there is one -/
def txtP (t : List UInt8) (at_ : Nat) : List Pc := if t = [] then [] else [⟨false, t, at_⟩]
/-- does a trim mark stand there? -/
def markL (l : List UInt8) : Bool := match l with
  | a :: b :: _ => a.toNat == 45 && blk b.toNat
  | _ => false
/-- the text ahead of an opening -/
def headT (l : List UInt8) (tr : Bool) : List UInt8 := if tr = true then trimL (l.take (cutI [123, 123] l)) else l.take (cutI [123, 123] l)
/-- how many bytes stand ahead of an action's own signs: the text, the opening, the mark, the blanks -/
def openN (l : List UInt8) : Nat :=
  let i := cutI [123, 123] l + 2
  let m := if markL (l.drop i) = true then i + 1 else i
  m + blkN (l.drop m)
/-- P13.1, without its limits; n: as many rounds at most -/
def splitF : Nat → List UInt8 → Nat → Bool → Option (List Pc)
  | _, [], _, _ => some []
  | 0, _ :: _, _, _ => none
  | n + 1, c :: r, at_, tr =>
    let l := c :: r
    if hasI [123, 123] l = true then
      let t := if markL (l.drop (cutI [123, 123] l + 2)) = true then trimR (headT l tr) else headT l tr
      let k := openN l
      if List.isPrefixOf [47, 42] (l.drop k) = true then
        match comL (l.drop (k + 2)) with
        | none => none
        | some (m, tr') => (splitF n (l.drop (k + 2 + m)) (at_ + (k + 2 + m)) tr').map (txtP t at_ ++ ·)
      else
        match endL false (l.drop k) with
        | none => none
        | some m => (splitF n (l.drop (k + m + 2)) (at_ + (k + m + 2)) (actTrims ((l.drop k).take m))).map (txtP t at_ ++ [⟨true, actText ((l.drop k).take m), at_ + cutI [123, 123] l⟩] ++ ·)
    else some (txtP (headT l tr) at_)
/-- the lines turned -/
def linesL : List UInt8 → List UInt8
  | [] => []
  | 13 :: 10 :: r => 10 :: linesL r
  | 13 :: r => 10 :: linesL r
  | c :: r => c :: linesL r
def splitL (l : List UInt8) : Option (List Pc) := splitF (linesL l).length (linesL l) 0 false

theorem blkN_le : ∀ l, blkN l ≤ l.length
  | [] => Nat.le_refl _
  | b :: r => by have := blkN_le r; unfold blkN; split <;> simp; omega
theorem cutI_le (p : List UInt8) : ∀ l, cutI p l ≤ l.length
  | [] => Nat.le_refl _
  | b :: r => by have := cutI_le p r; unfold cutI; split <;> simp; omega
theorem cutI_none (p : List UInt8) : ∀ l, hasI p l = false → cutI p l = l.length
  | [], _ => rfl
  | b :: r, h => by
    simp only [hasI, Bool.or_eq_false_iff] at h
    unfold cutI
    rw [h.1, cutI_none p r h.2]
    simp
theorem cutI_some (p : List UInt8) (hp : p ≠ []) : ∀ l, hasI p l = true → p.isPrefixOf (l.drop (cutI p l)) = true ∧ cutI p l + p.length ≤ l.length
  | [], h => by simp [hasI] at h
  | b :: r, h => by
    unfold cutI
    cases hpre : p.isPrefixOf (b :: r) with
    | true =>
      have := List.IsPrefix.length_le (List.isPrefixOf_iff_prefix.1 hpre)
      simp only [if_true, List.drop_zero, hpre, true_and]
      omega
    | false =>
      simp only [hasI, hpre, Bool.false_or] at h
      obtain ⟨h1, h2⟩ := cutI_some p hp r h
      simp only [Bool.false_eq_true, if_false, List.drop_succ_cons, List.length_cons]
      exact ⟨h1, by omega⟩
theorem index_cut (p : List UInt8) (hp : p ≠ []) : ∀ l, Lib.index l p = if hasI p l = true then (cutI p l : Int) else -1
  | [] => by
    unfold Lib.index hasI
    cases p with
    | nil => exact absurd rfl hp
    | cons => rfl
  | b :: r => by
    have ih := index_cut p hp r
    unfold Lib.index hasI cutI
    cases hpre : p.isPrefixOf (b :: r) with
    | true => simp
    | false =>
      simp only [Bool.false_or, Bool.false_eq_true, if_false]
      rw [ih]
      cases hasI p r with
      | false => rfl
      | true =>
        simp only [if_true]
        have : ((cutI p r : Int) == -1) = false := by rw [beq_eq_false_iff_ne]; omega
        rw [this]
        simp
theorem blkN_cons (b : UInt8) (r : List UInt8) : blkN (b :: r) = if blk b.toNat then blkN r + 1 else 0 := rfl
theorem trimL_eq : ∀ l, trimL l = Lib.trimLeftS l [32, 9, 10]
  | [] => rfl
  | b :: r => by
    have ih := trimL_eq r
    have hb : [32, 9, 10].contains b = blk b.toNat := by
      have h := (by decide +kernel : ∀ c : Fin 256, ([32, 9, 10] : List UInt8).contains (UInt8.ofNat c.val) = blk c.val)
      have h1 := h ⟨b.toNat, b.toNat_lt⟩
      simpa using h1
    unfold trimL Lib.trimLeftS at *
    rw [blkN_cons, List.dropWhile_cons, hb]
    cases blk b.toNat with
    | true => simpa using ih
    | false => rfl
end Go.Proofs.YtbcddlheikdlkaaGreatDoor.S
