/-
  PLAIN: an action's words (P14.1).
-/
import Derived.Test.YtbcddlheikdlkaaGreatDoorPlainL2
import Derived.Test.YtbcddlheikdlkaaGreatDoorPlainB
set_option linter.unusedVariables false
set_option linter.unusedSimpArgs false
namespace Go.Proofs.YtbcddlheikdlkaaGreatDoor.S

def wfirst (c : Nat) : Bool := c == 95 || letterI c
def wlater (c : Nat) : Bool := wfirst c || digitI c
/-- how many bytes go on with a name -/
def nmN : List UInt8 → Nat
  | [] => 0
  | b :: r => if wlater b.toNat = true then nmN r + 1 else 0
def nameOk (l : List UInt8) : Bool := !l.isEmpty && decide (l.length ≤ 32) && wfirst (l.getD 0 0).toNat && l.all fun b => wlater b.toNat
def nameL (l : List UInt8) : Except Nat (List UInt8 × List UInt8) := if nameOk (l.take (nmN l)) = true then .ok (l.take (nmN l), l.drop (nmN l)) else .error 1400
/-- a path's names; n: as many at most; k: as many so far -/
def pathF : Nat → Nat → List UInt8 → Except Nat (List (List UInt8) × List UInt8)
  | 0, _, l => .ok ([], l)
  | n + 1, k, l =>
    if List.isPrefixOf [46] l = true then match nameL (l.drop 1) with
      | .error e => .error e
      | .ok (x, r) => if k + 1 ≤ 8 then match pathF n (k + 1) r with
          | .error e => .error e
          | .ok (xs, r') => .ok (x :: xs, r')
        else .error 1400
    else .ok ([], l)
def pathL (l : List UInt8) := pathF 9 0 l
structure Wd where
  kind : Nat
  text : List UInt8
  path : List (List UInt8)
  num : Int
  deriving DecidableEq
/-- does a name begin behind the first byte? -/
def second (l : List UInt8) : Bool := decide (1 < l.length) && wfirst (l.getD 1 0).toNat
def fieldL (l : List UInt8) : Except Nat (Wd × List UInt8) := if second l = true then (pathL l).map fun x => (⟨1, [], x.1, 0⟩, x.2) else .ok (⟨1, [], [], 0⟩, l.drop 1)
/-- what a sign behind a \ stands for -/
def escW (c : Nat) : Option UInt8 := if c = 34 then some 34 else if c = 92 then some 92 else if c = 110 then some 10 else if c = 116 then some 9 else none
/-- a text behind its quote -/
def textL : List UInt8 → Except Nat (List UInt8 × List UInt8)
  | [] => .error 1401
  | b :: r =>
    if b = 34 then .ok ([], r)
    else if b = 92 then match r with
      | [] => .error 1401
      | c :: r' => match escW c.toNat with
        | none => .error 1401
        | some z => (textL r').map fun x => (z :: x.1, x.2)
    else (textL r).map fun x => (b :: x.1, x.2)
/-- how many digits -/
def digN : List UInt8 → Nat
  | [] => 0
  | b :: r => if digitI b.toNat = true then digN r + 1 else 0
def digV (x : Nat) : List UInt8 → Nat
  | [] => x
  | b :: r => digV (min (10 * x + (b.toNat - 48)) 9007199254740992) r
/-- a whole number -/
def numL (l : List UInt8) : Except Nat (Int × List UInt8) :=
  let r := if List.isPrefixOf [45] l = true then l.drop 1 else l
  let x := digV 0 (r.take (digN r))
  if 0 < digN r ∧ x ≤ 9007199254740991 then .ok (if List.isPrefixOf [45] l = true then -(x : Int) else x, r.drop (digN r)) else .error 1402
def wordL (l : List UInt8) : Except Nat (Wd × List UInt8) :=
  if List.isPrefixOf [58, 61] l = true then .ok (⟨6, [], [], 0⟩, l.drop 2)
  else if List.isPrefixOf [34] l = true then (textL (l.drop 1)).map fun x => (⟨4, x.1, [], 0⟩, x.2)
  else if ((l.getD 0 0).toNat == 45 || digitI (l.getD 0 0).toNat) = true then (numL l).map fun x => (⟨3, [], [], x.1⟩, x.2)
  else if ((l.getD 0 0).toNat == 46) = true then fieldL l
  else if List.isPrefixOf [36] l = true then match nameL (l.drop 1) with
    | .error e => .error e
    | .ok (x, r) => (pathL r).map fun y => (⟨2, x, y.1, 0⟩, y.2)
  else if wfirst (l.getD 0 0).toNat = true then (nameL l).map fun x => (⟨0, x.1, [], 0⟩, x.2)
  else .error 1400
/-- may a word end here? -/
def ends (l : List UInt8) : Bool := l.isEmpty || (l.getD 0 0).toNat == 124 || blk (l.getD 0 0).toNat
/-- all words; n: as many at most -/
def allF : Nat → List UInt8 → Except Nat (List Wd)
  | 0, _ => .ok []
  | n + 1, l =>
    if trimL l = [] then .ok []
    else if List.isPrefixOf [124] (trimL l) = true then (allF n ((trimL l).drop 1)).map (⟨5, [], [], 0⟩ :: ·)
    else match wordL (trimL l) with
      | .error e => .error e
      | .ok (w, r) => if ends r = true then (allF n r).map (w :: ·) else .error 1400
def wordsL (l : List UInt8) : List Wd × Nat := match allF (l.length + 1) l with
  | .error e => ([], e)
  | .ok ws => (ws, 0)

theorem nmN_le : ∀ l, nmN l ≤ l.length
  | [] => Nat.le_refl _
  | b :: r => by have := nmN_le r; unfold nmN; split <;> simp; omega
theorem digN_le : ∀ l, digN l ≤ l.length
  | [] => Nat.le_refl _
  | b :: r => by have := digN_le r; unfold digN; split <;> simp; omega
theorem digV_le : ∀ (l : List UInt8) (x : Nat), x ≤ 9007199254740992 → digV x l ≤ 9007199254740992
  | [], x, h => h
  | b :: r, x, h => digV_le r _ (Nat.min_le_right _ _)
end Go.Proofs.YtbcddlheikdlkaaGreatDoor.S
