/-
  PLAIN: chapter 17: names of templates, sets that are read, sets that may be.
-/
import Derived.Test.YtbcddlheikdlkaaGreatDoorAwake16
set_option linter.unusedVariables false
set_option linter.unusedSimpArgs false
namespace Go.Proofs.YtbcddlheikdlkaaGreatDoor.S
open Go.RowKit

def signT (c : Nat) : Bool := letterI c || digitI c || c == 95 || c == 46 || c == 45
def nameT (l : List UInt8) : Bool := l.all (fun b => signT b.toNat) && (!l.isEmpty && decide (l.length ≤ 32))
/-- a template with its items, by its name -/
abbrev Nm := List UInt8 × List It
def hasN (ns : List (List UInt8)) (s : List UInt8) : Bool := ns.any fun n => n == s
mutual
def call1 (ns : List (List UInt8)) : It → Bool
  | .mk k t p th el => !(k == 6 && !hasN ns t) && callsI ns th && callsI ns el
def callsI (ns : List (List UInt8)) : List It → Bool
  | [] => true
  | i :: r => call1 ns i && callsI ns r
end
def cmOk (c : Cm) (first : Bool) : Bool := ((c.fn.isEmpty && first && c.args.length == 1) || isFn c.fn) && decide (c.args.length ≤ 8)
def mayP : List Cm → Bool
  | [] => false
  | c :: r => decide (r.length ≤ 7) && (cmOk c true && r.all fun c => cmOk c false)
def isBlock (k : Nat) : Bool := k == 3 || k == 4 || k == 5
def isTexted (k : Nat) : Bool := k == 0 || k == 2 || k == 6
def isPiped (k : Nat) : Bool := isBlock k || k == 1 || k == 2 || k == 6
def bareI (i : It) : Bool := (isBlock i.kind || i.th.length + i.el.length == 0) && (isTexted i.kind || i.text.isEmpty) && (isPiped i.kind || i.pipe.length == 0)
mutual
/-- may an item be, so deep, in a loop or not? how many items, how long texts there may still be -/
def may1 (ns : List (List UInt8)) : It → Nat → Bool → Nat → Nat → Option (Nat × Nat)
  | .mk k t p th el, deep, loop, n, m =>
    if n = 0 then none else if bareI (.mk k t p th el) = false then none
    else if k = 0 then (if t ≠ [] ∧ t.length ≤ m then some (n - 1, m - t.length) else none)
    else if k = 1 then (if mayP p = true then some (n - 1, m) else none)
    else if k = 2 then (if (nameOk t && mayP p) = true then some (n - 1, m) else none)
    else if k = 6 then (if (hasN ns t && (p.isEmpty || mayP p)) = true then some (n - 1, m) else none)
    else if k = 7 ∨ k = 8 then (if loop = true then some (n - 1, m) else none)
    else if isBlock k = true then (if (decide (deep < 16) && mayP p) = true then
        match mayR ns th (deep + 1) (loop || k == 5) (n - 1) m with
        | none => none
        | some (n', m') => mayR ns el (deep + 1) loop n' m'
      else none)
    else none
def mayR (ns : List (List UInt8)) : List It → Nat → Bool → Nat → Nat → Option (Nat × Nat)
  | [], _, _, n, m => some (n, m)
  | i :: r, deep, loop, n, m => match may1 ns i deep loop n m with
    | none => none
    | some (n', m') => mayR ns r deep loop n' m'
end
/-- names of which none is twice -/
def namesOk : List (List UInt8) → List (List UInt8) → Bool
  | _, [] => true
  | before, x :: r => (nameT x && !hasN before x) && namesOk (before ++ [x]) r
def mayL (ns : List Nm) : Bool := decide (1 ≤ ns.length) && decide (ns.length ≤ 16) && namesOk [] (ns.map Prod.fst) && ns.all fun n => (mayR (ns.map Prod.fst) n.2 0 false 1024 65536).isSome
/-- a template's name and source -/
abbrev Tp := List UInt8 × List UInt8
def dupT : List (List UInt8) → List (List UInt8) → Bool
  | _, [] => false
  | before, x :: r => hasN before x || dupT (before ++ [x]) r
def parsesL : List Tp → Except Nat (List Nm)
  | [] => .ok []
  | t :: r => match tmplL t.2 with
    | .error e => .error e
    | .ok is => (parsesL r).map ((t.1, is) :: ·)
def readL (ts : List Tp) : Except Nat (List Nm) :=
  if ts.length < 1 ∨ 16 < ts.length ∨ (ts.all fun t => nameT t.1) = false then .error 1700
  else if dupT [] (ts.map Prod.fst) = true then .error 1701
  else match parsesL ts with
    | .error e => .error e
    | .ok ns => if (ns.all fun n => callsI (ns.map Prod.fst) n.2) = true then .ok ns else .error 1702
theorem ts_test : tmplL [123, 123, 116, 101, 109, 112, 108, 97, 116, 101, 32, 34, 98, 34, 125, 125] = .ok [.mk 6 [98] [] [] []] := by kernel_rfl
theorem may_test : mayL [([97], [.mk 6 [97] [] [] []])] = true := by kernel_rfl
end Go.Proofs.YtbcddlheikdlkaaGreatDoor.S
