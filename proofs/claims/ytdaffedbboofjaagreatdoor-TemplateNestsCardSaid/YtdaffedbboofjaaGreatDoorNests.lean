/-
  PLAIN: blocks within blocks: what is read.
-/
import Derived.Test.YtdaffedbboofjaaGreatDoorTmplAll
set_option linter.unusedVariables false
set_option linter.unusedSimpArgs false
namespace Go.Proofs.YtdaffedbboofjaaGreatDoor.S
open Go.RowKit

def wdK (c : Nat) : List UInt8 := if c = 0 then [105, 102] else if c = 1 then [119, 105, 116, 104] else [114, 97, 110, 103, 101]
def opn (c k : Nat) : List UInt8 := (List.replicate k ([123, 123] ++ wdK c ++ [32, 46, 125, 125])).flatten
def cls (o : Bool) (k : Nat) : List UInt8 := (List.replicate k ((if o = true then [123, 123, 101, 108, 115, 101, 125, 125, 121] else []) ++ [123, 123, 101, 110, 100, 125, 125])).flatten
def nestI (c : Nat) (o : Bool) : Nat → List It
  | 0 => [.mk 0 [120] [] [] []]
  | k + 1 => [.mk (3 + c) [] dotP (nestI c o k) (if o = true then [.mk 0 [121] [] [] []] else [])]
def src1 (c : Nat) (o : Bool) (k : Nat) : List UInt8 := opn c k ++ [120] ++ cls o k
def src2 (c : Nat) (o : Bool) (k : Nat) : List UInt8 := opn c k ++ [120] ++ cls o k ++ [123, 123, 101, 110, 100, 125, 125]
def src3 (c : Nat) (o : Bool) (k : Nat) : List UInt8 := opn c k ++ [123, 123] ++ wdK c ++ [32, 46, 125, 125, 120] ++ cls o k
def res1 (c : Nat) (o : Bool) (k : Nat) : Except Nat (List It) := if k ≤ 16 then .ok (nestI c o k) else .error 1603
def res2 (k : Nat) : Except Nat (List It) := if k ≤ 16 then .error 1600 else .error 1603
def res3 (k : Nat) : Except Nat (List It) := if k ≤ 15 then .error 1600 else .error 1603
theorem range_eq {α : Type} {f g : Nat → α} {n k : Nat} (h : (List.range n).map f = (List.range n).map g) (hk : k < n) : f k = g k := List.map_inj_left.1 h k (List.mem_range.2 hk)
end Go.Proofs.YtdaffedbboofjaaGreatDoor.S
