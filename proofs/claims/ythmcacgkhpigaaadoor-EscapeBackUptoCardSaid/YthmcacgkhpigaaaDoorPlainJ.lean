/-
  PLAIN: trees of values (P4.1), JSON texts (P10.2): what is read; which values may be.
-/
import Derived.Test.YthmcacgkhpigaaaDoorPlainB
import Derived.Test.YthmcacgkhpigaaaDoorPlainU
import Derived.WalkKit
set_option linter.unusedVariables false
set_option linter.unusedSimpArgs false
namespace Go.Proofs.YthmcacgkhpigaaaDoor.S

inductive JV where
  | mk (kind num : Int) (bits : Nat) (text : List UInt8) (items : List JV) (keys : List (List UInt8))
def JV.kind : JV → Int | .mk k _ _ _ _ _ => k
def JV.num : JV → Int | .mk _ n _ _ _ _ => n
def JV.bits : JV → Nat | .mk _ _ b _ _ _ => b
def JV.text : JV → List UInt8 | .mk _ _ _ t _ _ => t
def JV.items : JV → List JV | .mk _ _ _ _ i _ => i
def JV.keys : JV → List (List UInt8) | .mk _ _ _ _ _ k => k
def jNull : JV := .mk 0 0 0 [] [] []

def isBl (b : UInt8) : Bool := b == 32 || b == 9 || b == 10 || b == 13
def blJ (l : List UInt8) : List UInt8 := l.dropWhile isBl
/-- the value of a digit of sixteen -/
def hexV (b : UInt8) : Option Nat :=
  if 48 ≤ b.toNat ∧ b.toNat ≤ 57 then some (b.toNat - 48)
  else if 65 ≤ b.toNat ∧ b.toNat ≤ 70 then some (b.toNat - 55)
  else if 97 ≤ b.toNat ∧ b.toNat ≤ 102 then some (b.toNat - 87)
  else none
def sixF : Nat → Nat → List UInt8 → Option Nat
  | 0, x, _ => some x
  | _ + 1, _, [] => none
  | n + 1, x, b :: r => match hexV b with
    | none => none
    | some d => sixF n (16 * x + d) r
def sixL (l : List UInt8) : Option (Nat × List UInt8) := if l.length < 4 then none else (sixF 4 0 l).map fun x => (x, l.drop 4)
def signJL (l : List UInt8) : Option (Nat × List UInt8) := match sixL l with
  | none => none
  | some (x, r) => if x < 55296 ∨ 57343 < x then some (x, r)
    else if 56320 ≤ x then none
    else if List.isPrefixOf [92, 117] r = false then none
    else match sixL (r.drop 2) with
      | none => none
      | some (y, r2) => if 56320 ≤ y ∧ y ≤ 57343 then some (65536 + (x - 55296) * 1024 + (y - 56320), r2) else none
/-- a sign's bytes -/
def encU (k : Nat) : List UInt8 :=
  if k < 128 then [UInt8.ofNat k]
  else if k < 2048 then [UInt8.ofNat (192 + k / 64), UInt8.ofNat (128 + k % 64)]
  else if k < 65536 then [UInt8.ofNat (224 + k / 4096), UInt8.ofNat (128 + k / 64 % 64), UInt8.ofNat (128 + k % 64)]
  else [UInt8.ofNat (240 + k / 262144), UInt8.ofNat (128 + k / 4096 % 64), UInt8.ofNat (128 + k / 64 % 64), UInt8.ofNat (128 + k % 64)]
/-- a letter behind a backslash -/
def escV (c : UInt8) : Option UInt8 :=
  if c = 34 then some 34 else if c = 92 then some 92 else if c = 47 then some 47 else if c = 98 then some 8
  else if c = 102 then some 12 else if c = 110 then some 10 else if c = 114 then some 13 else if c = 116 then some 9 else none
def escJL (l : List UInt8) : Option (List UInt8 × List UInt8) := match l with
  | [] => none
  | c :: r => if c = 117 then (signJL r).map fun x => (encU x.1, x.2) else (escV c).map fun b => ([b], r)
/-- a text behind its quote -/
def txF : Nat → List UInt8 → Option (List UInt8 × List UInt8)
  | 0, _ => none
  | _ + 1, [] => none
  | n + 1, c :: r => if c = 34 then some ([], r)
    else if c = 92 then match escJL r with
      | none => none
      | some (t, r2) => (txF n r2).map fun x => (t ++ x.1, x.2)
    else if c.toNat < 32 then none
    else if sign (c :: r) = 0 then none
    else (txF n ((c :: r).drop (sign (c :: r)))).map fun x => ((c :: r).take (sign (c :: r)) ++ x.1, x.2)
def txJ (l : List UInt8) : Option (List UInt8 × List UInt8) := txF (l.length + 1) l
def digB (b : UInt8) : Bool := decide (48 ≤ b.toNat) && decide (b.toNat ≤ 57)
/-- how many digits stand first -/
def digN : List UInt8 → Nat
  | [] => 0
  | b :: r => if digB b = true then digN r + 1 else 0
theorem digN_le : ∀ l, digN l ≤ l.length
  | [] => Nat.le_refl _
  | b :: r => by have := digN_le r; unfold digN; split <;> simp <;> omega
def decV (l : List UInt8) : Nat := l.foldl (fun x b => 10 * x + (b.toNat - 48)) 0
def numTail (l : List UInt8) : Bool := match l with
  | [] => true
  | b :: _ => !(b == 46 || b == 101 || b == 69)
def numV (below : Bool) (x : Nat) : JV := if below = true then (if x = 0 then .mk 3 0 9223372036854775808 [] [] [] else .mk 2 (-(x : Int)) 0 [] [] []) else .mk 2 (x : Int) 0 [] [] []
def numAt (below : Bool) (l : List UInt8) : Option (JV × List UInt8) :=
  if digN l = 0 ∨ (digN l ≠ 1 ∧ l.getD 0 0 = 48) ∨ 16 < digN l then none
  else if numTail (l.drop (digN l)) = false then none
  else some (numV below (decV (l.take (digN l))), l.drop (digN l))
def cutJ (p l : List UInt8) : List UInt8 := if List.isPrefixOf p l = true then l.drop p.length else l
def numJ (l : List UInt8) : Option (JV × List UInt8) := numAt (List.isPrefixOf [45] l) (cutJ [45] l)
/-- items up to an end; n: as many more may be -/
def rowJ (f : List UInt8 → Option (JV × List UInt8)) (rec : Bool) (fin : UInt8) : Nat → List JV → List (List UInt8) → List UInt8 → Option ((List JV × List (List UInt8)) × List UInt8)
  | 0, _, _, _ => none
  | n + 1, is, ks, l =>
    match (if rec = true then (if List.isPrefixOf [34] (blJ l) = false then none else match txJ ((blJ l).drop 1) with
        | none => none
        | some (k, r) => if List.isPrefixOf [58] (blJ r) = false then none else some (ks ++ [k], (blJ r).drop 1)) else some (ks, l)) with
    | none => none
    | some (ks', l') => match f l' with
      | none => none
      | some (v, r) => if List.isPrefixOf [fin] (blJ r) = true then some ((is ++ [v], ks'), (blJ r).drop 1)
        else if List.isPrefixOf [44] (blJ r) = false then none
        else rowJ f rec fin n (is ++ [v]) ks' ((blJ r).drop 1)
def itemsJ (f : List UInt8 → Option (JV × List UInt8)) (rec : Bool) (fin : UInt8) (l : List UInt8) : Option ((List JV × List (List UInt8)) × List UInt8) :=
  if List.isPrefixOf [fin] (blJ l) = true then some (([], []), (blJ l).drop 1) else rowJ f rec fin 64 [] [] (blJ l)
/-- a value; d: as deep as may be -/
def valJ : Nat → List UInt8 → Option (JV × List UInt8)
  | 0, _ => none
  | d + 1, l0 =>
    let l := blJ l0
    if List.isPrefixOf [110, 117, 108, 108] l = true then some (jNull, l.drop 4)
    else if List.isPrefixOf [116, 114, 117, 101] l = true then some (.mk 1 1 0 [] [] [], l.drop 4)
    else if List.isPrefixOf [102, 97, 108, 115, 101] l = true then some (.mk 1 0 0 [] [] [], l.drop 5)
    else if List.isPrefixOf [34] l = true then (txJ (l.drop 1)).map fun x => (.mk 4 0 0 x.1 [] [], x.2)
    else if List.isPrefixOf [91] l = true then (itemsJ (valJ d) false 93 (l.drop 1)).map fun x => (.mk 5 0 0 [] x.1.1 x.1.2, x.2)
    else if List.isPrefixOf [123] l = true then (itemsJ (valJ d) true 125 (l.drop 1)).map fun x => (.mk 6 0 0 [] x.1.1 x.1.2, x.2)
    else numJ l
def readJ (l : List UInt8) : Option JV := match valJ 8 l with
  | none => none
  | some (v, r) => if blJ r = [] then some v else none

def keysO : List (List UInt8) → Bool
  | [] => true
  | [k] => !k.isEmpty && decide (k.length ≤ 32)
  | k :: k2 :: r => !k.isEmpty && decide (k.length ≤ 32) && Op.bytesLess k k2 && keysO (k2 :: r)
def plainV (v : JV) : Bool :=
  (v.kind == 1 || v.kind == 2 || v.num == 0) && (v.kind == 3 || v.bits == 0) && (v.kind == 4 || v.text.isEmpty) && (v.kind == 5 || v.kind == 6 || v.items.isEmpty) && (v.kind == 6 || v.keys.isEmpty)
def ownV (v : JV) : Bool :=
  plainV v && decide (v.items.length ≤ 64) &&
  (if v.kind = 0 ∨ v.kind = 3 ∨ v.kind = 5 then true
   else if v.kind = 1 then v.num == 0 || v.num == 1
   else if v.kind = 2 then decide (-9007199254740991 ≤ v.num) && decide (v.num ≤ 9007199254740991)
   else if v.kind = 4 then decide (v.text.length ≤ 65536)
   else if v.kind = 6 then v.keys.length == v.items.length && keysO v.keys
   else false)
/-- as many as are left behind a row -/
def mayRow (f : JV → Nat → Option Nat) : List JV → Nat → Option Nat
  | [], n => some n
  | v :: r, n => match f v n with
    | none => none
    | some m => mayRow f r m
def mayJ : Nat → JV → Nat → Option Nat
  | 0, _, _ => none
  | d + 1, v, n => if n = 0 then none else if ownV v = false then none else mayRow (mayJ d) v.items (n - 1)
def mayV (v : JV) : Bool := (mayJ 8 v 1024).isSome
/-- P10.2 -/
def getJ (l : List UInt8) : Option JV := if 65536 < l.length then none else match readJ l with
  | none => none
  | some v => if mayV v = true then some v else none
end Go.Proofs.YthmcacgkhpigaaaDoor.S
