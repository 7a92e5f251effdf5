/-
  PLAIN: chapters 5, 6, 20: states of a page, byte by byte; contexts; holes. No program in sight.
-/
import Derived.Test.YtafkfamfhagokaaGreatDoorPlainB
set_option linter.unusedVariables false
set_option linter.unusedSimpArgs false
namespace Go.Proofs.YtafkfamfhagokaaGreatDoor.S

/-- where a page's reader stands -/
structure Sx where
  pl : Int
  nm : List UInt8
  fin : Bool
  attr : List UInt8
  held : List UInt8
  rd : Int
def blankB (c : Nat) : Bool := c == 32 || (decide (9 ≤ c) && decide (c ≤ 13) && c != 11)
def letN (c : Nat) : Bool := letterI (c : Int)
def lowN (c : Nat) : Nat := if 65 ≤ c ∧ c ≤ 90 then c + 32 else c
def moreX (name : List UInt8) (c : Nat) : List UInt8 := if 32 ≤ name.length then name else name ++ [(lowN c).toUInt8]
/-- br img input hr meta link · title textarea · script · style -/
def elemK (n : List UInt8) : Nat :=
  if n = [98, 114] ∨ n = [105, 109, 103] ∨ n = [105, 110, 112, 117, 116] ∨ n = [104, 114] ∨ n = [109, 101, 116, 97] ∨ n = [108, 105, 110, 107] then 1
  else if n = [116, 105, 116, 108, 101] ∨ n = [116, 101, 120, 116, 97, 114, 101, 97] then 2
  else if n = [115, 99, 114, 105, 112, 116] then 3
  else if n = [115, 116, 121, 108, 101] then 4
  else 0
/-- href src action formaction cite · style · on.. -/
def attrK (n : List UInt8) : Nat :=
  if n = [104, 114, 101, 102] ∨ n = [115, 114, 99] ∨ n = [97, 99, 116, 105, 111, 110] ∨ n = [102, 111, 114, 109, 97, 99, 116, 105, 111, 110] ∨ n = [99, 105, 116, 101] then 1
  else if n = [115, 116, 121, 108, 101] then 3
  else if n.take 2 = [111, 110] ∧ 2 < n.length then 2
  else 0
def atX (x : Int) : Sx := ⟨x, [], false, [], [], 0⟩
def inX (s : Sx) (x : Int) : Sx := ⟨x, s.nm, s.fin, [], [], 0⟩
def attrX (s : Sx) (x : Int) (n : List UInt8) : Sx := ⟨x, s.nm, s.fin, n, [], 0⟩
def heldX (s : Sx) (x : Int) : Sx := ⟨x, [], false, [], s.held, 0⟩
def closesX (s : Sx) : Sx := if s.fin = true ∨ elemK s.nm = 0 ∨ elemK s.nm = 1 then atX 0 else ⟨19, [], false, [], s.nm, 0⟩
def dataX (c : Nat) : Sx := if c = 60 then atX 1 else atX 0
def tagOpenX (c : Nat) : Sx := if letN c = true then ⟨3, moreX [] c, false, [], [], 0⟩ else if c = 47 then atX 2 else if c = 33 then atX 13 else dataX c
def endOpenX (c : Nat) : Sx := if letN c = true then ⟨3, moreX [] c, true, [], [], 0⟩ else dataX c
def betweenX (s : Sx) (c : Nat) (x : Int) : Option Sx := if blankB c = true then some (inX s x) else if c = 47 then some (inX s 12) else if c = 62 then some (closesX s) else none
def tagNameX (s : Sx) (c : Nat) : Sx := match betweenX s c 4 with | some o => o | none => ⟨3, moreX s.nm c, s.fin, [], [], 0⟩
def beginsX (s : Sx) (c : Nat) : Sx := match betweenX s c 4 with | some o => o | none => attrX s 5 (moreX [] c)
def namesX (s : Sx) (c : Nat) (name : List UInt8) : Sx :=
  if blankB c = true then attrX s 6 s.attr else if c = 61 then attrX s 7 s.attr else match betweenX s c 0 with | some o => o | none => attrX s 5 (moreX name c)
def beforeValueX (s : Sx) (c : Nat) : Sx :=
  if blankB c = true then attrX s 7 s.attr else if c = 34 then attrX s 8 s.attr else if c = 39 then attrX s 9 s.attr else if c = 62 then closesX s else attrX s 10 s.attr
def quotedX (s : Sx) (c q : Nat) : Sx := if c = q then inX s 11 else attrX s s.pl s.attr
def bareX (s : Sx) (c : Nat) : Sx := if blankB c = true then inX s 4 else if c = 62 then closesX s else attrX s 10 s.attr
def bangsX (c : Nat) (next : Int) : Sx := if c = 45 then atX next else if c = 62 then atX 0 else atX 18
def eitherX (b : Bool) (x y : Int) : Sx := if b = true then atX x else atX y
def commentEndX (c : Nat) : Sx := if c = 62 then atX 0 else eitherX (c == 45) 17 15
def holdsX (s : Sx) (c : Nat) : Sx := if c = 60 then heldX s 20 else heldX s 19
def heldLtX (s : Sx) (c : Nat) : Sx := if c = 47 then heldX s 21 else holdsX s c
def readsX (s : Sx) (c : Nat) (r : Int) : Sx :=
  if 0 ≤ r ∧ r < s.held.length ∧ lowN c = lowN (s.held.getD r.toNat 0).toNat then ⟨22, [], false, [], s.held, r + 1⟩ else holdsX s c
def heldNameX (s : Sx) (c : Nat) : Sx :=
  if s.rd < s.held.length then readsX s c s.rd else match betweenX ⟨0, s.held, true, [], [], 0⟩ c 4 with | some o => o | none => holdsX s c
def stepX (s : Sx) (c : Nat) : Sx :=
  if s.pl = 0 then dataX c else if s.pl = 1 then tagOpenX c else if s.pl = 2 then endOpenX c else if s.pl = 3 then tagNameX s c
  else if s.pl = 4 then beginsX s c else if s.pl = 5 then namesX s c s.attr else if s.pl = 6 then namesX s c [] else if s.pl = 7 then beforeValueX s c
  else if s.pl = 8 then quotedX s c 34 else if s.pl = 9 then quotedX s c 39 else if s.pl = 10 then bareX s c else if s.pl = 11 then beginsX s c
  else if s.pl = 12 then beginsX s c else if s.pl = 13 then bangsX c 14 else if s.pl = 14 then bangsX c 15 else if s.pl = 15 then eitherX (c == 45) 16 15
  else if s.pl = 16 then eitherX (c == 45) 17 15 else if s.pl = 17 then commentEndX c else if s.pl = 18 then eitherX (c == 62) 0 18
  else if s.pl = 19 then holdsX s c else if s.pl = 20 then heldLtX s c else if s.pl = 21 then readsX s c 0 else if s.pl = 22 then heldNameX s c else s
def cleanX (s : Sx) : Sx :=
  if 5 ≤ s.pl ∧ s.pl ≤ 10 then attrX s s.pl s.attr else if 3 ≤ s.pl ∧ s.pl ≤ 12 then inX s s.pl
  else if 19 ≤ s.pl ∧ s.pl ≤ 22 then ⟨s.pl, [], false, [], s.held, if s.pl = 22 then s.rd else 0⟩ else atX s.pl
def sameX (s t : Sx) : Bool := s.pl == t.pl && (s.nm == t.nm && (s.fin == t.fin && (s.attr == t.attr && (s.held == t.held && s.rd == t.rd))))

/-- a context -/
structure Cx where
  st : Sx
  ref : Bool
  kd : Int
  url : Int
  lang : Int
def cx0 : Cx := ⟨atX 0, false, 0, 0, 0⟩
def inQuotes (s : Sx) : Bool := s.pl == 8 || s.pl == 9
def holdsK (s : Sx) : Nat := if s.pl < 19 ∨ 22 < s.pl then 0 else elemK s.held
def codedX (s : Sx) : Bool := holdsK s == 3 || holdsK s == 4
def referredX (s : Sx) : Bool := s.pl == 0 || (holdsK s == 2 || inQuotes s)
def kindX (s : Sx) : Nat := if (inQuotes s && !s.fin) = true then attrK s.attr else if holdsK s = 3 then 2 else if holdsK s = 4 then 3 else 0
def stateMayX (s : Sx) : Bool :=
  !(decide (s.pl < 0) || decide (22 < s.pl) || !sameX s (cleanX s) || decide (32 < s.nm.length) || decide (32 < s.attr.length)) &&
    (decide (s.pl < 19) || ((codedX s || holdsK s == 2) && decide (0 ≤ s.rd) && decide (s.rd ≤ s.held.length)))
def mayX (c : Cx) : Bool :=
  stateMayX c.st && c.kd == (kindX c.st : Int) && (!c.ref || referredX c.st) && (c.kd == 1 || c.url == 0) && ((c.kd == 2 || c.kd == 3) || c.lang == 0) &&
    decide (0 ≤ c.url) && decide (c.url ≤ 4) && decide (0 ≤ c.lang) && decide (c.lang ≤ 9)
/-- where an address stands behind a byte -/
def addressX (url : Int) (b : Nat) : Option Int :=
  let op := url != 3 && url != 4
  if (op && b == 38 || url == 2 && b == 58) = true then none
  else if b = 63 ∨ b = 35 then some 4
  else if (op && (b == 58 || b == 47)) = true then some 3
  else if (url == 0 && decide (32 < b)) = true then some 1
  else some url
def codeX (js : Bool) (b : Nat) : Int := if b = 34 then 1 else if b = 39 then 2 else if b = 47 then 5 else if (js && b == 96 || !js && b == 92) = true then 9 else 0
def textLX (l : Int) (b q : Nat) (slash : Int) : Int := if b = 92 then slash else if b = q then 0 else if b = 10 then 9 else l
def blockX (b : Nat) : Int := if b = 42 then 8 else 7
def langX (l : Int) (js : Bool) (b : Nat) : Int :=
  if l = 0 then codeX js b else if l = 1 then textLX 1 b 34 3 else if l = 2 then textLX 2 b 39 4 else if l = 3 then 1 else if l = 4 then 2
  else if l = 5 then (if b = 42 then 7 else if js = false then codeX js b else if b = 47 then 6 else 9)
  else if l = 6 then (if (js && b == 10) = true then 0 else 6) else if l = 7 then blockX b else if l = 8 then (if b = 47 then 0 else blockX b) else 9
def zoneX (s : Sx) : Nat := if inQuotes s = true then 1 else if codedX s = true then 2 else 0
def wordB (b : Nat) : Bool := letN b || (decide (48 ≤ b) && decide (b ≤ 57)) || b == 35
def stepC (c : Cx) (b : Nat) : Except Nat Cx :=
  let st := stepX c.st b
  let now := zoneX st
  let ref := referredX st && (b == 38 || (c.ref && wordB b))
  if now = 0 ∨ now ≠ zoneX c.st then .ok ⟨st, ref, kindX st, 0, 0⟩
  else if c.kd = 1 then match addressX c.url b with
    | none => .error 2003
    | some u => .ok ⟨st, ref, c.kd, u, c.lang⟩
  else if c.kd = 2 ∨ c.kd = 3 then .ok ⟨st, ref, c.kd, c.url, if now = 1 ∧ b = 38 then 9 else langX c.lang (c.kd == 2) b⟩
  else .ok ⟨st, ref, c.kd, c.url, c.lang⟩
def stepsC (c : Cx) : List UInt8 → Except Nat Cx
  | [] => .ok c
  | b :: r => match stepC c b.toNat with
    | .error e => .error e
    | .ok d => stepsC d r
def textC (c : Cx) (l : List UInt8) : Except Nat Cx := if mayX c = true then stepsC c l else .error 2000
/-- what is written in a script or a style -/
def inLangX (c : Cx) (code text style : Nat) : Except Nat Nat :=
  if c.lang = 0 ∧ c.kd = 3 then .ok style else if c.lang = 0 then .ok code else if c.kd = 2 ∧ (c.lang = 1 ∨ c.lang = 2) then .ok text else .error 2004
def placeC (c : Cx) : Except Nat (Nat × Cx) :=
  if (c.st.pl == 0 || c.st.pl == 19 || inQuotes c.st) = false then .error 2001
  else if codedX c.st = true then (inLangX c 3 4 5).map fun e => (e, c)
  else if c.ref = true then .error 2002
  else if c.kd = 1 then (if c.url = 1 then .error 2003 else if c.url = 0 then .ok (1, ⟨c.st, c.ref, c.kd, 2, c.lang⟩) else .ok (2, c))
  else if c.kd = 0 then .ok (0, c)
  else (inLangX c 6 7 8).map fun e => (e, c)
def holeC (c : Cx) : Except Nat (Nat × Cx) := if mayX c = true then placeC c else .error 2000
theorem hole_test : (match textC cx0 [60, 97, 32, 104, 114, 101, 102, 61, 39] with | .ok c => (match holeC c with | .ok p => p.1 | .error e => e) | .error e => e + 1) = 1 := by decide +kernel
theorem hole_test2 : (match textC cx0 [60, 115, 99, 114, 105, 112, 116, 62, 120, 61] with | .ok c => (match holeC c with | .ok p => p.1 | .error e => e) | .error e => e + 1) = 3 := by decide +kernel
end Go.Proofs.YtafkfamfhagokaaGreatDoor.S
