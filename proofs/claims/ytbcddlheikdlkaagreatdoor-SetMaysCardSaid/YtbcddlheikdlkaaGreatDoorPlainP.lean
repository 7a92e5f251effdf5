/-
  PLAIN: pipes (P15.1), templates (P16.1): what is read; the stack of blocks reads as the rows within rows.
-/
import Derived.Test.YtbcddlheikdlkaaGreatDoorPlainW
set_option linter.unusedVariables false
set_option linter.unusedSimpArgs false
namespace Go.Proofs.YtbcddlheikdlkaaGreatDoor.S

structure Ar where
  kind : Nat
  name : List UInt8
  path : List (List UInt8)
  num : Int
  text : List UInt8
  deriving DecidableEq
structure Cm where
  fn : List UInt8
  args : List Ar
  deriving DecidableEq
inductive It where
  | mk (kind : Nat) (text : List UInt8) (pipe : List Cm) (th el : List It)
def It.kind : It → Nat | .mk k _ _ _ _ => k
def It.text : It → List UInt8 | .mk _ t _ _ _ => t
def It.pipe : It → List Cm | .mk _ _ p _ _ => p
def It.th : It → List It | .mk _ _ _ t _ => t
def It.el : It → List It | .mk _ _ _ _ e => e

def isFn (l : List UInt8) : Bool := l == [108, 101, 110] || l == [105, 110, 100, 101, 120] || l == [101, 113] || l == [108, 116] || l == [110, 111, 116] || l == [97, 110, 100] || l == [111, 114] || l == [99, 97, 116]
def argL (d : Wd) : Option Ar :=
  if d.kind = 1 then some ⟨0, [], d.path, 0, []⟩
  else if d.kind = 2 then some ⟨1, d.text, d.path, 0, []⟩
  else if d.kind = 3 then some ⟨2, [], [], d.num, []⟩
  else if d.kind = 4 then some ⟨3, [], [], 0, d.text⟩
  else if d.kind = 0 then
    if d.text = [116, 114, 117, 101] then some ⟨4, [], [], 1, []⟩
    else if d.text = [102, 97, 108, 115, 101] then some ⟨4, [], [], 0, []⟩
    else if d.text = [110, 117, 108, 108] then some ⟨5, [], [], 0, []⟩
    else none
  else none
def argsL : List Wd → Option (List Ar)
  | [] => some []
  | d :: r => match argL d with
    | none => none
    | some a => (argsL r).map (a :: ·)
def fnWord (d : Wd) : Bool := d.kind == 0 && isFn d.text
def cmdL (ws : List Wd) (first : Bool) : Option Cm :=
  match ws with
  | [] => none
  | d :: r => if fnWord d = true then (argsL r).map fun as => ⟨d.text, as⟩
    else if (first && r.isEmpty) = true then (argsL [d]).map fun as => ⟨[], as⟩
    else none
/-- the words up to the first pipe; how many; is there one? -/
def cutN : List Wd → Nat
  | [] => 0
  | d :: r => if d.kind = 5 then 0 else cutN r + 1
theorem cutN_le : ∀ l, cutN l ≤ l.length
  | [] => Nat.le_refl _
  | d :: r => by have := cutN_le r; unfold cutN; split <;> simp; omega
/-- all commands; n: as many at most -/
def cmdsF : Nat → Bool → List Wd → Option (List Cm)
  | 0, _, _ => none
  | n + 1, first, ws => match cmdL (ws.take (cutN ws)) first with
    | none => none
    | some c => if cutN ws < ws.length then (cmdsF n false (ws.drop (cutN ws + 1))).map (c :: ·) else some [c]
def pipeL (ws : List Wd) : Except Nat (List Cm) := match cmdsF (ws.length + 1) true ws with
  | none => .error 1500
  | some cs => if (cs.any (fun c => decide (8 < c.args.length)) || decide (8 < cs.length)) = true then .error 1501 else .ok cs

inductive Ac where
  | els | fin
  | leave (k : Nat)
  | item (i : It)
  | block (k : Nat) (p : List Cm)
def nameOf (ws : List Wd) : List UInt8 := match ws with
  | [] => []
  | d :: _ => if d.kind = 0 then d.text else []
def lone (l : List UInt8) : Bool := l == [101, 108, 115, 101] || l == [101, 110, 100] || l == [98, 114, 101, 97, 107] || l == [99, 111, 110, 116, 105, 110, 117, 101]
def blockA (k : Nat) (ws : List Wd) : Except Nat Ac := (pipeL ws).map fun p => .block k p
def callA (ws : List Wd) : Except Nat Ac := match ws with
  | [] => .error 1604
  | d :: r => if d.kind = 4 then
      if r.isEmpty = true then .ok (.item (.mk 6 d.text [] [] [])) else (pipeL r).map fun p => .item (.mk 6 d.text p [] [])
    else .error 1604
def setHead (ws : List Wd) : Bool := match ws with
  | d :: e :: _ => d.kind == 2 && d.path.isEmpty && e.kind == 6
  | _ => false
def tellA (ws : List Wd) : Except Nat Ac :=
  if setHead ws = true then (pipeL (ws.drop 2)).map fun p => .item (.mk 2 (ws.getD 0 ⟨0, [], [], 0⟩).text p [] [])
  else (pipeL ws).map fun p => .item (.mk 1 [] p [] [])
/-- an action by its words -/
def wordsA (ws : List Wd) : Except Nat Ac :=
  if ws.isEmpty = true then .error 1604
  else if (lone (nameOf ws) && decide (1 < ws.length)) = true then .error 1604
  else if nameOf ws = [101, 108, 115, 101] then .ok .els
  else if nameOf ws = [101, 110, 100] then .ok .fin
  else if nameOf ws = [98, 114, 101, 97, 107] then .ok (.leave 7)
  else if nameOf ws = [99, 111, 110, 116, 105, 110, 117, 101] then .ok (.leave 8)
  else if nameOf ws = [105, 102] then blockA 3 (ws.drop 1)
  else if nameOf ws = [119, 105, 116, 104] then blockA 4 (ws.drop 1)
  else if nameOf ws = [114, 97, 110, 103, 101] then blockA 5 (ws.drop 1)
  else if nameOf ws = [116, 101, 109, 112, 108, 97, 116, 101] then callA (ws.drop 1)
  else tellA ws
def actL (l : List UInt8) : Except Nat Ac := if (wordsL l).2 ≠ 0 then .error (wordsL l).2 else wordsA (wordsL l).1
def acOf (p : Pc) : Except Nat Ac := if p.act = true then actL p.text else .ok (.item (.mk 0 p.text [] [] []))
/-- a row of items up to an else (1), an end (2) or the end of all (0) -/
def rowsL : Nat → Nat → Bool → List Pc → Except Nat (List It × Nat × List Pc)
  | 0, _, _, _ => .error 0
  | n + 1, deep, loop, [] => .ok ([], 0, [])
  | n + 1, deep, loop, p :: ps => match acOf p with
    | .error e => .error e
    | .ok .els => .ok ([], 1, ps)
    | .ok .fin => .ok ([], 2, ps)
    | .ok (.leave k) => if loop = true then (rowsL n deep loop ps).map fun x => (It.mk k [] [] [] [] :: x.1, x.2) else .error 1602
    | .ok (.item i) => (rowsL n deep loop ps).map fun x => (i :: x.1, x.2)
    | .ok (.block k p) => if 16 ≤ deep then .error 1603 else match rowsL n (deep + 1) (loop || k == 5) ps with
      | .error e => .error e
      | .ok (th, w, r) => if w = 1 then match rowsL n (deep + 1) loop r with
          | .error e => .error e
          | .ok (el, w2, r2) => if w2 = 1 then .error 1601 else if w2 = 0 then .error 1600 else (rowsL n deep loop r2).map fun x => (It.mk k [] p th el :: x.1, x.2)
        else if w = 0 then .error 1600 else (rowsL n deep loop r).map fun x => (It.mk k [] p th [] :: x.1, x.2)
def parseL (ps : List Pc) : Except Nat (List It) := match rowsL (ps.length + 1) 0 false ps with
  | .error e => .error e
  | .ok (is, w, _) => if w = 1 then .error 1601 else if w = 2 then .error 1600 else .ok is
/-- a block that has no end yet; the innermost one first, the template last -/
structure Lv where
  kind : Nat
  pipe : List Cm
  th : List It
  row : List It
  behind : Bool
def Lv.add (b : Lv) (i : It) : Lv := { b with row := b.row ++ [i] }
def Lv.item (b : Lv) : It := if b.behind = true then .mk b.kind [] b.pipe b.th b.row else .mk b.kind [] b.pipe b.row []
def looped (st : List Lv) : Bool := st.any fun b => b.kind == 5 && !b.behind
def stepL (b : Lv) (st : List Lv) (a : Ac) : Except Nat (List Lv) := match a with
  | .els => if (st.isEmpty || b.behind) = true then .error 1601 else .ok ({ b with th := b.row, row := [], behind := true } :: st)
  | .fin => match st with
    | [] => .error 1600
    | c :: st => .ok (c.add b.item :: st)
  | .leave k => if looped (b :: st) = true then .ok (b.add (.mk k [] [] [] []) :: st) else .error 1602
  | .item i => .ok (b.add i :: st)
  | .block k p => if 16 < st.length + 1 then .error 1603 else .ok (⟨k, p, [], [], false⟩ :: b :: st)
def runS : List Lv → List Pc → Except Nat (List Lv)
  | st, [] => .ok st
  | [], _ :: _ => .ok []
  | b :: st, p :: ps => match acOf p with
    | .error e => .error e
    | .ok a => match stepL b st a with
      | .error e => .error e
      | .ok st' => runS st' ps
def endS : Except Nat (List Lv) → Except Nat (List It)
  | .error e => .error e
  | .ok [b] => .ok b.row
  | .ok _ => .error 1600
def root : Lv := ⟨0, [], [], [], false⟩
/-- what becomes of a row that ends so -/
def goS (b : Lv) (st : List Lv) : Except Nat (List It × Nat × List Pc) → Except Nat (List It)
  | .error e => .error e
  | .ok (is, w, r) => if w = 0 then (if st.isEmpty = true then .ok (b.row ++ is) else .error 1600)
    else match stepL { b with row := b.row ++ is } st (if w = 1 then .els else .fin) with
      | .error e => .error e
      | .ok st' => endS (runS st' r)
theorem goS_cons (b : Lv) (st : List Lv) (i : It) (x : Except Nat (List It × Nat × List Pc)) : goS b st (x.map fun x => (i :: x.1, x.2)) = goS (b.add i) st x := by
  cases x with
  | error e => rfl
  | ok y =>
    obtain ⟨is, w, r⟩ := y
    simp [Except.map, goS, Lv.add]
theorem rowsL_rest : ∀ (n : Nat) (deep : Nat) (loop : Bool) (ps : List Pc) (is : List It) (w : Nat) (r : List Pc), rowsL n deep loop ps = .ok (is, w, r) → r.length ≤ ps.length ∧ (w ≠ 0 → r.length < ps.length) ∧ w ≤ 2
  | 0, _, _, _, _, _, _, h => by cases h
  | n + 1, deep, loop, [], is, w, r, h => by simp [rowsL] at h; obtain ⟨rfl, rfl, rfl⟩ := h; simp
  | n + 1, deep, loop, p :: ps, is, w, r, h => by
    have hm : ∀ (i : It) (deep : Nat) (loop : Bool) (qs : List Pc), qs.length ≤ ps.length → ((rowsL n deep loop qs).map fun x => (i :: x.1, x.2)) = Except.ok (is, w, r) → r.length ≤ (p :: ps).length ∧ (w ≠ 0 → r.length < (p :: ps).length) ∧ w ≤ 2 := by
      intro i deep loop qs hq h
      cases hr : rowsL n deep loop qs with
      | error e => rw [hr] at h; cases h
      | ok y =>
        obtain ⟨a, b, c⟩ := y
        rw [hr] at h
        injection h with h
        injection h with h1 h2
        injection h2 with h2 h3
        have := rowsL_rest n _ _ _ _ _ _ hr
        subst h2; subst h3
        simp only [List.length_cons]
        omega
    rw [rowsL] at h
    split at h
    · cases h
    · cases h; simp
    · cases h; simp
    · split at h
      · exact hm _ _ _ _ (Nat.le_refl _) h
      · cases h
    · exact hm _ _ _ _ (Nat.le_refl _) h
    · split at h
      · cases h
      · split at h
        · cases h
        · rename_i th w1 r1 h1
          have g1 := rowsL_rest n _ _ _ _ _ _ h1
          split at h
          · split at h
            · cases h
            · rename_i el w2 r2 h2
              have g2 := rowsL_rest n _ _ _ _ _ _ h2
              split at h
              · cases h
              · split at h
                · cases h
                · exact hm _ _ _ _ (by omega) h
          · split at h
            · cases h
            · exact hm _ _ _ _ g1.1 h
theorem run_rows : ∀ (n : Nat) (ps : List Pc) (b : Lv) (st : List Lv), ps.length < n → endS (runS (b :: st) ps) = goS b st (rowsL n st.length (looped (b :: st)) ps)
  | 0, ps, b, st, h => absurd h (Nat.not_lt_zero _)
  | n + 1, [], b, st, h => by
    rw [rowsL, goS, if_pos rfl, List.append_nil, runS]
    cases st with
    | nil => rfl
    | cons c t => rfl
  | n + 1, p :: ps, b, st, h => by
    have hl : ps.length < n := by simpa using h
    rw [runS, rowsL]
    cases ha : acOf p with
    | error e => rfl
    | ok a =>
      dsimp only
      cases a with
      | els =>
        simp only [goS, List.append_nil, if_true, Nat.one_ne_zero, if_false]
        cases stepL b st .els <;> rfl
      | fin =>
        simp only [goS, List.append_nil, if_true, show (2 : Nat) ≠ 0 by decide, show (2 : Nat) ≠ 1 by decide, if_false]
        cases stepL b st .fin <;> rfl
      | leave k =>
        simp only [stepL]
        by_cases hlp : looped (b :: st) = true
        · rw [if_pos hlp, if_pos hlp, goS_cons]
          dsimp only
          rw [run_rows n ps _ _ hl]
          rfl
        · rw [if_neg hlp, if_neg hlp]
          rfl
      | item i =>
        simp only [stepL]
        rw [goS_cons, run_rows n ps _ _ hl]
        rfl
      | block k pi =>
        simp only [stepL]
        by_cases hd : 16 ≤ st.length
        · rw [if_pos hd, if_pos (by omega)]
          rfl
        · rw [if_neg hd, if_neg (by omega)]
          dsimp only
          have e1 : looped ((⟨k, pi, [], [], false⟩ : Lv) :: b :: st) = (looped (b :: st) || k == 5) := by
            simp only [looped, List.any_cons, Bool.not_false, Bool.and_true]
            rw [Bool.or_comm]
          rw [run_rows n ps _ (b :: st) hl, e1, List.length_cons]
          cases h1 : rowsL n (st.length + 1) (looped (b :: st) || k == 5) ps with
          | error e => rfl
          | ok y =>
            obtain ⟨th, w, r⟩ := y
            have g1 := rowsL_rest n _ _ _ _ _ _ h1
            dsimp only
            rw [goS]
            by_cases hw0 : w = 0
            · subst hw0
              rw [if_pos rfl, if_neg (show ¬ (0 : Nat) = 1 by decide), if_pos rfl]
              rfl
            · rw [if_neg hw0]
              by_cases hw1 : w = 1
              · subst hw1
                rw [if_pos rfl, if_pos rfl]
                simp only [stepL, List.isEmpty_cons, Bool.or_self, Bool.false_eq_true, if_false, List.nil_append]
                have e2 : looped ((⟨k, pi, th, [], true⟩ : Lv) :: b :: st) = looped (b :: st) := by simp [looped]
                rw [run_rows n r _ (b :: st) (by omega), e2, List.length_cons]
                cases h2 : rowsL n (st.length + 1) (looped (b :: st)) r with
                | error e => rfl
                | ok z =>
                  obtain ⟨el, w2, r2⟩ := z
                  have g2 := rowsL_rest n _ _ _ _ _ _ h2
                  dsimp only
                  rw [goS]
                  by_cases hv0 : w2 = 0
                  · subst hv0
                    rw [if_pos rfl, if_neg (show ¬ (0 : Nat) = 1 by decide), if_pos rfl]
                    rfl
                  · rw [if_neg hv0]
                    by_cases hv1 : w2 = 1
                    · subst hv1
                      rw [if_pos rfl, if_pos rfl]
                      simp [stepL, goS]
                    · rw [if_neg hv1, if_neg hv1, if_neg hv0, goS_cons]
                      simp only [stepL, Lv.item, List.nil_append, if_true]
                      rw [run_rows n r2 _ st (by omega)]
                      rfl
              · rw [if_neg hw1, if_neg hw1, if_neg hw0, goS_cons]
                simp only [stepL, Lv.item, List.nil_append, Bool.false_eq_true, if_false]
                rw [run_rows n r _ st (by omega)]
                rfl
/-- the stack of blocks reads as the rows within rows -/
theorem run_parse (ps : List Pc) : endS (runS [root] ps) = parseL ps := by
  rw [run_rows (ps.length + 1) ps root [] (Nat.lt_succ_self _)]
  unfold parseL
  show goS root [] (rowsL (ps.length + 1) 0 false ps) = _
  cases h : rowsL (ps.length + 1) 0 false ps with
  | error e => rfl
  | ok y =>
    obtain ⟨is, w, r⟩ := y
    have := rowsL_rest _ _ _ _ _ _ _ h
    dsimp only
    rw [goS]
    by_cases h0 : w = 0
    · subst h0; rfl
    · rw [if_neg h0]
      by_cases h1 : w = 1
      · subst h1; rfl
      · rw [if_neg h1, if_neg h1, if_pos (by omega)]
        rfl
end Go.Proofs.YtbcddlheikdlkaaGreatDoor.S
