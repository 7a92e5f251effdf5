/-
  THE WALK of package lex's Split.
-/
import Derived.Test.YtblkbhomlblfnaaDoorLexSplit
import Derived.Laws.OwnMore
import Derived.Deep.Onto
set_option linter.unusedVariables false
set_option linter.unusedSimpArgs false
namespace Go.Proofs.YtblkbhomlblfnaaDoor.S
open Go.RowKit

/-- P13.1: its limits -/
def longP (ps : List Pc) : Bool := ps.any fun p => p.act && decide (256 < p.text.length)
def splitR (l : List UInt8) : List Pc × Nat :=
  if 65536 < l.length then ([], 1301) else match splitL l with
    | none => ([], 1300)
    | some ps => if longP ps = true then ([], 1301) else if 1024 < ps.length then ([], 1302) else (ps, 0)
theorem flat_get : ∀ (ps : List Pc) (k : Nat) (h : k < ps.length) (r : Nat), r < 3 → (ps.flatMap pcCells)[k * 3 + r]? = (pcCells ps[k])[r]?
  | p :: ps, 0, _, r, hr => by
    rw [List.flatMap_cons, Nat.zero_mul, Nat.zero_add, List.getElem?_append_left (by simpa [pcCells] using hr)]
    rfl
  | p :: ps, k + 1, h, r, hr => by
    rw [List.flatMap_cons, List.getElem?_append_right (by simp [pcCells]; omega)]
    have e : (k + 1) * 3 + r - (pcCells p).length = k * 3 + r := by simp [pcCells]; omega
    rw [e, flat_get ps k (by simpa using h) r hr]
    rfl
theorem Pcs.form {base : Nat} {v : Value} {ps : List Pc} {w : World} (h : Pcs base v ps w) (hn : 0 < ps.length) : ∃ b cap, v = .slice (some ⟨b, 0, none⟩) ps.length cap ∧ base ≤ b ∧ ps.length ≤ cap := by
  rcases h.2 with ⟨rfl, h0⟩ | ⟨g, cap, cur, rfl, hb, _, hc, _⟩
  · omega
  · exact ⟨g, cap, rfl, hb, hc⟩
theorem Pcs.len_le {base : Nat} {v : Value} {ps : List Pc} {w : World} (h : Pcs base v ps w) : ps.length ≤ 9223372036854775807 := by
  rcases h.2 with ⟨rfl, h0⟩ | ⟨g, cap, cur, rfl, hb, _, hc, hm, _⟩
  · omega
  · simp only [maxLen] at hm; omega
theorem Pcs.at {base b cap : Nat} {ps : List Pc} {w : World} (h : Pcs base (.slice (some ⟨b, 0, none⟩) ps.length cap) ps w) (k : Nat) (hk : k < ps.length) :
    w.cell? ⟨b, k * 3, none⟩ = some (.bool ps[k].act) ∧ w.cell? ⟨b, k * 3 + 1, none⟩ = some (.string ⟨ps[k].text.toArray⟩) ∧ w.cell? ⟨b, k * 3 + 2, none⟩ = some (.int .i64 ps[k].pos) :=
  ⟨(World.ownsRow.cellAt h (k * 3 + 0) (by omega)).trans (flat_get ps k hk 0 (by omega)), (World.ownsRow.cellAt h (k * 3 + 1) (by omega)).trans (flat_get ps k hk 1 (by omega)), (World.ownsRow.cellAt h (k * 3 + 2) (by omega)).trans (flat_get ps k hk 2 (by omega))⟩

set_option maxRecDepth 100000 in
set_option maxHeartbeats 4000000 in
theorem lexSplit_calls (s : ByteArray) (w : World) (hE : Env w) (hs : s.size ≤ 1073741824) :
    Calls Tryd.prog 26 #[.string s] w fun e w' => ∃ v ps n, e = .returned (.tuple #[v, .int .i64 (n : Nat)]) ∧ Pcs w.heap.size v ps w' ∧ Below w.heap.size w w' ∧ splitR s.data.toList = (ps, n) := by
  by_cases h : 65536 < s.size
  · have hr : splitR s.data.toList = ([], 1301) := if_pos h
    go_enter Tryd.func26, Tryd.ntmps26
    go_wp2
    go_ret2
    exact ⟨_, [], 1301, rfl, pcs_nil _ _, Below.refl _ _, hr⟩
  · have hr : splitR s.data.toList = match splitL s.data.toList with
      | none => ([], 1300)
      | some ps => if longP ps = true then ([], 1301) else if 1024 < ps.length then ([], 1302) else (ps, 0) := if_neg h
    have HR := Lib.hid hr
    clear hr
    go_enter Tryd.func26, Tryd.ntmps26
    go_wp2_with fail
    refine (lines_calls s _ hE (by omega)).mono ?_
    rintro e w1 ⟨t, rfl, ht, hb1⟩
    have hts : t.size ≤ 65536 := by rw [ht.size]; exact Nat.le_trans (linesL_len _) (by rw [size_list]; omega)
    have hE1 := (hE.below hb1).at
    have hsp : splitL s.data.toList = splitF t.size t.data.toList 0 false := by
      unfold splitL
      rw [← show t.data.toList = linesL s.data.toList from ht]
      rfl
    go_wp2_with fail
    have hB : CurB w1.heap.size t 0 false (.slice none 0 0) (w1.alloc (.cells #[.string t, .int .i64 0, .bool false, .slice none 0 0] 90)) := Blk.new w1 _ _
    have hC : Cur w1.heap.size t 0 false [] (w1.alloc (.cells #[.string t, .int .i64 0, .bool false, .slice none 0 0] 90)) := ⟨_, hB, pcs_nil _ _⟩
    have hbn : Below w1.heap.size w1 (w1.alloc (.cells #[.string t, .int .i64 0, .bool false, .slice none 0 0] 90)) := (Below.refl _ w1).alloc (Nat.le_refl _) _
    have hE2 := hE1.below hbn
    generalize w1.alloc (.cells #[.string t, .int .i64 0, .bool false, .slice none 0 0] 90) = w2 at *
    refine (split_calls w1.heap.size t _ hE2 hC hts).mono ?_
    rw [← hsp]
    rintro e w3 ⟨b, rfl, hb3, hso, hno⟩
    have hb13 := (hbn.trans hb3)
    have hbw := hb1.trans (hb13.mono hb1.size)
    cases hq : splitL s.data.toList with
    | none =>
      obtain rfl := hno hq
      have hr := HR.out
      rw [hq] at hr
      have HR2 := Lib.hid hr
      clear hr
      go_wp2
      go_ret2
      exact ⟨_, [], 1300, rfl, pcs_nil _ _, hbw, HR2.out⟩
    | some ps =>
      obtain ⟨rfl, i, tr, hC3⟩ := hso ps hq
      have hr := HR.out
      rw [hq] at hr
      have HR2 := Lib.hid hr
      clear hr hso hno hsp hq
      obtain ⟨v, hB3, hP3⟩ := hC3
      obtain ⟨sa, sc, rfl, hcap⟩ := own_slice hP3
      have c3 := hB3.cell 3 _ rfl
      go_wp2
      clear c3
      go_loopg [6, 22] ps.length (fun gk _ v22 wr => ∃ k : Nat, k + gk = ps.length ∧ v22 = .int .i64 k ∧ Hid (longP (ps.take k) = false) ∧ Below w3.heap.size w3 wr)
      case atStart => exact ⟨0, by omega, rfl, rfl, Below.refl _ _⟩
      case round =>
        obtain ⟨k, hkg, rfl, hlp, hbr⟩ := hrel
        have HKG := Lib.hid hkg
        have hkl : k ≤ ps.length := by omega
        clear hkg
        have hPr := own_below hP3 hbr
        have hBr := hB3.below hbr
        have c3 := hBr.cell 3 _ rfl
        have hpsl := hP3.len_le
        by_cases hk : k < ps.length
        · obtain ⟨b, cap, hv, hbb, hcc⟩ := hP3.form (by omega)
          obtain ⟨rfl, -, rfl⟩ := Value.slice.inj hv
          obtain ⟨d0, d1, d2⟩ := Pcs.at hPr k hk
          have hsz : (⟨ps[k].text.toArray⟩ : ByteArray).size = ps[k].text.length := rfl
          have hst : longP (ps.take (k + 1)) = (longP (ps.take k) || (ps[k].act && decide (256 < ps[k].text.length))) := by
            unfold longP
            rw [List.take_succ_eq_append_getElem hk, List.any_append]
            simp
          rw [hlp.out, Bool.false_or] at hst
          have hmem : (ps[k].act && decide (256 < ps[k].text.length)) = true → longP ps = true := fun h => List.any_eq_true.2 ⟨ps[k], List.getElem_mem hk, h⟩
          generalize (⟨ps[k].text.toArray⟩ : ByteArray) = tx at *
          generalize ps[k].text.length = tn at *
          generalize ps[k].act = ta at *
          generalize ps[k].pos = tp at *
          have HST := Lib.hid hst
          have HM := Lib.hid hmem
          clear hst hmem hv
          cases ta with
          | true =>
            by_cases h256 : 256 < tn
            · have h256b : decide (256 < (tn : Int)) = true := decide_eq_true (by omega)
              have hlong : longP ps = true := HM.out (by simpa using h256)
              have HLG := Lib.hid hlong
              clear hlong
              go_wp2
              go_ret2
              exact ⟨_, [], 1301, rfl, pcs_nil _ _, hbw.trans ((hbr.alloc hbr.size _).mono hbw.size), HR2.out.trans (if_pos HLG.out)⟩
            · have h256b : decide (256 < (tn : Int)) = false := decide_eq_false (by omega)
              have H256 := Lib.hid h256
              clear h256
              go_wp2
              go_roundg (gk - 1)
              case measure => have := HKG.out; omega
              case rel => exact ⟨k + 1, by have := HKG.out; omega, by go_num, (by have := H256.out; show _ = _; rw [HST.out]; simpa using this), hbr.alloc hbr.size _⟩
          | false =>
            go_wp2
            go_roundg (gk - 1)
            case measure => have := HKG.out; omega
            case rel => exact ⟨k + 1, by have := HKG.out; omega, by go_num, (by show _ = _; rw [HST.out]; rfl), hbr.alloc hbr.size _⟩
        · obtain rfl : k = ps.length := by omega
          have hl := hlp.out
          rw [List.take_length] at hl
          have hr := HR2.out
          rw [hl, if_neg (by simp)] at hr
          by_cases hm : 1024 < ps.length
          · have hmb : decide (1024 < (ps.length : Int)) = true := decide_eq_true (by omega)
            rw [if_pos hm] at hr
            have HR3 := Lib.hid hr
            clear hr hm
            go_wp2
            go_ret2
            exact ⟨_, [], 1302, rfl, pcs_nil _ _, hbw.trans (hbr.mono hbw.size), HR3.out⟩
          · have hmb : decide (1024 < (ps.length : Int)) = false := decide_eq_false (by omega)
            rw [if_neg hm] at hr
            have HR3 := Lib.hid hr
            clear hr hm
            go_wp2
            go_ret2
            exact ⟨_, ps, 0, rfl, World.ownsRow.mono hPr (by have := hb1.size; omega), hbw.trans (hbr.mono hbw.size), HR3.out⟩
end Go.Proofs.YtblkbhomlblfnaaDoor.S
