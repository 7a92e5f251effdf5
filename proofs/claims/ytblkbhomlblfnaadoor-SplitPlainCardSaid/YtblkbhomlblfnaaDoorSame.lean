/-
  THE WALK of SamePieces: are two rows of pieces alike?
-/
import Derived.Test.YtblkbhomlblfnaaDoorLexTop
set_option linter.unusedVariables false
set_option linter.unusedSimpArgs false
namespace Go.Proofs.YtblkbhomlblfnaaDoor.S
open Go.RowKit

section
open Instr
theorem neq_piece (a1 a2 : Bool) (x1 x2 : ByteArray) (p1 p2 : Int) (W : World) :
    (binOp .neq 52 (.agg #[.bool a1, .string x1, .int .i64 p1]) (.agg #[.bool a2, .string x2, .int .i64 p2])).run Tryd.prog W = .ok (.bool (!(a1 == a2 && (x1.toList == x2.toList && p1 == p2)))) W := by
  rw [run_neq_struct]
  generalize hb1 : (a1 == a2) = b1
  generalize hb2 : (x1.toList == x2.toList) = b2
  generalize hb3 : (p1 == p2) = b3
  cases b1 <;> cases b2 <;> cases b3 <;> go_simp
theorem eq_piece (a1 a2 : Bool) (x1 x2 : ByteArray) (p1 p2 : Int) (W : World) :
    (binOp .eql 52 (.agg #[.bool a1, .string x1, .int .i64 p1]) (.agg #[.bool a2, .string x2, .int .i64 p2])).run Tryd.prog W = .ok (.bool (a1 == a2 && (x1.toList == x2.toList && p1 == p2))) W := by
  rw [run_eql_struct]
  generalize hb1 : (a1 == a2) = b1
  generalize hb2 : (x1.toList == x2.toList) = b2
  generalize hb3 : (p1 == p2) = b3
  cases b1 <;> cases b2 <;> cases b3 <;> go_simp
theorem eq_piece_self (a : Bool) (x : ByteArray) (p : Int) (W : World) :
    (binOp .eql 52 (.agg #[.bool a, .string x, .int .i64 p]) (.agg #[.bool a, .string x, .int .i64 p])).run Tryd.prog W = .ok (.bool true) W := by
  rw [eq_piece]
  simp
end
set_option maxRecDepth 100000 in
set_option maxHeartbeats 4000000 in
theorem same_calls (b1 b2 : Nat) (v u : Value) (ps qs : List Pc) (w : World) (hP : Pcs b1 v ps w) (hQ : Pcs b2 u qs w) :
    Calls Tryd.prog 28 #[v, u] w fun e w' => e = .returned (.bool (decide (ps = qs))) ∧ Below w.heap.size w w' := by
  obtain ⟨sa, sc, rfl, hcap⟩ := own_slice hP
  obtain ⟨ra, rc, rfl, hcap2⟩ := own_slice hQ
  have hpl := hP.len_le
  have hql := hQ.len_le
  go_enter Tryd.func28, Tryd.ntmps28
  by_cases hl : ps.length = qs.length
  · have hlb : ((ps.length : Int) == (qs.length : Int)) = true := beq_iff_eq.2 (by omega)
    go_wp2
    have HL := Lib.hid hl
    clear hlb hl
    go_loopg [5] ps.length (fun gk v5 wr => ∃ k : Nat, k + gk = ps.length ∧ v5 = .int .i64 k ∧ Hid (ps.take k = qs.take k) ∧ Below w.heap.size w wr)
    case atStart => exact ⟨0, by omega, rfl, rfl, Below.refl _ _⟩
    case round =>
      obtain ⟨k, hkg, rfl, hlp, hbr⟩ := hrel
      have HKG := Lib.hid hkg
      have hkl : k ≤ ps.length := by omega
      clear hkg
      have hPr := own_below hP hbr
      have hQr := own_below hQ hbr
      by_cases hk : k < ps.length
      · have hkq : k < qs.length := by have := HL.out; omega
        obtain ⟨b, cap, hv, hbb, hcc⟩ := hP.form (by omega)
        obtain ⟨rfl, -, rfl⟩ := Value.slice.inj hv
        obtain ⟨b', cap', hv', hbb', hcc'⟩ := hQ.form (by have := HL.out; omega)
        obtain ⟨rfl, -, rfl⟩ := Value.slice.inj hv'
        obtain ⟨d0, d1, d2⟩ := Pcs.at hPr k hk
        obtain ⟨e0, e1, e2⟩ := Pcs.at hQr k (by have := HL.out; omega)
        have hb : decide ((k : Int) < (ps.length : Int)) = true := decide_eq_true (by omega)
        have hp : ps[k] = ⟨ps[k].act, ps[k].text, ps[k].pos⟩ := rfl
        have hq : qs[k] = ⟨qs[k].act, qs[k].text, qs[k].pos⟩ := rfl
        have h1 : ps.take (k + 1) = ps.take k ++ [ps[k]] := List.take_succ_eq_append_getElem hk
        have h2 : qs.take (k + 1) = qs.take k ++ [qs[k]] := List.take_succ_eq_append_getElem (by have := HL.out; omega)
        have hst : ps[k] = qs[k] → ps.take (k + 1) = qs.take (k + 1) := fun h => by rw [h1, h2, hlp.out, h]
        have hno : ps[k] ≠ qs[k] → decide (ps = qs) = false := fun h => decide_eq_false fun e => h (by subst e; rfl)
        rw [hp, hq] at hst hno
        have ht1 : (⟨ps[k].text.toArray⟩ : ByteArray).toList = ps[k].text := Lib.toList_data _
        have ht2 : (⟨qs[k].text.toArray⟩ : ByteArray).toList = qs[k].text := Lib.toList_data _
        generalize (⟨ps[k].text.toArray⟩ : ByteArray) = x1 at *
        generalize (⟨qs[k].text.toArray⟩ : ByteArray) = x2 at *
        generalize ps[k].act = a1 at *
        generalize qs[k].act = a2 at *
        generalize ps[k].pos = p1 at *
        generalize qs[k].pos = p2 at *
        generalize ps[k].text = t1 at *
        generalize qs[k].text = t2 at *
        clear hp hq h1 h2 hv hv'
        have HST := Lib.hid hst
        have HNO := Lib.hid hno
        clear hst hno
        go_upto_region 6 with (fail)
        go_cut [25] (fun v25 wx => v25 = .bool (!(a1 == a2 && (t1 == t2 && ((p1 : Int) == (p2 : Int))))) ∧ Below w.heap.size w wx)
        case first =>
          have hN := fun W => neq_piece a1 a2 x1 x2 (p1 : Int) (p2 : Int) W
          rw [ht1, ht2] at hN
          go_quiet (fail)
          go_wp2_with fail
          go_meet
          exact ⟨congrArg Value.bool (by cases (a1 == a2) <;> cases (t1 == t2) <;> cases ((p1 : Int) == (p2 : Int)) <;> rfl), Below.drewN hbr _⟩
        case rest =>
        obtain ⟨rfl, hbx⟩ := hcut
        by_cases he : (⟨a1, t1, p1⟩ : Pc) = ⟨a2, t2, p2⟩
        · have hs := HST.out he
          obtain ⟨rfl, rfl, rfl⟩ := Pc.mk.inj he
          have HS := Lib.hid hs
          clear hs he
          have hbb : (!(a1 == a1 && (t1 == t1 && ((p1 : Int) == (p1 : Int))))) = false := by simp
          rw [hbb]
          clear hbb
          go_wp2
          go_roundg (gk - 1)
          case measure => have := HKG.out; omega
          case rel => exact ⟨k + 1, by have := HKG.out; omega, by go_num, HS.out, hbx⟩
        · have hs := HNO.out he
          have HS := Lib.hid hs
          have hbb : (!(a1 == a2 && (t1 == t2 && ((p1 : Int) == (p2 : Int))))) = true := by
            rw [Bool.not_eq_true', Bool.eq_false_iff]
            intro h
            simp only [Bool.and_eq_true, beq_iff_eq] at h
            exact he (by obtain ⟨h1, h2, h3⟩ := h; rw [h1, h2, Int.ofNat.inj h3])
          rw [hbb]
          clear hs he hbb
          go_wp2
          go_ret
          exact ⟨by rw [HS.out]; rfl, hbx⟩
      · obtain rfl : k = ps.length := by omega
        have he : ps = qs := by have := hlp.out; rwa [List.take_length, HL.out, List.take_length] at this
        have hd : decide (ps = qs) = true := decide_eq_true he
        have HD := Lib.hid hd
        clear hd he hlp
        go_wp2
        go_ret
        exact ⟨by rw [HD.out]; rfl, hbr⟩
  · have hlb : ((ps.length : Int) == (qs.length : Int)) = false := beq_eq_false_iff_ne.2 (by omega)
    have hne : decide (ps = qs) = false := decide_eq_false fun h => hl (by rw [h])
    have HNE := Lib.hid hne
    clear hne
    go_wp2
    go_ret
    exact ⟨by rw [HNE.out]; rfl, Below.refl _ _⟩
end Go.Proofs.YtblkbhomlblfnaaDoor.S
