/-
  THE WALKS of the reference's limits, Split.
-/
import Derived.Test.YtblkbhomlblfnaaDoorRefLex3
import Derived.Test.YtblkbhomlblfnaaDoorLexTop
set_option linter.unusedVariables false
set_option linter.unusedSimpArgs false
namespace Go.Proofs.YtblkbhomlblfnaaDoor.S
open Go.RowKit

def limR (ps : List Pc) : List Pc × Nat := if longP ps = true then ([], 1301) else if 1024 < ps.length then ([], 1302) else (ps, 0)

set_option maxRecDepth 100000 in
set_option maxHeartbeats 4000000 in
theorem limits_calls (base : Nat) (v : Value) (ps : List Pc) (w : World) (hP : Pcs base v ps w) :
    Calls Tryd.prog 60 #[v] w fun e w' => ∃ v' qs n, e = .returned (.tuple #[v', .int .i64 (n : Nat)]) ∧ w = w' ∧ Pcs base v' qs w' ∧ limR ps = (qs, n) := by
  obtain ⟨sa, sc, rfl, hcap⟩ := own_slice hP
  have hpsl := hP.len_le
  have hr : limR ps = if longP ps = true then ([], 1301) else if 1024 < ps.length then ([], 1302) else (ps, 0) := rfl
  have HR2 := Lib.hid hr
  clear hr
  go_enter Tryd.func60, Tryd.ntmps60
  go_wp2
  go_loopg [4] ps.length (fun gk v4 wr => ∃ k : Nat, k + gk = ps.length ∧ v4 = .int .i64 k ∧ Hid (longP (ps.take k) = false) ∧ w = wr)
  case atStart => exact ⟨0, by omega, rfl, rfl, rfl⟩
  case round =>
    obtain ⟨k, hkg, rfl, hlp, rfl⟩ := hrel
    have HKG := Lib.hid hkg
    have hkl : k ≤ ps.length := by omega
    clear hkg
    by_cases hk : k < ps.length
    · obtain ⟨b, cap, hv, hbb, hcc⟩ := hP.form (by omega)
      obtain ⟨rfl, -, rfl⟩ := Value.slice.inj hv
      obtain ⟨d0, d1, d2⟩ := Pcs.at hP k hk
      have hsz : (⟨ps[k].text.toArray⟩ : ByteArray).size = ps[k].text.length := rfl
      have hst : longP (ps.take (k + 1)) = (longP (ps.take k) || (ps[k].act && decide (256 < ps[k].text.length))) := by
        unfold longP
        rw [List.take_succ_eq_append_getElem hk, List.any_append]
        simp
      rw [hlp.out, Bool.false_or] at hst
      have hmem : (ps[k].act && decide (256 < ps[k].text.length)) = true → longP ps = true := fun h => List.any_eq_true.2 ⟨ps[k], List.getElem_mem hk, h⟩
      generalize (⟨ps[k].text.toArray⟩ : ByteArray) = tx at *
      generalize ps[k].text.length = tn at *
      generalize ps[k].act = ta at *
      generalize ps[k].pos = tp at *
      have HST := Lib.hid hst
      have HM := Lib.hid hmem
      clear hst hmem hv
      cases ta with
      | true =>
        by_cases h256 : 256 < tn
        · have h256b : decide (256 < (tn : Int)) = true := decide_eq_true (by omega)
          have hlong : longP ps = true := HM.out (by simpa using h256)
          have HLG := Lib.hid hlong
          clear hlong
          go_wp2
          go_ret2
          exact ⟨_, [], 1301, rfl, rfl, pcs_nil _ _, HR2.out.trans (if_pos HLG.out)⟩
        · have h256b : decide (256 < (tn : Int)) = false := decide_eq_false (by omega)
          have H256 := Lib.hid h256
          clear h256
          go_wp2
          go_roundg (gk - 1)
          case measure => have := HKG.out; omega
          case rel => exact ⟨k + 1, by have := HKG.out; omega, by go_num, (by have := H256.out; show _ = _; rw [HST.out]; simpa using this), rfl⟩
      | false =>
        go_wp2
        go_roundg (gk - 1)
        case measure => have := HKG.out; omega
        case rel => exact ⟨k + 1, by have := HKG.out; omega, by go_num, (by show _ = _; rw [HST.out]; rfl), rfl⟩
    · obtain rfl : k = ps.length := by omega
      have hl := hlp.out
      rw [List.take_length] at hl
      have hr := HR2.out
      rw [hl, if_neg (by simp)] at hr
      by_cases hm : 1024 < ps.length
      · have hmb : decide (1024 < (ps.length : Int)) = true := decide_eq_true (by omega)
        rw [if_pos hm] at hr
        have HR3 := Lib.hid hr
        clear hr hm
        go_wp2
        go_ret2
        exact ⟨_, [], 1302, rfl, rfl, pcs_nil _ _, HR3.out⟩
      · have hmb : decide (1024 < (ps.length : Int)) = false := decide_eq_false (by omega)
        rw [if_neg hm] at hr
        have HR3 := Lib.hid hr
        clear hr hm
        go_wp2
        go_ret2
        exact ⟨_, ps, 0, rfl, rfl, hP, HR3.out⟩
end Go.Proofs.YtblkbhomlblfnaaDoor.S
