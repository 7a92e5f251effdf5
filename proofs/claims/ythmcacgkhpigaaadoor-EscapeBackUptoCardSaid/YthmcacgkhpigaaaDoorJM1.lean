/-
  THE WALKS of package value's plain, Int, keys, own: which values may be, but for their items.
-/
import Derived.Test.YthmcacgkhpigaaaDoorJMem
import Derived.Test.YthmcacgkhpigaaaDoorShelf
import Derived.Test.YthmcacgkhpigaaaDoorByteWalks
import Derived.WalkLawsBesides
import Derived.Deep.Onto
import Derived.Deep.RegionLaw
import Derived.Deep.RegionHeld3
import Derived.StillTailTactics
import Derived.Deep.RegionWith
import Derived.Deep.DeepCutAuto
import Derived.Deep.QuietTactic
import Derived.BigQuiet
import Derived.Laws.Pointers
set_option linter.unusedVariables false
set_option linter.unusedSimpArgs false
namespace Go.Proofs.YthmcacgkhpigaaaDoor.S
open Go.RowKit

/-- what stands at a place is this value -/
def At6 (g o : Nat) (z : Vc) (w : World) : Prop := ∀ j, j < 6 → w.cell? ⟨g, o + j, none⟩ = z.cells[j]?
theorem jint_calls (x : Int) (w : World) (h0 : -9223372036854775808 ≤ x) (h1 : x ≤ 9223372036854775807) :
    Calls Tryd.prog 54 #[.int .i64 x] w fun e w' => e = .returned (.bool (decide (-9007199254740991 ≤ x) && decide (x ≤ 9007199254740991))) ∧ w = w' := by
  go_enter Tryd.func54, Tryd.ntmps54
  by_cases h2 : -9007199254740991 ≤ x
  · have hb : decide ((-9007199254740991 : Int) ≤ x) = true := decide_eq_true h2
    go_wp2
    go_ret
    exact ⟨by rw [hb, Bool.true_and]; rfl, rfl⟩
  · have hb : decide ((-9007199254740991 : Int) ≤ x) = false := decide_eq_false h2
    go_wp2
    go_ret
    exact ⟨rfl, rfl⟩
set_option maxRecDepth 100000 in
set_option maxHeartbeats 8000000 in
theorem jplain_calls (g o : Nat) (z : Vc) (w : World) (hc : At6 g o z w) (hI : ∃ a c, z.iv = .slice a z.jv.items.length c) (hK : ∃ a c, z.kv = .slice a z.jv.keys.length c) :
    Calls Tryd.prog 53 #[.pointer (some ⟨g, o, none⟩)] w fun e w' => e = .returned (.bool (plainV z.jv)) ∧ w = w' := by
  obtain ⟨⟨kd, num, bits, text, items, keys⟩, iv, kv⟩ := z
  obtain ⟨ia, ic, hiv⟩ := hI
  obtain ⟨ka, kc, hkv⟩ := hK
  dsimp only at hiv hkv
  subst hiv hkv
  have c0 := hc 0 (by omega)
  have c1 := hc 1 (by omega)
  have c2 := hc 2 (by omega)
  have c3 := hc 3 (by omega)
  have c4 := hc 4 (by omega)
  have c5 := hc 5 (by omega)
  obtain ⟨R, hR⟩ : ∃ R, R = plainV (.mk kd num bits text items keys) := ⟨_, rfl⟩
  dsimp only
  rw [← hR]
  unfold plainV at hR
  simp only [Vc.cells, JV.kind, JV.num, JV.bits, JV.text, JV.items, JV.keys, List.getElem?_cons_zero, List.getElem?_cons_succ, Nat.add_zero] at c0 c1 c2 c3 c4 c5 hR
  obtain ⟨tx, htx⟩ : ∃ tx : ByteArray, tx = ⟨text.toArray⟩ := ⟨_, rfl⟩
  have hte : text.isEmpty = tx.toList.isEmpty := by rw [Lib.toList_data, htx]
  have hie : items.isEmpty = ((items.length : Int) == 0) := by cases items <;> simp <;> omega
  have hke : keys.isEmpty = ((keys.length : Int) == 0) := by cases keys <;> simp <;> omega
  have hbe : (bits == 0) = ((bits : Int) == 0) := by cases bits <;> simp <;> omega
  rw [hte, hie, hke, hbe] at hR
  rw [← htx] at c3
  generalize items.length = il at *
  generalize keys.length = kl at *
  have HR := Lib.hid hR
  clear hc hR htx hte hie hke hbe
  go_enter Tryd.func53, Tryd.ntmps53
  by_cases h1 : kd = 1
  · subst h1
    cases hb : ((bits : Int) == 0) with
    | false =>
      have HRR := HR.out
      rw [hb] at HRR
      have hf : R = false := by rw [HRR]; simp
      have HF := Lib.hid hf
      clear hf HRR HR
      go_wp2
      go_ret
      exact ⟨by rw [HF.out]; rfl, rfl⟩
    | true =>
      cases ht : tx.toList.isEmpty with
      | false =>
        have HRR := HR.out
        rw [hb, ht] at HRR
        have hf : R = false := by rw [HRR]; simp
        have HF := Lib.hid hf
        clear hf HRR HR
        go_wp2
        go_ret
        exact ⟨by rw [HF.out]; rfl, rfl⟩
      | true =>
        cases hi : ((il : Int) == 0) with
        | false =>
          have HRR := HR.out
          rw [hb, ht, hi] at HRR
          have hf : R = false := by rw [HRR]; simp
          have HF := Lib.hid hf
          clear hf HRR HR
          go_wp2
          go_ret
          exact ⟨by rw [HF.out]; rfl, rfl⟩
        | true =>
          cases hk : ((kl : Int) == 0) with
          | false =>
            have HRR := HR.out
            rw [hb, ht, hi, hk] at HRR
            have hf : R = false := by rw [HRR]; simp
            have HF := Lib.hid hf
            clear hf HRR HR
            go_wp2
            go_ret
            exact ⟨by rw [HF.out]; rfl, rfl⟩
          | true =>
            have HRR := HR.out
            rw [hb, ht, hi, hk] at HRR
            have hf : R = true := by rw [HRR]; simp
            have HF := Lib.hid hf
            clear hf HRR HR
            go_wp2
            go_ret
            exact ⟨by rw [HF.out]; rfl, rfl⟩
  · have e1 : (kd == 1) = false := beq_eq_false_iff_ne.2 h1
    by_cases h2 : kd = 2
    · subst h2
      cases hb : ((bits : Int) == 0) with
      | false =>
        have HRR := HR.out
        rw [hb] at HRR
        have hf : R = false := by rw [HRR]; simp
        have HF := Lib.hid hf
        clear hf HRR HR
        go_wp2
        go_ret
        exact ⟨by rw [HF.out]; rfl, rfl⟩
      | true =>
        cases ht : tx.toList.isEmpty with
        | false =>
          have HRR := HR.out
          rw [hb, ht] at HRR
          have hf : R = false := by rw [HRR]; simp
          have HF := Lib.hid hf
          clear hf HRR HR
          go_wp2
          go_ret
          exact ⟨by rw [HF.out]; rfl, rfl⟩
        | true =>
          cases hi : ((il : Int) == 0) with
          | false =>
            have HRR := HR.out
            rw [hb, ht, hi] at HRR
            have hf : R = false := by rw [HRR]; simp
            have HF := Lib.hid hf
            clear hf HRR HR
            go_wp2
            go_ret
            exact ⟨by rw [HF.out]; rfl, rfl⟩
          | true =>
            cases hk : ((kl : Int) == 0) with
            | false =>
              have HRR := HR.out
              rw [hb, ht, hi, hk] at HRR
              have hf : R = false := by rw [HRR]; simp
              have HF := Lib.hid hf
              clear hf HRR HR
              go_wp2
              go_ret
              exact ⟨by rw [HF.out]; rfl, rfl⟩
            | true =>
              have HRR := HR.out
              rw [hb, ht, hi, hk] at HRR
              have hf : R = true := by rw [HRR]; simp
              have HF := Lib.hid hf
              clear hf HRR HR
              go_wp2
              go_ret
              exact ⟨by rw [HF.out]; rfl, rfl⟩
    · have e2 : (kd == 2) = false := beq_eq_false_iff_ne.2 h2
      by_cases h3 : kd = 3
      · subst h3
        cases hn : (num == 0) with
        | false =>
          have HRR := HR.out
          rw [hn] at HRR
          have hf : R = false := by rw [HRR]; simp
          have HF := Lib.hid hf
          clear hf HRR HR
          go_wp2
          go_ret
          exact ⟨by rw [HF.out]; rfl, rfl⟩
        | true =>
          cases ht : tx.toList.isEmpty with
          | false =>
            have HRR := HR.out
            rw [hn, ht] at HRR
            have hf : R = false := by rw [HRR]; simp
            have HF := Lib.hid hf
            clear hf HRR HR
            go_wp2
            go_ret
            exact ⟨by rw [HF.out]; rfl, rfl⟩
          | true =>
            cases hi : ((il : Int) == 0) with
            | false =>
              have HRR := HR.out
              rw [hn, ht, hi] at HRR
              have hf : R = false := by rw [HRR]; simp
              have HF := Lib.hid hf
              clear hf HRR HR
              go_wp2
              go_ret
              exact ⟨by rw [HF.out]; rfl, rfl⟩
            | true =>
              cases hk : ((kl : Int) == 0) with
              | false =>
                have HRR := HR.out
                rw [hn, ht, hi, hk] at HRR
                have hf : R = false := by rw [HRR]; simp
                have HF := Lib.hid hf
                clear hf HRR HR
                go_wp2
                go_ret
                exact ⟨by rw [HF.out]; rfl, rfl⟩
              | true =>
                have HRR := HR.out
                rw [hn, ht, hi, hk] at HRR
                have hf : R = true := by rw [HRR]; simp
                have HF := Lib.hid hf
                clear hf HRR HR
                go_wp2
                go_ret
                exact ⟨by rw [HF.out]; rfl, rfl⟩
      · have e3 : (kd == 3) = false := beq_eq_false_iff_ne.2 h3
        by_cases h4 : kd = 4
        · subst h4
          cases hn : (num == 0) with
          | false =>
            have HRR := HR.out
            rw [hn] at HRR
            have hf : R = false := by rw [HRR]; simp
            have HF := Lib.hid hf
            clear hf HRR HR
            go_wp2
            go_ret
            exact ⟨by rw [HF.out]; rfl, rfl⟩
          | true =>
            cases hb : ((bits : Int) == 0) with
            | false =>
              have HRR := HR.out
              rw [hn, hb] at HRR
              have hf : R = false := by rw [HRR]; simp
              have HF := Lib.hid hf
              clear hf HRR HR
              go_wp2
              go_ret
              exact ⟨by rw [HF.out]; rfl, rfl⟩
            | true =>
              cases hi : ((il : Int) == 0) with
              | false =>
                have HRR := HR.out
                rw [hn, hb, hi] at HRR
                have hf : R = false := by rw [HRR]; simp
                have HF := Lib.hid hf
                clear hf HRR HR
                go_wp2
                go_ret
                exact ⟨by rw [HF.out]; rfl, rfl⟩
              | true =>
                cases hk : ((kl : Int) == 0) with
                | false =>
                  have HRR := HR.out
                  rw [hn, hb, hi, hk] at HRR
                  have hf : R = false := by rw [HRR]; simp
                  have HF := Lib.hid hf
                  clear hf HRR HR
                  go_wp2
                  go_ret
                  exact ⟨by rw [HF.out]; rfl, rfl⟩
                | true =>
                  have HRR := HR.out
                  rw [hn, hb, hi, hk] at HRR
                  have hf : R = true := by rw [HRR]; simp
                  have HF := Lib.hid hf
                  clear hf HRR HR
                  go_wp2
                  go_ret
                  exact ⟨by rw [HF.out]; rfl, rfl⟩
        · have e4 : (kd == 4) = false := beq_eq_false_iff_ne.2 h4
          by_cases h5 : kd = 5
          · subst h5
            cases hn : (num == 0) with
            | false =>
              have HRR := HR.out
              rw [hn] at HRR
              have hf : R = false := by rw [HRR]; simp
              have HF := Lib.hid hf
              clear hf HRR HR
              go_wp2
              go_ret
              exact ⟨by rw [HF.out]; rfl, rfl⟩
            | true =>
              cases hb : ((bits : Int) == 0) with
              | false =>
                have HRR := HR.out
                rw [hn, hb] at HRR
                have hf : R = false := by rw [HRR]; simp
                have HF := Lib.hid hf
                clear hf HRR HR
                go_wp2
                go_ret
                exact ⟨by rw [HF.out]; rfl, rfl⟩
              | true =>
                cases ht : tx.toList.isEmpty with
                | false =>
                  have HRR := HR.out
                  rw [hn, hb, ht] at HRR
                  have hf : R = false := by rw [HRR]; simp
                  have HF := Lib.hid hf
                  clear hf HRR HR
                  go_wp2
                  go_ret
                  exact ⟨by rw [HF.out]; rfl, rfl⟩
                | true =>
                  cases hk : ((kl : Int) == 0) with
                  | false =>
                    have HRR := HR.out
                    rw [hn, hb, ht, hk] at HRR
                    have hf : R = false := by rw [HRR]; simp
                    have HF := Lib.hid hf
                    clear hf HRR HR
                    go_wp2
                    go_ret
                    exact ⟨by rw [HF.out]; rfl, rfl⟩
                  | true =>
                    have HRR := HR.out
                    rw [hn, hb, ht, hk] at HRR
                    have hf : R = true := by rw [HRR]; simp
                    have HF := Lib.hid hf
                    clear hf HRR HR
                    go_wp2
                    go_ret
                    exact ⟨by rw [HF.out]; rfl, rfl⟩
          · have e5 : (kd == 5) = false := beq_eq_false_iff_ne.2 h5
            by_cases h6 : kd = 6
            · subst h6
              cases hn : (num == 0) with
              | false =>
                have HRR := HR.out
                rw [hn] at HRR
                have hf : R = false := by rw [HRR]; simp
                have HF := Lib.hid hf
                clear hf HRR HR
                go_wp2
                go_ret
                exact ⟨by rw [HF.out]; rfl, rfl⟩
              | true =>
                cases hb : ((bits : Int) == 0) with
                | false =>
                  have HRR := HR.out
                  rw [hn, hb] at HRR
                  have hf : R = false := by rw [HRR]; simp
                  have HF := Lib.hid hf
                  clear hf HRR HR
                  go_wp2
                  go_ret
                  exact ⟨by rw [HF.out]; rfl, rfl⟩
                | true =>
                  cases ht : tx.toList.isEmpty with
                  | false =>
                    have HRR := HR.out
                    rw [hn, hb, ht] at HRR
                    have hf : R = false := by rw [HRR]; simp
                    have HF := Lib.hid hf
                    clear hf HRR HR
                    go_wp2
                    go_ret
                    exact ⟨by rw [HF.out]; rfl, rfl⟩
                  | true =>
                    have HRR := HR.out
                    rw [hn, hb, ht] at HRR
                    have hf : R = true := by rw [HRR]; simp
                    have HF := Lib.hid hf
                    clear hf HRR HR
                    go_wp2
                    go_ret
                    exact ⟨by rw [HF.out]; rfl, rfl⟩
            · have e6 : (kd == 6) = false := beq_eq_false_iff_ne.2 h6
              cases hn : (num == 0) with
              | false =>
                have HRR := HR.out
                rw [e1, e2, e3, e4, e5, e6, hn] at HRR
                have hf : R = false := by rw [HRR]; simp
                have HF := Lib.hid hf
                clear hf HRR HR
                go_wp2
                go_ret
                exact ⟨by rw [HF.out]; rfl, rfl⟩
              | true =>
                cases hb : ((bits : Int) == 0) with
                | false =>
                  have HRR := HR.out
                  rw [e1, e2, e3, e4, e5, e6, hn, hb] at HRR
                  have hf : R = false := by rw [HRR]; simp
                  have HF := Lib.hid hf
                  clear hf HRR HR
                  go_wp2
                  go_ret
                  exact ⟨by rw [HF.out]; rfl, rfl⟩
                | true =>
                  cases ht : tx.toList.isEmpty with
                  | false =>
                    have HRR := HR.out
                    rw [e1, e2, e3, e4, e5, e6, hn, hb, ht] at HRR
                    have hf : R = false := by rw [HRR]; simp
                    have HF := Lib.hid hf
                    clear hf HRR HR
                    go_wp2
                    go_ret
                    exact ⟨by rw [HF.out]; rfl, rfl⟩
                  | true =>
                    cases hi : ((il : Int) == 0) with
                    | false =>
                      have HRR := HR.out
                      rw [e1, e2, e3, e4, e5, e6, hn, hb, ht, hi] at HRR
                      have hf : R = false := by rw [HRR]; simp
                      have HF := Lib.hid hf
                      clear hf HRR HR
                      go_wp2
                      go_ret
                      exact ⟨by rw [HF.out]; rfl, rfl⟩
                    | true =>
                      cases hk : ((kl : Int) == 0) with
                      | false =>
                        have HRR := HR.out
                        rw [e1, e2, e3, e4, e5, e6, hn, hb, ht, hi, hk] at HRR
                        have hf : R = false := by rw [HRR]; simp
                        have HF := Lib.hid hf
                        clear hf HRR HR
                        go_wp2
                        go_ret
                        exact ⟨by rw [HF.out]; rfl, rfl⟩
                      | true =>
                        have HRR := HR.out
                        rw [e1, e2, e3, e4, e5, e6, hn, hb, ht, hi, hk] at HRR
                        have hf : R = true := by rw [HRR]; simp
                        have HF := Lib.hid hf
                        clear hf HRR HR
                        go_wp2
                        go_ret
                        exact ⟨by rw [HF.out]; rfl, rfl⟩
end Go.Proofs.YthmcacgkhpigaaaDoor.S
