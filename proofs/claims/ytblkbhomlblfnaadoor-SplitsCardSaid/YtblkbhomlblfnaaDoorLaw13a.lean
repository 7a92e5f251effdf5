/-
  THE WALK of the law Splits (chapter 13).
-/
import Derived.Test.YtblkbhomlblfnaaDoorAwake13
import Derived.Test.YtblkbhomlblfnaaDoorRefLex5
set_option linter.unusedVariables false
set_option linter.unusedSimpArgs false
namespace Go.Proofs.YtblkbhomlblfnaaDoor.S
open Go.RowKit

theorem rsplit_any (s : ByteArray) (w : World) :
    Calls Tryd.prog 27 #[.string s] w fun e w' => ∃ v ps n, e = .returned (.tuple #[v, .int .i64 (n : Nat)]) ∧ Pcs w.heap.size v ps w' ∧ Below w.heap.size w w' ∧ splitR s.data.toList = (ps, n) := by
  by_cases h : 65536 < s.size
  · have hr : splitR s.data.toList = ([], 1301) := if_pos h
    go_enter Tryd.func27, Tryd.ntmps27
    go_wp2
    go_ret2
    exact ⟨_, [], 1301, rfl, pcs_nil _ _, Below.refl _ _, hr⟩
  · exact rsplit_calls s w (by omega)
set_option maxRecDepth 100000 in
set_option maxHeartbeats 4000000 in
theorem splits_calls (s : ByteArray) (w : World) (hE : Env w) :
    Calls Tryd.prog 9 #[.string s] w fun e w' => e = .returned (.bool true) ∧ Below w.heap.size w w' := by
  go_enter Tryd.func9, Tryd.ntmps9
  go_wp2_with fail
  refine (lexSplit_any s _ hE).mono ?_
  rintro e w1 ⟨v, ps, n, rfl, hP, hb1, h1⟩
  go_wp2_with fail
  refine (rsplit_any s _).mono ?_
  rintro e w2 ⟨u, qs, m, rfl, hQ, hb2, h2⟩
  obtain ⟨rfl, rfl⟩ := Prod.mk.inj (h1.symm.trans h2)
  clear h1 h2
  have hb12 := hb1.trans (hb2.mono hb1.size)
  have hP' := own_below hP hb2
  go_wp2_with fail
  refine (same_calls _ _ _ _ _ _ _ hP' hQ).mono ?_
  rintro e w3 ⟨rfl, hb3⟩
  have hd : decide (ps = ps) = true := decide_eq_true rfl
  rw [hd]
  clear hd
  have hb13 := hb12.trans (hb3.mono hb12.size)
  go_wp2_with (go_at_call 18; go_in)
  refine (awake13_calls _ (hE.below hb13)).mono ?_
  rintro e w4 ⟨rfl, hb4⟩
  go_wp2
  go_ret
  exact ⟨rfl, hb13.trans (hb4.mono hb13.size)⟩
end Go.Proofs.YtblkbhomlblfnaaDoor.S
