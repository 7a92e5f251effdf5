/-
  THE WALKS of package json's read: its deferred closure recovers.
-/
import Derived.Test.YthmcacgkhpigaaaDoorJW6
import Derived.Defers
import Derived.Recover
set_option linter.unusedVariables false
set_option linter.unusedSimpArgs false
namespace Go.Proofs.YthmcacgkhpigaaaDoor.S
open Go.RowKit

theorem jassert_nil (W : World) : (Instr.typeAssert .nilIface 20 58 true).run Tryd.prog W = .ok (.tuple #[.agg #[], .bool false]) W := by kernel_rfl
theorem jassert_yes (W : World) : (Instr.typeAssert (.iface 58 (.agg #[])) 20 58 true).run Tryd.prog W = .ok (.tuple #[.agg #[], .bool true]) W := by kernel_rfl
theorem jcatch_idle (p q : Addr) (w : World) :
    CallsD Tryd.prog 24 #[.pointer (some p), .pointer (some q)] .returning w fun e u' w' => e = .returned (.tuple #[]) ∧ u' = .returning ∧ w' = w.alloc (.cells #[] 58) := by
  refine callsD_of_wpS Tryd.func24 rfl fun c₀ cs hu => ?_
  apply wpS_seq
  apply wpS_region
  simp [wpOpsS, go_sem, recoverD, hu, Tryd.ntmps24, Exit.thenS, jassert_nil, jassert_yes, List.replicate]
  apply wpS_seq
  apply wpS_region
  simp [wpOpsS, go_sem, Exit.thenS]
  refine wpS_cond (t := false) (by simp [Act.eval, Array.replicate]) ?_
  simp only [Bool.false_eq_true, if_false]
  refine wpS_of_wp (wp_skip ?_)
  cases c₀
  simp_all [bodyPostS, results, Tryd.results24]
theorem jcatch_panicking (a b : Nat) (w : World) (hA : Blk a 28 zeroV w) (v1 : Value) (hB : Blk b 4 [v1] w) (hab : a ≠ b) :
    CallsD Tryd.prog 24 #[.pointer (some ⟨a, 0, none⟩), .pointer (some ⟨b, 0, none⟩)] (.panicking [{ v := .iface 58 (.agg #[]), recovered := false }]) w fun e u' w' => e = .returned (.tuple #[]) ∧ u' = .panicking [{ v := .iface 58 (.agg #[]), recovered := true }] ∧ Blk a 28 zeroV w' ∧ Blk b 4 [.bool false] w' ∧ (∀ B, B ≤ a → B ≤ b → B ≤ w.heap.size → Below B w w') := by
  have hb1 : Below w.heap.size w (w.alloc (.cells #[] 58)) := (Below.refl _ w).alloc (Nat.le_refl _) _
  have hA1 := hA.below hb1
  have hB1 := hB.below hb1
  refine callsD_of_wpS Tryd.func24 rfl fun c₀ cs hu => ?_
  apply wpS_seq
  apply wpS_region
  simp [wpOpsS, go_sem, recoverD, hu, Tryd.ntmps24, Exit.thenS, jassert_nil, jassert_yes, List.replicate]
  apply wpS_seq
  apply wpS_region
  simp [wpOpsS, go_sem, Exit.thenS]
  refine wpS_cond (t := true) (by simp [Act.eval, Array.replicate]) ?_
  simp only [if_true]
  generalize w.alloc (.cells #[] 58) = w1 at *
  have c0 := hA1.cell 0 _ rfl
  have c1 := hA1.cell 1 _ rfl
  have c2 := hA1.cell 2 _ rfl
  have c3 := hA1.cell 3 _ rfl
  have c4 := hA1.cell 4 _ rfl
  have c5 := hA1.cell 5 _ rfl
  have d0 := hB1.cell 0 _ rfl
  have f0 := hA1.free 0
  have f1 := hA1.free 1
  have f2 := hA1.free 2
  have f3 := hA1.free 3
  have f4 := hA1.free 4
  have f5 := hA1.free 5
  have g0 := hB1.free 0
  have hW6 : Blk a 28 zeroV ((((((w1.setCell ⟨a, 0, none⟩ (.int .i64 0)).setCell ⟨a, 1, none⟩ (.int .i64 0)).setCell ⟨a, 2, none⟩ (.int .u64 0)).setCell ⟨a, 3, none⟩ (.string ⟨#[]⟩)).setCell ⟨a, 4, none⟩ (.slice none 0 0)).setCell ⟨a, 5, none⟩ (.slice none 0 0)) := (((((hA1.set 0 _).set 1 _).set 2 _).set 3 _).set 4 _).set 5 _
  have hV6 : Blk b 4 [v1] ((((((w1.setCell ⟨a, 0, none⟩ (.int .i64 0)).setCell ⟨a, 1, none⟩ (.int .i64 0)).setCell ⟨a, 2, none⟩ (.int .u64 0)).setCell ⟨a, 3, none⟩ (.string ⟨#[]⟩)).setCell ⟨a, 4, none⟩ (.slice none 0 0)).setCell ⟨a, 5, none⟩ (.slice none 0 0)) := jblk_put6 hB1 hab _ _ _ _ _ _
  have hb6 : ∀ B, B ≤ a → B ≤ b → B ≤ w.heap.size → Below B w (((((((w1.setCell ⟨a, 0, none⟩ (.int .i64 0)).setCell ⟨a, 1, none⟩ (.int .i64 0)).setCell ⟨a, 2, none⟩ (.int .u64 0)).setCell ⟨a, 3, none⟩ (.string ⟨#[]⟩)).setCell ⟨a, 4, none⟩ (.slice none 0 0)).setCell ⟨a, 5, none⟩ (.slice none 0 0)).setCell ⟨b, 0, none⟩ (.bool false)) := fun B h1 h2 h3 => (((((((hb1.mono h3).setCell (p := ⟨a, 0, none⟩) h1 _).setCell (p := ⟨a, 1, none⟩) h1 _).setCell (p := ⟨a, 2, none⟩) h1 _).setCell (p := ⟨a, 3, none⟩) h1 _).setCell (p := ⟨a, 4, none⟩) h1 _).setCell (p := ⟨a, 5, none⟩) h1 _).setCell (p := ⟨b, 0, none⟩) h2 _
  have HW6 := Lib.hid hW6
  have HV6 := Lib.hid hV6
  have HB6 := Lib.hid hb6
  clear hW6 hV6 hb6
  apply wpS_region
  simp [wpOpsS, go_sem, c0, c1, c2, c3, c4, c5, d0, f0, f1, f2, f3, f4, f5, g0, hab, bodyPostS, results, Tryd.results24]
  exact ⟨HW6.out.grown (grownBy_set _ b 0 _) (by simp [hab]), HV6.out.set 0 _, HB6.out⟩
end Go.Proofs.YthmcacgkhpigaaaDoor.S
