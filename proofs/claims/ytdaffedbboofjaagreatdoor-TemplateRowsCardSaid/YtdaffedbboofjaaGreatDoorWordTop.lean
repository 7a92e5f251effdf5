/-
  THE WALK of package words' Words: its deferred closure recovers.
-/
import Derived.Test.YtdaffedbboofjaaGreatDoorWordAll
import Derived.Defers
import Derived.Recover
import Derived.Laws.Pointers
set_option linter.unusedVariables false
set_option linter.unusedSimpArgs false
namespace Go.Proofs.YtdaffedbboofjaaGreatDoor.S
open Go.RowKit

theorem wassert_nil (W : World) : (Instr.typeAssert .nilIface 20 23 true).run Tryz.prog W = .ok (.tuple #[.int .i64 0, .bool false]) W := by kernel_rfl
theorem wassert_yes (n : Int) (W : World) : (Instr.typeAssert (.iface 23 (.int .i64 n)) 20 23 true).run Tryz.prog W = .ok (.tuple #[.int .i64 n, .bool true]) W := by kernel_rfl
theorem wcatch_idle (p q : Addr) (w : World) :
    CallsD Tryz.prog 88 #[.pointer (some p), .pointer (some q)] .returning w fun e u' w' => e = .returned (.tuple #[]) ∧ u' = .returning ∧ w = w' := by
  refine callsD_of_wpS Tryz.func88 rfl fun c₀ cs hu => ?_
  apply wpS_seq
  apply wpS_region
  simp [wpOpsS, go_sem, recoverD, hu, Tryz.ntmps88, Exit.thenS, wassert_nil, wassert_yes, List.replicate]
  apply wpS_seq
  apply wpS_region
  simp [wpOpsS, go_sem, Exit.thenS]
  refine wpS_cond (t := false) (by simp [Act.eval, Array.replicate]) ?_
  simp only [Bool.false_eq_true, if_false]
  refine wpS_of_wp (wp_skip ?_)
  cases c₀
  simp_all [bodyPostS, results, Tryz.results88]
theorem wcatch_panicking (p q : Addr) (c : Nat) (w : World) (v0 v1 : Value) (hp : w.cell? p = some v0) (hq : w.cell? q = some v1) (hpz : w.frozen? p = false) (hqz : w.frozen? q = false) (hpq : p ≠ q) :
    CallsD Tryz.prog 88 #[.pointer (some p), .pointer (some q)] (.panicking [{ v := .iface 23 (.int .i64 c), recovered := false }]) w fun e u' w' => e = .returned (.tuple #[]) ∧ u' = .panicking [{ v := .iface 23 (.int .i64 c), recovered := true }] ∧ w' = (w.setCell p (.slice none 0 0)).setCell q (.int .i64 c) := by
  refine callsD_of_wpS Tryz.func88 rfl fun c₀ cs hu => ?_
  apply wpS_seq
  apply wpS_region
  simp [wpOpsS, go_sem, recoverD, hu, Tryz.ntmps88, Exit.thenS, wassert_nil, wassert_yes, List.replicate]
  apply wpS_seq
  apply wpS_region
  simp [wpOpsS, go_sem, Exit.thenS]
  refine wpS_cond (t := true) (by simp [Act.eval, Array.replicate]) ?_
  simp only [if_true]
  apply wpS_region
  simp [wpOpsS, go_sem, hp, hq, hpz, hqz, hpq, bodyPostS, results, Tryz.results88]
theorem Wds.mono {base base' : Nat} {v : Value} {ds : List Wd} {w : World} (h : Wds base v ds w) (hb : base' ≤ base) : Wds base' v ds w :=
  let ⟨zs, hz, hr, hp⟩ := h
  ⟨zs, hz, World.ownsRow.mono hr hb, fun z hz => World.ownsRow.mono (hp z hz) hb⟩
theorem EnvAt.mono {B B' : Nat} {w : World} (h : EnvAt B w) (hb : B ≤ B') : EnvAt B' w := ⟨h.env, Nat.lt_of_lt_of_le h.b0 hb, Nat.lt_of_lt_of_le h.b1 hb, Nat.lt_of_lt_of_le h.b2 hb⟩
theorem wordsL_ok {l : List UInt8} {ds : List Wd} (h : allF (l.length + 1) l = .ok ds) : wordsL l = (ds, 0) := by unfold wordsL; rw [h]
theorem wordsL_err {l : List UInt8} {c : Nat} (h : allF (l.length + 1) l = .error c) : wordsL l = ([], c) := by unfold wordsL; rw [h]
set_option maxRecDepth 100000 in
set_option maxHeartbeats 4000000 in
theorem words_calls (s : ByteArray) (w : World) (hE : Env w) (hs : s.size ≤ 1073741824) :
    Calls Tryz.prog 54 #[.string s] w fun e w' => ∃ v ds n, e = .returned (.tuple #[v, .int .i64 (n : Nat)]) ∧ Wds w.heap.size v ds w' ∧ Below w.heap.size w w' ∧ wordsL s.data.toList = (ds, n) := by
  have hmf : ∀ (fn : Fn) (first cap : Array Value) (w : World), (Instr.makeFunc fn first cap).run Tryz.prog w = .ok (.func fn first cap) w := fun _ _ _ _ => rfl
  go_enter_defers Tryz.func54, Tryz.ntmps54
  go_wp2_with fail
  have hA1 := Blk.new w [.slice none 0 0] 112
  have hb1 : Below w.heap.size w (w.alloc (.cells #[.slice none 0 0] 112)) := (Below.refl _ w).alloc (Nat.le_refl _) _
  have hz1 : (w.alloc (.cells #[.slice none 0 0] 112)).heap.size = w.heap.size + 1 := by simp
  change Blk w.heap.size 112 [.slice none 0 0] (w.alloc (.cells #[.slice none 0 0] 112)) at hA1
  generalize w.alloc (.cells #[.slice none 0 0] 112) = w1 at *
  have hB2 := Blk.new w1 [.int .i64 0] 23
  have hb2 : Below w1.heap.size w1 (w1.alloc (.cells #[.int .i64 0] 23)) := (Below.refl _ w1).alloc (Nat.le_refl _) _
  have hz2 : (w1.alloc (.cells #[.int .i64 0] 23)).heap.size = w1.heap.size + 1 := by simp
  change Blk w1.heap.size 23 [.int .i64 0] (w1.alloc (.cells #[.int .i64 0] 23)) at hB2
  have hA2 := hA1.below hb2
  generalize w1.alloc (.cells #[.int .i64 0] 23) = w2 at *
  have hR3 := Blk.new w2 [.string s, .slice none 0 0] 143
  have hb3 : Below w2.heap.size w2 (w2.alloc (.cells #[.string s, .slice none 0 0] 143)) := (Below.refl _ w2).alloc (Nat.le_refl _) _
  change Blk w2.heap.size 143 [.string s, .slice none 0 0] (w2.alloc (.cells #[.string s, .slice none 0 0] 143)) at hR3
  have hA3 := hA2.below hb3
  have hB3 := hB2.below hb3
  generalize w2.alloc (.cells #[.string s, .slice none 0 0] 143) = w3 at *
  obtain ⟨g, hg⟩ : ∃ g, g = w.heap.size + 1 + 1 := ⟨_, rfl⟩
  rw [hz2, hz1, ← hg] at hR3
  rw [hz1] at hB3
  rw [← hg]
  have hbA := (hb1.trans (hb2.mono (by omega))).trans (hb3.mono (by omega))
  have hE3 : EnvAt g w3 := (hE.at.below hbA).mono (by omega)
  have hzg : g < w3.heap.size := hR3.lt
  clear hA1 hA2 hB2 hb1 hb2 hb3 hz1 hz2
  refine (wall_calls g s s.data.toList w3 hE3 hR3 rfl hs).mono ?_
  rintro e w4 ⟨hok, her, hg4⟩
  have hA4 := Blk.grown hA3 hg4 (by simp; omega)
  have hB4 := Blk.grown hB3 hg4 (by simp; omega)
  have hbB := hbA.trans (Below.grow1 hg4 (by omega) (by omega : w.heap.size ≤ g))
  have a0 := hA4.cell 0 _ rfl
  have a1 := hA4.free 0
  have b0 := hB4.cell 0 _ rfl
  have b1 := hB4.free 0
  have hne : (⟨w.heap.size, 0, none⟩ : Addr) ≠ ⟨w.heap.size + 1, 0, none⟩ := by simp
  cases hr : allF (s.data.toList.length + 1) s.data.toList with
  | error c =>
    obtain rfl := her c hr
    have HW := Lib.hid (wordsL_err hr)
    clear hr hok her
    unfold pan
    go_wp2
    refine leaves_cons (f := 88) (args := #[.pointer (some ⟨w.heap.size, 0, none⟩), .pointer (some ⟨w.heap.size + 1, 0, none⟩)]) (by simp) (by simp [go_sem]) ?_
    refine (wcatch_panicking ⟨w.heap.size, 0, none⟩ ⟨w.heap.size + 1, 0, none⟩ c _ _ _ a0 b0 a1 b1 hne).mono ?_
    rintro e u' w'' ⟨rfl, rfl, rfl⟩
    have hbC := (hbB.trans (Below.grow1 (grownBy_set w4 w.heap.size 0 (.slice none 0 0)) hbB.size (Nat.le_refl _))).trans (Below.grow1 (grownBy_set _ (w.heap.size + 1) 0 (.int .i64 c)) (by simp [World.setCell]; exact hbB.size) (Nat.le_succ _))
    simp [Leaves, settle, results, Tryz.results54, go_sem, a0, a1, b0, b1]
    exact ⟨_, [], c, ⟨rfl, rfl⟩, wds_nil _ _, hbC, HW.out⟩
  | ok ds =>
    obtain ⟨s', v', rfl, hR4, hO4⟩ := hok ds hr
    have HW := Lib.hid (wordsL_ok hr)
    obtain ⟨va, vc, rfl⟩ := hO4.slice
    obtain ⟨nl, hnl⟩ : ∃ nl, nl = ds.length := ⟨_, rfl⟩
    rw [← hnl] at hO4 hR4
    have c1 := hR4.cell 1 _ rfl
    have hO5 : Wds w3.heap.size (.slice va nl vc) ds (w4.setCell ⟨w.heap.size, 0, none⟩ (.slice va nl vc)) := hO4.grown (grownBy_set w4 w.heap.size 0 _) (by omega)
    have hO6 := hO5.grown (grownBy_set _ (w.heap.size + 1) 0 (.int .i64 0)) (by omega)
    have hO7 : Wds w.heap.size (.slice va nl vc) ds _ := hO6.mono (by omega)
    have hbC := (hbB.trans (Below.grow1 (grownBy_set w4 w.heap.size 0 (.slice va nl vc)) hbB.size (Nat.le_refl _))).trans (Below.grow1 (grownBy_set _ (w.heap.size + 1) 0 (.int .i64 0)) (by simp [World.setCell]; exact hbB.size) (Nat.le_succ _))
    subst hg
    clear hok her hr hnl hO4 hO5 hO6
    go_wp2
    refine leaves_cons (f := 88) (args := #[.pointer (some ⟨w.heap.size, 0, none⟩), .pointer (some ⟨w.heap.size + 1, 0, none⟩)]) (by simp) (by simp [go_sem]) ?_
    refine (wcatch_idle ⟨w.heap.size, 0, none⟩ ⟨w.heap.size + 1, 0, none⟩ _).mono ?_
    rintro e u' w'' ⟨rfl, rfl, rfl⟩
    simp [Leaves, settle, results, Tryz.results54, go_sem, a0, a1, b0, b1]
    exact ⟨_, ds, 0, ⟨rfl, rfl⟩, hO7, hbC, HW.out⟩
end Go.Proofs.YtdaffedbboofjaaGreatDoor.S
