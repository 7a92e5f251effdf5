/-
  THE WALK of package pipe's arg.
-/
import Derived.Test.YtdaffedbboofjaaGreatDoorPipeW3
set_option linter.unusedVariables false
set_option linter.unusedSimpArgs false
namespace Go.Proofs.YtdaffedbboofjaaGreatDoor.S
open Go.RowKit

/-- five cells of a block are written -/
abbrev put5 (w : World) (g : Nat) (a b c d e : Value) : World := ((((w.setCell ⟨g, 0, none⟩ a).setCell ⟨g, 1, none⟩ b).setCell ⟨g, 2, none⟩ c).setCell ⟨g, 3, none⟩ d).setCell ⟨g, 4, none⟩ e
theorem blk_put5 {g : Nat} {T : TypeId} {w : World} {x0 x1 x2 x3 x4 : Value} (h : Blk g T [x0, x1, x2, x3, x4] w) (a b c d e : Value) : Blk g T [a, b, c, d, e] (put5 w g a b c d e) := ((((h.set 0 a).set 1 b).set 2 c).set 3 d).set 4 e
theorem below_put5 {B : Nat} {w w1 : World} (h : Below B w w1) (g : Nat) (hg : B ≤ g) (a b c d e : Value) : Below B w (put5 w1 g a b c d e) := ((((h.setCell hg a).setCell hg b).setCell hg c).setCell hg d).setCell hg e
theorem own_put5 {base T size n g : Nat} {v : Value} {xs : List Value} {w : World} (h : w.ownsRow base T size v n xs) (hne : v.ownBlock ≠ some g) (a b c d e : Value) : (put5 w g a b c d e).ownsRow base T size v n xs := own_set (own_set (own_set (own_set (own_set h hne 0 a) hne 1 b) hne 2 c) hne 3 d) hne 4 e
def ArgPost (d : Wd) (w : World) (e : Ending) (w' : World) : Prop :=
  (∀ a, argL d = some a → ∃ pv, e = .returned (.tuple #[.agg (arCells a pv).toArray, .bool true]) ∧ Txs w.heap.size pv a.path w') ∧ (argL d = none → e = .returned (.tuple #[.agg #[.int .i64 0, .string ⟨#[]⟩, .slice none 0 0, .int .i64 0, .string ⟨#[]⟩], .bool false])) ∧ Below w.heap.size w w'
theorem ArgPost.ok {d : Wd} {w w' : World} {a : Ar} {pv : Value} (h : argL d = some a) (hp : Txs w.heap.size pv a.path w') (hb : Below w.heap.size w w') : ArgPost d w (.returned (.tuple #[.agg (arCells a pv).toArray, .bool true])) w' :=
  ⟨(fun a' h' => by rw [h] at h'; cases h'; exact ⟨pv, rfl, hp⟩), (fun h' => by rw [h] at h'; cases h'), hb⟩
theorem ArgPost.no {d : Wd} {w w' : World} (h : argL d = none) (hb : Below w.heap.size w w') : ArgPost d w (.returned (.tuple #[.agg #[.int .i64 0, .string ⟨#[]⟩, .slice none 0 0, .int .i64 0, .string ⟨#[]⟩], .bool false])) w' :=
  ⟨(fun a' h' => by rw [h] at h'; cases h'), fun _ => rfl, hb⟩
set_option maxRecDepth 100000 in
set_option maxHeartbeats 8000000 in
theorem arg_calls (g off base : Nat) (d : Wd) (pv : Value) (w : World) (hd : WdOk d) (c0 : w.cell? ⟨g, off, none⟩ = some (.int .i64 d.kind)) (c1 : w.cell? ⟨g, off + 1, none⟩ = some (.string ⟨d.text.toArray⟩))
    (c2 : w.cell? ⟨g, off + 2, none⟩ = some pv) (c3 : w.cell? ⟨g, off + 3, none⟩ = some (.int .i64 d.num)) (hp : Txs base pv d.path w) :
    Calls Tryz.prog 159 #[.pointer (some ⟨g, off, none⟩)] w (ArgPost d w) := by
  obtain ⟨pa, pc, rfl⟩ := hp.slice
  have hWx : Blk w.heap.size 43 [.int .i64 0, .string ⟨#[]⟩, .slice none 0 0, .int .i64 0, .string ⟨#[]⟩] (w.alloc (.cells #[.int .i64 0, .string ⟨#[]⟩, .slice none 0 0, .int .i64 0, .string ⟨#[]⟩] 43)) := Blk.new w _ _
  have hb0 : Below w.heap.size w (w.alloc (.cells #[.int .i64 0, .string ⟨#[]⟩, .slice none 0 0, .int .i64 0, .string ⟨#[]⟩] 43)) := (Below.refl _ w).alloc (Nat.le_refl _) _
  have hk : ∀ {p v}, w.cell? p = some v → (w.alloc (.cells #[.int .i64 0, .string ⟨#[]⟩, .slice none 0 0, .int .i64 0, .string ⟨#[]⟩] 43)).cell? p = some v := fun {p v} hv => (hb0.cell (World.block_lt_of_cell? w p hv)).trans hv
  have e0 := hk c0
  have e1 := hk c1
  have e2 := hk c2
  have e3 := hk c3
  have hp0 := hp.below hb0
  clear hk c0 c1 c2 c3 hp
  cases hd with
  | name x h =>
    dsimp only at e0 e1 e2 e3 hp0
    have hs : StrIs (⟨x.toArray⟩ : ByteArray) x := rfl
    cases h0 : (x == [116, 114, 117, 101]) with
    | true =>
      have t0 := str_test hs [116, 114, 117, 101] true h0
      have hT : argL ⟨0, x, [], 0⟩ = some ⟨4, [], [], 1, []⟩ := by rw [beq_iff_eq.1 h0]; rfl
      have HT := Lib.hid hT
      generalize (⟨x.toArray⟩ : ByteArray) = t at *
      clear hT hs h hp0 h0
      go_enter Tryz.func159, Tryz.ntmps159
      go_upto_region 1 with (fail)
      generalize w.alloc (.cells #[.int .i64 0, .string ⟨#[]⟩, .slice none 0 0, .int .i64 0, .string ⟨#[]⟩] 43) = w0 at *
      have k0 := hWx.cell 0 _ rfl
      have f0 := hWx.free 0
      have k1 := hWx.cell 1 _ rfl
      have f1 := hWx.free 1
      have k2 := hWx.cell 2 _ rfl
      have f2 := hWx.free 2
      have k3 := hWx.cell 3 _ rfl
      have f3 := hWx.free 3
      have k4 := hWx.cell 4 _ rfl
      have f4 := hWx.free 4
      have hW4 : Blk w.heap.size 43 [.int .i64 4, .string ⟨#[]⟩, .slice none 0 0, .int .i64 1, .string ⟨#[]⟩] ((((((w0.setCell ⟨w.heap.size, 0, none⟩ (.int .i64 4)).setCell ⟨w.heap.size, 1, none⟩ (.string ⟨#[]⟩)).setCell ⟨w.heap.size, 2, none⟩ (.slice none 0 0)).setCell ⟨w.heap.size, 3, none⟩ (.int .i64 1)).setCell ⟨w.heap.size, 4, none⟩ (.string ⟨#[]⟩))) := blk_put5 hWx _ _ _ _ _
      have hb4 : Below w.heap.size w ((((((w0.setCell ⟨w.heap.size, 0, none⟩ (.int .i64 4)).setCell ⟨w.heap.size, 1, none⟩ (.string ⟨#[]⟩)).setCell ⟨w.heap.size, 2, none⟩ (.slice none 0 0)).setCell ⟨w.heap.size, 3, none⟩ (.int .i64 1)).setCell ⟨w.heap.size, 4, none⟩ (.string ⟨#[]⟩))) := below_put5 hb0 _ (Nat.le_refl _) _ _ _ _ _
      go_wp2
      clear k0 k1 k2 k3 k4 f0 f1 f2 f3 f4 e0 e1 e2 e3
      generalize (((w0.setCell ⟨w.heap.size, 0, none⟩ (.int .i64 4)).setCell ⟨w.heap.size, 1, none⟩ (.string ⟨#[]⟩)).setCell ⟨w.heap.size, 2, none⟩ (.slice none 0 0)).setCell ⟨w.heap.size, 3, none⟩ (.int .i64 1) = w39 at *
      generalize w39.setCell ⟨w.heap.size, 4, none⟩ (.string ⟨#[]⟩) = w40 at *
      have d0 := hW4.cell 0 _ rfl
      have d1 := hW4.cell 1 _ rfl
      have d2 := hW4.cell 2 _ rfl
      have d3 := hW4.cell 3 _ rfl
      have d4 := hW4.cell 4 _ rfl
      refine bodyPost_ret (v := .tuple #[.agg #[.int .i64 4, .string ⟨#[]⟩, .slice none 0 0, .int .i64 1, .string ⟨#[]⟩], .bool true]) (by simp [results, Tryz.results159, go_sem, d0, d1, d2, d3, d4]) rfl ?_
      exact ArgPost.ok (a := ⟨4, [], [], 1, []⟩) (pv := .slice none 0 0) HT.out (.inl ⟨rfl, _, _, rfl⟩) hb4
    | false =>
      have t0 := str_test hs [116, 114, 117, 101] false h0
      cases h1 : (x == [102, 97, 108, 115, 101]) with
      | true =>
        have t1 := str_test hs [102, 97, 108, 115, 101] true h1
        have hT : argL ⟨0, x, [], 0⟩ = some ⟨4, [], [], 0, []⟩ := by rw [beq_iff_eq.1 h1]; rfl
        have HT := Lib.hid hT
        generalize (⟨x.toArray⟩ : ByteArray) = t at *
        clear hT hs h hp0 h0 h1
        go_enter Tryz.func159, Tryz.ntmps159
        go_upto_region 1 with (fail)
        generalize w.alloc (.cells #[.int .i64 0, .string ⟨#[]⟩, .slice none 0 0, .int .i64 0, .string ⟨#[]⟩] 43) = w0 at *
        have k0 := hWx.cell 0 _ rfl
        have f0 := hWx.free 0
        have k1 := hWx.cell 1 _ rfl
        have f1 := hWx.free 1
        have k2 := hWx.cell 2 _ rfl
        have f2 := hWx.free 2
        have k3 := hWx.cell 3 _ rfl
        have f3 := hWx.free 3
        have k4 := hWx.cell 4 _ rfl
        have f4 := hWx.free 4
        have hW4 : Blk w.heap.size 43 [.int .i64 4, .string ⟨#[]⟩, .slice none 0 0, .int .i64 0, .string ⟨#[]⟩] ((((((w0.setCell ⟨w.heap.size, 0, none⟩ (.int .i64 4)).setCell ⟨w.heap.size, 1, none⟩ (.string ⟨#[]⟩)).setCell ⟨w.heap.size, 2, none⟩ (.slice none 0 0)).setCell ⟨w.heap.size, 3, none⟩ (.int .i64 0)).setCell ⟨w.heap.size, 4, none⟩ (.string ⟨#[]⟩))) := blk_put5 hWx _ _ _ _ _
        have hb4 : Below w.heap.size w ((((((w0.setCell ⟨w.heap.size, 0, none⟩ (.int .i64 4)).setCell ⟨w.heap.size, 1, none⟩ (.string ⟨#[]⟩)).setCell ⟨w.heap.size, 2, none⟩ (.slice none 0 0)).setCell ⟨w.heap.size, 3, none⟩ (.int .i64 0)).setCell ⟨w.heap.size, 4, none⟩ (.string ⟨#[]⟩))) := below_put5 hb0 _ (Nat.le_refl _) _ _ _ _ _
        go_wp2
        clear k0 k1 k2 k3 k4 f0 f1 f2 f3 f4 e0 e1 e2 e3
        generalize (((w0.setCell ⟨w.heap.size, 0, none⟩ (.int .i64 4)).setCell ⟨w.heap.size, 1, none⟩ (.string ⟨#[]⟩)).setCell ⟨w.heap.size, 2, none⟩ (.slice none 0 0)).setCell ⟨w.heap.size, 3, none⟩ (.int .i64 0) = w39 at *
        generalize w39.setCell ⟨w.heap.size, 4, none⟩ (.string ⟨#[]⟩) = w40 at *
        have d0 := hW4.cell 0 _ rfl
        have d1 := hW4.cell 1 _ rfl
        have d2 := hW4.cell 2 _ rfl
        have d3 := hW4.cell 3 _ rfl
        have d4 := hW4.cell 4 _ rfl
        refine bodyPost_ret (v := .tuple #[.agg #[.int .i64 4, .string ⟨#[]⟩, .slice none 0 0, .int .i64 0, .string ⟨#[]⟩], .bool true]) (by simp [results, Tryz.results159, go_sem, d0, d1, d2, d3, d4]) rfl ?_
        exact ArgPost.ok (a := ⟨4, [], [], 0, []⟩) (pv := .slice none 0 0) HT.out (.inl ⟨rfl, _, _, rfl⟩) hb4
      | false =>
        have t1 := str_test hs [102, 97, 108, 115, 101] false h1
        cases h2 : (x == [110, 117, 108, 108]) with
        | true =>
          have t2 := str_test hs [110, 117, 108, 108] true h2
          have hT : argL ⟨0, x, [], 0⟩ = some ⟨5, [], [], 0, []⟩ := by rw [beq_iff_eq.1 h2]; rfl
          have HT := Lib.hid hT
          generalize (⟨x.toArray⟩ : ByteArray) = t at *
          clear hT hs h hp0 h0 h1 h2
          go_enter Tryz.func159, Tryz.ntmps159
          go_upto_region 1 with (fail)
          generalize w.alloc (.cells #[.int .i64 0, .string ⟨#[]⟩, .slice none 0 0, .int .i64 0, .string ⟨#[]⟩] 43) = w0 at *
          have k0 := hWx.cell 0 _ rfl
          have f0 := hWx.free 0
          have k1 := hWx.cell 1 _ rfl
          have f1 := hWx.free 1
          have k2 := hWx.cell 2 _ rfl
          have f2 := hWx.free 2
          have k3 := hWx.cell 3 _ rfl
          have f3 := hWx.free 3
          have k4 := hWx.cell 4 _ rfl
          have f4 := hWx.free 4
          have hW4 : Blk w.heap.size 43 [.int .i64 5, .string ⟨#[]⟩, .slice none 0 0, .int .i64 0, .string ⟨#[]⟩] ((((((w0.setCell ⟨w.heap.size, 0, none⟩ (.int .i64 5)).setCell ⟨w.heap.size, 1, none⟩ (.string ⟨#[]⟩)).setCell ⟨w.heap.size, 2, none⟩ (.slice none 0 0)).setCell ⟨w.heap.size, 3, none⟩ (.int .i64 0)).setCell ⟨w.heap.size, 4, none⟩ (.string ⟨#[]⟩))) := blk_put5 hWx _ _ _ _ _
          have hb4 : Below w.heap.size w ((((((w0.setCell ⟨w.heap.size, 0, none⟩ (.int .i64 5)).setCell ⟨w.heap.size, 1, none⟩ (.string ⟨#[]⟩)).setCell ⟨w.heap.size, 2, none⟩ (.slice none 0 0)).setCell ⟨w.heap.size, 3, none⟩ (.int .i64 0)).setCell ⟨w.heap.size, 4, none⟩ (.string ⟨#[]⟩))) := below_put5 hb0 _ (Nat.le_refl _) _ _ _ _ _
          go_wp2
          clear k0 k1 k2 k3 k4 f0 f1 f2 f3 f4 e0 e1 e2 e3
          generalize (((w0.setCell ⟨w.heap.size, 0, none⟩ (.int .i64 5)).setCell ⟨w.heap.size, 1, none⟩ (.string ⟨#[]⟩)).setCell ⟨w.heap.size, 2, none⟩ (.slice none 0 0)).setCell ⟨w.heap.size, 3, none⟩ (.int .i64 0) = w39 at *
          generalize w39.setCell ⟨w.heap.size, 4, none⟩ (.string ⟨#[]⟩) = w40 at *
          have d0 := hW4.cell 0 _ rfl
          have d1 := hW4.cell 1 _ rfl
          have d2 := hW4.cell 2 _ rfl
          have d3 := hW4.cell 3 _ rfl
          have d4 := hW4.cell 4 _ rfl
          refine bodyPost_ret (v := .tuple #[.agg #[.int .i64 5, .string ⟨#[]⟩, .slice none 0 0, .int .i64 0, .string ⟨#[]⟩], .bool true]) (by simp [results, Tryz.results159, go_sem, d0, d1, d2, d3, d4]) rfl ?_
          exact ArgPost.ok (a := ⟨5, [], [], 0, []⟩) (pv := .slice none 0 0) HT.out (.inl ⟨rfl, _, _, rfl⟩) hb4
        | false =>
          have t2 := str_test hs [110, 117, 108, 108] false h2
          have hT : argL ⟨0, x, [], 0⟩ = none := by
            unfold argL
            simp only [show ¬ (0 : Nat) = 1 by decide, show ¬ (0 : Nat) = 2 by decide, show ¬ (0 : Nat) = 3 by decide, show ¬ (0 : Nat) = 4 by decide, if_false, if_true]
            rw [if_neg (beq_eq_false_iff_ne.1 h0), if_neg (beq_eq_false_iff_ne.1 h1), if_neg (beq_eq_false_iff_ne.1 h2)]
          have HT := Lib.hid hT
          generalize (⟨x.toArray⟩ : ByteArray) = t at *
          clear hT hs h hp0 h0 h1 h2
          go_enter Tryz.func159, Tryz.ntmps159
          go_upto_region 1 with (fail)
          generalize w.alloc (.cells #[.int .i64 0, .string ⟨#[]⟩, .slice none 0 0, .int .i64 0, .string ⟨#[]⟩] 43) = w0 at *
          have k0 := hWx.cell 0 _ rfl
          have f0 := hWx.free 0
          have k1 := hWx.cell 1 _ rfl
          have f1 := hWx.free 1
          have k2 := hWx.cell 2 _ rfl
          have f2 := hWx.free 2
          have k3 := hWx.cell 3 _ rfl
          have f3 := hWx.free 3
          have k4 := hWx.cell 4 _ rfl
          have f4 := hWx.free 4
          have hW4 : Blk w.heap.size 43 [.int .i64 0, .string ⟨#[]⟩, .slice none 0 0, .int .i64 0, .string ⟨#[]⟩] ((((((w0.setCell ⟨w.heap.size, 0, none⟩ (.int .i64 0)).setCell ⟨w.heap.size, 1, none⟩ (.string ⟨#[]⟩)).setCell ⟨w.heap.size, 2, none⟩ (.slice none 0 0)).setCell ⟨w.heap.size, 3, none⟩ (.int .i64 0)).setCell ⟨w.heap.size, 4, none⟩ (.string ⟨#[]⟩))) := blk_put5 hWx _ _ _ _ _
          have hb4 : Below w.heap.size w ((((((w0.setCell ⟨w.heap.size, 0, none⟩ (.int .i64 0)).setCell ⟨w.heap.size, 1, none⟩ (.string ⟨#[]⟩)).setCell ⟨w.heap.size, 2, none⟩ (.slice none 0 0)).setCell ⟨w.heap.size, 3, none⟩ (.int .i64 0)).setCell ⟨w.heap.size, 4, none⟩ (.string ⟨#[]⟩))) := below_put5 hb0 _ (Nat.le_refl _) _ _ _ _ _
          go_wp2
          clear k0 k1 k2 k3 k4 f0 f1 f2 f3 f4 e0 e1 e2 e3
          generalize (((w0.setCell ⟨w.heap.size, 0, none⟩ (.int .i64 0)).setCell ⟨w.heap.size, 1, none⟩ (.string ⟨#[]⟩)).setCell ⟨w.heap.size, 2, none⟩ (.slice none 0 0)).setCell ⟨w.heap.size, 3, none⟩ (.int .i64 0) = w39 at *
          generalize w39.setCell ⟨w.heap.size, 4, none⟩ (.string ⟨#[]⟩) = w40 at *
          have d0 := hW4.cell 0 _ rfl
          have d1 := hW4.cell 1 _ rfl
          have d2 := hW4.cell 2 _ rfl
          have d3 := hW4.cell 3 _ rfl
          have d4 := hW4.cell 4 _ rfl
          refine bodyPost_ret (v := .tuple #[.agg #[.int .i64 0, .string ⟨#[]⟩, .slice none 0 0, .int .i64 0, .string ⟨#[]⟩], .bool false]) (by simp [results, Tryz.results159, go_sem, d0, d1, d2, d3, d4]) rfl ?_
          exact ArgPost.no HT.out hb4
  | field xs h hl =>
    dsimp only at e0 e1 e2 e3 hp0
    have hT : argL ⟨1, [], xs, 0⟩ = some ⟨0, [], xs, 0, []⟩ := rfl
    have HT := Lib.hid hT
    clear hT
    go_enter Tryz.func159, Tryz.ntmps159
    go_upto_region 1 with (fail)
    generalize w.alloc (.cells #[.int .i64 0, .string ⟨#[]⟩, .slice none 0 0, .int .i64 0, .string ⟨#[]⟩] 43) = w0 at *
    go_upto_region 3 with (fail)
    go_wp2_with fail
    refine (clone_calls base _ xs _ hp0 (by omega)).mono ?_
    rintro e w1 ⟨v', rfl, hS1, hb1⟩
    obtain ⟨va, vc, rfl⟩ := hS1.slice
    have hz0 := hWx.lt
    have hWx := hWx.below hb1
    have hb1 := hb0.trans (hb1.mono (by omega))
    clear e0 e1 e2 e3
    have k0 := hWx.cell 0 _ rfl
    have f0 := hWx.free 0
    have k1 := hWx.cell 1 _ rfl
    have f1 := hWx.free 1
    have k2 := hWx.cell 2 _ rfl
    have f2 := hWx.free 2
    have k3 := hWx.cell 3 _ rfl
    have f3 := hWx.free 3
    have k4 := hWx.cell 4 _ rfl
    have f4 := hWx.free 4
    have hne : (Value.slice va xs.length vc).ownBlock ≠ some w.heap.size := fun e => by have := own_base hS1 _ e; omega
    have hS4 : Strs _ (.slice va xs.length vc) xs ((((((w1.setCell ⟨w.heap.size, 0, none⟩ (.int .i64 0)).setCell ⟨w.heap.size, 1, none⟩ (.string ⟨#[]⟩)).setCell ⟨w.heap.size, 2, none⟩ (.slice va xs.length vc)).setCell ⟨w.heap.size, 3, none⟩ (.int .i64 0)).setCell ⟨w.heap.size, 4, none⟩ (.string ⟨#[]⟩))) := own_put5 hS1 hne (.int .i64 0) (.string ⟨#[]⟩) (.slice va xs.length vc) (.int .i64 0) (.string ⟨#[]⟩)
    have hW4 : Blk w.heap.size 43 [.int .i64 0, .string ⟨#[]⟩, .slice va xs.length vc, .int .i64 0, .string ⟨#[]⟩] ((((((w1.setCell ⟨w.heap.size, 0, none⟩ (.int .i64 0)).setCell ⟨w.heap.size, 1, none⟩ (.string ⟨#[]⟩)).setCell ⟨w.heap.size, 2, none⟩ (.slice va xs.length vc)).setCell ⟨w.heap.size, 3, none⟩ (.int .i64 0)).setCell ⟨w.heap.size, 4, none⟩ (.string ⟨#[]⟩))) := blk_put5 hWx _ _ _ _ _
    have hb4 : Below w.heap.size w ((((((w1.setCell ⟨w.heap.size, 0, none⟩ (.int .i64 0)).setCell ⟨w.heap.size, 1, none⟩ (.string ⟨#[]⟩)).setCell ⟨w.heap.size, 2, none⟩ (.slice va xs.length vc)).setCell ⟨w.heap.size, 3, none⟩ (.int .i64 0)).setCell ⟨w.heap.size, 4, none⟩ (.string ⟨#[]⟩))) := below_put5 hb1 _ (Nat.le_refl _) _ _ _ _ _
    go_wp2
    clear k0 k1 k2 k3 k4 f0 f1 f2 f3 f4
    generalize (((w1.setCell ⟨w.heap.size, 0, none⟩ (.int .i64 0)).setCell ⟨w.heap.size, 1, none⟩ (.string ⟨#[]⟩)).setCell ⟨w.heap.size, 2, none⟩ (.slice va xs.length vc)).setCell ⟨w.heap.size, 3, none⟩ (.int .i64 0) = w39 at *
    generalize w39.setCell ⟨w.heap.size, 4, none⟩ (.string ⟨#[]⟩) = w40 at *
    have d0 := hW4.cell 0 _ rfl
    have d1 := hW4.cell 1 _ rfl
    have d2 := hW4.cell 2 _ rfl
    have d3 := hW4.cell 3 _ rfl
    have d4 := hW4.cell 4 _ rfl
    refine bodyPost_ret (v := .tuple #[.agg #[.int .i64 0, .string ⟨#[]⟩, .slice va xs.length vc, .int .i64 0, .string ⟨#[]⟩], .bool true]) (by simp [results, Tryz.results159, go_sem, d0, d1, d2, d3, d4]) rfl ?_
    exact ArgPost.ok (a := ⟨0, [], xs, 0, []⟩) (pv := .slice va xs.length vc) HT.out (.inr (World.ownsRow.mono hS4 (by omega))) hb4
  | var x xs h hx hl =>
    dsimp only at e0 e1 e2 e3 hp0
    have htx : (⟨x.toArray⟩ : ByteArray) = ⟨x.toArray⟩ := rfl
    have hT : argL ⟨2, x, xs, 0⟩ = some ⟨1, x, xs, 0, []⟩ := rfl
    have HT := Lib.hid hT
    clear hT
    go_enter Tryz.func159, Tryz.ntmps159
    go_upto_region 1 with (fail)
    generalize w.alloc (.cells #[.int .i64 0, .string ⟨#[]⟩, .slice none 0 0, .int .i64 0, .string ⟨#[]⟩] 43) = w0 at *
    go_upto_region 5 with (fail)
    have hz0 := hWx.lt
    go_cut [2, 3] (fun v2 v3 wx => v3 = .bool true ∧ ∃ v', Blk w.heap.size 43 [.int .i64 1, .string ⟨x.toArray⟩, v', .int .i64 0, .string ⟨#[]⟩] wx ∧ Strs (w.heap.size + 1) v' xs wx ∧ Below w.heap.size w wx ∧ v2 = .pointer (some ⟨w.heap.size, 0, none⟩))
    case first =>
      have hdr : Below w0.heap.size w0 w0.drew := Below.drew (Below.refl _ _)
      have HC := Lib.hid (clone_calls base _ xs w0.drew (hp0.below hdr) (by omega))
      have HWX := Lib.hid hWx
      have HB0 := Lib.hid hb0
      have HDR := Lib.hid hdr
      generalize (⟨x.toArray⟩ : ByteArray) = t at *
      clear hWx hb0 hdr hp0 htx
      go_region_law (go_simp; go_at_call 176; refine HC.out.mono ?_; rintro e w5 ⟨v', rfl, hS5, hb5⟩; obtain ⟨va, vc, rfl⟩ := hS5.slice; have hb05 := HDR.out.trans (hb5.mono HDR.out.size); have HW5 := Lib.hid (HWX.out.below hb05); have k0 := HW5.out.cell 0 _ rfl; have k1 := HW5.out.cell 1 _ rfl; have k2 := HW5.out.cell 2 _ rfl; have k3 := HW5.out.cell 3 _ rfl; have k4 := HW5.out.cell 4 _ rfl; have f0 := HW5.out.free 0; have f1 := HW5.out.free 1; have f2 := HW5.out.free 2; have f3 := HW5.out.free 3; have f4 := HW5.out.free 4; have g1 := hb05.cell (p := ⟨g, off + 1, none⟩) (World.block_lt_of_cell? w0 _ e1); rw [e1] at g1; have HB5 := Lib.hid hb05; have HS5 := Lib.hid hS5; clear hb05 hS5 hb5)
      all_goals go_wp2_with fail
      all_goals go_meet
      all_goals have hne : (Value.slice va xs.length vc).ownBlock ≠ some w.heap.size := fun e => by have := own_base HS5.out _ e; have := HDR.out.size; omega
      all_goals exact ⟨rfl, .slice va xs.length vc, blk_put5 HW5.out _ _ _ _ _, World.ownsRow.mono (own_put5 HS5.out hne _ _ _ _ _) (by have := HDR.out.size; omega), below_put5 (HB0.out.trans (HB5.out.mono (by omega))) _ (Nat.le_refl _) _ _ _ _ _, rfl⟩
    case rest =>
    obtain ⟨rfl, v', hW4, hS4, hb4, rfl⟩ := hcut
    clear e0 e1 e2 e3
    have d0 := hW4.cell 0 _ rfl
    have d1 := hW4.cell 1 _ rfl
    have d2 := hW4.cell 2 _ rfl
    have d3 := hW4.cell 3 _ rfl
    have d4 := hW4.cell 4 _ rfl
    go_wp2
    refine bodyPost_ret (v := .tuple #[.agg #[.int .i64 1, .string ⟨x.toArray⟩, v', .int .i64 0, .string ⟨#[]⟩], .bool true]) (by simp [results, Tryz.results159, go_sem, d0, d1, d2, d3, d4]) rfl ?_
    exact ArgPost.ok (a := ⟨1, x, xs, 0, []⟩) (pv := v') HT.out (.inr (World.ownsRow.mono hS4 (by omega))) hb4
  | num z h =>
    dsimp only at e0 e1 e2 e3 hp0
    have hT : argL ⟨3, [], [], z⟩ = some ⟨2, [], [], z, []⟩ := rfl
    have HT := Lib.hid hT
    clear hT hp0
    go_enter Tryz.func159, Tryz.ntmps159
    go_upto_region 1 with (fail)
    generalize w.alloc (.cells #[.int .i64 0, .string ⟨#[]⟩, .slice none 0 0, .int .i64 0, .string ⟨#[]⟩] 43) = w0 at *
    have k0 := hWx.cell 0 _ rfl
    have f0 := hWx.free 0
    have k1 := hWx.cell 1 _ rfl
    have f1 := hWx.free 1
    have k2 := hWx.cell 2 _ rfl
    have f2 := hWx.free 2
    have k3 := hWx.cell 3 _ rfl
    have f3 := hWx.free 3
    have k4 := hWx.cell 4 _ rfl
    have f4 := hWx.free 4
    have hW4 : Blk w.heap.size 43 [.int .i64 2, .string ⟨#[]⟩, .slice none 0 0, .int .i64 z, .string ⟨#[]⟩] ((((((w0.setCell ⟨w.heap.size, 0, none⟩ (.int .i64 2)).setCell ⟨w.heap.size, 1, none⟩ (.string ⟨#[]⟩)).setCell ⟨w.heap.size, 2, none⟩ (.slice none 0 0)).setCell ⟨w.heap.size, 3, none⟩ (.int .i64 z)).setCell ⟨w.heap.size, 4, none⟩ (.string ⟨#[]⟩))) := blk_put5 hWx _ _ _ _ _
    have hb4 : Below w.heap.size w ((((((w0.setCell ⟨w.heap.size, 0, none⟩ (.int .i64 2)).setCell ⟨w.heap.size, 1, none⟩ (.string ⟨#[]⟩)).setCell ⟨w.heap.size, 2, none⟩ (.slice none 0 0)).setCell ⟨w.heap.size, 3, none⟩ (.int .i64 z)).setCell ⟨w.heap.size, 4, none⟩ (.string ⟨#[]⟩))) := below_put5 hb0 _ (Nat.le_refl _) _ _ _ _ _
    go_wp2
    clear k0 k1 k2 k3 k4 f0 f1 f2 f3 f4 e0 e1 e2 e3
    generalize (((w0.setCell ⟨w.heap.size, 0, none⟩ (.int .i64 2)).setCell ⟨w.heap.size, 1, none⟩ (.string ⟨#[]⟩)).setCell ⟨w.heap.size, 2, none⟩ (.slice none 0 0)).setCell ⟨w.heap.size, 3, none⟩ (.int .i64 z) = w39 at *
    generalize w39.setCell ⟨w.heap.size, 4, none⟩ (.string ⟨#[]⟩) = w40 at *
    have d0 := hW4.cell 0 _ rfl
    have d1 := hW4.cell 1 _ rfl
    have d2 := hW4.cell 2 _ rfl
    have d3 := hW4.cell 3 _ rfl
    have d4 := hW4.cell 4 _ rfl
    refine bodyPost_ret (v := .tuple #[.agg #[.int .i64 2, .string ⟨#[]⟩, .slice none 0 0, .int .i64 z, .string ⟨#[]⟩], .bool true]) (by simp [results, Tryz.results159, go_sem, d0, d1, d2, d3, d4]) rfl ?_
    exact ArgPost.ok (a := ⟨2, [], [], z, []⟩) (pv := .slice none 0 0) HT.out (.inl ⟨rfl, _, _, rfl⟩) hb4
  | text x =>
    dsimp only at e0 e1 e2 e3 hp0
    have hT : argL ⟨4, x, [], 0⟩ = some ⟨3, [], [], 0, x⟩ := rfl
    have HT := Lib.hid hT
    clear hT hp0
    go_enter Tryz.func159, Tryz.ntmps159
    go_upto_region 1 with (fail)
    generalize w.alloc (.cells #[.int .i64 0, .string ⟨#[]⟩, .slice none 0 0, .int .i64 0, .string ⟨#[]⟩] 43) = w0 at *
    have k0 := hWx.cell 0 _ rfl
    have f0 := hWx.free 0
    have k1 := hWx.cell 1 _ rfl
    have f1 := hWx.free 1
    have k2 := hWx.cell 2 _ rfl
    have f2 := hWx.free 2
    have k3 := hWx.cell 3 _ rfl
    have f3 := hWx.free 3
    have k4 := hWx.cell 4 _ rfl
    have f4 := hWx.free 4
    have hW4 : Blk w.heap.size 43 [.int .i64 3, .string ⟨#[]⟩, .slice none 0 0, .int .i64 0, .string ⟨x.toArray⟩] ((((((w0.setCell ⟨w.heap.size, 0, none⟩ (.int .i64 3)).setCell ⟨w.heap.size, 1, none⟩ (.string ⟨#[]⟩)).setCell ⟨w.heap.size, 2, none⟩ (.slice none 0 0)).setCell ⟨w.heap.size, 3, none⟩ (.int .i64 0)).setCell ⟨w.heap.size, 4, none⟩ (.string ⟨x.toArray⟩))) := blk_put5 hWx _ _ _ _ _
    have hb4 : Below w.heap.size w ((((((w0.setCell ⟨w.heap.size, 0, none⟩ (.int .i64 3)).setCell ⟨w.heap.size, 1, none⟩ (.string ⟨#[]⟩)).setCell ⟨w.heap.size, 2, none⟩ (.slice none 0 0)).setCell ⟨w.heap.size, 3, none⟩ (.int .i64 0)).setCell ⟨w.heap.size, 4, none⟩ (.string ⟨x.toArray⟩))) := below_put5 hb0 _ (Nat.le_refl _) _ _ _ _ _
    go_wp2
    clear k0 k1 k2 k3 k4 f0 f1 f2 f3 f4 e0 e1 e2 e3
    generalize (((w0.setCell ⟨w.heap.size, 0, none⟩ (.int .i64 3)).setCell ⟨w.heap.size, 1, none⟩ (.string ⟨#[]⟩)).setCell ⟨w.heap.size, 2, none⟩ (.slice none 0 0)).setCell ⟨w.heap.size, 3, none⟩ (.int .i64 0) = w39 at *
    generalize w39.setCell ⟨w.heap.size, 4, none⟩ (.string ⟨x.toArray⟩) = w40 at *
    have d0 := hW4.cell 0 _ rfl
    have d1 := hW4.cell 1 _ rfl
    have d2 := hW4.cell 2 _ rfl
    have d3 := hW4.cell 3 _ rfl
    have d4 := hW4.cell 4 _ rfl
    refine bodyPost_ret (v := .tuple #[.agg #[.int .i64 3, .string ⟨#[]⟩, .slice none 0 0, .int .i64 0, .string ⟨x.toArray⟩], .bool true]) (by simp [results, Tryz.results159, go_sem, d0, d1, d2, d3, d4]) rfl ?_
    exact ArgPost.ok (a := ⟨3, [], [], 0, x⟩) (pv := .slice none 0 0) HT.out (.inl ⟨rfl, _, _, rfl⟩) hb4
  | pipe =>
    dsimp only at e0 e1 e2 e3 hp0
    have hT : argL ⟨5, [], [], 0⟩ = none := rfl
    have HT := Lib.hid hT
    clear hT hp0
    go_enter Tryz.func159, Tryz.ntmps159
    go_upto_region 1 with (fail)
    generalize w.alloc (.cells #[.int .i64 0, .string ⟨#[]⟩, .slice none 0 0, .int .i64 0, .string ⟨#[]⟩] 43) = w0 at *
    have k0 := hWx.cell 0 _ rfl
    have f0 := hWx.free 0
    have k1 := hWx.cell 1 _ rfl
    have f1 := hWx.free 1
    have k2 := hWx.cell 2 _ rfl
    have f2 := hWx.free 2
    have k3 := hWx.cell 3 _ rfl
    have f3 := hWx.free 3
    have k4 := hWx.cell 4 _ rfl
    have f4 := hWx.free 4
    have hW4 : Blk w.heap.size 43 [.int .i64 0, .string ⟨#[]⟩, .slice none 0 0, .int .i64 0, .string ⟨#[]⟩] ((((((w0.setCell ⟨w.heap.size, 0, none⟩ (.int .i64 0)).setCell ⟨w.heap.size, 1, none⟩ (.string ⟨#[]⟩)).setCell ⟨w.heap.size, 2, none⟩ (.slice none 0 0)).setCell ⟨w.heap.size, 3, none⟩ (.int .i64 0)).setCell ⟨w.heap.size, 4, none⟩ (.string ⟨#[]⟩))) := blk_put5 hWx _ _ _ _ _
    have hb4 : Below w.heap.size w ((((((w0.setCell ⟨w.heap.size, 0, none⟩ (.int .i64 0)).setCell ⟨w.heap.size, 1, none⟩ (.string ⟨#[]⟩)).setCell ⟨w.heap.size, 2, none⟩ (.slice none 0 0)).setCell ⟨w.heap.size, 3, none⟩ (.int .i64 0)).setCell ⟨w.heap.size, 4, none⟩ (.string ⟨#[]⟩))) := below_put5 hb0 _ (Nat.le_refl _) _ _ _ _ _
    go_wp2
    clear k0 k1 k2 k3 k4 f0 f1 f2 f3 f4 e0 e1 e2 e3
    generalize (((w0.setCell ⟨w.heap.size, 0, none⟩ (.int .i64 0)).setCell ⟨w.heap.size, 1, none⟩ (.string ⟨#[]⟩)).setCell ⟨w.heap.size, 2, none⟩ (.slice none 0 0)).setCell ⟨w.heap.size, 3, none⟩ (.int .i64 0) = w39 at *
    generalize w39.setCell ⟨w.heap.size, 4, none⟩ (.string ⟨#[]⟩) = w40 at *
    have d0 := hW4.cell 0 _ rfl
    have d1 := hW4.cell 1 _ rfl
    have d2 := hW4.cell 2 _ rfl
    have d3 := hW4.cell 3 _ rfl
    have d4 := hW4.cell 4 _ rfl
    refine bodyPost_ret (v := .tuple #[.agg #[.int .i64 0, .string ⟨#[]⟩, .slice none 0 0, .int .i64 0, .string ⟨#[]⟩], .bool false]) (by simp [results, Tryz.results159, go_sem, d0, d1, d2, d3, d4]) rfl ?_
    exact ArgPost.no HT.out hb4
  | set =>
    dsimp only at e0 e1 e2 e3 hp0
    have hT : argL ⟨6, [], [], 0⟩ = none := rfl
    have HT := Lib.hid hT
    clear hT hp0
    go_enter Tryz.func159, Tryz.ntmps159
    go_upto_region 1 with (fail)
    generalize w.alloc (.cells #[.int .i64 0, .string ⟨#[]⟩, .slice none 0 0, .int .i64 0, .string ⟨#[]⟩] 43) = w0 at *
    have k0 := hWx.cell 0 _ rfl
    have f0 := hWx.free 0
    have k1 := hWx.cell 1 _ rfl
    have f1 := hWx.free 1
    have k2 := hWx.cell 2 _ rfl
    have f2 := hWx.free 2
    have k3 := hWx.cell 3 _ rfl
    have f3 := hWx.free 3
    have k4 := hWx.cell 4 _ rfl
    have f4 := hWx.free 4
    have hW4 : Blk w.heap.size 43 [.int .i64 0, .string ⟨#[]⟩, .slice none 0 0, .int .i64 0, .string ⟨#[]⟩] ((((((w0.setCell ⟨w.heap.size, 0, none⟩ (.int .i64 0)).setCell ⟨w.heap.size, 1, none⟩ (.string ⟨#[]⟩)).setCell ⟨w.heap.size, 2, none⟩ (.slice none 0 0)).setCell ⟨w.heap.size, 3, none⟩ (.int .i64 0)).setCell ⟨w.heap.size, 4, none⟩ (.string ⟨#[]⟩))) := blk_put5 hWx _ _ _ _ _
    have hb4 : Below w.heap.size w ((((((w0.setCell ⟨w.heap.size, 0, none⟩ (.int .i64 0)).setCell ⟨w.heap.size, 1, none⟩ (.string ⟨#[]⟩)).setCell ⟨w.heap.size, 2, none⟩ (.slice none 0 0)).setCell ⟨w.heap.size, 3, none⟩ (.int .i64 0)).setCell ⟨w.heap.size, 4, none⟩ (.string ⟨#[]⟩))) := below_put5 hb0 _ (Nat.le_refl _) _ _ _ _ _
    go_wp2
    clear k0 k1 k2 k3 k4 f0 f1 f2 f3 f4 e0 e1 e2 e3
    generalize (((w0.setCell ⟨w.heap.size, 0, none⟩ (.int .i64 0)).setCell ⟨w.heap.size, 1, none⟩ (.string ⟨#[]⟩)).setCell ⟨w.heap.size, 2, none⟩ (.slice none 0 0)).setCell ⟨w.heap.size, 3, none⟩ (.int .i64 0) = w39 at *
    generalize w39.setCell ⟨w.heap.size, 4, none⟩ (.string ⟨#[]⟩) = w40 at *
    have d0 := hW4.cell 0 _ rfl
    have d1 := hW4.cell 1 _ rfl
    have d2 := hW4.cell 2 _ rfl
    have d3 := hW4.cell 3 _ rfl
    have d4 := hW4.cell 4 _ rfl
    refine bodyPost_ret (v := .tuple #[.agg #[.int .i64 0, .string ⟨#[]⟩, .slice none 0 0, .int .i64 0, .string ⟨#[]⟩], .bool false]) (by simp [results, Tryz.results159, go_sem, d0, d1, d2, d3, d4]) rfl ?_
    exact ArgPost.no HT.out hb4
end Go.Proofs.YtdaffedbboofjaaGreatDoor.S
