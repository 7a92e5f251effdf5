/-
  THE WALK of awake (chapter 13).
-/
import Derived.Test.YtblkbhomlblfnaaDoorSame

set_option linter.unusedVariables false
set_option linter.unusedSimpArgs false
namespace Go.Proofs.YtblkbhomlblfnaaDoor.S
open Go.RowKit

/-- a row that a literal writes out -/
theorem pcs_lit (W : World) (cs : Array Value) (ps : List Pc) (n : Nat) (hc : cs.toList = ps.flatMap pcCells) (hn : ps.length = n) (hm : n ≤ 9223372036854775807) :
    Pcs W.heap.size (.slice (some ⟨W.heap.size, 0, none⟩) n n) ps (W.alloc (.cells cs 52)) := by
  subst hn
  unfold Pcs
  rw [← hc]
  refine World.ownsRow_lit W cs ps.length (Nat.le_refl _) (by simp only [maxLen]; omega) ?_
  have := congrArg List.length hc
  rw [Array.length_toList] at this
  rw [this]
  clear this hc hm
  induction ps with
  | nil => rfl
  | cons p ps ih => simp [pcCells, ih]; omega

theorem lexSplit_any (s : ByteArray) (w : World) (hE : Env w) :
    Calls Tryd.prog 26 #[.string s] w fun e w' => ∃ v ps n, e = .returned (.tuple #[v, .int .i64 (n : Nat)]) ∧ Pcs w.heap.size v ps w' ∧ Below w.heap.size w w' ∧ splitR s.data.toList = (ps, n) := by
  by_cases h : 65536 < s.size
  · have hr : splitR s.data.toList = ([], 1301) := if_pos h
    go_enter Tryd.func26, Tryd.ntmps26
    go_wp2
    go_ret2
    exact ⟨_, [], 1301, rfl, pcs_nil _ _, Below.refl _ _, hr⟩
  · exact lexSplit_calls s w hE (by omega)
set_option maxRecDepth 100000 in
set_option maxHeartbeats 4000000 in
theorem awake13_calls (w : World) (hE : Env w) :
    Calls Tryd.prog 29 #[] w fun e w' => e = .returned (.bool true) ∧ Below w.heap.size w w' := by
  go_enter Tryd.func29, Tryd.ntmps29
  go_wp2_with fail
  refine (lexSplit_calls _ _ hE (by decide)).mono ?_
  rintro e w1 ⟨v, ps, n, rfl, hP, hb1, hs⟩
  obtain ⟨rfl, rfl⟩ := Prod.mk.inj (hs.symm.trans (show _ = (([⟨false, [97], 0⟩, ⟨true, [46, 120], 2⟩, ⟨false, [98, 10], 12⟩, ⟨true, [34, 125, 125, 34], 26⟩] : List Pc), 0) by decide +kernel))
  clear hs
  go_wp2_with fail
  refine (lexSplit_calls _ _ (hE.below hb1) (by decide)).mono ?_
  rintro e w2 ⟨v2, ps2, n2, rfl, hP2, hb2, hs⟩
  obtain ⟨rfl, rfl⟩ := Prod.mk.inj (hs.symm.trans (show _ = (([] : List Pc), 1300) by decide +kernel))
  clear hs hP2
  have hb12 := hb1.trans (hb2.mono hb1.size)
  have hP' := own_below hP hb2
  go_upto_region 4 with (fail)
  have hQ := pcs_lit w2 #[.bool false, .string ⟨#[97]⟩, .int .i64 0, .bool true, .string ⟨#[46, 120]⟩, .int .i64 2, .bool false, .string ⟨#[98, 10]⟩, .int .i64 12, .bool true, .string ⟨#[34, 125, 125, 34]⟩, .int .i64 26]
    [⟨false, [97], 0⟩, ⟨true, [46, 120], 2⟩, ⟨false, [98, 10], 12⟩, ⟨true, [34, 125, 125, 34], 26⟩] 4 rfl rfl (by omega)
  have hba := (Below.refl _ w2).alloc (Nat.le_refl _) (.cells #[.bool false, .string ⟨#[97]⟩, .int .i64 0, .bool true, .string ⟨#[46, 120]⟩, .int .i64 2, .bool false, .string ⟨#[98, 10]⟩, .int .i64 12, .bool true, .string ⟨#[34, 125, 125, 34]⟩, .int .i64 26] 52)
  generalize w2.alloc (.cells #[.bool false, .string ⟨#[97]⟩, .int .i64 0, .bool true, .string ⟨#[46, 120]⟩, .int .i64 2, .bool false, .string ⟨#[98, 10]⟩, .int .i64 12, .bool true, .string ⟨#[34, 125, 125, 34]⟩, .int .i64 26] 52) = w3 at *
  have hP3 := own_below hP' hba
  have hb3 := hb12.trans (hba.mono hb12.size)
  go_wp2_with fail
  refine (same_calls _ _ _ _ _ _ _ hP3 hQ).mono ?_
  rintro e w4 ⟨rfl, hb4⟩
  go_wp2_with (go_at_call 18; go_in)
  go_ret
  exact ⟨rfl, hb3.trans (hb4.mono hb3.size)⟩
end Go.Proofs.YtblkbhomlblfnaaDoor.S
