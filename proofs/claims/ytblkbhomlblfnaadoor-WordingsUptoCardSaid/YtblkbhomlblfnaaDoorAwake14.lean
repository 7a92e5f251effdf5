/-
  THE WALK of awake (chapter 14).
-/
import Derived.Test.YtblkbhomlblfnaaDoorSameW
set_option linter.unusedVariables false
set_option linter.unusedSimpArgs false
namespace Go.Proofs.YtblkbhomlblfnaaDoor.S
open Go.RowKit

theorem strs_lit (W : World) (cs : Array Value) (xs : List (List UInt8)) (n base : Nat) (hc : cs.toList = xs.flatMap stCells) (hn : xs.length = n) (hm : n ≤ 9223372036854775807) (hb : base ≤ W.heap.size) :
    Strs base (.slice (some ⟨W.heap.size, 0, none⟩) n n) xs (W.alloc (.cells cs 9)) := by
  subst hn
  unfold Strs
  rw [← hc]
  refine World.ownsRow.mono (World.ownsRow_lit W cs xs.length (Nat.le_refl _) (by simp only [maxLen]; omega) ?_) hb
  have := congrArg List.length hc
  rw [Array.length_toList] at this
  rw [this]
  clear this hc hm
  induction xs with
  | nil => rfl
  | cons p ps ih => rw [List.flatMap_cons, List.length_append, ih]; simp [stCells]; omega
def want14 : List Wd := [⟨1, [], [[97], [98]], 0⟩, ⟨5, [], [], 0⟩, ⟨0, [101, 113], [], 0⟩, ⟨2, [120, 95, 49], [[99]], 0⟩, ⟨3, [], [], -12⟩, ⟨4, [113, 10, 34], [], 0⟩, ⟨6, [], [], 0⟩, ⟨1, [], [], 0⟩]
set_option maxRecDepth 100000 in
set_option maxHeartbeats 8000000 in
theorem awake14_calls (w : World) (hE : Env w) :
    Calls Tryd.prog 23 #[] w fun e w' => e = .returned (.bool true) ∧ Below w.heap.size w w' := by
  go_enter Tryd.func23, Tryd.ntmps23
  go_wp2_with fail
  refine (words_calls _ _ hE (by decide)).mono ?_
  rintro e w1 ⟨v1, ds1, n1, rfl, hP1, hb1, hs⟩
  obtain ⟨rfl, rfl⟩ := Prod.mk.inj (hs.symm.trans (show _ = (want14, 0) by decide +kernel))
  clear hs
  go_wp2_with fail
  refine (words_calls _ _ (hE.below hb1) (by decide)).mono ?_
  rintro e w2 ⟨v2, ds2, n2, rfl, hP2, hb2, hs⟩
  obtain ⟨rfl, rfl⟩ := Prod.mk.inj (hs.symm.trans (show _ = (([] : List Wd), 1401) by decide +kernel))
  clear hs hP2
  have hP1 := hP1.below hb2
  have hb2 := hb1.trans (hb2.mono hb1.size)
  go_wp2_with fail
  refine (words_calls _ _ (hE.below hb2) (by decide)).mono ?_
  rintro e w3 ⟨v3, ds3, n3, rfl, hP3, hb3, hs⟩
  obtain ⟨rfl, rfl⟩ := Prod.mk.inj (hs.symm.trans (show _ = (([] : List Wd), 1402) by decide +kernel))
  clear hs hP3
  have hP1 := hP1.below hb3
  have hb3 := hb2.trans (hb3.mono hb2.size)
  go_wp2_with fail
  refine (words_calls _ _ (hE.below hb3) (by decide)).mono ?_
  rintro e w4 ⟨v4, ds4, n4, rfl, hP4, hb4, hs⟩
  obtain ⟨rfl, rfl⟩ := Prod.mk.inj (hs.symm.trans (show _ = (([] : List Wd), 1400) by decide +kernel))
  clear hs hP4
  have hP1 := hP1.below hb4
  have hb4 := hb3.trans (hb4.mono hb3.size)
  go_upto_region 6 with (fail)
  have hA := strs_lit w4 #[.string ⟨#[97]⟩, .string ⟨#[98]⟩] [[97], [98]] 2 w4.heap.size rfl rfl (by omega) (Nat.le_refl _)
  have hz5 : (w4.alloc (.cells #[.string ⟨#[97]⟩, .string ⟨#[98]⟩] 9)).heap.size = w4.heap.size + 1 := by simp
  have hb5 : Below w4.heap.size w4 (w4.alloc (.cells #[.string ⟨#[97]⟩, .string ⟨#[98]⟩] 9)) := (Below.refl _ w4).alloc (Nat.le_refl _) _
  generalize w4.alloc (.cells #[.string ⟨#[97]⟩, .string ⟨#[98]⟩] 9) = w5 at *
  have hB := strs_lit w5 #[.string ⟨#[99]⟩] [[99]] 1 w4.heap.size rfl rfl (by omega) (by omega)
  have hz6 : (w5.alloc (.cells #[.string ⟨#[99]⟩] 9)).heap.size = w5.heap.size + 1 := by simp
  have hb6 : Below w5.heap.size w5 (w5.alloc (.cells #[.string ⟨#[99]⟩] 9)) := (Below.refl _ w5).alloc (Nat.le_refl _) _
  generalize w5.alloc (.cells #[.string ⟨#[99]⟩] 9) = w6 at *
  have hA6 := own_below hA hb6
  have hr := World.ownsRow_lit (base := w4.heap.size) (e := 40) (size := 4) w6 #[.int .i64 1, .string ⟨#[]⟩, .slice (some ⟨w4.heap.size, 0, none⟩) 2 2, .int .i64 0, .int .i64 5, .string ⟨#[]⟩, .slice none 0 0, .int .i64 0, .int .i64 0, .string ⟨#[101, 113]⟩, .slice none 0 0, .int .i64 0, .int .i64 2, .string ⟨#[120, 95, 49]⟩, .slice (some ⟨w4.heap.size + 1, 0, none⟩) 1 1, .int .i64 0, .int .i64 3, .string ⟨#[]⟩, .slice none 0 0, .int .i64 (-12), .int .i64 4, .string ⟨#[113, 10, 34]⟩, .slice none 0 0, .int .i64 0, .int .i64 6, .string ⟨#[]⟩, .slice none 0 0, .int .i64 0, .int .i64 1, .string ⟨#[]⟩, .slice none 0 0, .int .i64 0] 8 (by omega) (by decide) rfl
  have hb7 : Below w6.heap.size w6 (w6.alloc (.cells #[.int .i64 1, .string ⟨#[]⟩, .slice (some ⟨w4.heap.size, 0, none⟩) 2 2, .int .i64 0, .int .i64 5, .string ⟨#[]⟩, .slice none 0 0, .int .i64 0, .int .i64 0, .string ⟨#[101, 113]⟩, .slice none 0 0, .int .i64 0, .int .i64 2, .string ⟨#[120, 95, 49]⟩, .slice (some ⟨w4.heap.size + 1, 0, none⟩) 1 1, .int .i64 0, .int .i64 3, .string ⟨#[]⟩, .slice none 0 0, .int .i64 (-12), .int .i64 4, .string ⟨#[113, 10, 34]⟩, .slice none 0 0, .int .i64 0, .int .i64 6, .string ⟨#[]⟩, .slice none 0 0, .int .i64 0, .int .i64 1, .string ⟨#[]⟩, .slice none 0 0, .int .i64 0] 40)) := (Below.refl _ w6).alloc (Nat.le_refl _) _
  generalize w6.alloc (.cells #[.int .i64 1, .string ⟨#[]⟩, .slice (some ⟨w4.heap.size, 0, none⟩) 2 2, .int .i64 0, .int .i64 5, .string ⟨#[]⟩, .slice none 0 0, .int .i64 0, .int .i64 0, .string ⟨#[101, 113]⟩, .slice none 0 0, .int .i64 0, .int .i64 2, .string ⟨#[120, 95, 49]⟩, .slice (some ⟨w4.heap.size + 1, 0, none⟩) 1 1, .int .i64 0, .int .i64 3, .string ⟨#[]⟩, .slice none 0 0, .int .i64 (-12), .int .i64 4, .string ⟨#[113, 10, 34]⟩, .slice none 0 0, .int .i64 0, .int .i64 6, .string ⟨#[]⟩, .slice none 0 0, .int .i64 0, .int .i64 1, .string ⟨#[]⟩, .slice none 0 0, .int .i64 0] 40) = w7 at *
  rw [hz5] at hB
  have hz62 : w6.heap.size = w4.heap.size + 1 + 1 := by omega
  rw [hz62] at hr
  have hA7 := own_below hA6 hb7
  have hB7 := own_below hB hb7
  have hQ : Wds w4.heap.size (.slice (some ⟨w4.heap.size + 1 + 1, 0, none⟩) 8 8) want14 w7 := by
    refine ⟨[(⟨1, [], [[97], [98]], 0⟩, .slice (some ⟨w4.heap.size, 0, none⟩) 2 2), (⟨5, [], [], 0⟩, .slice none 0 0), (⟨0, [101, 113], [], 0⟩, .slice none 0 0), (⟨2, [120, 95, 49], [[99]], 0⟩, .slice (some ⟨w4.heap.size + 1, 0, none⟩) 1 1), (⟨3, [], [], -12⟩, .slice none 0 0), (⟨4, [113, 10, 34], [], 0⟩, .slice none 0 0), (⟨6, [], [], 0⟩, .slice none 0 0), (⟨1, [], [], 0⟩, .slice none 0 0)], rfl, hr, ?_⟩
    intro z hz
    simp only [List.mem_cons, List.not_mem_nil, or_false] at hz
    rcases hz with rfl | rfl | rfl | rfl | rfl | rfl | rfl | rfl
    · exact hA7
    · exact strs_nil _ _
    · exact strs_nil _ _
    · exact hB7
    · exact strs_nil _ _
    · exact strs_nil _ _
    · exact strs_nil _ _
    · exact strs_nil _ _
  have hP7 := (((hP1.below hb5).below hb6).below hb7)
  have hb47 := (hb5.trans (hb6.mono (by omega))).trans (hb7.mono (by omega))
  have hbw := hb4.trans (hb47.mono hb4.size)
  clear hA hB hA6 hr hA7 hB7 hb5 hb6 hb7 hz5 hz6 hz62 hP1
  go_wp2_with fail
  refine (sameWords_calls _ _ _ _ _ _ hP7 hQ).mono ?_
  rintro e w8 ⟨rfl, m, rfl⟩
  go_wp2_with (go_at_call 18; go_in)
  go_ret
  exact ⟨rfl, Below.drewN hbw m⟩
end Go.Proofs.YtblkbhomlblfnaaDoor.S
