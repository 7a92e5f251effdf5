/-
  THE WALK of the law Wordings (chapter 14).
-/
import Derived.Test.YtblkbhomlblfnaaDoorSpoilW
import Derived.Test.YtblkbhomlblfnaaDoorAwake14
import Derived.Test.YtblkbhomlblfnaaDoorRefW6
set_option linter.unusedVariables false
set_option linter.unusedSimpArgs false
namespace Go.Proofs.YtblkbhomlblfnaaDoor.S
open Go.RowKit

theorem wdOk_path {d : Wd} (h : WdOk d) : d.path.length ≤ 8 ∧ ∀ x ∈ d.path, x.length ≤ 32 := by
  have hn : ∀ x, nameOk x = true → x.length ≤ 32 := fun x hx => by
    simp only [nameOk, Bool.and_eq_true, decide_eq_true_eq] at hx
    exact hx.1.1.2
  cases h with
  | field xs h hl => exact ⟨hl, fun x hx => hn x (h x hx)⟩
  | var x xs h hs hl => exact ⟨hl, fun x hx => hn x (hs x hx)⟩
  | _ => exact ⟨by simp, fun x hx => by cases hx⟩
theorem costL_len (ds : List Wd) : 2 * ds.length ≤ costL ds := by
  induction ds with
  | nil => exact Nat.zero_le _
  | cons d ds ih => unfold costL at *; simp only [List.map_cons, List.sum_cons, List.length_cons]; omega
theorem wordsL_sizes {l : List UInt8} {ds : List Wd} {n : Nat} (h : wordsL l = (ds, n)) : ds.length ≤ 14 * l.length ∧ ∀ d ∈ ds, d.path.length ≤ 8 ∧ ∀ x ∈ d.path, x.length ≤ 32 := by
  by_cases hn : n = 0
  · subst hn
    obtain ⟨h1, h2⟩ := wordsL_good h
    have := costL_len ds
    exact ⟨by omega, fun d hd => wdOk_path (h1 d hd)⟩
  · rw [wordsL_no h hn]
    exact ⟨Nat.zero_le _, fun d hd => by cases hd⟩
theorem Wds.spoilt {lo hi n base : Nat} {v : Value} {ds : List Wd} {w w1 : World} (h : Wds base v ds w) (g : Spoilt lo hi n w w1) (hb : hi ≤ base) : Wds base v ds w1 :=
  let ⟨zs, hz, hr, hp⟩ := h
  ⟨zs, hz, g.own hr hb, fun z hz => g.own (hp z hz) hb⟩
theorem wds_spoil (base : Nat) (v : Value) (ds : List Wd) (w0 w : World) (h : Wds base v ds w0) (hb : Below w0.heap.size w0 w) (hl : ds.length ≤ 16777216) (hd : ∀ d ∈ ds, d.path.length ≤ 8 ∧ ∀ x ∈ d.path, x.length ≤ 32) :
    Calls Tryd.prog 22 #[v] w fun e w' => e = .returned (.tuple #[]) ∧ ∃ n, Spoilt base w0.heap.size n w w' := by
  obtain ⟨zs, rfl, hr, hp⟩ := h
  rw [List.length_map] at hl
  have hd' : ∀ z ∈ zs, z.1.path.length ≤ 8 ∧ ∀ x ∈ z.1.path, x.length ≤ 32 := fun z hz => hd _ (List.mem_map_of_mem hz)
  exact spoilWords_calls base w0.heap.size 32 v zs w ((within_of hr (by omega) (Nat.le_refl _) (Nat.le_refl _)).below hb) (fun z hz => (within_of (hp z hz) (by omega) (Nat.le_refl _) (Nat.le_refl _)).below hb)
    (fun z hz => (hd' z hz).2) (fun z hz => (hd' z hz).1) (by omega)
set_option maxRecDepth 100000 in
set_option maxHeartbeats 4000000 in
theorem wordings_calls (s : ByteArray) (w : World) (hE : Env w) (hs : s.size ≤ 1048576) :
    Calls Tryd.prog 5 #[.string s] w fun e w' => e = .returned (.bool true) ∧ Below w.heap.size w w' := by
  have hs30 : s.size ≤ 1073741824 := by omega
  have hsl : s.data.toList.length = s.size := size_list s
  go_enter Tryd.func5, Tryd.ntmps5
  go_wp2_with fail
  refine (words_calls s _ hE hs30).mono ?_
  rintro e w1 ⟨v, ds, n, rfl, hP, hb1, h1⟩
  go_wp2_with fail
  refine (rwords_calls s _ hs30).mono ?_
  rintro e w2 ⟨u, qs, m, rfl, hQ, hb2, h2⟩
  obtain ⟨rfl, rfl⟩ := Prod.mk.inj (h1.symm.trans h2)
  clear h2
  have hb12 := hb1.trans (hb2.mono hb1.size)
  obtain ⟨a, c, rfl⟩ := hP.slice
  obtain ⟨a2, c2, rfl⟩ := hQ.slice
  obtain ⟨hdl, hdp⟩ := wordsL_sizes h1
  have hdl2 : ds.length ≤ 16777216 := by omega
  have H1 := Lib.hid h1
  clear hdl h1 hsl
  go_wp2_with fail
  refine (sameWords_calls _ _ _ _ _ _ (hP.below hb2) hQ).mono ?_
  rintro e w3 ⟨rfl, q, rfl⟩
  have hb3 := Below.drewN hb2 q
  have hQ3 := hQ.drewN q
  have hb13 := Below.drewN hb12 q
  have hSP := wds_spoil _ _ _ _ _ hP hb3 hdl2 hdp
  clear hdl2 hdp
  go_wp2_with (go_at_call 18; go_in)
  refine hSP.mono ?_
  rintro e w4 ⟨rfl, k, hS4⟩
  have hQ4 := hQ3.spoilt hS4 (Nat.le_refl _)
  have hb14 := hb13.trans (hS4.below hb13.size)
  clear hSP hS4
  go_wp2_with fail
  refine (words_calls s _ (hE.below hb14) hs30).mono ?_
  rintro e w5 ⟨v5, ds5, n5, rfl, hP5, hb5, h5⟩
  obtain ⟨rfl, rfl⟩ := Prod.mk.inj (H1.out.symm.trans h5)
  clear h5
  have hb15 := hb14.trans (hb5.mono hb14.size)
  go_wp2_with fail
  refine (sameWords_calls _ _ _ _ _ _ hP5 (hQ4.below hb5)).mono ?_
  rintro e w6 ⟨rfl, q6, rfl⟩
  have hb16 := Below.drewN hb15 q6
  go_wp2_with fail
  refine (awake14_calls _ (hE.below hb16)).mono ?_
  rintro e w7 ⟨rfl, hb7⟩
  go_wp2
  go_ret
  exact ⟨rfl, hb16.trans (hb7.mono hb16.size)⟩
end Go.Proofs.YtblkbhomlblfnaaDoor.S
