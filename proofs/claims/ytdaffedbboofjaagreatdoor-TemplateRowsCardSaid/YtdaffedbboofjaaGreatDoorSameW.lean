/-
  THE WALKS of SameTexts, SameWords where the rows are alike.
-/
import Derived.Test.YtdaffedbboofjaaGreatDoorWordTop
import Derived.Laws.OwnMore
import Derived.Deep.QuietTactic
import Derived.BigQuiet
set_option linter.unusedVariables false
set_option linter.unusedSimpArgs false
namespace Go.Proofs.YtdaffedbboofjaaGreatDoor.S
open Go.RowKit

theorem stflat_get : ∀ (xs : List (List UInt8)) (k : Nat) (h : k < xs.length), (xs.flatMap stCells)[k]? = some (.string ⟨xs[k].toArray⟩)
  | x :: xs, 0, _ => rfl
  | x :: xs, k + 1, h => by
    rw [List.flatMap_cons]
    show ([_] ++ xs.flatMap stCells)[k + 1]? = _
    rw [List.singleton_append, List.getElem?_cons_succ, stflat_get xs k (by simpa using h)]
    rfl
theorem Strs.form {base : Nat} {v : Value} {xs : List (List UInt8)} {w : World} (h : Strs base v xs w) (hn : 0 < xs.length) : ∃ b cap, v = .slice (some ⟨b, 0, none⟩) xs.length cap := by
  rcases h.2 with ⟨rfl, h0⟩ | ⟨g, cap, cur, rfl, hb, _⟩
  · omega
  · exact ⟨g, cap, rfl⟩
theorem Strs.at {base b cap : Nat} {xs : List (List UInt8)} {w : World} (h : Strs base (.slice (some ⟨b, 0, none⟩) xs.length cap) xs w) (k : Nat) (hk : k < xs.length) : w.cell? ⟨b, k, none⟩ = some (.string ⟨xs[k].toArray⟩) :=
  (World.ownsRow.cellAt h k (by omega)).trans (stflat_get xs k hk)
theorem Strs.len_le {base : Nat} {v : Value} {xs : List (List UInt8)} {w : World} (h : Strs base v xs w) : xs.length ≤ 9223372036854775807 := by
  rcases h.2 with ⟨rfl, h0⟩ | ⟨g, cap, cur, rfl, hb, _, hc, hm, _⟩
  · omega
  · simp only [maxLen] at hm; omega
theorem Strs.drewN {base : Nat} {v : Value} {xs : List (List UInt8)} {w : World} (h : Strs base v xs w) (n : Nat) : Strs base v xs (w.drewN n) := own_below h (Below.drewN (Below.refl _ _) n)
set_option maxHeartbeats 4000000 in
theorem sameTexts_q (b1 b2 : Nat) (v u : Value) (xs : List (List UInt8)) (w : World) (hP : Strs b1 v xs w) (hQ : Strs b2 u xs w) :
    Calls Tryz.prog 69 #[v, u] w fun e w' => e = .returned (.bool true) ∧ ∃ m, w' = w.drewN m := by
  obtain ⟨sa, sc, rfl⟩ := hP.slice
  obtain ⟨ra, rc, rfl⟩ := hQ.slice
  have hpl := hP.len_le
  go_enter Tryz.func69, Tryz.ntmps69
  go_wp2
  go_loopg [5] xs.length (fun gk v5 wr => ∃ k m : Nat, k + gk = xs.length ∧ v5 = .int .i64 k ∧ wr = w.drewN m)
  case atStart => exact ⟨0, 0, by omega, rfl, rfl⟩
  case round =>
    obtain ⟨k, m, hkg, rfl, hwr⟩ := hrel
    have hPr : Strs b1 (.slice sa xs.length sc) xs wr := by rw [hwr]; exact hP.drewN m
    have hQr : Strs b2 (.slice ra xs.length rc) xs wr := by rw [hwr]; exact hQ.drewN m
    have HWR := Lib.hid hwr
    clear hwr
    have HKG := Lib.hid hkg
    have hkl : k ≤ xs.length := by omega
    clear hkg
    by_cases hk : k < xs.length
    · obtain ⟨b, cap, hv⟩ := hP.form (by omega)
      obtain ⟨rfl, -, rfl⟩ := Value.slice.inj hv
      obtain ⟨b', cap', hv'⟩ := hQ.form (by omega)
      obtain ⟨rfl, -, rfl⟩ := Value.slice.inj hv'
      have d0 := hPr.at k hk
      have e0 := hQr.at k hk
      have hb : decide ((k : Int) < (xs.length : Int)) = true := decide_eq_true (by omega)
      generalize (⟨xs[k].toArray⟩ : ByteArray) = x at *
      clear hv hv'
      go_upto_region 6 with (fail)
      go_cut [25] (fun v25 wx => v25 = .bool false ∧ ∃ m, wx = w.drewN m)
      case first =>
        go_quiet (fail)
        go_wp2_with fail
        go_meet
        exact ⟨by simp, m + nq, by rw [HWR.out, World.drewN_drewN]⟩
      case rest =>
      obtain ⟨rfl, m', rfl⟩ := hcut
      clear d0 e0
      go_wp2
      go_roundg (gk - 1)
      case measure => have := HKG.out; omega
      case rel => exact ⟨k + 1, m', by have := HKG.out; omega, by go_num, rfl⟩
    · have hb : decide ((k : Int) < (xs.length : Int)) = false := decide_eq_false (by omega)
      go_wp2
      go_ret
      exact ⟨rfl, m, HWR.out⟩
theorem zsflat_get : ∀ (zs : List (Wd × Value)) (k : Nat) (h : k < zs.length) (r : Nat), r < 4 → (zsCells zs)[k * 4 + r]? = (wdCells zs[k].1 zs[k].2)[r]?
  | z :: zs, 0, _, r, hr => by
    unfold zsCells
    rw [List.flatMap_cons, Nat.zero_mul, Nat.zero_add, List.getElem?_append_left (by simpa [wdCells] using hr)]
    rfl
  | z :: zs, k + 1, h, r, hr => by
    have ih := zsflat_get zs k (by simpa using h) r hr
    unfold zsCells at *
    rw [List.flatMap_cons, List.getElem?_append_right (by simp [wdCells]; omega)]
    have e : (k + 1) * 4 + r - (wdCells z.1 z.2).length = k * 4 + r := by simp [wdCells]; omega
    rw [e, ih]
    rfl
/-- a row of words at one of its words -/
theorem Wds.at {base : Nat} {v : Value} {ds : List Wd} {w : World} (h : Wds base v ds w) (k : Nat) (hk : k < ds.length) : ∃ b cap pv, v = .slice (some ⟨b, 0, none⟩) ds.length cap ∧
    w.cell? ⟨b, k * 4, none⟩ = some (.int .i64 ds[k].kind) ∧ w.cell? ⟨b, k * 4 + 1, none⟩ = some (.string ⟨ds[k].text.toArray⟩) ∧ w.cell? ⟨b, k * 4 + 2, none⟩ = some pv ∧ w.cell? ⟨b, k * 4 + 3, none⟩ = some (.int .i64 ds[k].num) ∧ Strs base pv ds[k].path w := by
  obtain ⟨zs, rfl, hr, hp⟩ := h
  rw [List.length_map] at hk
  rcases hr.2 with ⟨rfl, h0⟩ | ⟨g, cap, cur, rfl, hb, hh, hc, hm, hcs, htk⟩
  · omega
  · have hr' : w.ownsRow base 116 4 (.slice (some ⟨g, 0, none⟩) zs.length cap) zs.length (zsCells zs) := hr
    have e : (zs.map Prod.fst)[k]'(by rw [List.length_map]; exact hk) = zs[k].1 := by simp
    simp only [e]
    refine ⟨g, cap, zs[k].2, by rw [List.length_map], ?_, ?_, ?_, ?_, hp _ (List.getElem_mem hk)⟩
    · exact (World.ownsRow.cellAt hr' (k * 4 + 0) (by omega)).trans (zsflat_get zs k hk 0 (by omega))
    · exact (World.ownsRow.cellAt hr' (k * 4 + 1) (by omega)).trans (zsflat_get zs k hk 1 (by omega))
    · exact (World.ownsRow.cellAt hr' (k * 4 + 2) (by omega)).trans (zsflat_get zs k hk 2 (by omega))
    · exact (World.ownsRow.cellAt hr' (k * 4 + 3) (by omega)).trans (zsflat_get zs k hk 3 (by omega))
theorem Wds.len_le {base : Nat} {v : Value} {ds : List Wd} {w : World} (h : Wds base v ds w) : ds.length ≤ 9223372036854775807 := by
  obtain ⟨zs, rfl, hr, hp⟩ := h
  rw [List.length_map]
  rcases hr.2 with ⟨rfl, h0⟩ | ⟨g, cap, cur, rfl, hb, _, hc, hm, _⟩
  · omega
  · simp only [maxLen] at hm; omega
theorem Wds.drewN {base : Nat} {v : Value} {ds : List Wd} {w : World} (h : Wds base v ds w) (n : Nat) : Wds base v ds (w.drewN n) := h.below (Below.drewN (Below.refl _ _) n)
end Go.Proofs.YtdaffedbboofjaaGreatDoor.S
