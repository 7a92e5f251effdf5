/-
  THE WALK of SameItems where the rows are alike.
-/
import Derived.Test.YtdaffedbboofjaaGreatDoorSameP
import Derived.Test.YtdaffedbboofjaaGreatDoorItMem
import Derived.Deep.RegionHeld3
set_option linter.unusedVariables false
set_option linter.unusedSimpArgs false
namespace Go.Proofs.YtdaffedbboofjaaGreatDoor.S
open Go.RowKit
variable {base : Nat} {F F' : Nat → Prop} {v : Value} {is : List It} {W W' : World}

theorem Its.at (h : Its base F W v is) (k : Nat) (hk : k < is.length) : ∃ b cap pv tv ev, v = .slice (some ⟨b, 0, none⟩) is.length cap ∧ is.length ≤ cap ∧
    W.cell? ⟨b, k * 5, none⟩ = some (.int .i64 is[k].kind) ∧ W.cell? ⟨b, k * 5 + 1, none⟩ = some (.string ⟨is[k].text.toArray⟩) ∧ W.cell? ⟨b, k * 5 + 2, none⟩ = some pv ∧ W.cell? ⟨b, k * 5 + 3, none⟩ = some tv ∧ W.cell? ⟨b, k * 5 + 4, none⟩ = some ev ∧
    Cms base pv is[k].pipe W ∧ Its base F W tv is[k].th ∧ Its base F W ev is[k].el := by
  cases h with
  | mk _ zs hr hF hp ht he =>
    rw [List.length_map] at hk
    obtain ⟨b, cap, rfl, -, hc⟩ := own_form hr (by omega)
    have e : (zs.map Ic.it)[k]'(by rw [List.length_map]; exact hk) = zs[k].it := by simp
    simp only [e]
    refine ⟨b, cap, zs[k].pv, zs[k].tv, zs[k].ev, by rw [List.length_map], by rw [List.length_map]; exact hc, ?_, ?_, ?_, ?_, ?_, hp _ (List.getElem_mem hk), ht _ (List.getElem_mem hk), he _ (List.getElem_mem hk)⟩
    · exact (World.ownsRow.cellAt hr (k * 5 + 0) (by omega)).trans (flatn_get _ 5 (fun _ => rfl) zs k hk 0 (by omega))
    · exact (World.ownsRow.cellAt hr (k * 5 + 1) (by omega)).trans (flatn_get _ 5 (fun _ => rfl) zs k hk 1 (by omega))
    · exact (World.ownsRow.cellAt hr (k * 5 + 2) (by omega)).trans (flatn_get _ 5 (fun _ => rfl) zs k hk 2 (by omega))
    · exact (World.ownsRow.cellAt hr (k * 5 + 3) (by omega)).trans (flatn_get _ 5 (fun _ => rfl) zs k hk 3 (by omega))
    · exact (World.ownsRow.cellAt hr (k * 5 + 4) (by omega)).trans (flatn_get _ 5 (fun _ => rfl) zs k hk 4 (by omega))
theorem Its.len_le (h : Its base F W v is) : is.length ≤ 9223372036854775807 := by
  cases h with
  | mk _ zs hr hF hp ht he => rw [List.length_map]; exact own_len hr
theorem it_th (i : It) : SizeOf.sizeOf i.th < SizeOf.sizeOf i := by cases i; simp [It.th]; omega
theorem it_el (i : It) : SizeOf.sizeOf i.el < SizeOf.sizeOf i := by cases i; simp [It.el]; omega
set_option maxRecDepth 100000 in
set_option maxHeartbeats 16000000 in
theorem sameItems_n : ∀ (N : Nat) (is : List It), SizeOf.sizeOf is ≤ N → ∀ (b1 b2 : Nat) (F1 F2 : Nat → Prop) (v u : Value) (w : World), Its b1 F1 w v is → Its b2 F2 w u is →
    Calls Tryz.prog 14 #[v, u] w fun e w' => e = .returned (.bool true) ∧ Below w.heap.size w w' := by
  intro N
  induction N with
  | zero =>
    intro is hN
    cases is <;> simp at hN
  | succ N ih =>
  intro is hN b1 b2 F1 F2 v u w hP hQ
  have IH := Lib.hid (fun (k : Nat) (h : k < is.length) => (⟨fun b1 b2 F1 F2 v u w => ih is[k].th (by have h1 := List.sizeOf_lt_of_mem (List.getElem_mem h); have h2 := it_th is[k]; omega) b1 b2 F1 F2 v u w, fun b1 b2 F1 F2 v u w => ih is[k].el (by have h1 := List.sizeOf_lt_of_mem (List.getElem_mem h); have h2 := it_el is[k]; omega) b1 b2 F1 F2 v u w⟩ : (∀ (b1 b2 : Nat) (F1 F2 : Nat → Prop) (v u : Value) (w : World), Its b1 F1 w v is[k].th → Its b2 F2 w u is[k].th → Calls Tryz.prog 14 #[v, u] w fun e w' => e = .returned (.bool true) ∧ Below w.heap.size w w') ∧ (∀ (b1 b2 : Nat) (F1 F2 : Nat → Prop) (v u : Value) (w : World), Its b1 F1 w v is[k].el → Its b2 F2 w u is[k].el → Calls Tryz.prog 14 #[v, u] w fun e w' => e = .returned (.bool true) ∧ Below w.heap.size w w')))
  clear ih hN
  obtain ⟨sa, sc, rfl⟩ := hP.slice
  obtain ⟨ra, rc, rfl⟩ := hQ.slice
  have hpl := hP.len_le
  go_enter Tryz.func14, Tryz.ntmps14
  go_wp2
  go_loopg [5] is.length (fun gk v5 wr => ∃ k : Nat, k + gk = is.length ∧ v5 = .int .i64 k ∧ Below w.heap.size w wr)
  case atStart => exact ⟨0, by omega, rfl, Below.refl _ _⟩
  case round =>
    obtain ⟨k, hkg, rfl, hbr⟩ := hrel
    have hPr := hP.blw hbr
    have hQr := hQ.blw hbr
    have HKG := Lib.hid hkg
    have hkl : k ≤ is.length := by omega
    clear hkg
    by_cases hk : k < is.length
    · obtain ⟨b, cap, pv, tv, ev, hv, hcc, d0, d1, d2, d3, d4, hp1, ht1, he1⟩ := hPr.at k hk
      obtain ⟨rfl, -, rfl⟩ := Value.slice.inj hv
      obtain ⟨b', cap', pu, tu, eu, hv', hcc', e0, e1, e2, e3, e4, hp2, ht2, he2⟩ := hQr.at k hk
      obtain ⟨rfl, -, rfl⟩ := Value.slice.inj hv'
      have hb : decide ((k : Int) < (is.length : Int)) = true := decide_eq_true (by omega)
      obtain ⟨iht, ihe⟩ := IH.out k hk
      have hC1 := fun W (h : Below wr.heap.size wr W) => (samePipe_calls b1 b2 pv pu _ W (hp1.below h) (hp2.below h)).mono (fun e w' (hw : e = .returned (.bool true) ∧ Below W.heap.size W w') => (⟨hw.1, h.trans (hw.2.mono h.size)⟩ : e = .returned (.bool true) ∧ Below wr.heap.size wr w'))
      have hC2 := fun W (h : Below wr.heap.size wr W) => (iht b1 b2 F1 F2 tv tu W (ht1.blw h) (ht2.blw h)).mono (fun e w' (hw : e = .returned (.bool true) ∧ Below W.heap.size W w') => (⟨hw.1, h.trans (hw.2.mono h.size)⟩ : e = .returned (.bool true) ∧ Below wr.heap.size wr w'))
      have hC3 := fun W (h : Below wr.heap.size wr W) => (ihe b1 b2 F1 F2 ev eu W (he1.blw h) (he2.blw h)).mono (fun e w' (hw : e = .returned (.bool true) ∧ Below W.heap.size W w') => (⟨hw.1, h.trans (hw.2.mono h.size)⟩ : e = .returned (.bool true) ∧ Below wr.heap.size wr w'))
      obtain ⟨pa, pc, rfl⟩ := hp1.slice
      obtain ⟨pa', pc', rfl⟩ := hp2.slice
      obtain ⟨ta, tc, rfl⟩ := ht1.slice
      obtain ⟨ta', tc', rfl⟩ := ht2.slice
      obtain ⟨ea, ec, rfl⟩ := he1.slice
      obtain ⟨ea', ec', rfl⟩ := he2.slice
      have HK := Lib.hid (fun (W : World) (h : Below wr.heap.size wr W) => (⟨h, cell_keep h d0, cell_keep h d1, cell_keep h d2, cell_keep h d3, cell_keep h d4, cell_keep h e0, cell_keep h e1, cell_keep h e2, cell_keep h e3, cell_keep h e4⟩ : Below wr.heap.size wr W ∧ _ ∧ _ ∧ _ ∧ _ ∧ _ ∧ _ ∧ _ ∧ _ ∧ _ ∧ _))
      generalize is[k].pipe.length = pn at *
      generalize is[k].th.length = tn at *
      generalize is[k].el.length = en at *
      generalize is[k].kind = kd at *
      generalize (⟨is[k].text.toArray⟩ : ByteArray) = tx at *
      have hbw : Below wr.heap.size wr wr := Below.refl _ _
      clear hv hv' hp1 hp2 ht1 ht2 he1 he2 hP hQ hPr hQr iht ihe IH
      go_upto_region 6 with (fail)
      go_cut [82] (fun v82 wx => v82 = .bool false ∧ Below wr.heap.size wr wx)
      case first =>
        have HC1 := Lib.hid hC1
        have HC2 := Lib.hid hC2
        have HC3 := Lib.hid hC3
        clear hC1 hC2 hC3
        have HC := Lib.hid (fun (x y : Value) (W : World) (hxy : (x = .slice ta tn tc ∧ y = .slice ta' tn tc') ∨ (x = .slice ea en ec ∧ y = .slice ea' en ec')) (h : Below wr.heap.size wr W) => (show Calls Tryz.prog 14 #[x, y] W fun e w' => e = .returned (.bool true) ∧ Below wr.heap.size wr w' by
          rcases hxy with ⟨rfl, rfl⟩ | ⟨rfl, rfl⟩
          · exact HC2.out W h
          · exact HC3.out W h))
        clear HC2 HC3
        simp only [List.append_eq, List.cons_append, List.nil_append]
        go_region_held3 (fun w' => Below wr.heap.size wr w' ∧ w'.cell? ⟨b, k * 5, none⟩ = some (.int .i64 kd) ∧ w'.cell? ⟨b, k * 5 + 1, none⟩ = some (.string tx) ∧ w'.cell? ⟨b, k * 5 + 2, none⟩ = some (.slice pa pn pc) ∧ w'.cell? ⟨b, k * 5 + 3, none⟩ = some (.slice ta tn tc) ∧ w'.cell? ⟨b, k * 5 + 4, none⟩ = some (.slice ea en ec) ∧ w'.cell? ⟨b', k * 5, none⟩ = some (.int .i64 kd) ∧ w'.cell? ⟨b', k * 5 + 1, none⟩ = some (.string tx) ∧ w'.cell? ⟨b', k * 5 + 2, none⟩ = some (.slice pa' pn pc') ∧ w'.cell? ⟨b', k * 5 + 3, none⟩ = some (.slice ta' tn tc') ∧ w'.cell? ⟨b', k * 5 + 4, none⟩ = some (.slice ea' en ec'))
          (first | exact HK.out _ (by assumption) | exact HK.out _ (Below.drew (by assumption)))
          (first | (go_at_call 35; obtain ⟨hbq, -⟩ := ‹Below wr.heap.size wr _ ∧ _›; refine (HC1.out _ hbq).mono ?_; rintro e w' ⟨rfl, hbn⟩) | (go_at_call 14; obtain ⟨hbq, -⟩ := ‹Below wr.heap.size wr _ ∧ _›; refine (HC.out _ _ _ (by first | exact .inl ⟨rfl, rfl⟩ | exact .inr ⟨rfl, rfl⟩) hbq).mono ?_; rintro e w' ⟨rfl, hbn⟩))
        go_wp2_with fail
        go_meet
        exact ⟨by first | rfl | simp, by first | assumption | exact Below.drew (by assumption)⟩
      case rest =>
      obtain ⟨rfl, hbx⟩ := hcut
      have hbo := hbr.trans (hbx.mono hbr.size)
      clear d0 d1 d2 d3 d4 e0 e1 e2 e3 e4 hC1 hC2 hC3
      go_wp2
      go_roundg (gk - 1)
      case measure => have := HKG.out; omega
      case rel => exact ⟨k + 1, by have := HKG.out; omega, by go_num, hbo⟩
    · have hb : decide ((k : Int) < (is.length : Int)) = false := decide_eq_false (by omega)
      clear IH
      go_wp2
      go_ret
      exact ⟨rfl, hbr⟩
end Go.Proofs.YtdaffedbboofjaaGreatDoor.S
