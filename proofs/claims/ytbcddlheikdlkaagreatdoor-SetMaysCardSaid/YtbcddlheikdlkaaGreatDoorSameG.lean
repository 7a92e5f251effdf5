import Derived.Test.YtbcddlheikdlkaaGreatDoorPipeG
import Derived.BigRegion
import Derived.Test.YtbcddlheikdlkaaGreatDoorTmplG
import Derived.Deep.RegionHeld3
/-
  THE WALK of SamePipe where the rows are alike.
-/
set_option linter.unusedVariables false
set_option linter.unusedSimpArgs false
namespace Go.Proofs.YtbcddlheikdlkaaGreatDoor.S
open Go.RowKit

theorem flatn_get {α : Type} (f : α → List Value) (m : Nat) (hf : ∀ z, (f z).length = m) : ∀ (zs : List α) (k : Nat) (h : k < zs.length) (r : Nat), r < m → (zs.flatMap f)[k * m + r]? = (f zs[k])[r]?
  | z :: zs, 0, _, r, hr => by
    rw [List.flatMap_cons, Nat.zero_mul, Nat.zero_add, List.getElem?_append_left (by rw [hf]; exact hr)]
    rfl
  | z :: zs, k + 1, h, r, hr => by
    have ih := flatn_get f m hf zs k (by simpa using h) r hr
    rw [List.flatMap_cons, List.getElem?_append_right (by rw [hf, Nat.add_mul]; omega)]
    have e : (k + 1) * m + r - (f z).length = k * m + r := by rw [hf, Nat.add_mul]; omega
    rw [e, ih]
    rfl
theorem own_form {base e size n : Nat} {v : Value} {xs : List Value} {w : World} (h : w.ownsRow base e size v n xs) (hn : 0 < n) : ∃ b cap, v = .slice (some ⟨b, 0, none⟩) n cap ∧ base ≤ b ∧ n ≤ cap := by
  rcases h.2 with ⟨rfl, h0⟩ | ⟨g, cap, cur, rfl, hb, _, hc, _⟩
  · omega
  · exact ⟨g, cap, rfl, hb, hc⟩
theorem own_len {base e size n : Nat} {v : Value} {xs : List Value} {w : World} (h : w.ownsRow base e size v n xs) : n ≤ 9223372036854775807 := by
  rcases h.2 with ⟨rfl, h0⟩ | ⟨g, cap, cur, rfl, hb, _, hc, hm, _⟩
  · omega
  · simp only [maxLen] at hm; omega
theorem Cms.at {base : Nat} {v : Value} {ds : List Cm} {w : World} (h : Cms base v ds w) (k : Nat) (hk : k < ds.length) : ∃ b cap av, v = .slice (some ⟨b, 0, none⟩) ds.length cap ∧ ds.length ≤ cap ∧
    w.cell? ⟨b, k * 2, none⟩ = some (.string ⟨ds[k].fn.toArray⟩) ∧ w.cell? ⟨b, k * 2 + 1, none⟩ = some av ∧ Ars base av ds[k].args w := by
  obtain ⟨zs, rfl, hr, hp⟩ := h
  rw [List.length_map] at hk
  obtain ⟨b, cap, rfl, -, hc⟩ := own_form hr (by omega)
  have e : (zs.map Prod.fst)[k]'(by rw [List.length_map]; exact hk) = zs[k].1 := by simp
  simp only [e]
  refine ⟨b, cap, zs[k].2, by rw [List.length_map], by rw [List.length_map]; exact hc, ?_, ?_, hp _ (List.getElem_mem hk)⟩
  · exact (World.ownsRow.cellAt hr (k * 2 + 0) (by omega)).trans (flatn_get _ 2 (fun _ => rfl) zs k hk 0 (by omega))
  · exact (World.ownsRow.cellAt hr (k * 2 + 1) (by omega)).trans (flatn_get _ 2 (fun _ => rfl) zs k hk 1 (by omega))
theorem Ars.at {base : Nat} {v : Value} {ds : List Ar} {w : World} (h : Ars base v ds w) (k : Nat) (hk : k < ds.length) : ∃ b cap pv, v = .slice (some ⟨b, 0, none⟩) ds.length cap ∧ ds.length ≤ cap ∧
    w.cell? ⟨b, k * 5, none⟩ = some (.int .i64 ds[k].kind) ∧ w.cell? ⟨b, k * 5 + 1, none⟩ = some (.string ⟨ds[k].name.toArray⟩) ∧ w.cell? ⟨b, k * 5 + 2, none⟩ = some pv ∧ w.cell? ⟨b, k * 5 + 3, none⟩ = some (.int .i64 ds[k].num) ∧ w.cell? ⟨b, k * 5 + 4, none⟩ = some (.string ⟨ds[k].text.toArray⟩) ∧ Txs base pv ds[k].path w := by
  obtain ⟨zs, rfl, hr, hp⟩ := h
  rw [List.length_map] at hk
  obtain ⟨b, cap, rfl, -, hc⟩ := own_form hr (by omega)
  have e : (zs.map Prod.fst)[k]'(by rw [List.length_map]; exact hk) = zs[k].1 := by simp
  simp only [e]
  refine ⟨b, cap, zs[k].2, by rw [List.length_map], by rw [List.length_map]; exact hc, ?_, ?_, ?_, ?_, ?_, hp _ (List.getElem_mem hk)⟩
  · exact (World.ownsRow.cellAt hr (k * 5 + 0) (by omega)).trans (flatn_get _ 5 (fun _ => rfl) zs k hk 0 (by omega))
  · exact (World.ownsRow.cellAt hr (k * 5 + 1) (by omega)).trans (flatn_get _ 5 (fun _ => rfl) zs k hk 1 (by omega))
  · exact (World.ownsRow.cellAt hr (k * 5 + 2) (by omega)).trans (flatn_get _ 5 (fun _ => rfl) zs k hk 2 (by omega))
  · exact (World.ownsRow.cellAt hr (k * 5 + 3) (by omega)).trans (flatn_get _ 5 (fun _ => rfl) zs k hk 3 (by omega))
  · exact (World.ownsRow.cellAt hr (k * 5 + 4) (by omega)).trans (flatn_get _ 5 (fun _ => rfl) zs k hk 4 (by omega))
theorem Cms.len_le {base : Nat} {v : Value} {ds : List Cm} {w : World} (h : Cms base v ds w) : ds.length ≤ 9223372036854775807 := by
  obtain ⟨zs, rfl, hr, hp⟩ := h
  rw [List.length_map]
  exact own_len hr
theorem Ars.len_le {base : Nat} {v : Value} {ds : List Ar} {w : World} (h : Ars base v ds w) : ds.length ≤ 9223372036854775807 := by
  obtain ⟨zs, rfl, hr, hp⟩ := h
  rw [List.length_map]
  exact own_len hr
theorem sameTexts_none (a1 a2 : Option Addr) (c1 c2 : Nat) (w : World) :
    Calls Tryz.prog 65 #[.slice a1 0 c1, .slice a2 0 c2] w fun e w' => e = .returned (.bool true) ∧ ∃ m, w' = w.drewN m := by
  go_enter Tryz.func65, Tryz.ntmps65
  go_wp2
  go_loopg [5] 0 (fun gk v5 wr => v5 = .int .i64 0 ∧ wr = w)
  case atStart => exact ⟨rfl, rfl⟩
  case round =>
    obtain ⟨rfl, rfl⟩ := hrel
    go_wp2
    go_ret
    exact ⟨rfl, 0, rfl⟩
theorem sameTexts_t (b1 b2 : Nat) (v u : Value) (xs : List (List UInt8)) (w : World) (hP : Txs b1 v xs w) (hQ : Txs b2 u xs w) :
    Calls Tryz.prog 65 #[v, u] w fun e w' => e = .returned (.bool true) ∧ ∃ m, w' = w.drewN m := by
  rcases Nat.eq_zero_or_pos xs.length with h0 | h0
  · obtain ⟨a1, c1, rfl⟩ := hP.slice
    obtain ⟨a2, c2, rfl⟩ := hQ.slice
    rw [h0]
    exact sameTexts_none a1 a2 c1 c2 w
  · rcases hP with ⟨rfl, _⟩ | hP
    · cases h0
    · rcases hQ with ⟨rfl, _⟩ | hQ
      · cases h0
      · exact sameTexts_q b1 b2 v u xs w hP hQ
theorem Txs.drewN {base : Nat} {v : Value} {xs : List (List UInt8)} {w : World} (h : Txs base v xs w) (n : Nat) : Txs base v xs (w.drewN n) := h.below (Below.drewN (Below.refl _ _) n)
theorem two_new (W : World) (a b : Array Value) (T : TypeId) : Blk W.heap.size T a.toList ((W.alloc (.cells a T)).alloc (.cells b T)).drew ∧ Blk (W.heap.size + 1) T b.toList ((W.alloc (.cells a T)).alloc (.cells b T)).drew ∧ Below W.heap.size W ((W.alloc (.cells a T)).alloc (.cells b T)).drew := by
  have h1 : Blk W.heap.size T a.toList (W.alloc (.cells a T)) := Blk.new W _ _
  have z1 : (W.alloc (.cells a T)).heap.size = W.heap.size + 1 := by simp
  have b1 := (Below.refl W.heap.size W).alloc (Nat.le_refl _) (.cells a T)
  generalize W.alloc (.cells a T) = w1 at *
  have h2 : Blk w1.heap.size T b.toList (w1.alloc (.cells b T)) := Blk.new w1 _ _
  have b2 := (Below.refl w1.heap.size w1).alloc (Nat.le_refl _) (.cells b T)
  rw [z1] at h2
  exact ⟨(h1.below b2).below (Below.refl _ _).drew, h2.below (Below.refl _ _).drew, (b1.trans (b2.mono (by omega))).drew⟩
theorem cell_lt {W : World} {p : Addr} {x : Value} (h : W.cell? p = some x) : p.block < W.heap.size := by
  refine Nat.lt_of_not_le fun hle => ?_
  unfold World.cell? at h
  rw [Array.getElem?_eq_none hle] at h
  cases h
theorem cell_keep {W W' : World} (hb : Below W.heap.size W W') {p : Addr} {x : Value} (h : W.cell? p = some x) : W'.cell? p = some x := by
  refine (hb.cell ?_).trans h
  refine Nat.lt_of_not_le fun hle => ?_
  unfold World.cell? at h
  rw [Array.getElem?_eq_none hle] at h
  cases h
set_option maxRecDepth 100000 in
set_option maxHeartbeats 8000000 in
theorem samePipe_calls (b1 b2 : Nat) (v u : Value) (ds : List Cm) (w : World) (hP : Cms b1 v ds w) (hQ : Cms b2 u ds w) :
    Calls Tryz.prog 30 #[v, u] w fun e w' => e = .returned (.bool true) ∧ Below w.heap.size w w' := by
  obtain ⟨sa, sc, rfl⟩ := hP.slice
  obtain ⟨ra, rc, rfl⟩ := hQ.slice
  have hpl := hP.len_le
  go_enter Tryz.func30, Tryz.ntmps30
  go_wp2
  go_loopg [5, 6, 7, 8] ds.length (fun gk v5 _ _ _ wr => ∃ k : Nat, k + gk = ds.length ∧ v5 = .int .i64 k ∧ Below w.heap.size w wr)
  case atStart => exact ⟨0, by omega, rfl, Below.refl _ _⟩
  case round =>
    obtain ⟨k, hkg, rfl, hbr⟩ := hrel
    have hPr := hP.below hbr
    have hQr := hQ.below hbr
    have HKG := Lib.hid hkg
    have hkl : k ≤ ds.length := by omega
    clear hkg
    by_cases hk : k < ds.length
    · obtain ⟨b, cap, av, hv, hcc, d0, d1, hA⟩ := hPr.at k hk
      obtain ⟨rfl, -, rfl⟩ := Value.slice.inj hv
      obtain ⟨b', cap', au, hv', hcc', e0, e1, hB⟩ := hQr.at k hk
      obtain ⟨rfl, -, rfl⟩ := Value.slice.inj hv'
      have hb : decide ((k : Int) < (ds.length : Int)) = true := decide_eq_true (by omega)
      obtain ⟨aa, ac, rfl⟩ := hA.slice
      obtain ⟨ba, bc, rfl⟩ := hB.slice
      have hal := hA.len_le
      generalize (⟨ds[k].fn.toArray⟩ : ByteArray) = x at *
      generalize ds[k].args = as' at *
      generalize hn : ds.length = n at *
      clear hv hv' hP hQ hPr hQr
      go_upto_region 6 with (fail)
      go_cut [45] (fun v45 wx => v45 = .bool false ∧ ∃ m, wx = wr.drewN m)
      case first =>
        go_quiet (fail)
        go_wp2_with fail
        go_meet
        exact ⟨by simp, _, rfl⟩
      case rest =>
      obtain ⟨rfl, m', rfl⟩ := hcut
      have hby := Below.drewN (Below.refl wr.heap.size wr) m'
      have hbr := hbr.trans (hby.mono hbr.size)
      have d1 := cell_keep hby d1
      have e1 := cell_keep hby e1
      have hA := hA.below hby
      have hB := hB.below hby
      clear d0 e0 hby
      generalize wr.drewN m' = wy at *
      go_wp2
      obtain ⟨gk0, rfl⟩ : ∃ g, g = gk := ⟨_, rfl⟩
      go_loopg [6, 7, 8] as'.length (fun gk v6 _ _ wi => ∃ j : Nat, j + gk = as'.length ∧ v6 = .int .i64 j ∧ Below wy.heap.size wy wi)
      case atStart => exact ⟨0, by omega, rfl, Below.refl _ _⟩
      case round =>
        obtain ⟨j, hjg, rfl, hbi⟩ := hrel
        have HJG := Lib.hid hjg
        have hjl : j ≤ as'.length := by omega
        clear hjg
        have c1 := cell_keep hbi d1
        have c2 := cell_keep hbi e1
        by_cases hj : j < as'.length
        · have hjb : decide ((j : Int) < (as'.length : Int)) = true := decide_eq_true (by omega)
          obtain ⟨g, gc, pv, hgv, hgc, f0, f1, f2, f3, f4, hT⟩ := (hA.below hbi).at j hj
          obtain ⟨rfl, -, rfl⟩ := Value.slice.inj hgv
          obtain ⟨g', gc', pu, hgv', hgc', f0', f1', f2', f3', f4', hT'⟩ := (hB.below hbi).at j hj
          obtain ⟨rfl, -, rfl⟩ := Value.slice.inj hgv'
          obtain ⟨pa, pc, rfl⟩ := hT.slice
          obtain ⟨pa', pc', rfl⟩ := hT'.slice
          have l1 : b < wr.heap.size := cell_lt c1
          have l2 : b' < wr.heap.size := cell_lt c2
          have l3 : g < wr.heap.size := cell_lt f0
          have l4 : g' < wr.heap.size := cell_lt f0'
          clear hgv hgv'
          go_upto_region 11 with (fail)
          generalize hxn : (⟨as'[j].name.toArray⟩ : ByteArray) = xn at *
          generalize hxt : (⟨as'[j].text.toArray⟩ : ByteArray) = xt at *
          have hR := fun W (h1 : Txs b1 (.slice pa as'[j].path.length pc) as'[j].path W) (h2 : Txs b2 (.slice pa' as'[j].path.length pc') as'[j].path W) => sameTexts_t _ _ _ _ as'[j].path W h1 h2
          generalize as'[j].path = pth at *
          generalize as'[j].kind = kd at *
          generalize as'[j].num = nm at *
          clear hxn hxt
          go_cut [7, 8] (fun v7 v8 wx => ∃ h1 h2 : Nat, v7 = .pointer (some ⟨h1, 0, none⟩) ∧ v8 = .pointer (some ⟨h2, 0, none⟩) ∧ Blk h1 87 [.int .i64 kd, .string xn, .slice pa pth.length pc, .int .i64 nm, .string xt] wx ∧ Blk h2 87 [.int .i64 kd, .string xn, .slice pa' pth.length pc', .int .i64 nm, .string xt] wx ∧ Below wr.heap.size wr wx)
          case first =>
            go_region
            · go_wp2_with fail
              go_meet
              exact ⟨_, _, rfl, rfl, (two_new wr _ _ _).1, (two_new wr _ _ _).2.1, (two_new wr _ _ _).2.2⟩
            · go_wp2_with fail
              go_meet
              exact ⟨_, _, rfl, rfl, (two_new wr _ _ _).2.1, (two_new wr _ _ _).1, (two_new wr _ _ _).2.2⟩
          case rest =>
          obtain ⟨q1, q2, rfl, rfl, hX, hY, hbx⟩ := hcut
          have hTx := (hT.below hbx)
          have hTy := (hT'.below hbx)
          have hbi2 := hbi.trans (hbx.mono hbi.size)
          have hR := hR _ hTx hTy
          have x0 := hX.cell 0 _ rfl
          have x1 := hX.cell 1 _ rfl
          have x2 := hX.cell 2 _ rfl
          have x3 := hX.cell 3 _ rfl
          have x4 := hX.cell 4 _ rfl
          have y0 := hY.cell 0 _ rfl
          have y1 := hY.cell 1 _ rfl
          have y2 := hY.cell 2 _ rfl
          have y3 := hY.cell 3 _ rfl
          have y4 := hY.cell 4 _ rfl
          clear hX hY hTx hTy hT hT' hbx f0 f1 f2 f3 f4 f0' f1' f2' f3' f4' c1 c2 hbi
          go_upto_region 12 with (fail)
          go_cut [105] (fun v105 wx => v105 = .bool false ∧ ∃ m, wx = wc.drewN m)
          case first =>
            go_wp2_with (go_at_call 65; refine hR.mono ?_; rintro e w' ⟨rfl, m, rfl⟩)
            go_meet
            exact ⟨rfl, _, rfl⟩
          case rest =>
          obtain ⟨rfl, m', rfl⟩ := hcut
          clear x0 x1 x2 x3 x4 y0 y1 y2 y3 y4 hR
          go_wp2
          go_roundg (gk - 1)
          case measure => have := HJG.out; omega
          case rel => exact ⟨j + 1, by have := HJG.out; omega, by go_num, Below.drewN hbi2 m'⟩
        · have hjb : decide ((j : Int) < (as'.length : Int)) = false := decide_eq_false (by omega)
          have hbo := hbr.trans (hbi.mono hbr.size)
          go_wp2
          go_roundg (gk0 - 1)
          case measure => have := HKG.out; omega
          case rel => exact ⟨k + 1, by have := HKG.out; omega, by go_num, hbo⟩
    · have hb : decide ((k : Int) < (ds.length : Int)) = false := decide_eq_false (by omega)
      go_wp2
      go_ret
      exact ⟨rfl, hbr⟩
end Go.Proofs.YtbcddlheikdlkaaGreatDoor.S
/-
  THE WALK of SameItems where the rows are alike.
-/
set_option linter.unusedVariables false
set_option linter.unusedSimpArgs false
namespace Go.Proofs.YtbcddlheikdlkaaGreatDoor.S
open Go.RowKit
variable {base : Nat} {F F' : Nat → Prop} {v : Value} {is : List It} {W W' : World}

theorem Its.at (h : Its base F W v is) (k : Nat) (hk : k < is.length) : ∃ b cap pv tv ev, v = .slice (some ⟨b, 0, none⟩) is.length cap ∧ is.length ≤ cap ∧
    W.cell? ⟨b, k * 5, none⟩ = some (.int .i64 is[k].kind) ∧ W.cell? ⟨b, k * 5 + 1, none⟩ = some (.string ⟨is[k].text.toArray⟩) ∧ W.cell? ⟨b, k * 5 + 2, none⟩ = some pv ∧ W.cell? ⟨b, k * 5 + 3, none⟩ = some tv ∧ W.cell? ⟨b, k * 5 + 4, none⟩ = some ev ∧
    Cms base pv is[k].pipe W ∧ Its base F W tv is[k].th ∧ Its base F W ev is[k].el := by
  cases h with
  | mk _ zs hr hF hp ht he =>
    rw [List.length_map] at hk
    obtain ⟨b, cap, rfl, -, hc⟩ := own_form hr (by omega)
    have e : (zs.map Ic.it)[k]'(by rw [List.length_map]; exact hk) = zs[k].it := by simp
    simp only [e]
    refine ⟨b, cap, zs[k].pv, zs[k].tv, zs[k].ev, by rw [List.length_map], by rw [List.length_map]; exact hc, ?_, ?_, ?_, ?_, ?_, hp _ (List.getElem_mem hk), ht _ (List.getElem_mem hk), he _ (List.getElem_mem hk)⟩
    · exact (World.ownsRow.cellAt hr (k * 5 + 0) (by omega)).trans (flatn_get _ 5 (fun _ => rfl) zs k hk 0 (by omega))
    · exact (World.ownsRow.cellAt hr (k * 5 + 1) (by omega)).trans (flatn_get _ 5 (fun _ => rfl) zs k hk 1 (by omega))
    · exact (World.ownsRow.cellAt hr (k * 5 + 2) (by omega)).trans (flatn_get _ 5 (fun _ => rfl) zs k hk 2 (by omega))
    · exact (World.ownsRow.cellAt hr (k * 5 + 3) (by omega)).trans (flatn_get _ 5 (fun _ => rfl) zs k hk 3 (by omega))
    · exact (World.ownsRow.cellAt hr (k * 5 + 4) (by omega)).trans (flatn_get _ 5 (fun _ => rfl) zs k hk 4 (by omega))
theorem Its.len_le (h : Its base F W v is) : is.length ≤ 9223372036854775807 := by
  cases h with
  | mk _ zs hr hF hp ht he => rw [List.length_map]; exact own_len hr
theorem it_th (i : It) : SizeOf.sizeOf i.th < SizeOf.sizeOf i := by cases i; simp [It.th]; omega
theorem it_el (i : It) : SizeOf.sizeOf i.el < SizeOf.sizeOf i := by cases i; simp [It.el]; omega
set_option maxRecDepth 100000 in
set_option maxHeartbeats 16000000 in
theorem sameItems_n : ∀ (N : Nat) (is : List It), SizeOf.sizeOf is ≤ N → ∀ (b1 b2 : Nat) (F1 F2 : Nat → Prop) (v u : Value) (w : World), Its b1 F1 w v is → Its b2 F2 w u is →
    Calls Tryz.prog 10 #[v, u] w fun e w' => e = .returned (.bool true) ∧ Below w.heap.size w w' := by
  intro N
  induction N with
  | zero =>
    intro is hN
    cases is <;> simp at hN
  | succ N ih =>
  intro is hN b1 b2 F1 F2 v u w hP hQ
  have IH := Lib.hid (fun (k : Nat) (h : k < is.length) => (⟨fun b1 b2 F1 F2 v u w => ih is[k].th (by have h1 := List.sizeOf_lt_of_mem (List.getElem_mem h); have h2 := it_th is[k]; omega) b1 b2 F1 F2 v u w, fun b1 b2 F1 F2 v u w => ih is[k].el (by have h1 := List.sizeOf_lt_of_mem (List.getElem_mem h); have h2 := it_el is[k]; omega) b1 b2 F1 F2 v u w⟩ : (∀ (b1 b2 : Nat) (F1 F2 : Nat → Prop) (v u : Value) (w : World), Its b1 F1 w v is[k].th → Its b2 F2 w u is[k].th → Calls Tryz.prog 10 #[v, u] w fun e w' => e = .returned (.bool true) ∧ Below w.heap.size w w') ∧ (∀ (b1 b2 : Nat) (F1 F2 : Nat → Prop) (v u : Value) (w : World), Its b1 F1 w v is[k].el → Its b2 F2 w u is[k].el → Calls Tryz.prog 10 #[v, u] w fun e w' => e = .returned (.bool true) ∧ Below w.heap.size w w')))
  clear ih hN
  obtain ⟨sa, sc, rfl⟩ := hP.slice
  obtain ⟨ra, rc, rfl⟩ := hQ.slice
  have hpl := hP.len_le
  go_enter Tryz.func10, Tryz.ntmps10
  go_wp2
  go_loopg [5] is.length (fun gk v5 wr => ∃ k : Nat, k + gk = is.length ∧ v5 = .int .i64 k ∧ Below w.heap.size w wr)
  case atStart => exact ⟨0, by omega, rfl, Below.refl _ _⟩
  case round =>
    obtain ⟨k, hkg, rfl, hbr⟩ := hrel
    have hPr := hP.blw hbr
    have hQr := hQ.blw hbr
    have HKG := Lib.hid hkg
    have hkl : k ≤ is.length := by omega
    clear hkg
    by_cases hk : k < is.length
    · obtain ⟨b, cap, pv, tv, ev, hv, hcc, d0, d1, d2, d3, d4, hp1, ht1, he1⟩ := hPr.at k hk
      obtain ⟨rfl, -, rfl⟩ := Value.slice.inj hv
      obtain ⟨b', cap', pu, tu, eu, hv', hcc', e0, e1, e2, e3, e4, hp2, ht2, he2⟩ := hQr.at k hk
      obtain ⟨rfl, -, rfl⟩ := Value.slice.inj hv'
      have hb : decide ((k : Int) < (is.length : Int)) = true := decide_eq_true (by omega)
      obtain ⟨iht, ihe⟩ := IH.out k hk
      have hC1 := fun W (h : Below wr.heap.size wr W) => (samePipe_calls b1 b2 pv pu _ W (hp1.below h) (hp2.below h)).mono (fun e w' (hw : e = .returned (.bool true) ∧ Below W.heap.size W w') => (⟨hw.1, h.trans (hw.2.mono h.size)⟩ : e = .returned (.bool true) ∧ Below wr.heap.size wr w'))
      have hC2 := fun W (h : Below wr.heap.size wr W) => (iht b1 b2 F1 F2 tv tu W (ht1.blw h) (ht2.blw h)).mono (fun e w' (hw : e = .returned (.bool true) ∧ Below W.heap.size W w') => (⟨hw.1, h.trans (hw.2.mono h.size)⟩ : e = .returned (.bool true) ∧ Below wr.heap.size wr w'))
      have hC3 := fun W (h : Below wr.heap.size wr W) => (ihe b1 b2 F1 F2 ev eu W (he1.blw h) (he2.blw h)).mono (fun e w' (hw : e = .returned (.bool true) ∧ Below W.heap.size W w') => (⟨hw.1, h.trans (hw.2.mono h.size)⟩ : e = .returned (.bool true) ∧ Below wr.heap.size wr w'))
      obtain ⟨pa, pc, rfl⟩ := hp1.slice
      obtain ⟨pa', pc', rfl⟩ := hp2.slice
      obtain ⟨ta, tc, rfl⟩ := ht1.slice
      obtain ⟨ta', tc', rfl⟩ := ht2.slice
      obtain ⟨ea, ec, rfl⟩ := he1.slice
      obtain ⟨ea', ec', rfl⟩ := he2.slice
      have HK := Lib.hid (fun (W : World) (h : Below wr.heap.size wr W) => (⟨h, cell_keep h d0, cell_keep h d1, cell_keep h d2, cell_keep h d3, cell_keep h d4, cell_keep h e0, cell_keep h e1, cell_keep h e2, cell_keep h e3, cell_keep h e4⟩ : Below wr.heap.size wr W ∧ _ ∧ _ ∧ _ ∧ _ ∧ _ ∧ _ ∧ _ ∧ _ ∧ _ ∧ _))
      generalize is[k].pipe.length = pn at *
      generalize is[k].th.length = tn at *
      generalize is[k].el.length = en at *
      generalize is[k].kind = kd at *
      generalize (⟨is[k].text.toArray⟩ : ByteArray) = tx at *
      have hbw : Below wr.heap.size wr wr := Below.refl _ _
      clear hv hv' hp1 hp2 ht1 ht2 he1 he2 hP hQ hPr hQr iht ihe IH
      go_upto_region 6 with (fail)
      go_cut [82] (fun v82 wx => v82 = .bool false ∧ Below wr.heap.size wr wx)
      case first =>
        have HC1 := Lib.hid hC1
        have HC2 := Lib.hid hC2
        have HC3 := Lib.hid hC3
        clear hC1 hC2 hC3
        have HC := Lib.hid (fun (x y : Value) (W : World) (hxy : (x = .slice ta tn tc ∧ y = .slice ta' tn tc') ∨ (x = .slice ea en ec ∧ y = .slice ea' en ec')) (h : Below wr.heap.size wr W) => (show Calls Tryz.prog 10 #[x, y] W fun e w' => e = .returned (.bool true) ∧ Below wr.heap.size wr w' by
          rcases hxy with ⟨rfl, rfl⟩ | ⟨rfl, rfl⟩
          · exact HC2.out W h
          · exact HC3.out W h))
        clear HC2 HC3
        simp only [List.append_eq, List.cons_append, List.nil_append]
        go_region_held3 (fun w' => Below wr.heap.size wr w' ∧ w'.cell? ⟨b, k * 5, none⟩ = some (.int .i64 kd) ∧ w'.cell? ⟨b, k * 5 + 1, none⟩ = some (.string tx) ∧ w'.cell? ⟨b, k * 5 + 2, none⟩ = some (.slice pa pn pc) ∧ w'.cell? ⟨b, k * 5 + 3, none⟩ = some (.slice ta tn tc) ∧ w'.cell? ⟨b, k * 5 + 4, none⟩ = some (.slice ea en ec) ∧ w'.cell? ⟨b', k * 5, none⟩ = some (.int .i64 kd) ∧ w'.cell? ⟨b', k * 5 + 1, none⟩ = some (.string tx) ∧ w'.cell? ⟨b', k * 5 + 2, none⟩ = some (.slice pa' pn pc') ∧ w'.cell? ⟨b', k * 5 + 3, none⟩ = some (.slice ta' tn tc') ∧ w'.cell? ⟨b', k * 5 + 4, none⟩ = some (.slice ea' en ec'))
          (first | exact HK.out _ (by assumption) | exact HK.out _ (Below.drew (by assumption)))
          (first | (go_at_call 30; obtain ⟨hbq, -⟩ := ‹Below wr.heap.size wr _ ∧ _›; refine (HC1.out _ hbq).mono ?_; rintro e w' ⟨rfl, hbn⟩) | (go_at_call 10; obtain ⟨hbq, -⟩ := ‹Below wr.heap.size wr _ ∧ _›; refine (HC.out _ _ _ (by first | exact .inl ⟨rfl, rfl⟩ | exact .inr ⟨rfl, rfl⟩) hbq).mono ?_; rintro e w' ⟨rfl, hbn⟩))
        go_wp2_with fail
        go_meet
        exact ⟨by first | rfl | simp, by first | assumption | exact Below.drew (by assumption)⟩
      case rest =>
      obtain ⟨rfl, hbx⟩ := hcut
      have hbo := hbr.trans (hbx.mono hbr.size)
      clear d0 d1 d2 d3 d4 e0 e1 e2 e3 e4 hC1 hC2 hC3
      go_wp2
      go_roundg (gk - 1)
      case measure => have := HKG.out; omega
      case rel => exact ⟨k + 1, by have := HKG.out; omega, by go_num, hbo⟩
    · have hb : decide ((k : Int) < (is.length : Int)) = false := decide_eq_false (by omega)
      clear IH
      go_wp2
      go_ret
      exact ⟨rfl, hbr⟩
end Go.Proofs.YtbcddlheikdlkaaGreatDoor.S
