/-
  THE WALK of the law SetMays (chapter 17).
-/
import Derived.Test.YtbcddlheikdlkaaGreatDoorPlainN6
import Derived.Test.YtbcddlheikdlkaaGreatDoorLaw17c
set_option linter.unusedVariables false
set_option linter.unusedSimpArgs false
namespace Go.Proofs.YtbcddlheikdlkaaGreatDoor.S
open Go.RowKit

theorem mask63c (c : Int) : ∃ n : Nat, n ≤ 63 ∧ bits .and .i64 c 63 = (n : Int) :=
  ⟨(c % 64).toNat, by omega, (i64_mask 6 (by decide) c).trans (by show c % 64 = _; omega)⟩
/-- the literal row of one leaf, where another block was written -/
theorem leaf_row (W : World) (g j : Nat) (x : Value) (k : Nat) (t : List UInt8) (hne : g ≠ W.heap.size) : Its 0 (fun _ => True) ((W.alloc (.cells #[.int .i64 k, .string ⟨t.toArray⟩, .slice none 0 0, .slice none 0 0, .slice none 0 0] 58)).setCell ⟨g, j, none⟩ x) (.slice (some ⟨W.heap.size, 0, none⟩) 1 1) [.mk k t [] [] []] := by
  have h : (W.alloc (.cells #[.int .i64 k, .string ⟨t.toArray⟩, .slice none 0 0, .slice none 0 0, .slice none 0 0] 58)).ownsRow W.heap.size 58 5 (.slice (some ⟨W.heap.size, 0, none⟩) 1 1) 1 [.int .i64 k, .string ⟨t.toArray⟩, .slice none 0 0, .slice none 0 0, .slice none 0 0] := World.ownsRow_lit W #[.int .i64 k, .string ⟨t.toArray⟩, .slice none 0 0, .slice none 0 0, .slice none 0 0] 1 (Nat.le_refl _) (by simp only [maxLen]; omega) rfl
  have h2 := own_set h (g := g) (by intro e; simp [Value.ownBlock] at e; exact hne e.symm) j x
  exact .mk (base := 0) (F := fun _ => True) _ [⟨.mk k t [] [] [], .slice none 0 0, .slice none 0 0, .slice none 0 0⟩] (h2.mono (Nat.zero_le _)) (fun _ _ => trivial) (fun z hz => by rw [List.mem_singleton.1 hz]; exact cms_nil _ _) (fun z hz => by rw [List.mem_singleton.1 hz]; exact its_nil _ _ _) (fun z hz => by rw [List.mem_singleton.1 hz]; exact its_nil _ _ _)
set_option maxRecDepth 100000 in
set_option maxHeartbeats 32000000 in
theorem setMays_calls (which x : Int) (w : World) (hE : Env w) :
    Calls Tryz.prog 7 #[.int .i64 which, .int .i64 x] w fun e w' => e = .returned (.bool true) ∧ Below w.heap.size w w' := by
  obtain ⟨n63, hn63, hx63⟩ := mask63c x
  obtain ⟨d, hd⟩ : ∃ d : Nat, (1 : Int) + (n63 : Int) = (d : Int) := ⟨1 + n63, by omega⟩
  have hd1 : 1 ≤ d := by omega
  have hd64 : d ≤ 64 := by omega
  have HE := Lib.hid hE
  go_enter Tryz.func7, Tryz.ntmps7
  go_upto_region 4 with (go_at_call 23; refine (awake17_calls _ hE).mono ?_; rintro e w1 ⟨rfl, hb1⟩)
  clear hE
  have HD := Lib.hid hd
  clear hd hx63
  have hbx := hb1.alloc hb1.size (.cells #[.string ⟨#[97]⟩, .string ⟨srcM.toArray⟩, .string ⟨#[98]⟩, .string ⟨#[117]⟩] 49)
  have HX := Lib.hid hbx
  have HC := Lib.hid (setRead_calls _ [([97], srcM), ([98], [117])] _ (HE.out.below HX.out) (tps_lit w1 #[.string ⟨#[97]⟩, .string ⟨srcM.toArray⟩, .string ⟨#[98]⟩, .string ⟨#[117]⟩] _ 2 rfl rfl (by decide) (small_names (by decide))))
  rw [rdM] at HC
  clear hbx hb1
  go_upto_region 5 with (go_at_call 16; refine HC.out.mono ?_; rintro e w2 ⟨hok, -, hb2⟩; obtain ⟨nv, rfl, hN⟩ := hok _ rfl; clear hok)
  have hbw := HX.out.trans (hb2.mono HX.out.size)
  have HN := Lib.hid (show NmO w.heap.size nv nsM w2 from ⟨hN.choose, hN.choose_spec.1, hN.choose_spec.2.1.mono HX.out.size, hN.choose_spec.2.2.1, hN.choose_spec.2.2.2.1, hN.choose_spec.2.2.2.2.1, fun z hz => Nat.le_trans HX.out.size (hN.choose_spec.2.2.2.2.2 z hz)⟩)
  have HM := Lib.hid (setMay_calls nv nsM w2 hN.v (fun n hn i hi => by
    simp only [nsM, List.mem_cons, List.not_mem_nil, or_false] at hn
    rcases hn with rfl | rfl
    · exact four_ok ok0 ok1 ok2 ok3 i hi
    · exact n1_ok i hi) (by decide))
  rw [mayM] at HM
  clear hN HC HX hb2
  obtain ⟨gN, cap, iv0, iv1, lo0, hi0, lo1, hi1, hO⟩ := NmO.open2 (n0 := ([97], isM)) (n1 := n1M) HN.out
  have hnv := hO.nv_eq
  subst hnv
  obtain ⟨sa, sc, hiv⟩ := hO.r0.slice
  have hiv : iv0 = .slice sa 4 sc := hiv
  subst hiv
  obtain ⟨zs, hzm, hr, hzc⟩ := hO.r0
  obtain ⟨g, rfl⟩ : ∃ g, sa = some ⟨g, 0, none⟩ := by
    rcases hr.2 with ⟨h1, -⟩ | ⟨g, c', cur, h1, -⟩
    · obtain ⟨-, h1, -⟩ := Value.slice.inj h1
      omega
    · obtain ⟨h1, -, -⟩ := Value.slice.inj h1
      exact ⟨g, h1⟩
  have hc0 := hO.c0
  have hc1 := hO.c1
  have hc2 := hO.c2
  have hc3 := hO.c3
  go_upto_region 7 with (first | (go_at_call 11; go_in) | (go_at_call 20; refine HM.out.mono ?_; rintro e w3 ⟨rfl, hb3⟩))
  have HN3 := Lib.hid (HN.out.below hb3)
  have hbw := hbw.trans (hb3.mono hbw.size)
  clear HM hO hzm hr hzc hc0 hc1 hc2 hc3 HN
  obtain ⟨gM, capM, iv0, iv1, lo0, hi0, lo1, hi1, hO⟩ := NmO.open2 (n0 := ([97], isM)) (n1 := n1M) HN3.out
  have hnv := hO.nv_eq
  obtain ⟨hg', -, hcap'⟩ := Value.slice.inj hnv
  obtain rfl : gN = gM := by injection hg' with hg'; injection hg'
  obtain rfl : cap = capM := hcap'
  clear hnv hg'
  obtain ⟨sa, sc, hiv⟩ := hO.r0.slice
  have hiv : iv0 = .slice sa 4 sc := hiv
  subst hiv
  obtain ⟨zs, hzm, hr, hzc⟩ := hO.r0
  obtain ⟨za, zb, zc, zd, rfl⟩ : ∃ a b c e, zs = [a, b, c, e] := by
    match zs, hzm with
    | [a, b, c, e], _ => exact ⟨a, b, c, e, rfl⟩
  obtain ⟨g, rfl⟩ : ∃ g, sa = some ⟨g, 0, none⟩ := by
    rcases hr.2 with ⟨h1, -⟩ | ⟨g, c', cur, h1, -⟩
    · obtain ⟨-, h1, -⟩ := Value.slice.inj h1
      omega
    · obtain ⟨h1, -, -⟩ := Value.slice.inj h1
      exact ⟨g, h1⟩
  have hzb : zb.it = i1M := by injection hzm with _ h; injection h
  have hpb := (hzc zb (by simp)).1
  rw [hzb] at hpb
  obtain ⟨pa, pc, hpv⟩ := hpb.slice
  have hpv : zb.pv = .slice pa 1 pc := hpv
  rw [hpv] at hpb
  have HPB := Lib.hid (show Cms lo0 (.slice pa 1 pc) dotP w3 from hpb)
  obtain ⟨-, hglt, cs, hcs⟩ := hO.r0.fact g rfl
  have hlo := Nat.lt_of_le_of_lt (hO.r0.fact g rfl).1 hglt
  have hBg : Blk g 58 cs.toList w3 := by unfold Blk; simpa using hcs
  obtain ⟨ds, hds⟩ := hO.typ
  have hBn : Blk gN 47 ds.toList w3 := by unfold Blk; simpa using hds
  have hglN : gN < w3.heap.size := hBn.lt
  have hc0 := hO.c0
  have hc1 := hO.c1
  have hc2 := hO.c2
  have hc3 := hO.c3
  have hn2 := hBn.free 2
  have y0 : w3.cell? ⟨g, 0, none⟩ = some (.int .i64 za.it.kind) := World.ownsRow.cellAt hr 0 (by simp)
  have fy0 := hBg.free 0
  have y1 : w3.cell? ⟨g, 1, none⟩ = some (.string ⟨za.it.text.toArray⟩) := World.ownsRow.cellAt hr 1 (by simp)
  have fy1 := hBg.free 1
  have y2 : w3.cell? ⟨g, 2, none⟩ = some (za.pv) := World.ownsRow.cellAt hr 2 (by simp)
  have fy2 := hBg.free 2
  have y3 : w3.cell? ⟨g, 3, none⟩ = some (za.tv) := World.ownsRow.cellAt hr 3 (by simp)
  have fy3 := hBg.free 3
  have y4 : w3.cell? ⟨g, 4, none⟩ = some (za.ev) := World.ownsRow.cellAt hr 4 (by simp)
  have fy4 := hBg.free 4
  have y5 : w3.cell? ⟨g, 5, none⟩ = some (.int .i64 zb.it.kind) := World.ownsRow.cellAt hr 5 (by simp)
  have fy5 := hBg.free 5
  have y6 : w3.cell? ⟨g, 6, none⟩ = some (.string ⟨zb.it.text.toArray⟩) := World.ownsRow.cellAt hr 6 (by simp)
  have fy6 := hBg.free 6
  have y7 : w3.cell? ⟨g, 7, none⟩ = some (zb.pv) := World.ownsRow.cellAt hr 7 (by simp)
  have fy7 := hBg.free 7
  have y8 : w3.cell? ⟨g, 8, none⟩ = some (zb.tv) := World.ownsRow.cellAt hr 8 (by simp)
  have fy8 := hBg.free 8
  have y9 : w3.cell? ⟨g, 9, none⟩ = some (zb.ev) := World.ownsRow.cellAt hr 9 (by simp)
  have fy9 := hBg.free 9
  have y10 : w3.cell? ⟨g, 10, none⟩ = some (.int .i64 zc.it.kind) := World.ownsRow.cellAt hr 10 (by simp)
  have fy10 := hBg.free 10
  have y11 : w3.cell? ⟨g, 11, none⟩ = some (.string ⟨zc.it.text.toArray⟩) := World.ownsRow.cellAt hr 11 (by simp)
  have fy11 := hBg.free 11
  have y12 : w3.cell? ⟨g, 12, none⟩ = some (zc.pv) := World.ownsRow.cellAt hr 12 (by simp)
  have fy12 := hBg.free 12
  have y13 : w3.cell? ⟨g, 13, none⟩ = some (zc.tv) := World.ownsRow.cellAt hr 13 (by simp)
  have fy13 := hBg.free 13
  have y14 : w3.cell? ⟨g, 14, none⟩ = some (zc.ev) := World.ownsRow.cellAt hr 14 (by simp)
  have fy14 := hBg.free 14
  have y15 : w3.cell? ⟨g, 15, none⟩ = some (.int .i64 zd.it.kind) := World.ownsRow.cellAt hr 15 (by simp)
  have fy15 := hBg.free 15
  have y16 : w3.cell? ⟨g, 16, none⟩ = some (.string ⟨zd.it.text.toArray⟩) := World.ownsRow.cellAt hr 16 (by simp)
  have fy16 := hBg.free 16
  have y17 : w3.cell? ⟨g, 17, none⟩ = some (zd.pv) := World.ownsRow.cellAt hr 17 (by simp)
  have fy17 := hBg.free 17
  have y18 : w3.cell? ⟨g, 18, none⟩ = some (zd.tv) := World.ownsRow.cellAt hr 18 (by simp)
  have fy18 := hBg.free 18
  have y19 : w3.cell? ⟨g, 19, none⟩ = some (zd.ev) := World.ownsRow.cellAt hr 19 (by simp)
  have fy19 := hBg.free 19
  rw [hpv] at y7
  have HO := Lib.hid hO
  obtain ⟨n, hn, hn16⟩ : ∃ n : Nat, (IntKind.u64.wrap which).tmod 17 = (n : Int) ∧ n ≤ 16 := by
    have h0 : 0 ≤ which % 18446744073709551616 := Int.emod_nonneg _ (by decide)
    refine ⟨((which % 18446744073709551616) % 17).toNat, ?_, by omega⟩
    rw [IntKind.wrap_u64, Int.tmod_eq_emod_of_nonneg h0]
    omega
  have hne1 : g ≠ w3.heap.size := by omega
  have hne2 : w3.heap.size ≠ g := by omega
  have hne3 : gN ≠ w3.heap.size := by omega
  have HBW := Lib.hid hbw
  clear hzm hr hzc hzb hpb hpv hcs hBg hds hBn hO hb3 hbw HE
  go_upto_block 0 with (fail)
  go_cut [6] (fun v6 wx => NoMay v6 w wx)
  case first =>
    have hr : n = 0 ∨ n = 1 ∨ n = 2 ∨ n = 3 ∨ n = 4 ∨ n = 5 ∨ n = 6 ∨ n = 7 ∨ n = 8 ∨ n = 9 ∨ n = 10 ∨ n = 11 ∨ n = 12 ∨ n = 13 ∨ n = 14 ∨ n = 15 ∨ n = 16 := by omega
    clear hn16
    rcases hr with rfl | rfl | rfl | rfl | rfl | rfl | rfl | rfl | rfl | rfl | rfl | rfl | rfl | rfl | rfl | rfl | rfl
    · have hn : (IntKind.u64.wrap which).tmod 17 = 0 := hn
      go_wp2
      go_meet
      exact NoMay.name (t := [97]) (by decide) m0 (HO.out.name [97]) (HBW.out.setCell HO.out.bN _)
    · have hn : (IntKind.u64.wrap which).tmod 17 = 1 := hn
      go_wp2
      go_meet
      exact NoMay.name (t := [99]) (by decide) m1 (HO.out.name [99]) (HBW.out.setCell HO.out.bN _)
    · have hn : (IntKind.u64.wrap which).tmod 17 = 2 := hn
      go_wp2
      go_meet
      exact NoMay.item (k := 0) (i' := (.mk 0 [] [] [] [])) m2 (leafP _ _ _ pOk_nil (by decide)) ((HO.out).item 0 1 (by decide) (by decide) (.string ⟨#[]⟩) ((.mk 0 [] [] [] [])) (fun kp z hz h1 h2 h3 => ⟨⟨(.mk 0 [] [] [] []), z.pv, z.tv, z.ev⟩, rfl, by simp [Ic.cells, hz, isM, i0M, i1M, i2M, i3M, It.kind, It.text], h1, h2, h3⟩)).1 ((HBW.out).setCell (Nat.le_trans HO.out.b0 (HO.out.r0.fact g rfl).1) _)
    · have hn : (IntKind.u64.wrap which).tmod 17 = 3 := hn
      obtain ⟨N8, hN8⟩ : ∃ N8 : Nat, N8 = 8 + d := ⟨_, rfl⟩
      have hNi : (8 : Int) + (d : Int) = (N8 : Int) := by omega
      have hNw : IntKind.i64.wrap (N8 : Int) = (N8 : Int) := IntWalk.i64_in _ (by omega)
      have HN8 := Lib.hid hN8
      have hNl : N8 ≤ 72 := by omega
      clear hN8
      go_wp2
      go_meet
      exact NoMay.item (k := 0) (i' := (.mk N8 [116] [] [] [])) (by rw [HN8.out]; exact m3 d hd1 hd64) (leafP _ _ _ pOk_nil (by decide)) ((HO.out).item 0 0 (by decide) (by decide) (.int .i64 N8) ((.mk N8 [116] [] [] [])) (fun kp z hz h1 h2 h3 => ⟨⟨(.mk N8 [116] [] [] []), z.pv, z.tv, z.ev⟩, rfl, by simp [Ic.cells, hz, isM, i0M, i1M, i2M, i3M, It.kind, It.text], h1, h2, h3⟩)).1 ((HBW.out).setCell (Nat.le_trans HO.out.b0 (HO.out.r0.fact g rfl).1) _)
    · have hn : (IntKind.u64.wrap which).tmod 17 = 4 := hn
      go_wp2
      go_meet
      exact NoMay.item (k := 0) (i' := (.mk 7 [116] [] [] [])) m4 (leafP _ _ _ pOk_nil (by decide)) ((HO.out).item 0 0 (by decide) (by decide) (.int .i64 7) ((.mk 7 [116] [] [] [])) (fun kp z hz h1 h2 h3 => ⟨⟨(.mk 7 [116] [] [] []), z.pv, z.tv, z.ev⟩, rfl, by simp [Ic.cells, hz, isM, i0M, i1M, i2M, i3M, It.kind, It.text], h1, h2, h3⟩)).1 ((HBW.out).setCell (Nat.le_trans HO.out.b0 (HO.out.r0.fact g rfl).1) _)
    · have hn : (IntKind.u64.wrap which).tmod 17 = 5 := hn
      go_wp2
      go_meet
      rw [← World.setCell_alloc_past _ g _ _ hglt]
      exact NoMay.item (k := 0) (i' := (.mk 0 [116] [] [.mk 0 [120] [] [] []] [])) m5 (.mk _ _ _ _ _ pOk_nil (by decide) (by decide) (one_ok (leafP _ _ _ pOk_nil (by decide))) (fun i hi => by cases hi)) ((HO.out.below ((Below.refl _ w3).alloc (Nat.le_refl _) _)).item 0 3 (by decide) (by decide) (.slice (some ⟨w3.heap.size, 0, none⟩) 1 1) ((.mk 0 [116] [] [.mk 0 [120] [] [] []] [])) (fun kp z hz h1 h2 h3 => ⟨⟨(.mk 0 [116] [] [.mk 0 [120] [] [] []] []), z.pv, .slice (some ⟨w3.heap.size, 0, none⟩) 1 1, z.ev⟩, rfl, by simp [Ic.cells, hz, isM, i0M, i1M, i2M, i3M, It.kind, It.text], h1, leaf_row w3 g 3 (.slice (some ⟨w3.heap.size, 0, none⟩) 1 1) 0 [120] hne1, h3⟩)).1 ((HBW.out.alloc HBW.out.size _).setCell (Nat.le_trans HO.out.b0 (HO.out.r0.fact g rfl).1) _)
    · have hn : (IntKind.u64.wrap which).tmod 17 = 6 := hn
      go_wp2
      go_meet
      exact NoMay.item (k := 0) (i' := (.mk 0 [116] dotP [] [])) m6 (leafP _ _ _ pOk_dot (by decide)) ((HO.out).item 0 2 (by decide) (by decide) (.slice pa 1 pc) ((.mk 0 [116] dotP [] [])) (fun kp z hz h1 h2 h3 => ⟨⟨(.mk 0 [116] dotP [] []), .slice pa 1 pc, z.tv, z.ev⟩, rfl, by simp [Ic.cells, hz, isM, i0M, i1M, i2M, i3M, It.kind, It.text], kp _ _ HPB.out, h2, h3⟩)).1 ((HBW.out).setCell (Nat.le_trans HO.out.b0 (HO.out.r0.fact g rfl).1) _)
    · have hn : (IntKind.u64.wrap which).tmod 17 = 7 := hn
      go_wp2
      go_meet
      exact NoMay.item (k := 1) (i' := (.mk 5 [] [] rowM [])) m7 (blockP _ _ _ _ pOk_nil (by decide) (fun i hi => by cases hi) (by decide)) ((HO.out).item 1 2 (by decide) (by decide) (.slice none 0 0) ((.mk 5 [] [] rowM [])) (fun kp z hz h1 h2 h3 => ⟨⟨(.mk 5 [] [] rowM []), .slice none 0 0, z.tv, z.ev⟩, rfl, by simp [Ic.cells, hz, isM, i0M, i1M, i2M, i3M, It.kind, It.text], cms_nil _ _, h2, h3⟩)).1 ((HBW.out).setCell (Nat.le_trans HO.out.b0 (HO.out.r0.fact g rfl).1) _)
    · have hn : (IntKind.u64.wrap which).tmod 17 = 8 := hn
      go_wp2
      go_meet
      exact NoMay.item (k := 1) (i' := (.mk 5 [120] dotP rowM [])) m8 (blockP _ _ _ _ pOk_dot (by decide) (fun i hi => by cases hi) (by decide)) ((HO.out).item 1 1 (by decide) (by decide) (.string ⟨#[120]⟩) ((.mk 5 [120] dotP rowM [])) (fun kp z hz h1 h2 h3 => ⟨⟨(.mk 5 [120] dotP rowM []), z.pv, z.tv, z.ev⟩, rfl, by simp [Ic.cells, hz, isM, i0M, i1M, i2M, i3M, It.kind, It.text], h1, h2, h3⟩)).1 ((HBW.out).setCell (Nat.le_trans HO.out.b0 (HO.out.r0.fact g rfl).1) _)
    · have hn : (IntKind.u64.wrap which).tmod 17 = 9 := hn
      go_wp2
      go_meet
      rw [← World.setCell_alloc_past _ g _ _ hglt]
      exact NoMay.item (k := 1) (i' := (.mk 5 [] dotP rowM [.mk 7 [] [] [] []])) m9 (blockP _ _ _ _ pOk_dot (by decide) (one_ok (leafP _ _ _ pOk_nil (by decide))) (by decide)) ((HO.out.below ((Below.refl _ w3).alloc (Nat.le_refl _) _)).item 1 4 (by decide) (by decide) (.slice (some ⟨w3.heap.size, 0, none⟩) 1 1) ((.mk 5 [] dotP rowM [.mk 7 [] [] [] []])) (fun kp z hz h1 h2 h3 => ⟨⟨(.mk 5 [] dotP rowM [.mk 7 [] [] [] []]), z.pv, z.tv, .slice (some ⟨w3.heap.size, 0, none⟩) 1 1⟩, rfl, by simp [Ic.cells, hz, isM, i0M, i1M, i2M, i3M, It.kind, It.text], h1, h2, leaf_row w3 g 9 (.slice (some ⟨w3.heap.size, 0, none⟩) 1 1) 7 [] hne1⟩)).1 ((HBW.out.alloc HBW.out.size _).setCell (Nat.le_trans HO.out.b0 (HO.out.r0.fact g rfl).1) _)
    · have hn : (IntKind.u64.wrap which).tmod 17 = 10 := hn
      go_wp2
      go_meet
      exact NoMay.item (k := 2) (i' := (.mk 6 [122] dotP [] [])) m10 (leafP _ _ _ pOk_dot (by decide)) ((HO.out).item 2 1 (by decide) (by decide) (.string ⟨#[122]⟩) ((.mk 6 [122] dotP [] [])) (fun kp z hz h1 h2 h3 => ⟨⟨(.mk 6 [122] dotP [] []), z.pv, z.tv, z.ev⟩, rfl, by simp [Ic.cells, hz, isM, i0M, i1M, i2M, i3M, It.kind, It.text], h1, h2, h3⟩)).1 ((HBW.out).setCell (Nat.le_trans HO.out.b0 (HO.out.r0.fact g rfl).1) _)
    · have hn : (IntKind.u64.wrap which).tmod 17 = 11 := hn
      go_wp2
      go_meet
      rw [← World.setCell_alloc_past _ g _ _ hglt]
      exact NoMay.item (k := 2) (i' := (.mk 6 [98] empP [] [])) m11 (leafP _ _ _ pOk_emp (by decide)) ((HO.out.below ((Below.refl _ w3).alloc (Nat.le_refl _) _)).item 2 2 (by decide) (by decide) (.slice (some ⟨w3.heap.size, 0, none⟩) 1 1) ((.mk 6 [98] empP [] [])) (fun kp z hz h1 h2 h3 => ⟨⟨(.mk 6 [98] empP [] []), .slice (some ⟨w3.heap.size, 0, none⟩) 1 1, z.tv, z.ev⟩, rfl, by simp [Ic.cells, hz, isM, i0M, i1M, i2M, i3M, It.kind, It.text], kp _ _ (cms_lit w3 #[.string ⟨#[]⟩, .slice none 0 0] [(⟨[], []⟩, .slice none 0 0)] 1 lo0 rfl rfl (by decide) (Nat.le_of_lt hlo) (fun z hz => by rw [List.mem_singleton.1 hz]; exact ⟨[], rfl, own_nil _ _ _ _, fun z hz => by cases hz⟩)), h2, h3⟩)).1 ((HBW.out.alloc HBW.out.size _).setCell (Nat.le_trans HO.out.b0 (HO.out.r0.fact g rfl).1) _)
    · have hn : (IntKind.u64.wrap which).tmod 17 = 12 := hn
      go_wp2
      go_meet
      exact NoMay.item (k := 3) (i' := (.mk 2 [49] numP [] [])) m12 (leafP _ _ _ pOk_num (by decide)) ((HO.out).item 3 1 (by decide) (by decide) (.string ⟨#[49]⟩) ((.mk 2 [49] numP [] [])) (fun kp z hz h1 h2 h3 => ⟨⟨(.mk 2 [49] numP [] []), z.pv, z.tv, z.ev⟩, rfl, by simp [Ic.cells, hz, isM, i0M, i1M, i2M, i3M, It.kind, It.text], h1, h2, h3⟩)).1 ((HBW.out).setCell (Nat.le_trans HO.out.b0 (HO.out.r0.fact g rfl).1) _)
    · have hn : (IntKind.u64.wrap which).tmod 17 = 13 := hn
      go_wp2
      go_meet
      exact NoMay.item (k := 3) (i' := (.mk 2 [120] [] [] [])) m13 (leafP _ _ _ pOk_nil (by decide)) ((HO.out).item 3 2 (by decide) (by decide) (.slice none 0 0) ((.mk 2 [120] [] [] [])) (fun kp z hz h1 h2 h3 => ⟨⟨(.mk 2 [120] [] [] []), .slice none 0 0, z.tv, z.ev⟩, rfl, by simp [Ic.cells, hz, isM, i0M, i1M, i2M, i3M, It.kind, It.text], cms_nil _ _, h2, h3⟩)).1 ((HBW.out).setCell (Nat.le_trans HO.out.b0 (HO.out.r0.fact g rfl).1) _)
    · have hn : (IntKind.u64.wrap which).tmod 17 = 14 := hn
      go_wp2
      go_meet
      exact NoMay.item (k := 1) (i' := (.mk 3 [] dotP rowM [])) m14 (blockP _ _ _ _ pOk_dot (by decide) (fun i hi => by cases hi) (by decide)) ((HO.out).item 1 0 (by decide) (by decide) (.int .i64 3) ((.mk 3 [] dotP rowM [])) (fun kp z hz h1 h2 h3 => ⟨⟨(.mk 3 [] dotP rowM []), z.pv, z.tv, z.ev⟩, rfl, by simp [Ic.cells, hz, isM, i0M, i1M, i2M, i3M, It.kind, It.text], h1, h2, h3⟩)).1 ((HBW.out).setCell (Nat.le_trans HO.out.b0 (HO.out.r0.fact g rfl).1) _)
    · have hn : (IntKind.u64.wrap which).tmod 17 = 15 := hn
      have HV15 := Lib.hid (show NmV (.slice (some ⟨gN, 0, none⟩) 1 cap) [([97], isM)] w3 from by
        obtain ⟨a', c', hv, -, hm, hc⟩ := (HN3.out).v
        obtain ⟨rfl, -, rfl⟩ := Value.slice.inj hv
        refine ⟨_, _, rfl, by have := HO.out.cap2; show 1 ≤ cap; omega, hm, fun k hk => ?_⟩
        obtain ⟨g', off', iv', h1, h2, h3, h4⟩ := hc k (by simp at hk; show k < 2; omega)
        obtain rfl : k = 0 := by simpa using hk
        exact ⟨g', off', iv', h1, h2, h3, h4⟩)
      have hcp2 := HO.out.cap2
      go_wp2
      go_meet
      exact NoMay.less (HV15.out) HBW.out
    · have hn : (IntKind.u64.wrap which).tmod 17 = 16 := hn
      obtain ⟨b0, hi, hz0, hz1, hz2⟩ := info_parts byteInfo
      obtain ⟨N, hN⟩ : ∃ N : Nat, N = 65536 + d := ⟨_, rfl⟩
      have hNi : (65536 : Int) + (d : Int) = (N : Int) := by omega
      have HNB := Lib.hid (show 65536 < N ∧ N ≤ 65600 by omega)
      have hNl : N ≤ 65600 := by omega
      obtain ⟨w6, hmk, hown, hg6⟩ := run_make_full (P := Tryz.prog) w3 w3.heap.size 52 5 b0 (.int .u8 0) 1 Tryz.underlying52 hi hz0 hz1 .i64 .i64 N (by rw [hz2]; omega) (by simp only [maxLen]; omega) (Nat.le_refl _)
      have hB6 := bytes_string (bytes_zeros17 N hown)
      obtain ⟨Z, hZ⟩ : ∃ Z : ByteArray, Z = ⟨(List.replicate N 0).toArray⟩ := ⟨_, rfl⟩
      rw [← hZ] at hB6
      have hb6 : Below w3.heap.size w3 w6 := (Below.refl _ w3).grown hg6 (Nat.le_refl _) (fun k hk => by cases hk)
      have HB6B := Lib.hid hb6
      have HZ := Lib.hid hZ
      have hO6 := HO.out.below hb6
      have hc0 := hO6.c0
      have hc1 := hO6.c1
      have y1 := cell_keep hb6 y1
      have fy1 : w6.frozen? ⟨g, 1, none⟩ = false := (hb6.frozen (p := ⟨g, 1, none⟩) hglt).trans fy1
      clear hi hz0 hz1 hz2 hown hg6 hN hZ hb6 hO6
      go_wp2
      go_meet
      exact NoMay.item (k := 0) (i' := (.mk 0 (List.replicate N 0) [] [] [])) (m16 _ (by rw [List.length_replicate]; exact HNB.out.1)) (leafP _ _ _ pOk_nil (by rw [List.length_replicate]; have := HNB.out; omega)) ((HO.out.below HB6B.out).item 0 1 (by decide) (by decide) (.string Z) ((.mk 0 (List.replicate N 0) [] [] [])) (fun kp z hz h1 h2 h3 => ⟨⟨(.mk 0 (List.replicate N 0) [] [] []), z.pv, z.tv, z.ev⟩, rfl, by simp [Ic.cells, hz, isM, i0M, i1M, i2M, i3M, It.kind, It.text, HZ.out], h1, h2, h3⟩)).1 ((HBW.out.trans (HB6B.out.mono HBW.out.size)).setCell (Nat.le_trans HO.out.b0 (HO.out.r0.fact g rfl).1) _)
  case rest =>
  obtain ⟨ns, hmay, hok, hnm, hV, hbz⟩ := hcut
  have HMZ := Lib.hid (setMay_calls _ ns _ hV hok hnm)
  rw [hmay] at HMZ
  clear hmay hok hnm hV
  go_wp2_with (go_at_call 20; refine HMZ.out.mono ?_; rintro e w9 ⟨rfl, hb9⟩)
  go_ret
  exact ⟨rfl, hbz.trans (hb9.mono hbz.size)⟩
end Go.Proofs.YtbcddlheikdlkaaGreatDoor.S
