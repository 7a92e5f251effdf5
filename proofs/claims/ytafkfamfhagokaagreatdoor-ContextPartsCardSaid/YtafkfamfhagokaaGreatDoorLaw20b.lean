/-
  THE WALK of the law ContextParts (chapter 20).
-/
import Derived.Test.YtafkfamfhagokaaGreatDoorUse20
set_option linter.unusedVariables false
set_option linter.unusedSimpArgs false
namespace Go.Proofs.YtafkfamfhagokaaGreatDoor.S
open Go.RowKit

theorem parts_new {g1 : Nat} {d1 d3 : Cx} {w w6 : World} (h : Blk g1 25 (cxCells d1) w6) (hb : Below w.heap.size w w6) :
    Blk g1 25 (cxCells d1) (w6.alloc (.cells #[.int .i64 d3.st.pl, .string ⟨d3.st.nm.toArray⟩, .bool d3.st.fin, .string ⟨d3.st.attr.toArray⟩, .string ⟨d3.st.held.toArray⟩, .int .i64 d3.st.rd, .bool d3.ref, .int .i64 d3.kd, .int .i64 d3.url, .int .i64 d3.lang] 25)) ∧ Blk w6.heap.size 25 (cxCells d3) (w6.alloc (.cells #[.int .i64 d3.st.pl, .string ⟨d3.st.nm.toArray⟩, .bool d3.st.fin, .string ⟨d3.st.attr.toArray⟩, .string ⟨d3.st.held.toArray⟩, .int .i64 d3.st.rd, .bool d3.ref, .int .i64 d3.kd, .int .i64 d3.url, .int .i64 d3.lang] 25)) ∧ Below w.heap.size w (w6.alloc (.cells #[.int .i64 d3.st.pl, .string ⟨d3.st.nm.toArray⟩, .bool d3.st.fin, .string ⟨d3.st.attr.toArray⟩, .string ⟨d3.st.held.toArray⟩, .int .i64 d3.st.rd, .bool d3.ref, .int .i64 d3.kd, .int .i64 d3.url, .int .i64 d3.lang] 25)) :=
  ⟨h.below ((Below.refl _ w6).alloc (Nat.le_refl _) _), Blk.new w6 (cxCells d3) _, hb.alloc hb.size _⟩
theorem Blk.other {g r : Nat} {T : TypeId} {cs : List Value} {w : World} (h : Blk g T cs w) (hne : g ≠ r) (j : Nat) (x : Value) : Blk g T cs (w.setCell ⟨r, j, none⟩ x) := h.grown (grownBy_set w r j x) (fun e => hne (Option.some.inj e))
theorem parts_set {g1 r : Nat} {d1 d3 : Cx} {w w6 : World} (h : Blk g1 25 (cxCells d1) w6) (hne : g1 ≠ r) (hz : Blk r 25 cxZ w6) (hr : w.heap.size ≤ r) (hb : Below w.heap.size w w6) :
    Blk g1 25 (cxCells d1) ((((((((((w6.setCell ⟨r, 0, none⟩ (.int .i64 d3.st.pl)).setCell ⟨r, 1, none⟩ (.string ⟨d3.st.nm.toArray⟩)).setCell ⟨r, 2, none⟩ (.bool d3.st.fin)).setCell ⟨r, 3, none⟩ (.string ⟨d3.st.attr.toArray⟩)).setCell ⟨r, 4, none⟩ (.string ⟨d3.st.held.toArray⟩)).setCell ⟨r, 5, none⟩ (.int .i64 d3.st.rd)).setCell ⟨r, 6, none⟩ (.bool d3.ref)).setCell ⟨r, 7, none⟩ (.int .i64 d3.kd)).setCell ⟨r, 8, none⟩ (.int .i64 d3.url)).setCell ⟨r, 9, none⟩ (.int .i64 d3.lang)) ∧ Blk r 25 (cxCells d3) ((((((((((w6.setCell ⟨r, 0, none⟩ (.int .i64 d3.st.pl)).setCell ⟨r, 1, none⟩ (.string ⟨d3.st.nm.toArray⟩)).setCell ⟨r, 2, none⟩ (.bool d3.st.fin)).setCell ⟨r, 3, none⟩ (.string ⟨d3.st.attr.toArray⟩)).setCell ⟨r, 4, none⟩ (.string ⟨d3.st.held.toArray⟩)).setCell ⟨r, 5, none⟩ (.int .i64 d3.st.rd)).setCell ⟨r, 6, none⟩ (.bool d3.ref)).setCell ⟨r, 7, none⟩ (.int .i64 d3.kd)).setCell ⟨r, 8, none⟩ (.int .i64 d3.url)).setCell ⟨r, 9, none⟩ (.int .i64 d3.lang)) ∧ Below w.heap.size w ((((((((((w6.setCell ⟨r, 0, none⟩ (.int .i64 d3.st.pl)).setCell ⟨r, 1, none⟩ (.string ⟨d3.st.nm.toArray⟩)).setCell ⟨r, 2, none⟩ (.bool d3.st.fin)).setCell ⟨r, 3, none⟩ (.string ⟨d3.st.attr.toArray⟩)).setCell ⟨r, 4, none⟩ (.string ⟨d3.st.held.toArray⟩)).setCell ⟨r, 5, none⟩ (.int .i64 d3.st.rd)).setCell ⟨r, 6, none⟩ (.bool d3.ref)).setCell ⟨r, 7, none⟩ (.int .i64 d3.kd)).setCell ⟨r, 8, none⟩ (.int .i64 d3.url)).setCell ⟨r, 9, none⟩ (.int .i64 d3.lang)) :=
  ⟨((((((((((h.other hne 0 _).other hne 1 _).other hne 2 _).other hne 3 _).other hne 4 _).other hne 5 _).other hne 6 _).other hne 7 _).other hne 8 _).other hne 9 _), ((((((((((hz.set 0 _).set 1 _).set 2 _).set 3 _).set 4 _).set 5 _).set 6 _).set 7 _).set 8 _).set 9 _), below10 hb hr _ _ _ _ _ _ _ _ _ _⟩
theorem slice_to20 (s : ByteArray) (x : Int) (n : Nat) (hx : x = n) (hn : n ≤ s.size) (W : World) :
    (Instr.slice 9 (.string s) none (some (.int .i64 x)) none).run Tryz.prog W = .ok (.string (s.extract 0 n)) W := by
  subst hx
  have h := run_slice_string_h (P := Tryz.prog) (t := 9) (s := s) (w := W) Tryz.underlying9 .i64 (n : Int) (by omega) (by omega)
  simpa using h
theorem slice_from20 (s : ByteArray) (x : Int) (n : Nat) (hx : x = n) (hn : n ≤ s.size) (W : World) :
    (Instr.slice 9 (.string s) (some (.int .i64 x)) none none).run Tryz.prog W = .ok (.string (s.extract n s.size)) W := by
  subst hx
  have h := run_slice_string_l (P := Tryz.prog) (t := 9) (s := s) (w := W) Tryz.underlying9 .i64 (n : Int) (by omega) (by omega)
  simpa using h
theorem extract_end20 (s : ByteArray) (i : Nat) : StrIs (s.extract i s.size) (s.data.toList.drop i) := by
  show _ = _
  rw [Lib.extract_data, List.take_of_length_le]
  simp
set_option maxRecDepth 100000 in
set_option maxHeartbeats 4000000 in
theorem contextParts_calls (page : ByteArray) (cut : Int) (w : World) (hE : Env w) (hs : page.size ≤ maxLen) :
    Calls Tryz.prog 5 #[.string page, .int .i64 cut] w fun e w' => e = .returned (.bool true) ∧ Below w.heap.size w w' := by
  simp only [maxLen] at hs
  go_enter Tryz.func5, Tryz.ntmps5
  go_upto_region 3 with (go_at_call 21; refine (awake20_calls _ hE).mono ?_; rintro e w1 ⟨rfl, hb1⟩)
  obtain ⟨n, hn, hns⟩ : ∃ n : Nat, wrap64 ((IntKind.u64.wrap cut).tmod ((page.size : Int) + 1)) = (n : Int) ∧ n ≤ page.size := by
    have h0 : 0 ≤ cut % 18446744073709551616 := Int.emod_nonneg _ (by decide)
    have h1 : 0 ≤ (cut % 18446744073709551616) % ((page.size : Int) + 1) := Int.emod_nonneg _ (by omega)
    have h2 : (cut % 18446744073709551616) % ((page.size : Int) + 1) < (page.size : Int) + 1 := Int.emod_lt_of_pos _ (by omega)
    refine ⟨((cut % 18446744073709551616) % ((page.size : Int) + 1)).toNat, ?_, by omega⟩
    rw [IntKind.wrap_u64, Int.tmod_eq_emod_of_nonneg h0]
    generalize (cut % 18446744073709551616) % ((page.size : Int) + 1) = z at *
    unfold wrap64
    omega
  have HA := Lib.hid (fun W => at20_calls page page.data.toList rfl (by omega) W)
  have hw2 : IntKind.u64.wrap (wrap64 ((page.size : Int) + 1)) = (page.size : Int) + 1 := by rw [IntKind.wrap_u64]; unfold wrap64; omega
  have hw3 : ((page.size : Int) + 1 == 0) = false := beq_eq_false_iff_ne.2 (by omega)
  go_upto_region 5 with (go_at_call 22; refine (HA.out _).mono ?_; rintro e w2 ⟨d1, k1, rfl, hb2, hR1⟩)
  clear hw2 hw3
  refine wp_at_world ?_
  intro w3 hw3
  have hB3 : Blk w2.heap.size 25 (cxCells d1) w3 := by rw [hw3]; exact Blk.new w2 (cxCells d1) _
  have hb3 : Below w2.heap.size w2 w3 := by rw [hw3]; exact (Below.refl _ w2).alloc (Nat.le_refl _) _
  clear hw3 HA
  have hbw := (hb1.trans (hb2.mono hb1.size))
  have hbw := hbw.trans (hb3.mono hbw.size)
  clear hb1 hb2 hb3
  generalize w2.heap.size = g1 at *
  have hsl := fun W => slice_to20 page n n rfl hns W
  have hx1 : StrIs (page.extract 0 n) (page.data.toList.take n) := by show _ = _; rw [Lib.extract_data]; simp
  have hz1 : (page.extract 0 n).size ≤ 9223372036854775807 := by rw [ByteArray.size_extract]; omega
  have HA2 := Lib.hid (fun W => at20_calls (page.extract 0 n) (page.data.toList.take n) hx1 (by omega) W)
  have HR1 := Lib.hid hR1
  clear hx1 hz1 hR1
  go_upto_region 6 with (go_at_call 22; refine (HA2.out _).mono ?_; rintro e w4 ⟨d2, k2, rfl, hb4, hR2⟩)
  refine wp_at_world ?_
  intro w5 hw5
  have hB5 : Blk w4.heap.size 25 (cxCells d2) w5 := by rw [hw5]; exact Blk.new w4 (cxCells d2) _
  have hb5 : Below w4.heap.size w4 w5 := by rw [hw5]; exact (Below.refl _ w4).alloc (Nat.le_refl _) _
  clear hw5 HA2 hsl
  have hB3 := (hB3.below hb4).below hb5
  have hbw := hbw.trans (hb4.mono hbw.size)
  have hbw := hbw.trans (hb5.mono hbw.size)
  clear hb4 hb5
  generalize w4.heap.size = g2 at *
  have HP : page.data.toList = page.data.toList.take n ++ page.data.toList.drop n := (List.take_append_drop n _).symm
  rcases hR2 with ⟨hA, rfl⟩ | ⟨hA, rfl⟩
  · have hm : mayX d2 = true := by rw [textC_0] at hA; exact mayX_steps mayX_0 hA
    have hAB : textC cx0 page.data.toList = textC d2 (page.data.toList.drop n) := by
      rw [textC_0] at hA ⊢
      rw [HP, stepsC_cat hA, ← HP]
      unfold textC
      rw [if_pos hm]
    have HRR := Lib.hid hAB
    clear hAB hA HP
    have t0 : (((0 : Nat) : Int) != 0) = false := rfl
    have hsl := fun W => slice_from20 page n n rfl hns W
    have hz2 : (page.extract n page.size).size ≤ 9223372036854775807 := by rw [ByteArray.size_extract]; omega
    have HT := Lib.hid (fun W => (cxText_calls d2 (page.extract n page.size) (page.data.toList.drop n) (extract_end20 page n) (by omega) W (mayOk_true hm)).mono (fun e w' h => h.one))
    clear hz2 hm
    have HB3 := Lib.hid hB3
    have HB3a := Lib.hid (fun o => (hB3.below ((Below.refl w5.heap.size w5).alloc (Nat.le_refl _) o)).drew)
    have HB3b := Lib.hid hB3.drew
    have hg1 : g1 < w5.heap.size := World.block_lt_of_cell? w5 _ (hB3.cell 0 _ rfl)
    have hn1 : g1 ≠ w5.heap.size := by omega
    have hn2 : w5.heap.size ≠ g1 := by omega
    have HBW := Lib.hid hbw
    have c0 := hB5.cell 0 _ rfl
    have c1 := hB5.cell 1 _ rfl
    have c2 := hB5.cell 2 _ rfl
    have c3 := hB5.cell 3 _ rfl
    have c4 := hB5.cell 4 _ rfl
    have c5 := hB5.cell 5 _ rfl
    have c6 := hB5.cell 6 _ rfl
    have c7 := hB5.cell 7 _ rfl
    have c8 := hB5.cell 8 _ rfl
    have c9 := hB5.cell 9 _ rfl
    have hB6 : Blk g2 25 (cxCells d2) (w5.alloc (.cells #[.int .i64 0, .string ⟨#[]⟩, .bool false, .string ⟨#[]⟩, .string ⟨#[]⟩, .int .i64 0, .bool false, .int .i64 0, .int .i64 0, .int .i64 0] 25)) := hB5.below ((Below.refl w5.heap.size w5).alloc (Nat.le_refl _) _)
    have e0 := hB6.cell 0 _ rfl
    have e1 := hB6.cell 1 _ rfl
    have e2 := hB6.cell 2 _ rfl
    have e3 := hB6.cell 3 _ rfl
    have e4 := hB6.cell 4 _ rfl
    have e5 := hB6.cell 5 _ rfl
    have e6 := hB6.cell 6 _ rfl
    have e7 := hB6.cell 7 _ rfl
    have e8 := hB6.cell 8 _ rfl
    have e9 := hB6.cell 9 _ rfl
    clear hB3 hB5 hB6 hbw
    go_upto_region 8 with (fail)
    go_cut [10, 11] (fun v10 v11 wx => ∃ (r : Nat) (d3 : Cx) (k3 : Nat), v10 = .pointer (some ⟨r, 0, none⟩) ∧ v11 = .int .i64 k3 ∧ Blk g1 25 (cxCells d1) wx ∧ Blk r 25 (cxCells d3) wx ∧ Below w.heap.size w wx ∧ (textC d2 (page.data.toList.drop n) = .ok d3 ∧ k3 = 0 ∨ textC d2 (page.data.toList.drop n) = .error k3 ∧ d3 = cx0))
    case first =>
      go_region_with (go_at_call 13; refine (HT.out _).mono ?_; rintro e w6 ⟨d3, k3, rfl, hb6, hR3⟩; have HR3 := Lib.hid hR3; have HB6 := Lib.hid hb6; (first | have hB7 := HB3b.out.below hb6 | have hB7 := (HB3a.out _).below hb6); have p0 := hB7.cell 0 _ rfl; have p1 := hB7.cell 1 _ rfl; have p2 := hB7.cell 2 _ rfl; have p3 := hB7.cell 3 _ rfl; have p4 := hB7.cell 4 _ rfl; have p5 := hB7.cell 5 _ rfl; have p6 := hB7.cell 6 _ rfl; have p7 := hB7.cell 7 _ rfl; have p8 := hB7.cell 8 _ rfl; have p9 := hB7.cell 9 _ rfl; clear hB7; (first | (have hBz : Blk w5.heap.size 25 cxZ w6 := (Blk.new w5 cxZ _).drew.below hb6; have z0 := hBz.cell 0 _ rfl; have zf0 := hBz.free 0; have z1 := hBz.cell 1 _ rfl; have zf1 := hBz.free 1; have z2 := hBz.cell 2 _ rfl; have zf2 := hBz.free 2; have z3 := hBz.cell 3 _ rfl; have zf3 := hBz.free 3; have z4 := hBz.cell 4 _ rfl; have zf4 := hBz.free 4; have z5 := hBz.cell 5 _ rfl; have zf5 := hBz.free 5; have z6 := hBz.cell 6 _ rfl; have zf6 := hBz.free 6; have z7 := hBz.cell 7 _ rfl; have zf7 := hBz.free 7; have z8 := hBz.cell 8 _ rfl; have zf8 := hBz.free 8; have z9 := hBz.cell 9 _ rfl; have zf9 := hBz.free 9; clear hBz) | skip); clear hR3 hb6)
      all_goals go_wp2_with fail
      all_goals go_meet
      · have hbw6 := (HBW.out.drew).trans (HB6.out.mono HBW.out.size)
        obtain ⟨q1, q2, q3⟩ := parts_new (d3 := d3) (HB3b.out.below HB6.out) hbw6
        exact ⟨_, d3, k3, rfl, rfl, q1, q2, q3, HR3.out⟩
      all_goals
        have hz1 := (HBW.out.alloc HBW.out.size (.cells #[.int .i64 0, .string ⟨#[]⟩, .bool false, .string ⟨#[]⟩, .string ⟨#[]⟩, .int .i64 0, .bool false, .int .i64 0, .int .i64 0, .int .i64 0] 25)).drew
        have hbw6 := hz1.trans (HB6.out.mono hz1.size)
        obtain ⟨q1, q2, q3⟩ := parts_set (d3 := d3) ((HB3a.out _).below HB6.out) hn1 ((Blk.new w5 cxZ _).drew.below HB6.out) HBW.out.size hbw6
        exact ⟨_, d3, k3, rfl, rfl, q1, q2, q3, HR3.out⟩
    case rest =>
    obtain ⟨r, d3, k3, rfl, rfl, hBa, hBb, hbw, hR3⟩ := hcut
    obtain ⟨rfl, rfl⟩ := same_tx HR1.out (by rw [HRR.out]; exact hR3)
    have heq := fun W => eq_cx d1 W
    have ebq : ((k1 : Int) == (k1 : Int)) = true := beq_self_eq_true _
    clear c0 c1 c2 c3 c4 c5 c6 c7 c8 c9 e0 e1 e2 e3 e4 e5 e6 e7 e8 e9 hR3
    have c0 := hBa.cell 0 _ rfl
    have c1 := hBa.cell 1 _ rfl
    have c2 := hBa.cell 2 _ rfl
    have c3 := hBa.cell 3 _ rfl
    have c4 := hBa.cell 4 _ rfl
    have c5 := hBa.cell 5 _ rfl
    have c6 := hBa.cell 6 _ rfl
    have c7 := hBa.cell 7 _ rfl
    have c8 := hBa.cell 8 _ rfl
    have c9 := hBa.cell 9 _ rfl
    have e0 := hBb.cell 0 _ rfl
    have e1 := hBb.cell 1 _ rfl
    have e2 := hBb.cell 2 _ rfl
    have e3 := hBb.cell 3 _ rfl
    have e4 := hBb.cell 4 _ rfl
    have e5 := hBb.cell 5 _ rfl
    have e6 := hBb.cell 6 _ rfl
    have e7 := hBb.cell 7 _ rfl
    have e8 := hBb.cell 8 _ rfl
    have e9 := hBb.cell 9 _ rfl
    go_wp2_with (go_at_call 19; go_in)
    go_ret
    exact ⟨rfl, hbw⟩
  · have hk0 : k2 ≠ 0 := by
      intro h0
      subst h0
      rw [textC_0] at hA
      have := steps_err hA
      omega
    have t1 : ((k2 : Int) != 0) = true := bne_iff_ne.2 (by omega)
    have hAB : textC cx0 page.data.toList = .error k2 := by
      rw [textC_0] at hA ⊢
      rw [HP, stepsC_append, hA]
    obtain ⟨rfl, rfl⟩ : d1 = cx0 ∧ k1 = k2 := by
      rcases HR1.out with ⟨h, -⟩ | ⟨h, h'⟩
      · rw [hAB] at h; cases h
      · rw [hAB] at h; cases h; exact ⟨h', rfl⟩
    clear hAB hA HP HR1
    have c0 := hB3.cell 0 _ rfl
    have c1 := hB3.cell 1 _ rfl
    have c2 := hB3.cell 2 _ rfl
    have c3 := hB3.cell 3 _ rfl
    have c4 := hB3.cell 4 _ rfl
    have c5 := hB3.cell 5 _ rfl
    have c6 := hB3.cell 6 _ rfl
    have c7 := hB3.cell 7 _ rfl
    have c8 := hB3.cell 8 _ rfl
    have c9 := hB3.cell 9 _ rfl
    have d0 := hB5.cell 0 _ rfl
    have d1 := hB5.cell 1 _ rfl
    have d2 := hB5.cell 2 _ rfl
    have d3 := hB5.cell 3 _ rfl
    have d4 := hB5.cell 4 _ rfl
    have d5 := hB5.cell 5 _ rfl
    have d6 := hB5.cell 6 _ rfl
    have d7 := hB5.cell 7 _ rfl
    have d8 := hB5.cell 8 _ rfl
    have d9 := hB5.cell 9 _ rfl
    go_wp2
    go_ret
    exact ⟨rfl, hbw⟩
end Go.Proofs.YtafkfamfhagokaaGreatDoor.S
