/-
  THE WALK of package words' word.
-/
import Derived.Test.YtdaffedbboofjaaGreatDoorWordText
import Derived.Test.YtdaffedbboofjaaGreatDoorWordNum
set_option linter.unusedVariables false
set_option linter.unusedSimpArgs false
namespace Go.Proofs.YtdaffedbboofjaaGreatDoor.S
open Go.RowKit

set_option maxRecDepth 100000 in
set_option maxHeartbeats 8000000 in
theorem wword_calls (g : Nat) (s : ByteArray) (o : Value) (l : List UInt8) (w : World) (hE : EnvAt g w) (hB : Rd g s o w) (hl : StrIs s l) (hs : s.size ≤ 1073741824) (hn : 0 < s.size) :
    Calls Tryz.prog 116 #[.pointer (some ⟨g, 0, none⟩)] w fun e w' => WPost (wordL l) w g o e w' := by
  have hgl := hB.lt
  have hll : l.length = s.size := hl.size.symm
  have hW : Blk w.heap.size 116 wd0 (w.alloc (.cells wd0.toArray 116)) := Blk.new w _ _
  have hb0 : Below w.heap.size w (w.alloc (.cells wd0.toArray 116)) := (Below.refl _ w).alloc (Nat.le_refl _) _
  have hB0 := hB.below hb0
  have hz0 : w.heap.size < (w.alloc (.cells wd0.toArray 116)).heap.size := by simp
  have hg0 := grownBy_below (row := some g) hb0
  have hEg := fun W (h : w.grownBy W (some g)) => hE.below (Below.grow1 h (by omega) (Nat.le_refl g))
  have hwl : wordL l = if List.isPrefixOf [58, 61] l = true then .ok (⟨6, [], [], 0⟩, l.drop 2)
      else if List.isPrefixOf [34] l = true then (textL (l.drop 1)).map fun x => (⟨4, x.1, [], 0⟩, x.2)
      else if ((l.getD 0 0).toNat == 45 || digitI (l.getD 0 0).toNat) = true then (numL l).map fun x => (⟨3, [], [], x.1⟩, x.2)
      else if ((l.getD 0 0).toNat == 46) = true then fieldL l
      else if List.isPrefixOf [36] l = true then match nameL (l.drop 1) with
        | .error e => .error e
        | .ok (x, r) => (pathL r).map fun y => (⟨2, x, y.1, 0⟩, y.2)
      else if wfirst (l.getD 0 0).toNat = true then (nameL l).map fun x => (⟨0, x.1, [], 0⟩, x.2)
      else .error 1400 := rfl
  rw [← show s.data.toList = l from hl, ← getD_byte s 0 hn, show s.data.toList = l from hl] at hwl
  obtain ⟨b, hb⟩ : ∃ b : UInt8, b = s[0]'hn := ⟨_, rfl⟩
  have hbt : ∀ h', ((s[0]'h').toNat : Nat) = b.toNat := fun h' => by rw [hb]
  rw [← hb] at hwl
  have hlt := b.toNat_lt
  clear hb
  generalize b.toNat = c at *
  have c0 := hB0.cell 0 _ rfl
  have HE := Lib.hid hEg
  have HWL := Lib.hid hwl
  clear hwl hEg hE hB
  go_enter Tryz.func116, Tryz.ntmps116
  go_upto_region 1 with (fail)
  generalize w.alloc (.cells wd0.toArray 116) = w0 at *
  go_wp2_with fail
  refine (whas_calls g s ⟨#[58, 61]⟩ o l _ hB0 hl).mono ?_
  rintro e w1 ⟨s1, rfl, hs1, hB1, hg1⟩
  have hgA := hg0.trans hg1
  have hWA := Blk.grown hW hg1 (by simp; omega)
  have hzA := Nat.lt_of_lt_of_le hz0 hg1.size
  have hwl := HWL.out
  clear hB0 hW c0 hbt hb0 hg1 hg0
  cases hp1 : List.isPrefixOf [58, 61] l with
  | true =>
    rw [hp1, if_pos rfl] at hwl
    rw [show cutP (⟨#[58, 61]⟩ : ByteArray).data.toList l = l.drop 2 from cutP_yes hp1] at hs1
    have HS2 := Lib.hid hwl
    clear hwl HWL hp1
    have k0 := hWA.cell 0 _ rfl
    have f0 := hWA.free 0
    have k1 := hWA.cell 1 _ rfl
    have f1 := hWA.free 1
    have k2 := hWA.cell 2 _ rfl
    have f2 := hWA.free 2
    have k3 := hWA.cell 3 _ rfl
    have f3 := hWA.free 3
    have hW4 : Blk w.heap.size 116 [.int .i64 6, .string ⟨#[]⟩, .slice none 0 0, .int .i64 0] ((((w1.setCell ⟨w.heap.size, 0, none⟩ (.int .i64 6)).setCell ⟨w.heap.size, 1, none⟩ (.string ⟨#[]⟩)).setCell ⟨w.heap.size, 2, none⟩ (.slice none 0 0)).setCell ⟨w.heap.size, 3, none⟩ (.int .i64 0)) := (((hWA.set 0 _).set 1 _).set 2 _).set 3 _
    have hg4 : w.grownBy ((((w1.setCell ⟨w.heap.size, 0, none⟩ (.int .i64 6)).setCell ⟨w.heap.size, 1, none⟩ (.string ⟨#[]⟩)).setCell ⟨w.heap.size, 2, none⟩ (.slice none 0 0)).setCell ⟨w.heap.size, 3, none⟩ (.int .i64 0)) (some g) := grown_put4 hgA w.heap.size (Nat.le_refl _) _ _ _ _
    have hB4 : Rd g s1 o ((((w1.setCell ⟨w.heap.size, 0, none⟩ (.int .i64 6)).setCell ⟨w.heap.size, 1, none⟩ (.string ⟨#[]⟩)).setCell ⟨w.heap.size, 2, none⟩ (.slice none 0 0)).setCell ⟨w.heap.size, 3, none⟩ (.int .i64 0)) := blk_put4 hB1 w.heap.size (by omega) _ _ _ _
    go_wp2
    clear k0 k1 k2 k3 f0 f1 f2 f3
    generalize (((w1.setCell ⟨w.heap.size, 0, none⟩ (.int .i64 6)).setCell ⟨w.heap.size, 1, none⟩ (.string ⟨#[]⟩)).setCell ⟨w.heap.size, 2, none⟩ (.slice none 0 0)).setCell ⟨w.heap.size, 3, none⟩ (.int .i64 0) = w40 at *
    have d0 := hW4.cell 0 _ rfl
    have d1 := hW4.cell 1 _ rfl
    have d2 := hW4.cell 2 _ rfl
    have d3 := hW4.cell 3 _ rfl
    refine bodyPost_ret (v := .agg #[.int .i64 6, .string ⟨#[]⟩, .slice none 0 0, .int .i64 0]) (by simp [results, Tryz.results116, go_sem, d0, d1, d2, d3]) rfl ?_
    refine ⟨fun d' r' h => ?_, fun c' h => ?_, hg4⟩
    · rw [HS2.out] at h
      cases h
      exact ⟨.slice none 0 0, s1, rfl, strs_nil _ _, hs1, hB4⟩
    · rw [HS2.out] at h
      cases h
  | false =>
    rw [hp1, if_neg (by simp)] at hwl
    rw [show cutP (⟨#[58, 61]⟩ : ByteArray).data.toList l = l from cutP_no hp1] at hs1
    have HWL1 := Lib.hid hwl
    clear hwl HWL hp1
    go_wp2_with fail
    refine (whas_calls g s1 ⟨#[34]⟩ o l _ hB1 hs1).mono ?_
    rintro e w2 ⟨s2, rfl, hs2, hB2, hg2⟩
    have hgB := hgA.trans hg2
    have hWB := Blk.grown hWA hg2 (by simp; omega)
    have hzB := Nat.lt_of_lt_of_le hzA hg2.size
    have hwl := HWL1.out
    clear hB1 hWA hg2
    cases hp2 : List.isPrefixOf [34] l with
    | true =>
      rw [hp2, if_pos rfl] at hwl
      rw [show cutP (⟨#[34]⟩ : ByteArray).data.toList l = l.drop 1 from cutP_yes hp2] at hs2
      obtain ⟨S, hS0⟩ : ∃ S, S = (textL (l.drop 1)).map fun x => ((⟨4, x.1, [], 0⟩ : Wd), x.2) := ⟨_, rfl⟩
      have hC := fun W hW hE => wtext_calls g s2 o (l.drop 1) W hE hW hs2 (by rw [hs2.size, List.length_drop]; omega)
      rw [← hS0] at hwl hC
      have HS := Lib.hid hwl
      clear hwl HWL1 hp2 hS0
      cases hS : S with
      | error c =>
        go_wp2_with fail
        refine (hC _ hB2 (HE.out _ hgB)).mono ?_
        rintro e w9 ⟨-, he, hg9⟩
        obtain rfl := he c hS
        have hg10 := hgB.trans hg9
        unfold pan
        have HS2 := Lib.hid (HS.out.trans hS)
        go_wp2
        refine ⟨rfl, fun d' r' h => ?_, fun c' h => ?_, hg10⟩
        · rw [HS2.out] at h
          cases h
        · rw [HS2.out] at h
          cases h
          rfl
      | ok y =>
        obtain ⟨d, r⟩ := y
        go_wp2_with fail
        refine (hC _ hB2 (HE.out _ hgB)).mono ?_
        rintro e w9 ⟨hok, -, hg9⟩
        obtain ⟨pv, s9, rfl, hO9, hs9, hB9⟩ := hok d r hS
        have hg10 := hgB.trans hg9
        have hW9 := Blk.grown hWB hg9 (by simp; omega)
        have hz9 := hgB.size
        have HS2 := Lib.hid (HS.out.trans hS)
        obtain ⟨sa, sc, rfl⟩ := hO9.slice
        obtain ⟨nl, hnl⟩ : ∃ nl, nl = d.path.length := ⟨_, rfl⟩
        rw [← hnl] at hO9 ⊢
        have HNL := Lib.hid hnl
        obtain ⟨tx, htx⟩ : ∃ tx : ByteArray, tx = ⟨d.text.toArray⟩ := ⟨_, rfl⟩
        have HTX := Lib.hid htx
        unfold wdV
        rw [← htx]
        clear hok hS hnl htx
        have k0 := hW9.cell 0 _ rfl
        have f0 := hW9.free 0
        have k1 := hW9.cell 1 _ rfl
        have f1 := hW9.free 1
        have k2 := hW9.cell 2 _ rfl
        have f2 := hW9.free 2
        have k3 := hW9.cell 3 _ rfl
        have f3 := hW9.free 3
        have hW4 : Blk w.heap.size 116 [.int .i64 d.kind, .string tx, .slice sa nl sc, .int .i64 d.num] ((((w9.setCell ⟨w.heap.size, 0, none⟩ (.int .i64 d.kind)).setCell ⟨w.heap.size, 1, none⟩ (.string tx)).setCell ⟨w.heap.size, 2, none⟩ (.slice sa nl sc)).setCell ⟨w.heap.size, 3, none⟩ (.int .i64 d.num)) := (((hW9.set 0 _).set 1 _).set 2 _).set 3 _
        have hg4 : w.grownBy ((((w9.setCell ⟨w.heap.size, 0, none⟩ (.int .i64 d.kind)).setCell ⟨w.heap.size, 1, none⟩ (.string tx)).setCell ⟨w.heap.size, 2, none⟩ (.slice sa nl sc)).setCell ⟨w.heap.size, 3, none⟩ (.int .i64 d.num)) (some g) := grown_put4 hg10 w.heap.size (Nat.le_refl _) _ _ _ _
        have hB4 : Rd g s9 o ((((w9.setCell ⟨w.heap.size, 0, none⟩ (.int .i64 d.kind)).setCell ⟨w.heap.size, 1, none⟩ (.string tx)).setCell ⟨w.heap.size, 2, none⟩ (.slice sa nl sc)).setCell ⟨w.heap.size, 3, none⟩ (.int .i64 d.num)) := blk_put4 hB9 w.heap.size (by omega) _ _ _ _
        have hO4 := own_put4 hO9 w.heap.size (by omega) (.int .i64 d.kind) (.string tx) (.slice sa nl sc) (.int .i64 d.num)
        go_wp2
        clear k0 k1 k2 k3 f0 f1 f2 f3
        change Strs _ _ _ ((((w9.setCell ⟨w.heap.size, 0, none⟩ (.int .i64 d.kind)).setCell ⟨w.heap.size, 1, none⟩ (.string tx)).setCell ⟨w.heap.size, 2, none⟩ (.slice sa nl sc)).setCell ⟨w.heap.size, 3, none⟩ (.int .i64 d.num)) at hO4
        generalize (((w9.setCell ⟨w.heap.size, 0, none⟩ (.int .i64 d.kind)).setCell ⟨w.heap.size, 1, none⟩ (.string tx)).setCell ⟨w.heap.size, 2, none⟩ (.slice sa nl sc)).setCell ⟨w.heap.size, 3, none⟩ (.int .i64 d.num) = w40 at *
        have d0 := hW4.cell 0 _ rfl
        have d1 := hW4.cell 1 _ rfl
        have d2 := hW4.cell 2 _ rfl
        have d3 := hW4.cell 3 _ rfl
        refine bodyPost_ret (v := .agg #[.int .i64 d.kind, .string tx, .slice sa nl sc, .int .i64 d.num]) (by simp [results, Tryz.results116, go_sem, d0, d1, d2, d3]) rfl ?_
        refine ⟨fun d' r' h => ?_, fun c' h => ?_, hg4⟩
        · rw [HS2.out] at h
          cases h
          exact ⟨.slice sa nl sc, s9, by rw [HTX.out]; rfl, World.ownsRow.mono hO4 (by omega), hs9, hB4⟩
        · rw [HS2.out] at h
          cases h
    | false =>
      rw [hp2, if_neg (by simp)] at hwl
      rw [show cutP (⟨#[34]⟩ : ByteArray).data.toList l = l from cutP_no hp2] at hs2
      have hsz2 : s2.size = s.size := by rw [hs2.size, hll]
      cases h3 : (c == 45 || digitI c) with
      | true =>
        rw [h3, if_pos rfl] at hwl
        obtain ⟨S, hS0⟩ : ∃ S, S = (numL l).map fun x => ((⟨3, [], [], x.1⟩ : Wd), x.2) := ⟨_, rfl⟩
        have hC := fun W hW => wnumber_calls g s2 o l W hW hs2 (by omega)
        rw [← hS0] at hwl hC
        have HS := Lib.hid hwl
        clear hwl HWL1 hp2 hS0 hsz2
        go_upto_region 6 with (fail)
        go_cut [19] (fun v19 wx => v19 = .bool true ∧ w2 = wx)
        case first =>
          by_cases h45 : c = 45
          · have h45b : ((c : Int) == 45) = true := beq_iff_eq.2 (by omega)
            go_wp2
            go_meet
            exact ⟨rfl, rfl⟩
          · have h45b : ((c : Int) == 45) = false := beq_eq_false_iff_ne.2 (by omega)
            have hd : digitI c = true := by rw [show (c == 45) = false from beq_eq_false_iff_ne.2 h45, Bool.false_or] at h3; exact h3
            go_wp2_with (go_at_call 73; refine (digit_calls c _ (by omega) (by omega)).mono ?_; rw [hd]; rintro e w3 ⟨rfl, rfl⟩)
            go_meet
            exact ⟨rfl, rfl⟩
        case rest =>
        obtain ⟨rfl, rfl⟩ := hcut
        clear h3
        cases hS : S with
        | error c =>
          go_wp2_with fail
          refine (hC _ hB2).mono ?_
          rintro e w9 ⟨-, he, hg9⟩
          obtain rfl := he c hS
          have hg10 := hgB.trans hg9
          unfold pan
          have HS2 := Lib.hid (HS.out.trans hS)
          go_wp2
          refine ⟨rfl, fun d' r' h => ?_, fun c' h => ?_, hg10⟩
          · rw [HS2.out] at h
            cases h
          · rw [HS2.out] at h
            cases h
            rfl
        | ok y =>
          obtain ⟨d, r⟩ := y
          go_wp2_with fail
          refine (hC _ hB2).mono ?_
          rintro e w9 ⟨hok, -, hg9⟩
          obtain ⟨pv, s9, rfl, hO9, hs9, hB9⟩ := hok d r hS
          have hg10 := hgB.trans hg9
          have hW9 := Blk.grown hWB hg9 (by simp; omega)
          have hz9 := hgB.size
          have HS2 := Lib.hid (HS.out.trans hS)
          obtain ⟨sa, sc, rfl⟩ := hO9.slice
          obtain ⟨nl, hnl⟩ : ∃ nl, nl = d.path.length := ⟨_, rfl⟩
          rw [← hnl] at hO9 ⊢
          have HNL := Lib.hid hnl
          obtain ⟨tx, htx⟩ : ∃ tx : ByteArray, tx = ⟨d.text.toArray⟩ := ⟨_, rfl⟩
          have HTX := Lib.hid htx
          unfold wdV
          rw [← htx]
          clear hok hS hnl htx
          have k0 := hW9.cell 0 _ rfl
          have f0 := hW9.free 0
          have k1 := hW9.cell 1 _ rfl
          have f1 := hW9.free 1
          have k2 := hW9.cell 2 _ rfl
          have f2 := hW9.free 2
          have k3 := hW9.cell 3 _ rfl
          have f3 := hW9.free 3
          have hW4 : Blk w.heap.size 116 [.int .i64 d.kind, .string tx, .slice sa nl sc, .int .i64 d.num] ((((w9.setCell ⟨w.heap.size, 0, none⟩ (.int .i64 d.kind)).setCell ⟨w.heap.size, 1, none⟩ (.string tx)).setCell ⟨w.heap.size, 2, none⟩ (.slice sa nl sc)).setCell ⟨w.heap.size, 3, none⟩ (.int .i64 d.num)) := (((hW9.set 0 _).set 1 _).set 2 _).set 3 _
          have hg4 : w.grownBy ((((w9.setCell ⟨w.heap.size, 0, none⟩ (.int .i64 d.kind)).setCell ⟨w.heap.size, 1, none⟩ (.string tx)).setCell ⟨w.heap.size, 2, none⟩ (.slice sa nl sc)).setCell ⟨w.heap.size, 3, none⟩ (.int .i64 d.num)) (some g) := grown_put4 hg10 w.heap.size (Nat.le_refl _) _ _ _ _
          have hB4 : Rd g s9 o ((((w9.setCell ⟨w.heap.size, 0, none⟩ (.int .i64 d.kind)).setCell ⟨w.heap.size, 1, none⟩ (.string tx)).setCell ⟨w.heap.size, 2, none⟩ (.slice sa nl sc)).setCell ⟨w.heap.size, 3, none⟩ (.int .i64 d.num)) := blk_put4 hB9 w.heap.size (by omega) _ _ _ _
          have hO4 := own_put4 hO9 w.heap.size (by omega) (.int .i64 d.kind) (.string tx) (.slice sa nl sc) (.int .i64 d.num)
          go_wp2
          clear k0 k1 k2 k3 f0 f1 f2 f3
          change Strs _ _ _ ((((w9.setCell ⟨w.heap.size, 0, none⟩ (.int .i64 d.kind)).setCell ⟨w.heap.size, 1, none⟩ (.string tx)).setCell ⟨w.heap.size, 2, none⟩ (.slice sa nl sc)).setCell ⟨w.heap.size, 3, none⟩ (.int .i64 d.num)) at hO4
          generalize (((w9.setCell ⟨w.heap.size, 0, none⟩ (.int .i64 d.kind)).setCell ⟨w.heap.size, 1, none⟩ (.string tx)).setCell ⟨w.heap.size, 2, none⟩ (.slice sa nl sc)).setCell ⟨w.heap.size, 3, none⟩ (.int .i64 d.num) = w40 at *
          have d0 := hW4.cell 0 _ rfl
          have d1 := hW4.cell 1 _ rfl
          have d2 := hW4.cell 2 _ rfl
          have d3 := hW4.cell 3 _ rfl
          refine bodyPost_ret (v := .agg #[.int .i64 d.kind, .string tx, .slice sa nl sc, .int .i64 d.num]) (by simp [results, Tryz.results116, go_sem, d0, d1, d2, d3]) rfl ?_
          refine ⟨fun d' r' h => ?_, fun c' h => ?_, hg4⟩
          · rw [HS2.out] at h
            cases h
            exact ⟨.slice sa nl sc, s9, by rw [HTX.out]; rfl, World.ownsRow.mono hO4 (by omega), hs9, hB4⟩
          · rw [HS2.out] at h
            cases h
      | false =>
        rw [h3, if_neg (by simp)] at hwl
        rw [Bool.or_eq_false_iff] at h3
        obtain ⟨h45, hd⟩ := h3
        have h45' : c ≠ 45 := fun h => by rw [h] at h45; cases h45
        have h45b : ((c : Int) == 45) = false := beq_eq_false_iff_ne.2 (by omega)
        have HWL2 := Lib.hid hwl
        clear hwl HWL1 hp2 h45
        by_cases h46 : c = 46
        · have h46b : ((c : Int) == 46) = true := beq_iff_eq.2 (by omega)
          have hwl := HWL2.out
          rw [show (c == 46) = true from beq_iff_eq.2 h46, if_pos rfl] at hwl
          obtain ⟨S, hS0⟩ : ∃ S, S = fieldL l := ⟨_, rfl⟩
          have hC := fun W hW => wfield_calls g s2 o l W hW hs2 (by omega) (by omega)
          rw [← hS0] at hwl hC
          have HS := Lib.hid hwl
          clear hwl HWL2 hS0 hsz2 h46
          go_upto_region 9 with (go_at_call 73; refine (digit_calls c _ (by omega) (by omega)).mono ?_; rw [hd]; rintro e w3 ⟨rfl, rfl⟩)
          clear hd h45' h45b h46b
          cases hS : S with
          | error c =>
            go_wp2_with fail
            refine (hC _ hB2).mono ?_
            rintro e w9 ⟨-, he, hg9⟩
            obtain rfl := he c hS
            have hg10 := hgB.trans hg9
            unfold pan
            have HS2 := Lib.hid (HS.out.trans hS)
            go_wp2
            refine ⟨rfl, fun d' r' h => ?_, fun c' h => ?_, hg10⟩
            · rw [HS2.out] at h
              cases h
            · rw [HS2.out] at h
              cases h
              rfl
          | ok y =>
            obtain ⟨d, r⟩ := y
            go_wp2_with fail
            refine (hC _ hB2).mono ?_
            rintro e w9 ⟨hok, -, hg9⟩
            obtain ⟨pv, s9, rfl, hO9, hs9, hB9⟩ := hok d r hS
            have hg10 := hgB.trans hg9
            have hW9 := Blk.grown hWB hg9 (by simp; omega)
            have hz9 := hgB.size
            have HS2 := Lib.hid (HS.out.trans hS)
            obtain ⟨sa, sc, rfl⟩ := hO9.slice
            obtain ⟨nl, hnl⟩ : ∃ nl, nl = d.path.length := ⟨_, rfl⟩
            rw [← hnl] at hO9 ⊢
            have HNL := Lib.hid hnl
            obtain ⟨tx, htx⟩ : ∃ tx : ByteArray, tx = ⟨d.text.toArray⟩ := ⟨_, rfl⟩
            have HTX := Lib.hid htx
            unfold wdV
            rw [← htx]
            clear hok hS hnl htx
            have k0 := hW9.cell 0 _ rfl
            have f0 := hW9.free 0
            have k1 := hW9.cell 1 _ rfl
            have f1 := hW9.free 1
            have k2 := hW9.cell 2 _ rfl
            have f2 := hW9.free 2
            have k3 := hW9.cell 3 _ rfl
            have f3 := hW9.free 3
            have hW4 : Blk w.heap.size 116 [.int .i64 d.kind, .string tx, .slice sa nl sc, .int .i64 d.num] ((((w9.setCell ⟨w.heap.size, 0, none⟩ (.int .i64 d.kind)).setCell ⟨w.heap.size, 1, none⟩ (.string tx)).setCell ⟨w.heap.size, 2, none⟩ (.slice sa nl sc)).setCell ⟨w.heap.size, 3, none⟩ (.int .i64 d.num)) := (((hW9.set 0 _).set 1 _).set 2 _).set 3 _
            have hg4 : w.grownBy ((((w9.setCell ⟨w.heap.size, 0, none⟩ (.int .i64 d.kind)).setCell ⟨w.heap.size, 1, none⟩ (.string tx)).setCell ⟨w.heap.size, 2, none⟩ (.slice sa nl sc)).setCell ⟨w.heap.size, 3, none⟩ (.int .i64 d.num)) (some g) := grown_put4 hg10 w.heap.size (Nat.le_refl _) _ _ _ _
            have hB4 : Rd g s9 o ((((w9.setCell ⟨w.heap.size, 0, none⟩ (.int .i64 d.kind)).setCell ⟨w.heap.size, 1, none⟩ (.string tx)).setCell ⟨w.heap.size, 2, none⟩ (.slice sa nl sc)).setCell ⟨w.heap.size, 3, none⟩ (.int .i64 d.num)) := blk_put4 hB9 w.heap.size (by omega) _ _ _ _
            have hO4 := own_put4 hO9 w.heap.size (by omega) (.int .i64 d.kind) (.string tx) (.slice sa nl sc) (.int .i64 d.num)
            go_wp2
            clear k0 k1 k2 k3 f0 f1 f2 f3
            change Strs _ _ _ ((((w9.setCell ⟨w.heap.size, 0, none⟩ (.int .i64 d.kind)).setCell ⟨w.heap.size, 1, none⟩ (.string tx)).setCell ⟨w.heap.size, 2, none⟩ (.slice sa nl sc)).setCell ⟨w.heap.size, 3, none⟩ (.int .i64 d.num)) at hO4
            generalize (((w9.setCell ⟨w.heap.size, 0, none⟩ (.int .i64 d.kind)).setCell ⟨w.heap.size, 1, none⟩ (.string tx)).setCell ⟨w.heap.size, 2, none⟩ (.slice sa nl sc)).setCell ⟨w.heap.size, 3, none⟩ (.int .i64 d.num) = w40 at *
            have d0 := hW4.cell 0 _ rfl
            have d1 := hW4.cell 1 _ rfl
            have d2 := hW4.cell 2 _ rfl
            have d3 := hW4.cell 3 _ rfl
            refine bodyPost_ret (v := .agg #[.int .i64 d.kind, .string tx, .slice sa nl sc, .int .i64 d.num]) (by simp [results, Tryz.results116, go_sem, d0, d1, d2, d3]) rfl ?_
            refine ⟨fun d' r' h => ?_, fun c' h => ?_, hg4⟩
            · rw [HS2.out] at h
              cases h
              exact ⟨.slice sa nl sc, s9, by rw [HTX.out]; rfl, World.ownsRow.mono hO4 (by omega), hs9, hB4⟩
            · rw [HS2.out] at h
              cases h
        · have h46b : ((c : Int) == 46) = false := beq_eq_false_iff_ne.2 (by omega)
          have hwl := HWL2.out
          rw [show (c == 46) = false from beq_eq_false_iff_ne.2 h46, if_neg (by simp)] at hwl
          have HWL3 := Lib.hid hwl
          clear hwl HWL2
          go_wp2_with (go_at_call 73; refine (digit_calls c _ (by omega) (by omega)).mono ?_; rw [hd]; rintro e w3 ⟨rfl, rfl⟩)
          clear hd h45' h46 h45b h46b
          refine (whas_calls g s2 ⟨#[36]⟩ o l _ hB2 hs2).mono ?_
          rintro e w3 ⟨s3, rfl, hs3, hB3, hg3⟩
          have hgC := hgB.trans hg3
          have hWC := Blk.grown hWB hg3 (by simp; omega)
          have hzC := Nat.lt_of_lt_of_le hzB hg3.size
          have hwl := HWL3.out
          clear hB2 hWB hg3 HWL3
          cases hp3 : List.isPrefixOf [36] l with
          | true =>
            rw [hp3, if_pos rfl] at hwl
            rw [show cutP (⟨#[36]⟩ : ByteArray).data.toList l = l.drop 1 from cutP_yes hp3] at hs3
            clear hp3
            have hN := wname_calls g s3 o (l.drop 1) _ hB3 hs3 (by rw [hs3.size, List.length_drop]; omega)
            cases hnm : nameL (l.drop 1) with
            | error e0 =>
              rw [hnm] at hwl
              have HS2 := Lib.hid hwl
              have HNM := Lib.hid hnm
              clear hwl hnm
              go_wp2_with fail
              refine hN.mono ?_
              rintro e w9 ⟨-, he, hg9⟩
              obtain rfl := he e0 HNM.out
              have hg10 := hgC.trans hg9
              unfold pan
              go_wp2
              refine ⟨rfl, fun d' r' h => ?_, fun c' h => ?_, hg10⟩
              · rw [HS2.out] at h
                cases h
              · rw [HS2.out] at h
                cases h
                rfl
            | ok y =>
              obtain ⟨x, r⟩ := y
              rw [hnm] at hwl
              have hrl := nameL_len hnm
              have HWL4 := Lib.hid hwl
              have HNM := Lib.hid hnm
              clear hwl hnm
              go_wp2_with fail
              refine hN.mono ?_
              rintro e w4 ⟨hok, -, hg9⟩
              obtain ⟨t, s4, rfl, ht, hs4, hB4'⟩ := hok x r HNM.out
              have hg10 := hgC.trans hg9
              have hW9 := Blk.grown hWC hg9 (by simp; omega)
              have HTX := Lib.hid ht.eq
              clear hok ht hN
              have hV : Blk w4.heap.size 116 [.int .i64 2, .string t, .slice none 0 0, .int .i64 0] (w4.alloc (.cells #[.int .i64 2, .string t, .slice none 0 0, .int .i64 0] 116)) := Blk.new w4 _ _
              have hb5 : Below w4.heap.size w4 (w4.alloc (.cells #[.int .i64 2, .string t, .slice none 0 0, .int .i64 0] 116)) := (Below.refl _ w4).alloc (Nat.le_refl _) _
              go_upto_region 12 with (fail)
              have hB5 := hB4'.below hb5
              have hW5 := hW9.below hb5
              have hg5 := hg10.trans (grownBy_below (row := some g) hb5)
              have hz4 : w.heap.size < w4.heap.size := Nat.lt_of_lt_of_le hzC hg9.size
              have hz5 : w4.heap.size < (w4.alloc (.cells #[.int .i64 2, .string t, .slice none 0 0, .int .i64 0] 116)).heap.size := by simp
              generalize w4.alloc (.cells #[.int .i64 2, .string t, .slice none 0 0, .int .i64 0] 116) = w5 at *
              obtain ⟨G2, hG2⟩ : ∃ G2, G2 = w4.heap.size := ⟨_, rfl⟩
              rw [← hG2] at hV hz4 hz5 ⊢
              have hP := wpath_calls g s4 o r _ hB5 hs4 (by rw [hs4.size]; rw [List.length_drop] at hrl; omega)
              clear hG2 hb5 hg9 hB4' hW9 hg10
              cases hpp : pathL r with
              | error e0 =>
                have HS2 := Lib.hid (HWL4.out.trans (by rw [hpp]; rfl : _ = (.error e0 : Except Nat (Wd × List UInt8))))
                have HPP := Lib.hid hpp
                clear hpp
                go_wp2_with fail
                refine hP.mono ?_
                rintro e w6 ⟨-, he, hg6⟩
                obtain rfl := he e0 HPP.out
                have hg10 := hg5.trans hg6
                unfold pan
                go_wp2
                refine ⟨rfl, fun d' r' h => ?_, fun c' h => ?_, hg10⟩
                · rw [HS2.out] at h
                  cases h
                · rw [HS2.out] at h
                  cases h
                  rfl
              | ok y =>
                obtain ⟨xs, r2⟩ := y
                have HS2 := Lib.hid (HWL4.out.trans (by rw [hpp]; rfl : _ = (.ok ((⟨2, x, xs, 0⟩ : Wd), r2) : Except Nat (Wd × List UInt8))))
                have HPP := Lib.hid hpp
                clear hpp
                go_wp2_with fail
                refine hP.mono ?_
                rintro e w6 ⟨hok, -, hg6⟩
                obtain ⟨pv, s6, rfl, hO6, hs6, hB6⟩ := hok xs r2 HPP.out
                have hg10 := hg5.trans hg6
                have hW6 := Blk.grown hW5 hg6 (by simp; omega)
                have hV6 := Blk.grown hV hg6 (by simp; omega)
                obtain ⟨sa, sc, rfl⟩ := hO6.slice
                obtain ⟨nl, hnl⟩ : ∃ nl, nl = xs.length := ⟨_, rfl⟩
                rw [← hnl] at hO6 ⊢
                have HNL := Lib.hid hnl
                have e2 := hV6.cell 2 _ rfl
                have q2 := hV6.free 2
                have hV7 := hV6.set 2 (.slice sa nl sc)
                have hg7 := grown_set hg10 G2 2 (by omega) (.slice sa nl sc)
                have hB7 := Blk.grown hB6 (grownBy_set w6 G2 2 (.slice sa nl sc)) (by simp; omega)
                have hW7 := Blk.grown hW6 (grownBy_set w6 G2 2 (.slice sa nl sc)) (by simp; omega)
                have hO7 : Strs w5.heap.size (.slice sa nl sc) xs (w6.setCell ⟨G2, 2, none⟩ (.slice sa nl sc)) := own_set hO6 (fun k => by have := own_base hO6 G2 k; omega) 2 _
                have e0 := hV6.cell 0 _ rfl
                have e1 := hV6.cell 1 _ rfl
                have e3 := hV6.cell 3 _ rfl
                have hne1 : G2 ≠ w.heap.size := by omega
                have hne2 : w.heap.size ≠ G2 := by omega
                have w60 := hW6.cell 0 _ rfl
                have w61 := hW6.cell 1 _ rfl
                have w62 := hW6.cell 2 _ rfl
                have w63 := hW6.cell 3 _ rfl
                have g60 := hW6.free 0
                have g61 := hW6.free 1
                have g62 := hW6.free 2
                have g63 := hW6.free 3
                clear hok hnl hP hV6 hW6 hB6 hO6 hg6 hg10 hg5 hW5 hB5 hV
                have hW4 : Blk w.heap.size 116 [.int .i64 2, .string t, .slice sa nl sc, .int .i64 0] (((((w6.setCell ⟨G2, 2, none⟩ (.slice sa nl sc)).setCell ⟨w.heap.size, 0, none⟩ (.int .i64 2)).setCell ⟨w.heap.size, 1, none⟩ (.string t)).setCell ⟨w.heap.size, 2, none⟩ (.slice sa nl sc)).setCell ⟨w.heap.size, 3, none⟩ (.int .i64 0)) := (((hW7.set 0 _).set 1 _).set 2 _).set 3 _
                have hg4 : w.grownBy (((((w6.setCell ⟨G2, 2, none⟩ (.slice sa nl sc)).setCell ⟨w.heap.size, 0, none⟩ (.int .i64 2)).setCell ⟨w.heap.size, 1, none⟩ (.string t)).setCell ⟨w.heap.size, 2, none⟩ (.slice sa nl sc)).setCell ⟨w.heap.size, 3, none⟩ (.int .i64 0)) (some g) := grown_put4 hg7 w.heap.size (Nat.le_refl _) _ _ _ _
                have hB4 : Rd g s6 o (((((w6.setCell ⟨G2, 2, none⟩ (.slice sa nl sc)).setCell ⟨w.heap.size, 0, none⟩ (.int .i64 2)).setCell ⟨w.heap.size, 1, none⟩ (.string t)).setCell ⟨w.heap.size, 2, none⟩ (.slice sa nl sc)).setCell ⟨w.heap.size, 3, none⟩ (.int .i64 0)) := blk_put4 hB7 w.heap.size (by omega) _ _ _ _
                have hO4 := own_put4 hO7 w.heap.size (by omega) (.int .i64 2) (.string t) (.slice sa nl sc) (.int .i64 0)
                go_wp2
                clear e0 e1 e2 e3 q2 w60 w61 w62 w63 g60 g61 g62 g63
                change Strs _ _ _ (((((w6.setCell ⟨G2, 2, none⟩ (.slice sa nl sc)).setCell ⟨w.heap.size, 0, none⟩ (.int .i64 2)).setCell ⟨w.heap.size, 1, none⟩ (.string t)).setCell ⟨w.heap.size, 2, none⟩ (.slice sa nl sc)).setCell ⟨w.heap.size, 3, none⟩ (.int .i64 0)) at hO4
                generalize ((((w6.setCell ⟨G2, 2, none⟩ (.slice sa nl sc)).setCell ⟨w.heap.size, 0, none⟩ (.int .i64 2)).setCell ⟨w.heap.size, 1, none⟩ (.string t)).setCell ⟨w.heap.size, 2, none⟩ (.slice sa nl sc)).setCell ⟨w.heap.size, 3, none⟩ (.int .i64 0) = w40 at *
                have d0 := hW4.cell 0 _ rfl
                have d1 := hW4.cell 1 _ rfl
                have d2 := hW4.cell 2 _ rfl
                have d3 := hW4.cell 3 _ rfl
                refine bodyPost_ret (v := .agg #[.int .i64 2, .string t, .slice sa nl sc, .int .i64 0]) (by simp [results, Tryz.results116, go_sem, d0, d1, d2, d3]) rfl ?_
                refine ⟨fun d' r' h => ?_, fun c' h => ?_, hg4⟩
                · rw [HS2.out] at h
                  cases h
                  exact ⟨.slice sa nl sc, s6, by rw [HTX.out]; rfl, World.ownsRow.mono hO4 (by omega), hs6, hB4⟩
                · rw [HS2.out] at h
                  cases h
          | false =>
            rw [hp3, if_neg (by simp)] at hwl
            rw [show cutP (⟨#[36]⟩ : ByteArray).data.toList l = l from cutP_no hp3] at hs3
            clear hp3
            cases hf : wfirst c with
            | true =>
              rw [hf, if_pos rfl] at hwl
              have hN := wname_calls g s3 o l _ hB3 hs3 (by rw [hs3.size]; omega)
              cases hnm : nameL l with
              | error e0 =>
                rw [hnm] at hwl
                have HS2 := Lib.hid hwl
                have HNM := Lib.hid hnm
                clear hwl hnm
                go_wp2_with (go_at_call 130; refine (wfirst_calls c _ hlt).mono ?_; rw [hf]; rintro e w9 ⟨rfl, rfl⟩)
                refine hN.mono ?_
                rintro e w9 ⟨-, he, hg9⟩
                obtain rfl := he e0 HNM.out
                have hg10 := hgC.trans hg9
                unfold pan
                go_wp2
                refine ⟨rfl, fun d' r' h => ?_, fun c' h => ?_, hg10⟩
                · rw [HS2.out] at h
                  cases h
                · rw [HS2.out] at h
                  cases h
                  rfl
              | ok y =>
                obtain ⟨x, r⟩ := y
                rw [hnm] at hwl
                have HS2 := Lib.hid hwl
                have HNM := Lib.hid hnm
                clear hwl hnm
                go_wp2_with (go_at_call 130; refine (wfirst_calls c _ hlt).mono ?_; rw [hf]; rintro e w9 ⟨rfl, rfl⟩)
                refine hN.mono ?_
                rintro e w9 ⟨hok, -, hg9⟩
                obtain ⟨t, s9, rfl, ht, hs9, hB9⟩ := hok x r HNM.out
                have hg10 := hgC.trans hg9
                have hW9 := Blk.grown hWC hg9 (by simp; omega)
                have HTX := Lib.hid ht.eq
                clear hok ht
                have k0 := hW9.cell 0 _ rfl
                have f0 := hW9.free 0
                have k1 := hW9.cell 1 _ rfl
                have f1 := hW9.free 1
                have k2 := hW9.cell 2 _ rfl
                have f2 := hW9.free 2
                have k3 := hW9.cell 3 _ rfl
                have f3 := hW9.free 3
                have hW4 : Blk w.heap.size 116 [.int .i64 0, .string t, .slice none 0 0, .int .i64 0] ((((w9.setCell ⟨w.heap.size, 0, none⟩ (.int .i64 0)).setCell ⟨w.heap.size, 1, none⟩ (.string t)).setCell ⟨w.heap.size, 2, none⟩ (.slice none 0 0)).setCell ⟨w.heap.size, 3, none⟩ (.int .i64 0)) := (((hW9.set 0 _).set 1 _).set 2 _).set 3 _
                have hg4 : w.grownBy ((((w9.setCell ⟨w.heap.size, 0, none⟩ (.int .i64 0)).setCell ⟨w.heap.size, 1, none⟩ (.string t)).setCell ⟨w.heap.size, 2, none⟩ (.slice none 0 0)).setCell ⟨w.heap.size, 3, none⟩ (.int .i64 0)) (some g) := grown_put4 hg10 w.heap.size (Nat.le_refl _) _ _ _ _
                have hB4 : Rd g s9 o ((((w9.setCell ⟨w.heap.size, 0, none⟩ (.int .i64 0)).setCell ⟨w.heap.size, 1, none⟩ (.string t)).setCell ⟨w.heap.size, 2, none⟩ (.slice none 0 0)).setCell ⟨w.heap.size, 3, none⟩ (.int .i64 0)) := blk_put4 hB9 w.heap.size (by omega) _ _ _ _
                go_wp2
                clear k0 k1 k2 k3 f0 f1 f2 f3
                generalize (((w9.setCell ⟨w.heap.size, 0, none⟩ (.int .i64 0)).setCell ⟨w.heap.size, 1, none⟩ (.string t)).setCell ⟨w.heap.size, 2, none⟩ (.slice none 0 0)).setCell ⟨w.heap.size, 3, none⟩ (.int .i64 0) = w40 at *
                have d0 := hW4.cell 0 _ rfl
                have d1 := hW4.cell 1 _ rfl
                have d2 := hW4.cell 2 _ rfl
                have d3 := hW4.cell 3 _ rfl
                refine bodyPost_ret (v := .agg #[.int .i64 0, .string t, .slice none 0 0, .int .i64 0]) (by simp [results, Tryz.results116, go_sem, d0, d1, d2, d3]) rfl ?_
                refine ⟨fun d' r' h => ?_, fun c' h => ?_, hg4⟩
                · rw [HS2.out] at h
                  cases h
                  exact ⟨.slice none 0 0, s9, by rw [HTX.out]; rfl, strs_nil _ _, hs9, hB4⟩
                · rw [HS2.out] at h
                  cases h
            | false =>
              rw [hf, if_neg (by simp)] at hwl
              have HS2 := Lib.hid hwl
              clear hwl
              go_wp2_with (go_at_call 130; refine (wfirst_calls c _ hlt).mono ?_; rw [hf]; rintro e w9 ⟨rfl, rfl⟩)
              refine ⟨rfl, fun d' r' h => ?_, fun c' h => ?_, hgC⟩
              · rw [HS2.out] at h
                cases h
              · rw [HS2.out] at h
                cases h
                rfl
end Go.Proofs.YtdaffedbboofjaaGreatDoor.S
