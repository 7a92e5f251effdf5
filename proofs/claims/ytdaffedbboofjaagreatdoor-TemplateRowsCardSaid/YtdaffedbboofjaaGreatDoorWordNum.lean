/-
  THE WALK of package words' number.
-/
import Derived.Test.YtdaffedbboofjaaGreatDoorWordField
set_option linter.unusedVariables false
set_option linter.unusedSimpArgs false
namespace Go.Proofs.YtdaffedbboofjaaGreatDoor.S
open Go.RowKit

theorem digN_drop {s : ByteArray} (k : Nat) (h : k < s.size) : digN (s.data.toList.drop k) = if digitI (s[k]'h).toNat = true then digN (s.data.toList.drop (k + 1)) + 1 else 0 := by
  rw [drop_cons s k h]
  rfl
theorem digV_drop {s : ByteArray} (k x : Nat) (h : k < s.size) (hd : digitI (s[k]'h).toNat = true) : digV x ((s.data.toList.drop k).take (digN (s.data.toList.drop k))) = digV (min (10 * x + ((s[k]'h).toNat - 48)) 9007199254740992) ((s.data.toList.drop (k + 1)).take (digN (s.data.toList.drop (k + 1)))) := by
  rw [digN_drop k h, if_pos hd]
  conv => lhs; rw [drop_cons s k h]
  rfl

set_option maxRecDepth 100000 in
set_option maxHeartbeats 4000000 in
theorem wnumber_calls (g : Nat) (s : ByteArray) (o : Value) (l : List UInt8) (w : World) (hB : Rd g s o w) (hl : StrIs s l) (hs : s.size ≤ 4611686018427387900) :
    Calls Tryz.prog 151 #[.pointer (some ⟨g, 0, none⟩)] w fun e w' => WPost ((numL l).map fun x => (⟨3, [], [], x.1⟩, x.2)) w g o e w' := by
  have hgl := hB.lt
  have hll : l.length = s.size := hl.size.symm
  have hW : Blk w.heap.size 116 wd0 (w.alloc (.cells wd0.toArray 116)) := Blk.new w _ _
  have hb0 : Below w.heap.size w (w.alloc (.cells wd0.toArray 116)) := (Below.refl _ w).alloc (Nat.le_refl _) _
  have hB0 := hB.below hb0
  go_enter Tryz.func151, Tryz.ntmps151
  go_upto_region 1 with (fail)
  generalize w.alloc (.cells wd0.toArray 116) = w0 at *
  go_wp2_with fail
  refine (whas_calls g s ⟨#[45]⟩ o l _ hB0 hl).mono ?_
  rintro e w1 ⟨s1, rfl, hs1, hB1, hg1⟩
  have hg := (grownBy_below (row := some g) hb0).trans hg1
  have hW1 := Blk.grown hW hg1 (by simp; omega)
  obtain ⟨B, hBB⟩ : ∃ B, B = List.isPrefixOf (⟨#[45]⟩ : ByteArray).data.toList l := ⟨_, rfl⟩
  obtain ⟨r, hr⟩ : ∃ r, r = cutP (⟨#[45]⟩ : ByteArray).data.toList l := ⟨_, rfl⟩
  have hN : numL l = if 0 < digN r ∧ digV 0 (r.take (digN r)) ≤ 9007199254740991 then .ok (if B = true then -(digV 0 (r.take (digN r)) : Int) else (digV 0 (r.take (digN r)) : Int), r.drop (digN r)) else .error 1402 := by
    have e : r = if List.isPrefixOf [45] l = true then l.drop 1 else l := hr
    unfold numL
    dsimp only
    rw [← e, show List.isPrefixOf [45] l = B from hBB.symm]
  rw [← hr] at hs1
  rw [← hBB]
  have hs1z : s1.size ≤ s.size := by
    rw [hs1.size, hr, ← hll]
    cases hq : List.isPrefixOf (⟨#[45]⟩ : ByteArray).data.toList l with
    | true => rw [cutP_yes hq]; simp
    | false => rw [cutP_no hq]; exact Nat.le_refl _
  have HN := Lib.hid hN
  obtain rfl : s1.data.toList = r := hs1
  clear hN hBB hr hB0 hW hb0 hg1
  have c0 := hB1.cell 0 _ rfl
  go_wp2
  go_loopg [4, 5] s1.size (fun gk v4 v5 wr => ∃ (k x : Nat), v4 = .int .i64 k ∧ v5 = .int .i64 x ∧ k + gk = s1.size ∧ x ≤ 9007199254740992 ∧ Hid (digN s1.data.toList = k + digN (s1.data.toList.drop k)) ∧ Hid (digV 0 (s1.data.toList.take (digN s1.data.toList)) = digV x ((s1.data.toList.drop k).take (digN (s1.data.toList.drop k)))) ∧ w1 = wr)
  case atStart => exact ⟨0, 0, rfl, rfl, by omega, by omega, (by show _ = _; simp), rfl, rfl⟩
  case round =>
    obtain ⟨k, x, rfl, rfl, hkg, hx, hD, hV, rfl⟩ := hrel
    have HKG := Lib.hid hkg
    have hks : k ≤ s1.size := by omega
    clear hkg
    obtain ⟨D, hD'⟩ : ∃ D, D = decide (0 < digN (s1.data.toList.drop k)) := ⟨_, rfl⟩
    have HD := Lib.hid hD'
    clear hD'
    go_upto_region 3 with (fail)
    go_cut [23] (fun v23 wx => v23 = .bool D ∧ w1 = wx)
    case first =>
      by_cases h : k < s1.size
      · have hkb : decide ((k : Int) < (s1.size : Int)) = true := decide_eq_true (by omega)
        have hst := digN_drop k h
        obtain ⟨b, hb⟩ : ∃ b : UInt8, b = s1[k]'h := ⟨_, rfl⟩
        have hbt : ∀ h', ((s1[k]'h').toNat : Nat) = b.toNat := fun h' => by rw [hb]
        rw [← hb] at hst
        have hlt := b.toNat_lt
        clear hb
        generalize b.toNat = d at *
        have hbb : D = digitI d := by rw [HD.out, hst]; cases digitI d <;> simp
        have HBB := Lib.hid hbb
        clear hst hbb
        go_wp2_with (go_at_call 73; refine (digit_calls d _ (by omega) (by omega)).mono ?_; rintro e w3 ⟨rfl, rfl⟩)
        go_meet
        exact ⟨by rw [HBB.out], rfl⟩
      · have hkb : decide ((k : Int) < (s1.size : Int)) = false := decide_eq_false (by omega)
        have hbb : D = false := by rw [HD.out, List.drop_eq_nil_of_le (by rw [size_list]; omega)]; rfl
        have HBB := Lib.hid hbb
        clear hbb
        go_wp2
        go_meet
        exact ⟨by rw [HBB.out], rfl⟩
    case rest =>
    obtain ⟨rfl, rfl⟩ := hcut
    cases D with
    | true =>
      have hb0 : 0 < digN (s1.data.toList.drop k) := of_decide_eq_true HD.out.symm
      have h : k < s1.size := by
        refine Nat.lt_of_not_le fun h => ?_
        rw [List.drop_eq_nil_of_le (by rw [size_list]; exact h)] at hb0
        exact absurd hb0 (by decide)
      have hst := digN_drop k h
      have hvt := digV_drop k x h
      obtain ⟨b, hb⟩ : ∃ b : UInt8, b = s1[k]'h := ⟨_, rfl⟩
      have hbt : ∀ h', ((s1[k]'h').toNat : Nat) = b.toNat := fun h' => by rw [hb]
      rw [← hb] at hst hvt
      have hlt := b.toNat_lt
      clear hb
      generalize b.toNat = d at *
      have hd : digitI d = true := by
        cases hd : digitI d with
        | true => rfl
        | false => rw [hd] at hst; simp at hst; omega
      have hdr := digitI_true.1 hd
      have hv := hV.out.trans (hvt hd)
      rw [hd, if_pos rfl] at hst
      have hsub : ((d : Int) - 48) % 256 = (d : Int) - 48 := by omega
      have hmin : ((min (10 * x + (d - 48)) 9007199254740992 : Nat) : Int) = min (10 * (x : Int) + ((d : Int) - 48)) 9007199254740992 := by omega
      have HM := Lib.hid hmin
      have HV := Lib.hid hv
      have HST := Lib.hid hst
      clear hvt hst hv hmin hd hb0
      go_wp2
      go_roundg (gk - 1)
      case measure => have := HKG.out; omega
      case rel => exact ⟨k + 1, min (10 * x + (d - 48)) 9007199254740992, by go_num, by rw [HM.out], by have := HKG.out; omega, Nat.min_le_right _ _, (by have := hD.out; have := HST.out; show _ = _; omega), HV.out, rfl⟩
    | false =>
      have hn0 : digN (s1.data.toList.drop k) = 0 := by have := of_decide_eq_false HD.out.symm; omega
      have hk : digN s1.data.toList = k := by have := hD.out; omega
      have hv := hV.out
      rw [hn0, List.take_zero] at hv
      have hv2 : digV 0 (s1.data.toList.take (digN s1.data.toList)) = x := hv
      have hN := HN.out
      rw [hv2, hk] at hN
      have hN2 := Lib.hid hN
      clear hn0 hk hv hv2 hN HN HD hD hV HKG
      by_cases hok : 0 < k ∧ x ≤ 9007199254740991
      · obtain ⟨h1, h2⟩ := hok
        have h1b : decide (0 < (k : Int)) = true := decide_eq_true (by omega)
        have h2b : decide ((x : Int) ≤ 9007199254740991) = true := decide_eq_true (by omega)
        have hN := hN2.out
        rw [if_pos ⟨h1, h2⟩] at hN
        have HN := Lib.hid hN
        clear hN hN2
        go_wp2_with (go_at_call 117; refine (fail_ok _ _).mono ?_; rintro e w9 ⟨rfl, rfl⟩)
        refine (wtake_calls g s1 o _ k _ hB1 rfl hks (by omega)).mono ?_
        rintro e w2 ⟨t, s2, rfl, -, hs2, hB2, hg2⟩
        have hgA := hg.trans hg2
        have hW2 := Blk.grown hW1 hg2 (by simp; omega)
        have c0 := hW2.cell 0 _ rfl
        have c1 := hW2.cell 1 _ rfl
        have c2 := hW2.cell 2 _ rfl
        have c3 := hW2.cell 3 _ rfl
        have f0 := hW2.free 0
        have f1 := hW2.free 1
        have f2 := hW2.free 2
        have f3 := hW2.free 3
        clear hW1 hB1 hg hg2
        cases B with
        | true =>
          have hN := HN.out
          rw [if_pos rfl] at hN
          have HN3 := Lib.hid hN
          clear hN HN
          have hW4 : Blk w.heap.size 116 [.int .i64 3, .string ⟨#[]⟩, .slice none 0 0, .int .i64 (-(x : Int))] ((((w2.setCell ⟨w.heap.size, 0, none⟩ (.int .i64 3)).setCell ⟨w.heap.size, 1, none⟩ (.string ⟨#[]⟩)).setCell ⟨w.heap.size, 2, none⟩ (.slice none 0 0)).setCell ⟨w.heap.size, 3, none⟩ (.int .i64 (-(x : Int)))) := (((hW2.set 0 _).set 1 _).set 2 _).set 3 _
          have hg4 : w.grownBy ((((w2.setCell ⟨w.heap.size, 0, none⟩ (.int .i64 3)).setCell ⟨w.heap.size, 1, none⟩ (.string ⟨#[]⟩)).setCell ⟨w.heap.size, 2, none⟩ (.slice none 0 0)).setCell ⟨w.heap.size, 3, none⟩ (.int .i64 (-(x : Int)))) (some g) := grown_put4 hgA w.heap.size (Nat.le_refl _) _ _ _ _
          have hB4 : Rd g s2 o ((((w2.setCell ⟨w.heap.size, 0, none⟩ (.int .i64 3)).setCell ⟨w.heap.size, 1, none⟩ (.string ⟨#[]⟩)).setCell ⟨w.heap.size, 2, none⟩ (.slice none 0 0)).setCell ⟨w.heap.size, 3, none⟩ (.int .i64 (-(x : Int)))) := blk_put4 hB2 w.heap.size (by omega) _ _ _ _
          go_wp2
          clear c0 c1 c2 c3 f0 f1 f2 f3
          generalize (((w2.setCell ⟨w.heap.size, 0, none⟩ (.int .i64 3)).setCell ⟨w.heap.size, 1, none⟩ (.string ⟨#[]⟩)).setCell ⟨w.heap.size, 2, none⟩ (.slice none 0 0)).setCell ⟨w.heap.size, 3, none⟩ (.int .i64 (-(x : Int))) = w4 at *
          have d0 := hW4.cell 0 _ rfl
          have d1 := hW4.cell 1 _ rfl
          have d2 := hW4.cell 2 _ rfl
          have d3 := hW4.cell 3 _ rfl
          refine bodyPost_ret (v := wdV ⟨3, [], [], -(x : Int)⟩ (.slice none 0 0)) (by simp [results, Tryz.results151, go_sem, wdV, d0, d1, d2, d3]) rfl ?_
          refine ⟨fun d r' h => ?_, fun c' h => ?_, hg4⟩
          · rw [HN3.out] at h
            cases h
            exact ⟨_, s2, rfl, strs_nil _ _, hs2, hB4⟩
          · rw [HN3.out] at h
            cases h
        | false =>
          have hN := HN.out
          rw [if_neg (by simp)] at hN
          have HN3 := Lib.hid hN
          clear hN HN
          have hW4 : Blk w.heap.size 116 [.int .i64 3, .string ⟨#[]⟩, .slice none 0 0, .int .i64 ((x : Int))] ((((w2.setCell ⟨w.heap.size, 0, none⟩ (.int .i64 3)).setCell ⟨w.heap.size, 1, none⟩ (.string ⟨#[]⟩)).setCell ⟨w.heap.size, 2, none⟩ (.slice none 0 0)).setCell ⟨w.heap.size, 3, none⟩ (.int .i64 ((x : Int)))) := (((hW2.set 0 _).set 1 _).set 2 _).set 3 _
          have hg4 : w.grownBy ((((w2.setCell ⟨w.heap.size, 0, none⟩ (.int .i64 3)).setCell ⟨w.heap.size, 1, none⟩ (.string ⟨#[]⟩)).setCell ⟨w.heap.size, 2, none⟩ (.slice none 0 0)).setCell ⟨w.heap.size, 3, none⟩ (.int .i64 ((x : Int)))) (some g) := grown_put4 hgA w.heap.size (Nat.le_refl _) _ _ _ _
          have hB4 : Rd g s2 o ((((w2.setCell ⟨w.heap.size, 0, none⟩ (.int .i64 3)).setCell ⟨w.heap.size, 1, none⟩ (.string ⟨#[]⟩)).setCell ⟨w.heap.size, 2, none⟩ (.slice none 0 0)).setCell ⟨w.heap.size, 3, none⟩ (.int .i64 ((x : Int)))) := blk_put4 hB2 w.heap.size (by omega) _ _ _ _
          go_wp2
          clear c0 c1 c2 c3 f0 f1 f2 f3
          generalize (((w2.setCell ⟨w.heap.size, 0, none⟩ (.int .i64 3)).setCell ⟨w.heap.size, 1, none⟩ (.string ⟨#[]⟩)).setCell ⟨w.heap.size, 2, none⟩ (.slice none 0 0)).setCell ⟨w.heap.size, 3, none⟩ (.int .i64 ((x : Int))) = w4 at *
          have d0 := hW4.cell 0 _ rfl
          have d1 := hW4.cell 1 _ rfl
          have d2 := hW4.cell 2 _ rfl
          have d3 := hW4.cell 3 _ rfl
          refine bodyPost_ret (v := wdV ⟨3, [], [], (x : Int)⟩ (.slice none 0 0)) (by simp [results, Tryz.results151, go_sem, wdV, d0, d1, d2, d3]) rfl ?_
          refine ⟨fun d r' h => ?_, fun c' h => ?_, hg4⟩
          · rw [HN3.out] at h
            cases h
            exact ⟨_, s2, rfl, strs_nil _ _, hs2, hB4⟩
          · rw [HN3.out] at h
            cases h
      · by_cases h1 : 0 < k
        · have h1b : decide (0 < (k : Int)) = true := decide_eq_true (by omega)
          have h2b : decide ((x : Int) ≤ 9007199254740991) = false := decide_eq_false (by omega)
          have hN := hN2.out
          rw [if_neg hok] at hN
          have HN := Lib.hid hN
          clear hN hN2 hok
          go_wp2_with (go_at_call 117; refine (fail_no 1402 _).mono ?_; unfold pan; rintro e w9 ⟨rfl, rfl⟩)
          refine ⟨rfl, fun d r' h => ?_, fun c' h => ?_, hg⟩
          · rw [HN.out] at h
            cases h
          · rw [HN.out] at h
            cases h
            rfl
        · have h1b : decide (0 < (k : Int)) = false := decide_eq_false (by omega)
          have hN := hN2.out
          rw [if_neg hok] at hN
          have HN := Lib.hid hN
          clear hN hN2 hok
          go_wp2_with (go_at_call 117; refine (fail_no 1402 _).mono ?_; unfold pan; rintro e w9 ⟨rfl, rfl⟩)
          refine ⟨rfl, fun d r' h => ?_, fun c' h => ?_, hg⟩
          · rw [HN.out] at h
            cases h
          · rw [HN.out] at h
            cases h
            rfl
end Go.Proofs.YtdaffedbboofjaaGreatDoor.S
