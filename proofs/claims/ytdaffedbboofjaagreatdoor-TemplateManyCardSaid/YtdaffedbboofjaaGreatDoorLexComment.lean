/-
  THE WALK of package lex's comment.
-/
import Derived.Test.YtdaffedbboofjaaGreatDoorLexText
import Derived.Test.YtdaffedbboofjaaGreatDoorLexEnd
set_option linter.unusedVariables false
set_option linter.unusedSimpArgs false
namespace Go.Proofs.YtdaffedbboofjaaGreatDoor.S
open Go.RowKit

theorem comL_has {l : List UInt8} (h : hasI [42, 47] l = true) : comL l =
    (let j := cutI [42, 47] l + 2
     let k := blkN (l.drop j)
     let tr := decide (0 < k) && List.isPrefixOf [45] (l.drop (j + k))
     let m := if tr = true then j + k + 1 else j + k
     if List.isPrefixOf [125, 125] (l.drop m) = true then some (m + 2, tr) else none) := by
  unfold comL
  rw [if_pos h]
theorem comL_not {l : List UInt8} (h : hasI [42, 47] l = false) : comL l = none := by
  unfold comL
  rw [if_neg (by simp [h])]
theorem pre_len {p l : List UInt8} (h : List.isPrefixOf p l = true) : p.length ≤ l.length := List.IsPrefix.length_le (List.isPrefixOf_iff_prefix.1 h)

set_option maxRecDepth 100000 in
set_option maxHeartbeats 4000000 in
theorem comment_calls (g : Nat) (s : ByteArray) (i : Nat) (ps : List Pc) (w : World) (hE : EnvAt g w) (hC : Cur g s i false ps w) (hi : i + 2 ≤ s.size) (hs : s.size ≤ 65536) :
    Calls Tryz.prog 86 #[.pointer (some ⟨g, 0, none⟩)] w fun e w' => ∃ b, e = .returned (.bool b) ∧ Below g w w' ∧ (∀ n tr, comL (s.data.toList.drop (i + 2)) = some (n, tr) → b = true ∧ i + 2 + n ≤ s.size ∧ Cur g s (i + 2 + n) tr ps w') ∧ (comL (s.data.toList.drop (i + 2)) = none → b = false) := by
  obtain ⟨v, hB, hP⟩ := hC
  have hbase : g + 1 ≤ w.heap.size := hB.lt
  have hne : v.ownBlock ≠ some g := fun h => by have := own_base hP g h; omega
  obtain ⟨l, hl0⟩ : ∃ l, l = s.data.toList.drop (i + 2) := ⟨_, rfl⟩
  have hll := congrArg List.length hl0
  rw [List.length_drop, size_list] at hll
  rw [← hl0]
  have HL := Lib.hid hl0
  have HLL := Lib.hid hll
  clear hl0 hll
  have c1 := hB.cell 1 _ rfl
  have f1 := hB.free 1
  go_enter Tryz.func86, Tryz.ntmps86
  go_wp2_with fail
  have hB1 := hB.goto ((i : Int) + 2) (i + 2) (by omega)
  have hg1 := grownBy_set w g 1 (.int .i64 ((i : Int) + 2))
  generalize w.setCell ⟨g, 1, none⟩ (.int .i64 ((i : Int) + 2)) = w1 at *
  clear c1 f1
  refine (rest_calls g s (i + 2) false v _ hB1 hi (by omega)).mono ?_
  rintro e w2 ⟨r, rfl, hr, hb2⟩
  have hB2 := hB1.below hb2
  have hg2 := hg1.trans (grownBy_below (row := some g) hb2)
  have hE2 := hE.below (Below.grow1 hg2 (by omega) (Nat.le_refl g))
  rw [← HL.out] at hr
  have hrs := hr.size
  rw [HLL.out] at hrs
  have HRS := Lib.hid hrs
  clear hrs
  go_wp2_with fail
  refine (index_calls r ⟨#[42, 47]⟩ l hr _ hE2.env (by rw [HRS.out]; omega) (by simp)).mono ?_
  rw [show (⟨#[42, 47]⟩ : ByteArray).data.toList = [42, 47] from rfl]
  cases hh : hasI [42, 47] l with
  | false =>
    rw [if_neg (by simp)]
    have hcn := comL_not hh
    have HCN := Lib.hid hcn
    clear hcn hh
    rintro e w3 ⟨rfl, rfl⟩
    go_wp2
    go_ret
    exact ⟨_, rfl, Below.grow1 hg2 (by omega) (Nat.le_refl g), fun n tr h => (by rw [HCN.out] at h; cases h), fun _ => rfl⟩
  | true =>
    rw [if_pos rfl]
    have hcm := comL_has hh
    dsimp only at hcm
    have hle := (cutI_some [42, 47] (by simp) l hh).2
    obtain ⟨c, hc⟩ : ∃ c, c = cutI [42, 47] l := ⟨_, rfl⟩
    rw [← hc] at hcm hle ⊢
    simp only [List.length_cons, List.length_nil] at hle
    have hle2 : i + 2 + c + 2 ≤ s.size := by rw [HLL.out] at hle; omega
    obtain ⟨k, hk⟩ : ∃ k, k = blkN (l.drop (c + 2)) := ⟨_, rfl⟩
    have hkl := blkN_le (l.drop (c + 2))
    rw [List.length_drop, HLL.out] at hkl
    rw [← hk] at hcm hkl
    have hld : s.data.toList.drop (i + 2 + c + 2) = l.drop (c + 2) := by rw [HL.out, List.drop_drop]; congr 1
    have hsk := fun W hW => skip_calls g s (i + 2 + c + 2) false v W hW (by omega) (by omega)
    rw [hld, ← hk] at hsk
    have HCM := Lib.hid hcm
    have HSK := Lib.hid hsk
    clear hcm hsk hk hh hc hld hle
    rintro e w3 ⟨rfl, rfl⟩
    have c1 := hB2.cell 1 _ rfl
    have f1 := hB2.free 1
    go_wp2_with fail
    have hB3 := hB2.goto ((i : Int) + 2 + ((c : Int) + 2)) (i + 2 + c + 2) (by omega)
    have hg3 := hg2.trans (grownBy_set w2 g 1 (.int .i64 ((i : Int) + 2 + ((c : Int) + 2))))
    generalize w2.setCell ⟨g, 1, none⟩ (.int .i64 ((i : Int) + 2 + ((c : Int) + 2))) = w3 at *
    clear c1 f1
    refine (HSK.out _ hB3).mono ?_
    rintro e w4 ⟨rfl, hB4, hg4'⟩
    have hg4 := hg3.trans hg4'
    clear hB3 hg3 hg4' HSK
    cases htr : (decide (0 < k) && List.isPrefixOf [45] (l.drop (c + 2 + k))) with
    | true =>
      rw [Bool.and_eq_true] at htr
      obtain ⟨hk0, hpm⟩ := htr
      have hcm := HCM.out
      rw [hk0, hpm] at hcm
      simp only [Bool.and_self, if_true] at hcm
      have HCM := Lib.hid hcm
      clear hcm
      have hpl := pre_len hpm
      rw [List.length_drop, HLL.out] at hpl
      simp only [List.length_cons, List.length_nil] at hpl
      have hi4 : i + 2 + c + 2 + k + 1 ≤ s.size := by omega
      clear hpl hkl
      go_wp2_with fail
      refine (rest_calls g s (i + 2 + c + 2 + k) false v _ hB4 (by omega) (by omega)).mono ?_
      rintro e w5 ⟨r5, rfl, hr5, hb5⟩
      have hB5 := hB4.below hb5
      have hg5 := hg4.trans (grownBy_below (row := some g) hb5)
      have hld : s.data.toList.drop (i + 2 + c + 2 + k) = l.drop (c + 2 + k) := by rw [HL.out, List.drop_drop]; congr 1; omega
      rw [hld] at hr5
      clear hld
      go_wp2_with fail
      refine (prefix_calls r5 ⟨#[45]⟩ _ hr5 _).mono ?_
      rw [show (⟨#[45]⟩ : ByteArray).data.toList = [45] from rfl, hpm]
      rintro e w6 ⟨rfl, rfl⟩
      have c1 := hB5.cell 1 _ rfl
      have f1 := hB5.free 1
      have c2 := hB5.cell 2 _ rfl
      have f2 := hB5.free 2
      go_wp2_with fail
      have hB6 := (hB5.goto ((i : Int) + 2 + c + 2 + k + 1) (i + 2 + c + 2 + k + 1) (by omega)).trims
      have hg6 := (hg5.trans (grownBy_set w5 g 1 (.int .i64 ((i : Int) + 2 + c + 2 + k + 1)))).trans (grownBy_set _ g 2 (.bool true))
      generalize (w5.setCell ⟨g, 1, none⟩ (.int .i64 ((i : Int) + 2 + c + 2 + k + 1))).setCell ⟨g, 2, none⟩ (.bool true) = w6 at *
      clear c1 f1 c2 f2 hr5 hb5 hB5 hg5 hB4 hg4
      refine (rest_calls g s (i + 2 + c + 2 + k + 1) true v _ hB6 (by omega) (by omega)).mono ?_
      rintro e w7 ⟨r7, rfl, hr7, hb7⟩
      have hB7 := hB6.below hb7
      have hg7 := hg6.trans (grownBy_below (row := some g) hb7)
      have hld : s.data.toList.drop (i + 2 + c + 2 + k + 1) = l.drop (c + 2 + k + 1) := by rw [HL.out, List.drop_drop]; congr 1; omega
      rw [hld] at hr7
      clear hld
      go_wp2_with fail
      refine (prefix_calls r7 ⟨#[125, 125]⟩ _ hr7 _).mono ?_
      rw [show (⟨#[125, 125]⟩ : ByteArray).data.toList = [125, 125] from rfl]
      have hcm := HCM.out
      cases hpe : List.isPrefixOf [125, 125] (l.drop (c + 2 + k + 1)) with
      | true =>
        rw [hpe, if_pos rfl] at hcm
        have HCM := Lib.hid hcm
        have hpl := pre_len hpe
        rw [List.length_drop, HLL.out] at hpl
        simp only [List.length_cons, List.length_nil] at hpl
        have hi7 : i + 2 + c + 2 + k + 1 + 2 ≤ s.size := by omega
        clear hcm hpl
        rintro e w8 ⟨rfl, rfl⟩
        have c1 := hB7.cell 1 _ rfl
        have f1 := hB7.free 1
        go_wp2
        go_ret
        refine ⟨_, rfl, Below.grow1 (hg7.trans (grownBy_set _ g 1 _)) (by omega) (Nat.le_refl g), fun n tr h => ?_, fun h => ?_⟩
        · rw [HCM.out] at h
          cases h
          refine ⟨rfl, by omega, v, ?_, ?_⟩
          · exact hB7.goto _ _ (by omega)
          · exact own_set (World.ownsRow.kept hP hg7 (.inr hne)) hne 1 _
        · rw [HCM.out] at h
          cases h
      | false =>
        rw [hpe, if_neg (by simp)] at hcm
        have HCM := Lib.hid hcm
        clear hcm
        rintro e w8 ⟨rfl, rfl⟩
        go_wp2
        go_ret
        exact ⟨_, rfl, Below.grow1 hg7 (by omega) (Nat.le_refl g), fun n tr h => (by rw [HCM.out] at h; cases h), fun _ => rfl⟩
    | false =>
      have hcm := HCM.out
      rw [htr] at hcm
      simp only [Bool.false_eq_true, if_false] at hcm
      have HCM := Lib.hid hcm
      clear hcm
      have hi4 : i + 2 + c + 2 + k ≤ s.size := by omega
      clear hkl
      cases hk0 : decide (0 < k) with
      | true =>
        rw [hk0, Bool.true_and] at htr
        go_wp2_with fail
        refine (rest_calls g s (i + 2 + c + 2 + k) false v _ hB4 (by omega) (by omega)).mono ?_
        rintro e w5 ⟨r5, rfl, hr5, hb5⟩
        have hB6 := hB4.below hb5
        have hg6 := hg4.trans (grownBy_below (row := some g) hb5)
        have hld : s.data.toList.drop (i + 2 + c + 2 + k) = l.drop (c + 2 + k) := by rw [HL.out, List.drop_drop]; congr 1; omega
        rw [hld] at hr5
        clear hld
        go_wp2_with fail
        refine (prefix_calls r5 ⟨#[45]⟩ _ hr5 _).mono ?_
        rw [show (⟨#[45]⟩ : ByteArray).data.toList = [45] from rfl, htr]
        rintro e w6 ⟨rfl, rfl⟩
        clear hB4 hg4
        go_wp2_with fail
        refine (rest_calls g s (i + 2 + c + 2 + k) false v _ hB6 (by omega) (by omega)).mono ?_
        rintro e w7 ⟨r7, rfl, hr7, hb7⟩
        have hB7 := hB6.below hb7
        have hg7 := hg6.trans (grownBy_below (row := some g) hb7)
        have hld : s.data.toList.drop (i + 2 + c + 2 + k) = l.drop (c + 2 + k) := by rw [HL.out, List.drop_drop]; congr 1; omega
        rw [hld] at hr7
        clear hld
        go_wp2_with fail
        refine (prefix_calls r7 ⟨#[125, 125]⟩ _ hr7 _).mono ?_
        rw [show (⟨#[125, 125]⟩ : ByteArray).data.toList = [125, 125] from rfl]
        have hcm := HCM.out
        cases hpe : List.isPrefixOf [125, 125] (l.drop (c + 2 + k)) with
        | true =>
          rw [hpe, if_pos rfl] at hcm
          have HCM := Lib.hid hcm
          have hpl := pre_len hpe
          rw [List.length_drop, HLL.out] at hpl
          simp only [List.length_cons, List.length_nil] at hpl
          have hi7 : i + 2 + c + 2 + k + 2 ≤ s.size := by omega
          clear hcm hpl
          rintro e w8 ⟨rfl, rfl⟩
          have c1 := hB7.cell 1 _ rfl
          have f1 := hB7.free 1
          go_wp2
          go_ret
          refine ⟨_, rfl, Below.grow1 (hg7.trans (grownBy_set _ g 1 _)) (by omega) (Nat.le_refl g), fun n tr h => ?_, fun h => ?_⟩
          · rw [HCM.out] at h
            cases h
            refine ⟨rfl, by omega, v, ?_, ?_⟩
            · exact hB7.goto _ _ (by omega)
            · exact own_set (World.ownsRow.kept hP hg7 (.inr hne)) hne 1 _
          · rw [HCM.out] at h
            cases h
        | false =>
          rw [hpe, if_neg (by simp)] at hcm
          have HCM := Lib.hid hcm
          clear hcm
          rintro e w8 ⟨rfl, rfl⟩
          go_wp2
          go_ret
          exact ⟨_, rfl, Below.grow1 hg7 (by omega) (Nat.le_refl g), fun n tr h => (by rw [HCM.out] at h; cases h), fun _ => rfl⟩
      | false =>
        have hB6 := hB4
        have hg6 := hg4
        clear hB4 hg4
        go_wp2_with fail
        refine (rest_calls g s (i + 2 + c + 2 + k) false v _ hB6 (by omega) (by omega)).mono ?_
        rintro e w7 ⟨r7, rfl, hr7, hb7⟩
        have hB7 := hB6.below hb7
        have hg7 := hg6.trans (grownBy_below (row := some g) hb7)
        have hld : s.data.toList.drop (i + 2 + c + 2 + k) = l.drop (c + 2 + k) := by rw [HL.out, List.drop_drop]; congr 1; omega
        rw [hld] at hr7
        clear hld
        go_wp2_with fail
        refine (prefix_calls r7 ⟨#[125, 125]⟩ _ hr7 _).mono ?_
        rw [show (⟨#[125, 125]⟩ : ByteArray).data.toList = [125, 125] from rfl]
        have hcm := HCM.out
        cases hpe : List.isPrefixOf [125, 125] (l.drop (c + 2 + k)) with
        | true =>
          rw [hpe, if_pos rfl] at hcm
          have HCM := Lib.hid hcm
          have hpl := pre_len hpe
          rw [List.length_drop, HLL.out] at hpl
          simp only [List.length_cons, List.length_nil] at hpl
          have hi7 : i + 2 + c + 2 + k + 2 ≤ s.size := by omega
          clear hcm hpl
          rintro e w8 ⟨rfl, rfl⟩
          have c1 := hB7.cell 1 _ rfl
          have f1 := hB7.free 1
          go_wp2
          go_ret
          refine ⟨_, rfl, Below.grow1 (hg7.trans (grownBy_set _ g 1 _)) (by omega) (Nat.le_refl g), fun n tr h => ?_, fun h => ?_⟩
          · rw [HCM.out] at h
            cases h
            refine ⟨rfl, by omega, v, ?_, ?_⟩
            · exact hB7.goto _ _ (by omega)
            · exact own_set (World.ownsRow.kept hP hg7 (.inr hne)) hne 1 _
          · rw [HCM.out] at h
            cases h
        | false =>
          rw [hpe, if_neg (by simp)] at hcm
          have HCM := Lib.hid hcm
          clear hcm
          rintro e w8 ⟨rfl, rfl⟩
          go_wp2
          go_ret
          exact ⟨_, rfl, Below.grow1 hg7 (by omega) (Nat.le_refl g), fun n tr h => (by rw [HCM.out] at h; cases h), fun _ => rfl⟩
end Go.Proofs.YtdaffedbboofjaaGreatDoor.S
