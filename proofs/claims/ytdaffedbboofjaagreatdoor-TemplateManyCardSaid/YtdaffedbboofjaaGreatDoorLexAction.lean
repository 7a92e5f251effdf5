/-
  THE WALK of package lex's action.
-/
import Derived.Test.YtdaffedbboofjaaGreatDoorLexText
import Derived.Test.YtdaffedbboofjaaGreatDoorLexEnd
import Derived.Deep.RegionLaw
import Derived.Deep.RegionHeld3
set_option linter.unusedVariables false
set_option linter.unusedSimpArgs false
namespace Go.Proofs.YtdaffedbboofjaaGreatDoor.S
open Go.RowKit

theorem endL_len : ∀ (t : Bool) (l : List UInt8) (m : Nat), endL t l = some m → m + 2 ≤ l.length
  | _, [], _, h => by rw [endL.eq_def] at h; cases h
  | false, b :: r, m, h => by
    rw [endL.eq_def] at h
    dsimp only at h
    split at h
    · rename_i hp
      have := List.IsPrefix.length_le (List.isPrefixOf_iff_prefix.1 hp)
      cases h
      simpa using this
    · split at h
      · cases hr : endL true r with
        | none => rw [hr] at h; cases h
        | some n => rw [hr] at h; cases h; have := endL_len true r n hr; simp; omega
      · cases hr : endL false r with
        | none => rw [hr] at h; cases h
        | some n => rw [hr] at h; cases h; have := endL_len false r n hr; simp; omega
  | true, b :: r, m, h => by
    rw [endL.eq_def] at h
    dsimp only at h
    split at h
    · cases r with
      | nil => cases h
      | cons d r' =>
        dsimp only at h
        cases hr : endL true r' with
        | none => rw [hr] at h; cases h
        | some n => rw [hr] at h; cases h; have := endL_len true r' n hr; simp; omega
    · split at h
      · cases hr : endL false r with
        | none => rw [hr] at h; cases h
        | some n => rw [hr] at h; cases h; have := endL_len false r n hr; simp; omega
      · cases hr : endL true r with
        | none => rw [hr] at h; cases h
        | some n => rw [hr] at h; cases h; have := endL_len true r n hr; simp; omega

theorem index_at (T : ByteArray) (x : Int) (n c : Nat) (hx : x.toNat = n) (h : ∀ h' : n < T.size, ((T[n]'h').toNat : Nat) = c) : ∀ h' : x.toNat < T.size, ((T[x.toNat]'h').toNat : Nat) = c := by
  subst hx
  exact h

theorem Blk.alloc {g : Nat} {T : TypeId} {cs : List Value} {w : World} (h : Blk g T cs w) (o : Obj) : Blk g T cs (w.alloc o) := h.below ((Below.refl _ w).alloc (Nat.le_refl _) o)
theorem after_trim {g : Nat} {s : ByteArray} {i : Nat} {tr : Bool} {v : Value} {ps : List Pc} {w wc w5 : World} (hB : CurB g s i tr v wc) (hP : Pcs (g + 1) v ps wc) (hb : Below g w wc) (h5 : Below wc.drew.heap.size wc.drew w5) (hz : g + 1 ≤ wc.heap.size) :
    CurB g s i tr v w5 ∧ (∀ o, Pcs (g + 1) v ps (w5.alloc o)) ∧ (∀ o, Below g w (w5.alloc o)) ∧ ∀ o, g + 1 ≤ (w5.alloc o).heap.size := by
  have hz5 : wc.heap.size ≤ w5.heap.size := h5.size
  have h1 : Pcs (g + 1) v ps w5 := own_below (World.ownsRow.drew hP) h5
  have h2 : Below g w w5 := hb.drew.trans (h5.mono (Nat.le_trans (Nat.le_succ g) hz))
  refine ⟨Blk.below (Blk.drew hB) h5, fun o => World.ownsRow.alloc h1 o, fun o => h2.alloc (by omega) o, fun o => ?_⟩
  show g + 1 ≤ (w5.heap.push o).size
  simp
  omega

set_option maxRecDepth 100000 in
set_option maxHeartbeats 4000000 in
theorem action_calls (g : Nat) (s : ByteArray) (i from_ : Nat) (ps : List Pc) (w : World) (hE : EnvAt g w) (hC : Cur g s i false ps w) (hi : i ≤ s.size) (hs : s.size ≤ 65536) (hl : ps.length ≤ 1099511627775) :
    Calls Tryz.prog 87 #[.pointer (some ⟨g, 0, none⟩), .int .i64 from_] w fun e w' => ∃ b, e = .returned (.bool b) ∧ Below g w w' ∧ (∀ m, endL false (s.data.toList.drop i) = some m → b = true ∧ i + m + 2 ≤ s.size ∧ Cur g s (i + m + 2) (actTrims ((s.data.toList.drop i).take m)) (ps ++ [⟨true, actText ((s.data.toList.drop i).take m), from_⟩]) w') ∧ (endL false (s.data.toList.drop i) = none → b = false) := by
  obtain ⟨v, hB, hP⟩ := hC
  have hbase : g + 1 ≤ w.heap.size := hB.lt
  have hne : v.ownBlock ≠ some g := fun h => by have := own_base hP g h; omega
  obtain ⟨l, hl0⟩ : ∃ l, l = s.data.toList.drop i := ⟨_, rfl⟩
  have hll := congrArg List.length hl0
  rw [List.length_drop, size_list] at hll
  rw [← hl0]
  have HL := Lib.hid hl0
  have HLL := Lib.hid hll
  clear hl0 hll
  go_enter Tryz.func87, Tryz.ntmps87
  go_wp2_with fail
  refine (rest_calls g s i false v _ hB hi (by omega)).mono ?_
  rintro e w1 ⟨r, rfl, hr, hb1⟩
  have hB1 := hB.below hb1
  have hg1 := grownBy_below (row := some g) hb1
  rw [← HL.out] at hr
  have hrs := hr.size
  rw [HLL.out] at hrs
  go_wp2_with fail
  refine (end_calls r _ (by omega)).mono ?_
  rw [show r.data.toList = l from hr]
  clear hr hrs
  cases hm : endL false l with
  | none =>
    have HM := Lib.hid hm
    clear hm
    rintro e w2 ⟨rfl, rfl⟩
    rw [show endZ none 0 = -1 from rfl]
    go_wp2
    go_ret
    exact ⟨_, rfl, Below.grow1 hg1 (by omega) (Nat.le_refl g), fun m h => (by rw [HM.out] at h; cases h), fun _ => rfl⟩
  | some m =>
    have hml := endL_len false l m hm
    rw [HLL.out] at hml
    have hml2 : i + m + 2 ≤ s.size := by omega
    have HM := Lib.hid hm
    clear hm hml
    rintro e w2 ⟨rfl, rfl⟩
    rw [show endZ (some m) 0 = (m : Int) from congrArg (fun x : Nat => (x : Int)) (Nat.zero_add m)]
    go_wp2_with fail
    refine (rest_calls g s i false v _ hB1 hi (by omega)).mono ?_
    rintro e w2 ⟨r2, rfl, hr2, hb2⟩
    have hB2 := hB1.below hb2
    have hg2 := hg1.trans (grownBy_below (row := some g) hb2)
    rw [← HL.out] at hr2
    have hr2s := hr2.size
    rw [HLL.out] at hr2s
    have hmr : m ≤ r2.size := by omega
    have HR2 := Lib.hid hr2s
    clear hr2s
    have hsl := fun W => run_slice_string (P := Tryz.prog) (w := W) 9 r2 .i64 .i64 0 (m : Int) Tryz.underlying9 (by omega) (by omega) (by omega)
    simp only [Int.toNat_natCast, Int.toNat_zero] at hsl
    have c1 := hB2.cell 1 _ rfl
    have f1 := hB2.free 1
    go_upto_region 6 with (fail)
    have ht : StrIs (r2.extract 0 m) (l.take m) := by
      show _ = _
      rw [Lib.extract_data, show r2.data.toList = l from hr2]
      simp
    have hB3 := hB2.goto ((i : Int) + ((m : Int) + 2)) (i + m + 2) (by omega)
    have hg3 := hg2.trans (grownBy_set w2 g 1 (.int .i64 ((i : Int) + ((m : Int) + 2))))
    generalize w2.setCell ⟨g, 1, none⟩ (.int .i64 ((i : Int) + ((m : Int) + 2))) = w3 at *
    obtain ⟨T, hT⟩ : ∃ T, T = r2.extract 0 m := ⟨_, rfl⟩
    rw [← hT] at ht ⊢
    clear hsl c1 f1 hB2 hg2 hr2 hb2 hT
    obtain ⟨t, ht0⟩ : ∃ t, t = l.take m := ⟨_, rfl⟩
    have htl : t.length = m := by rw [ht0, List.length_take, HLL.out]; omega
    rw [← ht0] at ht
    have hTs : T.size = m := ht.size.trans htl
    have hT0 := getD_byte T (m - 1)
    have hT1 := getD_byte T (m - 2)
    rw [show T.data.toList = t from ht] at hT0 hT1
    have hat : actTrims t = (decide (2 ≤ m) && (t.getD (m - 1) 0).toNat == 45 && blk (t.getD (m - 2) 0).toNat) := by unfold actTrims; rw [htl]
    have l0 := (t.getD (m - 1) 0).toNat_lt
    have l1 := (t.getD (m - 2) 0).toNat_lt
    generalize (t.getD (m - 1) 0).toNat = ca at *
    generalize (t.getD (m - 2) 0).toNat = cb at *
    have HTS := Lib.hid hTs
    have HTL := Lib.hid htl
    have HT0 := Lib.hid ht0
    clear hTs htl ht0
    go_cut [40] (fun v40 wx => v40 = .bool (actTrims t) ∧ w3 = wx)
    case first =>
      by_cases hm2 : 2 ≤ m
      · have hmb : decide (1 < (m : Int)) = true := decide_eq_true (by omega)
        rw [show decide (2 ≤ m) = true from decide_eq_true hm2, Bool.true_and] at hat
        have q1 : (m : Int) - 1 < (T.size : Int) := by rw [HTS.out]; omega
        have q2 : (m : Int) - 2 < (T.size : Int) := by rw [HTS.out]; omega
        by_cases hca : ca = 45
        · have hcab : ((ca : Int) == 45) = true := beq_iff_eq.2 (by omega)
          rw [show (ca == 45) = true from beq_iff_eq.2 hca, Bool.true_and] at hat
          have HAT := Lib.hid hat
          clear hat hca
          go_wp2_with (go_at_call 111; refine (blank_calls cb _ l1).mono ?_; rintro e w' ⟨rfl, rfl⟩)
          go_meet
          exact ⟨by rw [HAT.out], rfl⟩
        · have hcab : ((ca : Int) == 45) = false := beq_eq_false_iff_ne.2 (by omega)
          rw [show (ca == 45) = false from beq_eq_false_iff_ne.2 hca, Bool.false_and] at hat
          have HAT := Lib.hid hat
          clear hat hca
          go_wp2_with (go_at_call 111; refine (blank_calls cb _ l1).mono ?_; rintro e w' ⟨rfl, rfl⟩)
          go_meet
          exact ⟨by rw [HAT.out], rfl⟩
      · have hmb : decide (1 < (m : Int)) = false := decide_eq_false (by omega)
        rw [show decide (2 ≤ m) = false from decide_eq_false hm2, Bool.false_and, Bool.false_and] at hat
        have HAT := Lib.hid hat
        clear hat
        go_wp2_with (go_at_call 111; refine (blank_calls cb _ l1).mono ?_; rintro e w' ⟨rfl, rfl⟩)
        go_meet
        exact ⟨by rw [HAT.out], rfl⟩
    case rest =>
    obtain ⟨rfl, rfl⟩ := hcut
    have htx : actText t = trimR (trimL (if actTrims t = true then t.take (m - 1) else t)) := by unfold actText; rw [HTL.out]
    clear hT0 hT1 l0 l1
    have hm1 : actTrims t = true → 2 ≤ m := fun h => by
      have h2 := hat.symm.trans h
      simp only [Bool.and_eq_true, decide_eq_true_eq] at h2
      exact h2.1.1
    clear hat
    generalize hq : actTrims t = q at *
    go_upto_if 40 with (fail)
    go_cut [6] (fun v6 wx => ∃ T', v6 = .string T' ∧ StrIs T' (if q = true then t.take (m - 1) else t) ∧ CurB g s (i + m + 2) q v wx ∧ w.grownBy wx (some g))
    case first =>
      cases q with
      | true =>
        have hm2 := hm1 rfl
        have k1 : 1 ≤ (m : Int) := by omega
        have k2 : (m : Int) - 1 ≤ (T.size : Int) := by rw [HTS.out]; omega
        have c2 := hB3.cell 2 _ rfl
        have f2 := hB3.free 2
        go_wp2
        go_meet
        refine ⟨_, rfl, ?_, hB3.trims, hg3.trans (grownBy_set _ g 2 _)⟩
        show _ = _
        rw [Lib.extract_data, show T.data.toList = t from ht]
        simp
      | false =>
        go_wp2
        go_meet
        exact ⟨_, rfl, ht, hB3, hg3⟩
    case rest =>
    obtain ⟨T', rfl, hT', hB4, hg4⟩ := hcut
    have c3 := hB4.cell 3 _ rfl
    have hP4 : Pcs (g + 1) v ps wc := World.ownsRow.kept hP hg4 (.inr hne)
    have hb4 := Below.grow1 hg4 (Nat.le_of_succ_le hbase) (Nat.le_refl g)
    have hz4 := hg4.size
    have hTS' : T'.size ≤ 65536 := by
      rw [hT'.size]
      split
      · rw [List.length_take, HTL.out]; omega
      · rw [HTL.out]; omega
    have HTX := Lib.hid htx
    clear hB3 hg3 ht htx hm1 hB hB1 hg1 hb1
    go_wp2_with fail
    go_region_law (first | (go_simp; go_at_call 114; refine (trimBoth_calls T' _ hT' _ (by omega)).mono ?_; rintro e w5 ⟨r5, rfl, hr5, hb5'⟩; have hF := after_trim hB4 hP4 hb4 hb5' (by omega); have c5 := hF.1.cell 3 _ rfl; have c5' := fun o => (Blk.alloc hF.1 o).cell 3 _ rfl; have HEQ := Lib.hid hr5.eq) | (refine step_appPiece g (g + 1) rfl (.tmp 52) (.tmp 57) rfl v ps ⟨true, actText t, from_⟩ w5.heap.size _ (0, 0) 1 ?hcs rfl rfl (heap_new w5 _) (hF.2.1 _) (hF.2.2.1 _) (Nat.le_succ g) (hF.2.2.2 _) (Nat.le_succ_of_le hl) ?_; (case hcs => rw [HEQ.out, ← HTX.out]; rfl); intro sa sc w6 hP6 hb6 hg6; have hB6 := Blk.grown (hF.1.alloc _) hg6 (fun h => hne h.symm); have f6 := hB6.free 3; have c6 := hB6.cell 3 _ rfl))
    all_goals go_wp2
    all_goals go_ret
    all_goals
      refine ⟨_, rfl, hb6.setCell (Nat.le_refl g) _, fun m' h => ?_, fun h => ?_⟩
      · rw [HM.out] at h
        cases h
        rw [← HT0.out, hq]
        exact ⟨rfl, by omega, _, hB6.puts _, own_set hP6 (fun h => by have := own_base hP6 g h; omega) 3 _⟩
      · rw [HM.out] at h
        cases h
end Go.Proofs.YtdaffedbboofjaaGreatDoor.S
