/-
  THE WALK of the reference's plain.
-/
import Derived.Test.YtblkbhomlblfnaaDoorRefLex2
import Derived.Test.YtblkbhomlblfnaaDoorLexAction
set_option linter.unusedVariables false
set_option linter.unusedSimpArgs false
namespace Go.Proofs.YtblkbhomlblfnaaDoor.S
open Go.RowKit

theorem endZ_some {o : Option Nat} {a i : Nat} (h : endZ o a = (i : Int)) : o = some (i - a) ∧ a ≤ i := by
  cases o with
  | none =>
    have h : (-1 : Int) = (i : Int) := h
    omega
  | some n =>
    have h : ((a + n : Nat) : Int) = (i : Int) := h
    have : a + n = i := by omega
    exact ⟨by rw [← this]; simp, by omega⟩
theorem endZ_none {o : Option Nat} {a : Nat} (h : endZ o a = -1) : o = none := by
  cases o with
  | none => rfl
  | some n =>
    have h : ((a + n : Nat) : Int) = -1 := h
    omega
theorem pre_short (p l : List UInt8) (h : l.length < p.length) : List.isPrefixOf p l = false := by
  cases hp : List.isPrefixOf p l with
  | false => rfl
  | true => have := pre_len hp; omega

set_option maxRecDepth 100000 in
set_option maxHeartbeats 4000000 in
theorem rplain_calls (s : ByteArray) (a : Nat) (w : World) (ha : a ≤ s.size) (hs : s.size ≤ 4611686018427387900) :
    Calls Tryd.prog 59 #[.string s, .int .i64 a] w fun e w' => ∃ en x tr ok, e = .returned (actV en x tr false ok) ∧ Below w.heap.size w w' ∧ (∀ m, endL false (s.data.toList.drop a) = some m → en = a + m + 2 ∧ StrIs x (actText ((s.data.toList.drop a).take m)) ∧ tr = actTrims ((s.data.toList.drop a).take m) ∧ ok = true ∧ a + m + 2 ≤ s.size) ∧ (endL false (s.data.toList.drop a) = none → ok = false) := by
  obtain ⟨l, hl0⟩ : ∃ l, l = s.data.toList.drop a := ⟨_, rfl⟩
  have hll := congrArg List.length hl0
  rw [List.length_drop, size_list] at hll
  rw [← hl0]
  have HL := Lib.hid hl0
  have HLL := Lib.hid hll
  clear hl0 hll
  go_enter Tryd.func59, Tryd.ntmps59
  go_wp2
  go_loopg [5, 6, 17, 27, 34] (s.size + 1 - a) (fun gk v5 v6 _ _ _ wr => ∃ (j : Nat) (t : Bool), v5 = .bool t ∧ v6 = .int .i64 (a + j : Nat) ∧ a + j + gk = s.size + 1 ∧ Hid (endZ (endL t (l.drop j)) (a + j) = endZ (endL false l) a) ∧ w.alloc (.cells #[.int .i64 0, .string ⟨#[]⟩, .bool false, .bool false, .bool false] 92) = wr)
  case atStart => exact ⟨0, false, rfl, rfl, by omega, rfl, rfl⟩
  case round =>
    obtain ⟨j, t, rfl, rfl, hgk, hH, rfl⟩ := hrel
    have hj1 : a + j ≤ s.size + 1 := by omega
    have HGK := Lib.hid hgk
    clear hgk
    by_cases h : a + j < s.size
    · have hib : decide ((a : Int) + j < (s.size : Int)) = true := decide_eq_true (by omega)
      have hdc := at_drop HL.out (a + j) j rfl h
      obtain ⟨b, hb⟩ : ∃ b : UInt8, b = s[a + j]'h := ⟨_, rfl⟩
      have hbt : ∀ h', ((s[a + j]'h').toNat : Nat) = b.toNat := fun h' => by rw [hb]
      rw [← hb] at hdc
      have hlt := b.toNat_lt
      have hq : b = 34 ↔ b.toNat = 34 := ⟨fun h => by rw [h]; rfl, fun h => UInt8.toNat_inj.1 h⟩
      have hq2 : b = 92 ↔ b.toNat = 92 := ⟨fun h => by rw [h]; rfl, fun h => UInt8.toNat_inj.1 h⟩
      clear hb
      cases t with
      | true =>
        have hst := endL_true b (l.drop (j + 1)) (a + j)
        rw [← hdc, hH.out] at hst
        clear hdc hH
        by_cases h92 : b.toNat = 92
        · have h92b : ((b.toNat : Int) == 92) = true := beq_iff_eq.2 (by omega)
          rw [if_pos (hq2.2 h92), List.drop_drop] at hst
          have HST := Lib.hid hst
          clear hst hq hq2 h92
          go_wp2
          go_roundg (gk - 2)
          case measure => have := HGK.out; omega
          case rel => exact ⟨j + 2, true, rfl, by go_num, by have := HGK.out; omega, HST.out.symm, rfl⟩
        · have h92b : ((b.toNat : Int) == 92) = false := beq_eq_false_iff_ne.2 (by omega)
          rw [if_neg (fun h => h92 (hq2.1 h))] at hst
          by_cases h34 : b.toNat = 34
          · have h34b : ((b.toNat : Int) == 34) = true := beq_iff_eq.2 (by omega)
            rw [if_pos (hq.2 h34)] at hst
            have HST := Lib.hid hst
            clear hst hq hq2 h92 h34
            go_wp2
            go_roundg (gk - 1)
            case measure => have := HGK.out; omega
            case rel => exact ⟨j + 1, false, rfl, by go_num, by have := HGK.out; omega, HST.out.symm, rfl⟩
          · have h34b : ((b.toNat : Int) == 34) = false := beq_eq_false_iff_ne.2 (by omega)
            rw [if_neg (fun h => h34 (hq.1 h))] at hst
            have HST := Lib.hid hst
            clear hst hq hq2 h92 h34
            go_wp2
            go_roundg (gk - 1)
            case measure => have := HGK.out; omega
            case rel => exact ⟨j + 1, true, rfl, by go_num, by have := HGK.out; omega, HST.out.symm, rfl⟩
      | false =>
        have hst := endL_false b (l.drop (j + 1)) (a + j)
        rw [← hdc, hH.out] at hst
        by_cases h34 : b.toNat = 34
        · have h34b : ((b.toNat : Int) == 34) = true := beq_iff_eq.2 (by omega)
          have hnp : List.isPrefixOf [125, 125] (l.drop j) = false := by
            rw [hdc, hq.2 h34]
            simp [List.isPrefixOf]
          rw [hnp, if_neg (by simp), if_pos (hq.2 h34)] at hst
          have HST := Lib.hid hst
          clear hst hq hq2 h34 hnp hdc hH
          go_wp2
          go_roundg (gk - 1)
          case measure => have := HGK.out; omega
          case rel => exact ⟨j + 1, true, rfl, by go_num, by have := HGK.out; omega, HST.out.symm, rfl⟩
        · have h34b : ((b.toNat : Int) == 34) = false := beq_eq_false_iff_ne.2 (by omega)
          rw [if_neg (fun h => h34 (hq.1 h))] at hst
          clear hdc hH hq hq2 h34
          by_cases h2 : a + j + 1 < s.size
          · have h2b : decide ((a : Int) + j + 1 < (s.size : Int)) = true := decide_eq_true (by omega)
            have heq := slice2 s (a + j) 125 125 (by omega)
            rw [show s.data.toList.drop (a + j) = l.drop j by rw [HL.out, List.drop_drop]] at heq
            have hsl := fun W => slice_at s ((a : Int) + j) ((a : Int) + j + 2) (a + j) (a + j + 2) (by omega) (by omega) (by omega) (by omega) W
            cases hp : List.isPrefixOf [125, 125] (l.drop j) with
            | false =>
              rw [hp] at heq hst
              rw [if_neg (by simp)] at hst
              have HST := Lib.hid hst
              clear hst hp
              go_wp2
              go_roundg (gk - 1)
              case measure => have := HGK.out; omega
              case rel => exact ⟨j + 1, false, rfl, by go_num, by have := HGK.out; omega, HST.out.symm, rfl⟩
            | true =>
              rw [hp] at heq hst
              rw [if_pos rfl] at hst
              have hE := endZ_some hst
              rw [show a + j - a = j by omega] at hE
              have HE := Lib.hid hE.1
              clear hst hp hE
              have hsl2 := fun W => slice_at s (a : Int) ((a : Int) + j) a (a + j) (by omega) (by omega) (by omega) (by omega) W
              go_upto_region 11 with (fail)
              have ht : StrIs (s.extract a (a + j)) (l.take j) := by
                show _ = _
                rw [Lib.extract_data, HL.out, show a + j - a = j by omega]
              generalize s.extract a (a + j) = T at *
              obtain ⟨t, ht0⟩ : ∃ t, t = l.take j := ⟨_, rfl⟩
              have htl : t.length = j := by rw [ht0, List.length_take, HLL.out]; omega
              rw [← ht0] at ht
              have hTs : T.size = j := ht.size.trans htl
              have hT0 := getD_byte T (j - 1)
              have hT1 := getD_byte T (j - 2)
              rw [show T.data.toList = t from ht] at hT0 hT1
              have hat : actTrims t = (decide (2 ≤ j) && (t.getD (j - 1) 0).toNat == 45 && blk (t.getD (j - 2) 0).toNat) := by unfold actTrims; rw [htl]
              have l0 := (t.getD (j - 1) 0).toNat_lt
              have l1 := (t.getD (j - 2) 0).toNat_lt
              generalize (t.getD (j - 1) 0).toNat = ca at *
              generalize (t.getD (j - 2) 0).toNat = cb at *
              have HTS := Lib.hid hTs
              have HTL := Lib.hid htl
              have HT0 := Lib.hid ht0
              clear htl ht0 heq hsl hsl2 hbt h34b
              go_upto_region 12 with (fail)
              clear hTs
              go_cut [9] (fun v9 wx => v9 = .bool (actTrims t) ∧ w.alloc (.cells #[.int .i64 0, .string ⟨#[]⟩, .bool false, .bool false, .bool false] 92) = wx)
              case first =>
                by_cases hm2 : 2 ≤ j
                · have hmb : decide (2 ≤ (j : Int)) = true := decide_eq_true (by omega)
                  rw [show decide (2 ≤ j) = true from decide_eq_true hm2, Bool.true_and] at hat
                  have q1 : (j : Int) - 1 < (T.size : Int) := by rw [HTS.out]; omega
                  have q2 : (j : Int) - 2 < (T.size : Int) := by rw [HTS.out]; omega
                  by_cases hca : ca = 45
                  · have hcab : ((ca : Int) == 45) = true := beq_iff_eq.2 (by omega)
                    rw [show (ca == 45) = true from beq_iff_eq.2 hca, Bool.true_and] at hat
                    have HAT := Lib.hid hat
                    clear hat hca
                    go_wp2_with (go_at_call 48; refine (rblank_calls cb _ l1).mono ?_; rintro e w' ⟨rfl, rfl⟩)
                    go_meet
                    exact ⟨by rw [HAT.out], rfl⟩
                  · have hcab : ((ca : Int) == 45) = false := beq_eq_false_iff_ne.2 (by omega)
                    rw [show (ca == 45) = false from beq_eq_false_iff_ne.2 hca, Bool.false_and] at hat
                    have HAT := Lib.hid hat
                    clear hat hca
                    go_wp2_with (go_at_call 48; refine (rblank_calls cb _ l1).mono ?_; rintro e w' ⟨rfl, rfl⟩)
                    go_meet
                    exact ⟨by rw [HAT.out], rfl⟩
                · have hmb : decide (2 ≤ (j : Int)) = false := decide_eq_false (by omega)
                  rw [show decide (2 ≤ j) = false from decide_eq_false hm2, Bool.false_and, Bool.false_and] at hat
                  have HAT := Lib.hid hat
                  clear hat
                  go_wp2_with (go_at_call 48; refine (rblank_calls cb _ l1).mono ?_; rintro e w' ⟨rfl, rfl⟩)
                  go_meet
                  exact ⟨by rw [HAT.out], rfl⟩
              case rest =>
              obtain ⟨rfl, rfl⟩ := hcut
              have htx : actText t = trimR (trimL (if actTrims t = true then t.take (j - 1) else t)) := by unfold actText; rw [HTL.out]
              have hm1 : actTrims t = true → 2 ≤ j := fun h => by
                have h2 := hat.symm.trans h
                simp only [Bool.and_eq_true, decide_eq_true_eq] at h2
                exact h2.1.1
              clear hat hT0 hT1
              generalize hq : actTrims t = q at *
              go_upto_if 74 with (fail)
              go_cut [7] (fun v7 wx => ∃ T', v7 = .string T' ∧ StrIs T' (if q = true then t.take (j - 1) else t) ∧ w.alloc (.cells #[.int .i64 0, .string ⟨#[]⟩, .bool false, .bool false, .bool false] 92) = wx)
              case first =>
                cases q with
                | true =>
                  have hm2 := hm1 rfl
                  have k1 : 1 ≤ (j : Int) := by omega
                  have k2 : (j : Int) - 1 ≤ (T.size : Int) := by rw [HTS.out]; omega
                  go_wp2
                  go_meet
                  refine ⟨_, rfl, ?_, rfl⟩
                  show _ = _
                  rw [Lib.extract_data, show T.data.toList = t from ht]
                  simp
                | false =>
                  go_wp2
                  go_meet
                  exact ⟨_, rfl, ht, rfl⟩
              case rest =>
              obtain ⟨T', rfl, hT', rfl⟩ := hcut
              have hTS' : T'.size ≤ j := by
                rw [hT'.size]
                split
                · rw [List.length_take, HTL.out]; omega
                · rw [HTL.out]; omega
              go_wp2_with fail
              refine (rleft_calls T' _ hT' _ (by omega)).mono ?_
              rintro e w2 ⟨r2, rfl, hr2, rfl⟩
              have hr2s : r2.size ≤ j := by rw [hr2.size]; exact Nat.le_trans (trimL_len _) (by rw [← hT'.size]; exact hTS')
              go_wp2_with fail
              refine (rright_calls r2 _ hr2 _ (by omega)).mono ?_
              rintro e w2 ⟨r3, rfl, hr3, rfl⟩
              go_wp2
              refine bodyPost_ret (v := actV (a + j + 2) r3 q false true) (by simp [results, Tryd.results59, go_sem, actV]) rfl ?_
              refine ⟨a + j + 2, r3, q, true, rfl, ((Below.refl _ w).alloc (Nat.le_refl _) _), fun m h => ?_, fun h => ?_⟩
              · rw [HE.out] at h
                cases h
                refine ⟨rfl, ?_, by rw [← HT0.out, hq], rfl, by omega⟩
                rw [← HT0.out, htx]
                exact hr3
              · rw [HE.out] at h
                cases h
          · have h2b : decide ((a : Int) + j + 1 < (s.size : Int)) = false := decide_eq_false (by omega)
            have hp := pre_short [125, 125] (l.drop j) (by rw [List.length_drop, HLL.out]; simp only [List.length_cons, List.length_nil]; omega)
            rw [hp, if_neg (by simp)] at hst
            have HST := Lib.hid hst
            clear hst hp
            go_wp2
            go_roundg (gk - 1)
            case measure => have := HGK.out; omega
            case rel => exact ⟨j + 1, false, rfl, by go_num, by have := HGK.out; omega, HST.out.symm, rfl⟩
    · have hib : decide ((a : Int) + j < (s.size : Int)) = false := decide_eq_false (by omega)
      have hn : l.drop j = [] := List.drop_eq_nil_of_le (by rw [HLL.out]; omega)
      have hE := hH.out
      rw [hn, show endL t [] = none by cases t <;> rfl] at hE
      have HE := Lib.hid (endZ_none hE.symm)
      clear hn hE hH
      go_wp2
      refine bodyPost_ret (v := actV 0 ⟨#[]⟩ false false false) (by simp [results, Tryd.results59, go_sem, actV]) rfl ?_
      exact ⟨0, ⟨#[]⟩, false, false, rfl, ((Below.refl _ w).alloc (Nat.le_refl _) _), fun n h => (by rw [HE.out] at h; cases h), fun _ => rfl⟩
end Go.Proofs.YtblkbhomlblfnaaDoor.S
