/-
  THE WALK of the law SplitPlain (chapter 13).
-/
import Derived.Test.YtblkbhomlblfnaaDoorAwake13
import Derived.Test.YtblkbhomlblfnaaDoorPlainS
set_option linter.unusedVariables false
set_option linter.unusedSimpArgs false
namespace Go.Proofs.YtblkbhomlblfnaaDoor.S
open Go.RowKit

theorem cat_at (a b : ByteArray) (h : a.size + b.size ≤ 9223372036854775807) (W : World) : (Op.stringOp .add a b).run Tryd.prog W = .ok (.string (a ++ b)) W := run_string_add_sum W a b h
theorem StrIs.cat {a b : ByteArray} {l r : List UInt8} (h1 : StrIs a l) (h2 : StrIs b r) : StrIs (a ++ b) (l ++ r) := by
  unfold StrIs at *
  rw [← h1, ← h2]
  simp [ByteArray.data_append]
theorem one_of (s : ByteArray) (i : Nat) (h : i < s.size) : StrIs (s.extract i (i + 1)) [s[i]] := by
  show _ = _
  rw [Lib.extract_data, show i + 1 - i = 1 by omega, drop_cons s i h]
  rfl
/-- what stands ahead of i, without the bytes z -/
def ridL (z : UInt8) (l : List UInt8) (i : Nat) : List UInt8 := (l.take i).filter (· != z)
theorem ridL_zero (z : UInt8) (l : List UInt8) : ridL z l 0 = [] := rfl
theorem ridL_succ (z : UInt8) (s : ByteArray) (i : Nat) (h : i < s.size) : ridL z s.data.toList (i + 1) = if s[i] = z then ridL z s.data.toList i else ridL z s.data.toList i ++ [s[i]] := by
  unfold ridL
  have hl : i < s.data.toList.length := by rw [size_list]; exact h
  rw [List.take_succ_eq_append_getElem hl, List.filter_append]
  have e : s.data.toList[i] = s[i] := by rw [Array.getElem_toList]; rfl
  rw [e]
  split
  · rename_i hz; simp [hz]
  · rename_i hz; simp [hz]
theorem ridL_len (z : UInt8) (l : List UInt8) (i : Nat) : (ridL z l i).length ≤ i := by
  unfold ridL
  exact Nat.le_trans (List.length_filter_le _ _) (by simp; omega)
theorem ridL_no (z : UInt8) (l : List UInt8) (i : Nat) : ∀ b ∈ ridL z l i, b ≠ z := by
  unfold ridL
  intro b hb
  have := (List.mem_filter.1 hb).2
  simpa using this

set_option maxRecDepth 100000 in
set_option maxHeartbeats 4000000 in
theorem splitPlain_calls (s note : ByteArray) (w : World) (hE : Env w) :
    Calls Tryd.prog 10 #[.string s, .string note] w fun e w' => e = .returned (.bool true) ∧ Below w.heap.size w w' := by
  go_enter Tryd.func10, Tryd.ntmps10
  go_wp2_with fail
  refine (awake13_calls _ hE).mono ?_
  rintro e w1 ⟨rfl, hb1⟩
  have hE1 := hE.below hb1
  go_wp2
  go_loopg [5, 7] s.size (fun gk v5 v7 wr => ∃ (k : Nat) (x : ByteArray), v7 = .int .i64 k ∧ v5 = .string x ∧ k + gk = s.size ∧ k ≤ 2000 ∧ StrIs x (ridL 123 s.data.toList k) ∧ w1 = wr)
  case atStart => exact ⟨0, ⟨#[]⟩, rfl, rfl, by omega, by omega, rfl, rfl⟩
  case round =>
    obtain ⟨k, x, rfl, rfl, hkg, hk2, hx, rfl⟩ := hrel
    have HKG := Lib.hid hkg
    have hks : k ≤ s.size := by omega
    clear hkg
    have hxs : x.size ≤ 2000 := by rw [hx.size]; exact Nat.le_trans (ridL_len _ _ _) hk2
    by_cases h : k < s.size ∧ k < 2000
    · obtain ⟨h1, h2⟩ := h
      have h1b : decide ((k : Int) < (s.size : Int)) = true := decide_eq_true (by omega)
      have h2b : decide ((k : Int) < 2000) = true := decide_eq_true (by omega)
      have hst := ridL_succ 123 s k h1
      have hone := one_of s k h1
      have hsl := fun W => slice_at s (k : Int) ((k : Int) + 1) k (k + 1) (by omega) (by omega) (by omega) (by omega) W
      obtain ⟨b, hb⟩ : ∃ b : UInt8, b = s[k]'h1 := ⟨_, rfl⟩
      have hbt : ∀ h', ((s[k]'h').toNat : Nat) = b.toNat := fun h' => by rw [hb]
      rw [← hb] at hst hone
      clear hb
      have h1s := hone.size
      generalize s.extract k (k + 1) = y at *
      have hcat := cat_at x y (by rw [h1s]; simp; omega)
      by_cases hz : b = 123
      · rw [if_pos hz] at hst
        have hzb : ((b.toNat : Int) == 123) = true := by rw [hz]; rfl
        have HST := Lib.hid hst
        clear hst hone h1s hz
        generalize b.toNat = c at *
        go_wp2
        go_roundg (gk - 1)
        case measure => have := HKG.out; omega
        case rel => exact ⟨k + 1, x, by go_num, rfl, by have := HKG.out; omega, by omega, by rw [HST.out]; exact hx, rfl⟩
      · rw [if_neg hz] at hst
        have hzb : ((b.toNat : Int) == 123) = false := beq_eq_false_iff_ne.2 fun e => hz (UInt8.toNat_inj.1 (by show _ = 123; omega))
        have hxy := hx.cat hone
        rw [← hst] at hxy
        have HXY := Lib.hid hxy
        clear hst hone h1s hz hxy
        generalize b.toNat = c at *
        go_wp2
        go_roundg (gk - 1)
        case measure => have := HKG.out; omega
        case rel => exact ⟨k + 1, _, by go_num, rfl, by have := HKG.out; omega, by omega, HXY.out, rfl⟩
    · go_upto_region 5 with (fail)
      go_cut [24] (fun v24 wx => v24 = .bool false ∧ w1 = wx)
      case first =>
        by_cases h1 : k < s.size
        · have h1b : decide ((k : Int) < (s.size : Int)) = true := decide_eq_true (by omega)
          have h2b : decide ((k : Int) < 2000) = false := decide_eq_false (by omega)
          clear h
          go_wp2
          go_meet
          exact ⟨rfl, rfl⟩
        · have h1b : decide ((k : Int) < (s.size : Int)) = false := decide_eq_false (by omega)
          clear h
          go_wp2
          go_meet
          exact ⟨rfl, rfl⟩
      case rest =>
      obtain ⟨rfl, rfl⟩ := hcut
      have hno := ridL_no 123 s.data.toList k
      have hlen := ridL_len 123 s.data.toList k
      generalize ridL 123 s.data.toList k = L at *
      obtain ⟨X, rfl⟩ : ∃ X, X = x := ⟨_, rfl⟩
      have HLN := Lib.hid hno
      have HL := Lib.hid hx
      have hzL : L.length ≤ 2000 := Nat.le_trans hlen hk2
      have HsX := Lib.hid (show X.size = L.length from hx.size)
      have htX : X.size ≤ 2000 := by rw [HsX.out]; exact hzL
      clear hno hlen hk2 hks h HKG hxs hx
      go_wp2
      go_loopg [6, 8] note.size (fun gk v6 v8 wr => ∃ (k : Nat) (x : ByteArray), v8 = .int .i64 k ∧ v6 = .string x ∧ k + gk = note.size ∧ k ≤ 200 ∧ StrIs x (ridL 42 note.data.toList k) ∧ w1 = wr)
      case atStart => exact ⟨0, ⟨#[]⟩, rfl, rfl, by omega, by omega, rfl, rfl⟩
      case round =>
        obtain ⟨k, x, rfl, rfl, hkg, hk2, hx, rfl⟩ := hrel
        have HKG := Lib.hid hkg
        have hks : k ≤ note.size := by omega
        clear hkg
        have hxs : x.size ≤ 200 := by rw [hx.size]; exact Nat.le_trans (ridL_len _ _ _) hk2
        by_cases h : k < note.size ∧ k < 200
        · obtain ⟨h1, h2⟩ := h
          have h1b : decide ((k : Int) < (note.size : Int)) = true := decide_eq_true (by omega)
          have h2b : decide ((k : Int) < 200) = true := decide_eq_true (by omega)
          have hst := ridL_succ 42 note k h1
          have hone := one_of note k h1
          have hsl := fun W => slice_at note (k : Int) ((k : Int) + 1) k (k + 1) (by omega) (by omega) (by omega) (by omega) W
          obtain ⟨b, hb⟩ : ∃ b : UInt8, b = note[k]'h1 := ⟨_, rfl⟩
          have hbt : ∀ h', ((note[k]'h').toNat : Nat) = b.toNat := fun h' => by rw [hb]
          rw [← hb] at hst hone
          clear hb
          have h1s := hone.size
          generalize note.extract k (k + 1) = y at *
          have hcat := cat_at x y (by rw [h1s]; simp; omega)
          by_cases hz : b = 42
          · rw [if_pos hz] at hst
            have hzb : ((b.toNat : Int) == 42) = true := by rw [hz]; rfl
            have HST := Lib.hid hst
            clear hst hone h1s hz
            generalize b.toNat = c at *
            go_wp2
            go_roundg (gk - 1)
            case measure => have := HKG.out; omega
            case rel => exact ⟨k + 1, x, by go_num, rfl, by have := HKG.out; omega, by omega, by rw [HST.out]; exact hx, rfl⟩
          · rw [if_neg hz] at hst
            have hzb : ((b.toNat : Int) == 42) = false := beq_eq_false_iff_ne.2 fun e => hz (UInt8.toNat_inj.1 (by show _ = 42; omega))
            have hxy := hx.cat hone
            rw [← hst] at hxy
            have HXY := Lib.hid hxy
            clear hst hone h1s hz hxy
            generalize b.toNat = c at *
            go_wp2
            go_roundg (gk - 1)
            case measure => have := HKG.out; omega
            case rel => exact ⟨k + 1, _, by go_num, rfl, by have := HKG.out; omega, by omega, HXY.out, rfl⟩
        · go_upto_region 10 with (fail)
          go_cut [45] (fun v45 wx => v45 = .bool false ∧ w1 = wx)
          case first =>
            by_cases h1 : k < note.size
            · have h1b : decide ((k : Int) < (note.size : Int)) = true := decide_eq_true (by omega)
              have h2b : decide ((k : Int) < 200) = false := decide_eq_false (by omega)
              clear h
              go_wp2
              go_meet
              exact ⟨rfl, rfl⟩
            · have h1b : decide ((k : Int) < (note.size : Int)) = false := decide_eq_false (by omega)
              clear h
              go_wp2
              go_meet
              exact ⟨rfl, rfl⟩
          case rest =>
          obtain ⟨rfl, rfl⟩ := hcut
          have hno := ridL_no 42 note.data.toList k
          have hlen := ridL_len 42 note.data.toList k
          generalize ridL 42 note.data.toList k = M at *
          obtain ⟨Z, rfl⟩ : ∃ Z, Z = x := ⟨_, rfl⟩
          have HMN := Lib.hid hno
          have HM := Lib.hid hx
          have hzM : M.length ≤ 200 := Nat.le_trans hlen hk2
          have HsZ := Lib.hid (show Z.size = M.length from hx.size)
          have htZ : Z.size ≤ 200 := by rw [HsZ.out]; exact hzM
          clear hno hlen hk2 hks h HKG hxs hx
          go_wp2
          go_loopg [9, 10, 65, 77] X.size (fun gk v9 v10 _ _ wr => ∃ (k : Nat) (y : ByteArray), v10 = .int .i64 k ∧ v9 = .string y ∧ k + gk = X.size ∧ y.size ≤ k ∧ Hid (y.data.toList ++ linesL (L.drop k) = linesL L) ∧ w1 = wr)
          case atStart => exact ⟨0, ⟨#[]⟩, rfl, rfl, by omega, by show 0 ≤ 0; omega, (by show ([] ++ linesL L) = linesL L; rfl), rfl⟩
          case round =>
            obtain ⟨k, y, rfl, rfl, hkg, hyk, hy, rfl⟩ := hrel
            have HKG := Lib.hid hkg
            have hks : k ≤ X.size := by omega
            clear hkg
            by_cases h1 : k < X.size
            · have h1b : decide ((k : Int) < (X.size : Int)) = true := decide_eq_true (by omega)
              have hdc := drop_cons X k h1
              rw [show X.data.toList = L from HL.out] at hdc
              have hone := one_of X k h1
              have hsl := fun W => slice_at X (k : Int) ((k : Int) + 1) k (k + 1) (by omega) (by omega) (by omega) (by omega) W
              obtain ⟨b, hb⟩ : ∃ b : UInt8, b = X[k]'h1 := ⟨_, rfl⟩
              have hbt : ∀ h', ((X[k]'h').toNat : Nat) = b.toNat := fun h' => by rw [hb]
              rw [← hb] at hdc hone
              clear hb
              have h1s := hone.size
              generalize X.extract k (k + 1) = u at *
              have hcat := cat_at y u (by rw [h1s]; simp; omega)
              have hcat2 := cat_at y ⟨#[10]⟩ (by show y.size + 1 ≤ _; omega)
              by_cases hz : b = 13
              · have hzb : ((b.toNat : Int) == 13) = true := by rw [hz]; rfl
                rw [hz, ] at hdc
                have hl := linesL_cons13 (L.drop (k + 1))
                rw [← hdc] at hl
                by_cases h2 : k + 1 < X.size
                · have h2b : decide ((X.size : Int) ≤ (k : Int) + 1) = false := decide_eq_false (by omega)
                  have hdc2 := drop_cons X (k + 1) h2
                  rw [show X.data.toList = L from HL.out] at hdc2
                  obtain ⟨b2, hb2⟩ : ∃ b2 : UInt8, b2 = X[k + 1]'h2 := ⟨_, rfl⟩
                  have hbt2 : ∀ h', ((X[k + 1]'h').toNat : Nat) = b2.toNat := fun h' => by rw [hb2]
                  rw [← hb2] at hdc2
                  clear hb2
                  by_cases hz2 : b2 = 10
                  · have hzb2 : ((b2.toNat : Int) == 10) = true := by rw [hz2]; rfl
                    have hst : linesL (L.drop k) = linesL (L.drop (k + 1)) := by
                      rw [hl, hdc2, hz2]
                      rw [linesL_cons 10 (by decide)]
                      rfl
                    have HST := Lib.hid hst
                    clear hst hl hdc hdc2 hz hz2 hone h1s
                    generalize b.toNat = c at *
                    generalize b2.toNat = c2 at *
                    go_wp2
                    go_roundg (gk - 1)
                    case measure => have := HKG.out; omega
                    case rel => exact ⟨k + 1, y, by go_num, rfl, by have := HKG.out; omega, by omega, (by have := hy.out; rw [HST.out] at this; exact this), rfl⟩
                  · have hzb2 : ((b2.toNat : Int) == 10) = false := beq_eq_false_iff_ne.2 fun e => hz2 (UInt8.toNat_inj.1 (by show _ = 10; omega))
                    have hst : linesL (L.drop k) = 10 :: linesL (L.drop (k + 1)) := by
                      rw [hl, hdc2, show List.isPrefixOf [10] (b2 :: L.drop (k + 1 + 1)) = false by simp [List.isPrefixOf, Ne.symm hz2]]
                      rfl
                    have HST := Lib.hid hst
                    clear hst hl hdc hdc2 hz hz2 hone h1s
                    generalize b.toNat = c at *
                    generalize b2.toNat = c2 at *
                    go_wp2
                    go_roundg (gk - 1)
                    case measure => have := HKG.out; omega
                    case rel => exact ⟨k + 1, _, by go_num, rfl, by have := HKG.out; omega, (by rw [ByteArray.size_append]; show y.size + 1 ≤ _; omega), (by have := hy.out; rw [HST.out] at this; show _ = _; rw [← this]; simp [ByteArray.data_append]), rfl⟩
                · have h2b : decide ((X.size : Int) ≤ (k : Int) + 1) = true := decide_eq_true (by omega)
                  have hst : linesL (L.drop k) = 10 :: linesL (L.drop (k + 1)) := by
                    rw [hl, List.drop_eq_nil_of_le (by have := HsX.out; omega)]
                    rfl
                  have HST := Lib.hid hst
                  clear hst hl hdc hz hone h1s
                  generalize b.toNat = c at *
                  go_wp2
                  go_roundg (gk - 1)
                  case measure => have := HKG.out; omega
                  case rel => exact ⟨k + 1, _, by go_num, rfl, by have := HKG.out; omega, (by rw [ByteArray.size_append]; show y.size + 1 ≤ _; omega), (by have := hy.out; rw [HST.out] at this; show _ = _; rw [← this]; simp [ByteArray.data_append]), rfl⟩
              · have hzb : ((b.toNat : Int) == 13) = false := beq_eq_false_iff_ne.2 fun e => hz (UInt8.toNat_inj.1 (by show _ = 13; omega))
                have hst : linesL (L.drop k) = b :: linesL (L.drop (k + 1)) := by rw [hdc, linesL_cons b hz]
                have hys : (y ++ u).size ≤ k + 1 := by rw [ByteArray.size_append, h1s]; simp; omega
                have hyl : (y ++ u).data.toList = y.data.toList ++ [b] := by rw [ByteArray.data_append, Array.toList_append, hone]
                have HST := Lib.hid hst
                have HYL := Lib.hid hyl
                clear hst hdc hz hone h1s hyl
                generalize b.toNat = c at *
                go_wp2
                go_roundg (gk - 1)
                case measure => have := HKG.out; omega
                case rel => exact ⟨k + 1, _, by go_num, rfl, by have := HKG.out; omega, hys, (by have := hy.out; rw [HST.out] at this; show _ = _; rw [HYL.out, ← this]; simp), rfl⟩
            · have h1b : decide ((k : Int) < (X.size : Int)) = false := decide_eq_false (by omega)
              have hyy : StrIs y (linesL L) := by have := hy.out; rwa [List.drop_eq_nil_of_le (by have := HsX.out; omega), show linesL [] = [] from rfl, List.append_nil] at this
              have hP1 := splitR_plain L (by omega) HLN.out
              have hP2 := splitR_comment M (by omega) HMN.out
              have HY := Lib.hid hyy
              have HP1 := Lib.hid hP1
              have HP2 := Lib.hid hP2
              have hyl : y.size ≤ 2000 := by omega
              have hc1 := cat_at ⟨#[123, 123, 47, 42]⟩ Z (by show 4 + Z.size ≤ _; omega)
              have hc2 := cat_at (⟨#[123, 123, 47, 42]⟩ ++ Z) ⟨#[42, 47, 125, 125]⟩ (by rw [ByteArray.size_append]; show 4 + Z.size + 4 ≤ _; omega)
              have hzz : (⟨#[123, 123, 47, 42]⟩ ++ Z ++ ⟨#[42, 47, 125, 125]⟩ : ByteArray).data.toList = [123, 123, 47, 42] ++ M ++ [42, 47, 125, 125] := by
                rw [ByteArray.data_append, ByteArray.data_append, Array.toList_append, Array.toList_append, show Z.data.toList = M from HM.out]
              have HZZ := Lib.hid hzz
              clear hyy hP1 hP2 hzz hy hyk HKG
              go_wp2_with fail
              refine (lexSplit_any X _ hE1).mono ?_
              rintro e w2 ⟨v, ps, n, rfl, hP, hb2, hs⟩
              rw [show X.data.toList = L from HL.out, HP1.out] at hs
              obtain ⟨rfl, rfl⟩ := Prod.mk.inj hs.symm
              clear hs
              go_wp2_with fail
              refine (lexSplit_any _ _ (hE1.below hb2)).mono ?_
              rintro e w3 ⟨v', ps', n', rfl, hP', hb3, hs⟩
              rw [HZZ.out, HP2.out] at hs
              obtain ⟨rfl, rfl⟩ := Prod.mk.inj hs.symm
              clear hs hc1 hc2
              obtain ⟨sa, sc, rfl, hcap⟩ := own_slice hP'
              have hQ := own_below hP hb3
              have hbw := (hb1.trans (hb2.mono hb1.size)).trans (hb3.mono (Nat.le_trans hb1.size hb2.size))
              simp only [List.length_nil] at hP'
              by_cases h0 : y.size = 0
              · have h1 := empty_test h0
                have hnil : txtP (linesL L) 0 = [] := if_pos (by rw [← HY.out]; exact nil_of_size h0)
                rw [hnil] at hQ
                obtain ⟨sa', sc', rfl, hcap'⟩ := own_slice hQ
                simp only [List.length_nil] at hQ ⊢
                go_wp2_with (go_at_call 18; go_in)
                go_ret
                exact ⟨rfl, hbw⟩
              · have h1 := nonempty_test h0
                have hone : txtP (linesL L) 0 = [⟨false, linesL L, 0⟩] := if_neg fun h => h0 (by rw [HY.out.size, h]; rfl)
                rw [hone] at hQ
                obtain ⟨bb, cap, rfl, hbb, hcc⟩ := Pcs.form hQ (by simp)
                obtain ⟨d0, d1, d2⟩ := Pcs.at hQ 0 (by simp)
                simp only [List.length_cons, List.length_nil, Nat.zero_add, List.getElem_cons_zero] at hQ d0 d1 d2 hcc ⊢
                rw [← HY.out.eq] at d1
                have hN := fun W => eq_piece_self false y 0 W
                clear hone
                go_wp2_with (go_at_call 18; go_in)
                go_ret
                exact ⟨rfl, hbw⟩
end Go.Proofs.YtblkbhomlblfnaaDoor.S
