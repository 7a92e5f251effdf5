/-
  THE WALK of package lex's end.
-/
import Derived.Test.YtdaffedbboofjaaGreatDoorLexWalks
set_option linter.unusedVariables false
set_option linter.unusedSimpArgs false
namespace Go.Proofs.YtdaffedbboofjaaGreatDoor.S
open Go.RowKit

theorem pre2 (x y : UInt8) (l : List UInt8) : List.isPrefixOf [x, y] l = (decide (2 ≤ l.length) && (x == l.getD 0 0 && y == l.getD 1 0)) := by
  match l with
  | [] => rfl
  | [a] => simp [List.isPrefixOf]
  | a :: b :: r => simp [List.isPrefixOf]
theorem prefix_calls (s p : ByteArray) (l : List UInt8) (h : StrIs s l) (w : World) :
    Calls Tryz.prog 85 #[.string s, .string p] w fun e w' => e = .returned (.bool (List.isPrefixOf p.data.toList l)) ∧ w = w' := by
  rw [← h]
  exact (Tryz.strings_HasPrefix _ _ _).mono fun _ _ ⟨he, hw⟩ => ⟨he, hw.symm⟩

set_option maxHeartbeats 4000000 in
theorem end_calls (s : ByteArray) (w : World) (hs : s.size ≤ 4611686018427387904) :
    Calls Tryz.prog 113 #[.string s] w fun e w' => e = .returned (.int .i64 (endZ (endL false s.data.toList) 0)) ∧ w = w' := by
  obtain ⟨T, hT⟩ : ∃ T, T = endZ (endL false s.data.toList) 0 := ⟨_, rfl⟩
  rw [← hT]
  have HT := Lib.hid hT
  clear hT
  go_enter Tryz.func113, Tryz.ntmps113
  go_wp2
  go_loopg [3] (s.size + 2) (fun gk v3 wr => ∃ i : Nat, i + gk = s.size + 2 ∧ v3 = .int .i64 i ∧ Hid (endZ (endL false (s.data.toList.drop i)) i = T) ∧ w = wr)
  case atStart => exact ⟨0, by omega, rfl, HT.out.symm, rfl⟩
  case round =>
    obtain ⟨i, hig, rfl, hi, rfl⟩ := hrel
    have HIG := Lib.hid hig
    clear hig
    by_cases h : i < s.size
    · have hdc := drop_cons s i h
      obtain ⟨b, hb⟩ : ∃ b : UInt8, b = s[i]'h := ⟨_, rfl⟩
      have hbt : ∀ h', ((s[i]'h').toNat : Nat) = b.toNat := fun h' => by rw [hb]
      rw [← hb] at hdc
      have hlt := b.toNat_lt
      have hst := endL_false b (s.data.toList.drop (i + 1)) i
      rw [← hdc, hi.out] at hst
      have hpc := fun W => prefix_calls (s.extract i s.size) ⟨#[125, 125]⟩ _ (extract_end s i) W
      have hq : b = 34 ↔ b.toNat = 34 := ⟨fun h => by rw [h]; rfl, fun h => UInt8.toNat_inj.1 h⟩
      have HC := Lib.hid hpc
      clear hdc hb hpc hi
      cases hp : List.isPrefixOf [125, 125] (s.data.toList.drop i) with
      | true =>
        rw [hp, if_pos rfl] at hst
        have HST := Lib.hid hst
        clear hst hq
        go_wp2_with (go_at_call 85; refine (HC.out _).mono ?_; rintro e w1 ⟨rfl, rfl⟩)
        go_ret
        exact ⟨ret_int HST.out.symm, rfl⟩
      | false =>
        rw [hp, if_neg (by simp)] at hst
        by_cases h34 : b.toNat = 34
        · have h34b : ((b.toNat : Int) == 34) = true := beq_iff_eq.2 (by omega)
          rw [if_pos (hq.2 h34)] at hst
          have HST := Lib.hid hst
          clear hst hq h34
          go_wp2_with (go_at_call 85; refine (HC.out _).mono ?_; rintro e w1 ⟨rfl, rfl⟩)
          go_loopg [3] (s.size - i) (fun gi v3 wr => ∃ j : Nat, j + gi = s.size + 1 ∧ i < j ∧ v3 = .int .i64 j ∧ Hid (endZ (endL true (s.data.toList.drop j)) j = T) ∧ w = wr)
          case atStart => exact ⟨i + 1, by omega, by omega, by go_num, HST.out.symm, rfl⟩
          case round =>
            obtain ⟨j, hjg, hij, rfl, hj, rfl⟩ := hrel
            have HJG := Lib.hid hjg
            clear hjg
            clear hbt hlt
            by_cases h : j < s.size
            · have hdc := drop_cons s j h
              obtain ⟨b, hb⟩ : ∃ b : UInt8, b = s[j]'h := ⟨_, rfl⟩
              have hbt : ∀ h', ((s[j]'h').toNat : Nat) = b.toNat := fun h' => by rw [hb]
              rw [← hb] at hdc
              have hlt := b.toNat_lt
              have hst := endL_true b (s.data.toList.drop (j + 1)) j
              rw [← hdc, hj.out] at hst
              have hq : b = 34 ↔ b.toNat = 34 := ⟨fun h => by rw [h]; rfl, fun h => UInt8.toNat_inj.1 h⟩
              have hq2 : b = 92 ↔ b.toNat = 92 := ⟨fun h => by rw [h]; rfl, fun h => UInt8.toNat_inj.1 h⟩
              clear hdc hb hj
              by_cases h34 : b.toNat = 34
              · have h34b : ((b.toNat : Int) == 34) = true := beq_iff_eq.2 (by omega)
                rw [if_neg (fun h => by have := hq2.1 h; omega), if_pos (hq.2 h34)] at hst
                have HST2 := Lib.hid hst
                clear hst hq hq2 h34
                go_wp2
                go_roundg (s.size + 1 - j)
                case measure => have := HIG.out; omega
                case rel => exact ⟨j + 1, by omega, by go_num, HST2.out.symm, rfl⟩
              · have h34b : ((b.toNat : Int) == 34) = false := beq_eq_false_iff_ne.2 (by omega)
                by_cases h92 : b.toNat = 92
                · have h92b : ((b.toNat : Int) == 92) = true := beq_iff_eq.2 (by omega)
                  rw [if_pos (hq2.2 h92)] at hst
                  rw [List.drop_drop] at hst
                  have HST2 := Lib.hid hst
                  clear hst hq hq2 h34 h92
                  go_wp2
                  go_roundg (gk - 2)
                  case measure => have := HJG.out; omega
                  case rel => exact ⟨j + 2, by have := HJG.out; omega, by omega, by go_num, HST2.out.symm, rfl⟩
                · have h92b : ((b.toNat : Int) == 92) = false := beq_eq_false_iff_ne.2 (by omega)
                  rw [if_neg (fun h => h92 (hq2.1 h)), if_neg (fun h => h34 (hq.1 h))] at hst
                  have HST2 := Lib.hid hst
                  clear hst hq hq2 h34 h92
                  go_wp2
                  go_roundg (gk - 1)
                  case measure => have := HJG.out; omega
                  case rel => exact ⟨j + 1, by have := HJG.out; omega, by omega, by go_num, HST2.out.symm, rfl⟩
            · have hj2 : j ≤ s.size + 1 := by have := HJG.out; omega
              have e : s.data.toList.drop j = [] := List.drop_eq_nil_of_le (by rw [size_list]; omega)
              have e2 : s.data.toList.drop (j + 1) = [] := List.drop_eq_nil_of_le (by rw [size_list]; omega)
              have ht := hj.out
              rw [e] at ht
              have HT2 := Lib.hid ht
              have E2 := Lib.hid e2
              clear e e2 ht hj
              go_wp2
              go_roundg (s.size + 1 - j)
              case measure => have := HIG.out; omega
              case rel => exact ⟨j + 1, by have := HJG.out; omega, by go_num, by rw [E2.out]; exact HT2.out, rfl⟩
        · have h34b : ((b.toNat : Int) == 34) = false := beq_eq_false_iff_ne.2 (by omega)
          rw [if_neg (fun h => h34 (hq.1 h))] at hst
          have HST := Lib.hid hst
          clear hst hq h34
          go_wp2_with (go_at_call 85; refine (HC.out _).mono ?_; rintro e w1 ⟨rfl, rfl⟩)
          go_roundg (gk - 1)
          case measure => have := HIG.out; omega
          case rel => exact ⟨i + 1, by have := HIG.out; omega, by go_num, HST.out.symm, rfl⟩
    · have e : s.data.toList.drop i = [] := List.drop_eq_nil_of_le (by rw [size_list]; omega)
      have ht := hi.out
      rw [e] at ht
      have HT2 := Lib.hid ht
      clear e ht hi
      go_wp2
      go_ret
      exact ⟨ret_int HT2.out, rfl⟩
end Go.Proofs.YtdaffedbboofjaaGreatDoor.S
