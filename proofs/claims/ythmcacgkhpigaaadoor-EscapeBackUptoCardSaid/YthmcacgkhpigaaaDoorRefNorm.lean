/-
  THE WALK of the reference's Norm: it gives what 'norm' tells.
-/
import Derived.Test.YthmcacgkhpigaaaDoorRefUWalks
import Derived.Test.YthmcacgkhpigaaaDoorUtfWalks
import Derived.Test.YthmcacgkhpigaaaDoorOwn
set_option linter.unusedVariables false
set_option linter.unusedSimpArgs false
namespace Go.Proofs.YthmcacgkhpigaaaDoor.S
open Go.RowKit

theorem drop_cons (s : ByteArray) (i : Nat) (h : i < s.size) : s.data.toList.drop i = s[i] :: s.data.toList.drop (i + 1) := by
  rw [List.drop_eq_getElem_cons (show i < s.data.toList.length from h)]
  rfl
theorem byte_getD (s : ByteArray) (i : Nat) (h : i < s.size) : s[i] = s.data.toList.getD i 0 := by
  rw [List.getD_eq_getElem?_getD, List.getElem?_eq_getElem (show i < s.data.toList.length from h)]
  rfl
theorem size_calls (s : ByteArray) (i : Nat) (w : World) (h : i < s.size) (hs : s.size ≤ 4611686018427387904) :
    Calls Tryd.prog 17 #[.string s, .int .i64 i] w fun e w' => e = .returned (.int .i64 (sizeL (s.data.toList.drop i))) ∧ w = w' := by
  have e : sizeL (s.data.toList.drop i) = sizeN (s.size - i) (s.data.toList.getD (i + 0) 0).toNat (s.data.toList.getD (i + 1) 0).toNat (s.data.toList.getD (i + 2) 0).toNat (s.data.toList.getD (i + 3) 0).toNat := by
    rw [drop_cons s i h]
    unfold sizeL
    simp only
    rw [byte_getD s i h]
    have hl : (s.data.toList.drop (i + 1)).length + 1 = s.size - i := by rw [List.length_drop, size_list]; omega
    rw [hl]
    have g : ∀ j, (s.data.toList.drop (i + 1)).getD j 0 = s.data.toList.getD (i + (j + 1)) 0 := fun j => by
      rw [List.getD_eq_getElem?_getD, List.getD_eq_getElem?_getD, List.getElem?_drop]
      congr 2
      omega
    rw [g 0, g 1, g 2]
    rfl
  rw [e]
  exact size_core s i (s.size - i) (fun m => (s.data.toList.getD (i + m) 0).toNat) w (fun m h' => by rw [byte_getD s (i + m) h']) (by omega) (by omega) hs (fun m => UInt8.toNat_lt _)

set_option maxRecDepth 100000 in
set_option maxHeartbeats 4000000 in
theorem rnorm_calls (s : ByteArray) (w : World) (hs : s.size ≤ 35184372088832) :
    Calls Tryd.prog 6 #[.string s] w fun e w' => ∃ r : ByteArray, e = .returned (.string r) ∧ StrIs r (norm s.data.toList) ∧ Below w.heap.size w w' := by
  go_enter Tryd.func6, Tryd.ntmps6
  go_wp2
  go_loopg [3, 4, 5] s.size (fun g v3 v4 _ w' => ∃ (i : Nat) (acc : List UInt8), i + g = s.size ∧ v4 = .int .i64 i ∧ Bytes w.heap.size v3 acc w' ∧ Below w.heap.size w w' ∧ Hid (acc ++ norm (s.data.toList.drop i) = norm s.data.toList) ∧ acc.length ≤ 3 * i)
  case atStart => exact ⟨0, [], by omega, rfl, bytes_nil _ _, Below.refl _ _, rfl, by simp⟩
  case round =>
    obtain ⟨i, acc, hig, rfl, hO, hbw, hacc, hal⟩ := hrel
    have hle : i ≤ s.size := by omega
    have HIG := Lib.hid hig
    clear hig
    have hsz := hbw.size
    by_cases h : i < s.size
    · have hdc := drop_cons s i h
      obtain ⟨b, hb⟩ : ∃ b : UInt8, b = s[i]'h := ⟨_, rfl⟩
      have hbt : ∀ h', ((s[i]'h').toNat : Nat) = b.toNat := fun h' => by rw [hb]
      rw [← hb] at hdc
      have hsg := sign_sizeL b (s.data.toList.drop (i + 1))
      have hnc := norm_cons b (s.data.toList.drop (i + 1))
      rw [← hdc] at hsg hnc
      have hkl := sign_le (s.data.toList.drop i)
      rw [List.length_drop, size_list] at hkl
      have hcs := fun W => size_calls s i W h (by omega)
      generalize sizeL (s.data.toList.drop i) = k at *
      have HC := Lib.hid hcs
      have HSG := Lib.hid hsg
      have HNC := Lib.hid hnc
      have HDC := Lib.hid hdc
      have hlt := b.toNat_lt
      have hb0 : (b = 0) ↔ b.toNat = 0 := ⟨fun h => by rw [h]; rfl, fun h => UInt8.toNat_inj.1 h⟩
      clear hcs hsg hnc hdc hb
      by_cases hk0 : k = 0
      · subst hk0
        have hs0 : sign (s.data.toList.drop i) = 0 := by rw [HSG.out]; split <;> rfl
        have HN := Lib.hid (HNC.out.trans (if_pos hs0))
        clear hs0 hb0
        go_wp2_with (first | (go_at_call 17; refine (HC.out _).mono ?_; rintro e w1 ⟨rfl, rfl⟩) | (at_builtin; refine wp_appBytes w.heap.size rfl (.tmp 21) (.tmp 22) rfl _ acc bad _ 3 3 ?hcs rfl rfl rfl hO hbw hsz (by simp [bad]; omega) ?_; (case hcs => rfl); intro v1 w1 hO1 hbw1 hsz1))
        go_roundg (gk - 1)
        case measure => have := HIG.out; omega
        case rel =>
          refine ⟨i + 1, acc ++ bad, by have := HIG.out; omega, by go_num, hO1, hbw1, ?_, by simp [bad]; omega⟩
          show _ = _
          rw [List.append_assoc, ← hacc.out]
          have e := HN.out
          rw [HDC.out] at e
          rw [HDC.out, e]
      · have hkz : ((k : Int) == 0) = false := by simpa using hk0
        by_cases hbz : b.toNat = 0
        · have hs0 : sign (s.data.toList.drop i) = 0 := by rw [HSG.out, if_pos (hb0.2 hbz)]
          have HN := Lib.hid (HNC.out.trans (if_pos hs0))
          have hbz' : ((b.toNat : Int) == 0) = true := by simpa using hbz
          clear hs0 hb0 hbz
          go_wp2_with (first | (go_at_call 17; refine (HC.out _).mono ?_; rintro e w1 ⟨rfl, rfl⟩) | (at_builtin; refine wp_appBytes w.heap.size rfl (.tmp 21) (.tmp 22) rfl _ acc bad _ 3 3 ?hcs rfl rfl rfl hO hbw hsz (by simp [bad]; omega) ?_; (case hcs => rfl); intro v1 w1 hO1 hbw1 hsz1))
          go_roundg (gk - 1)
          case measure => have := HIG.out; omega
          case rel =>
            refine ⟨i + 1, acc ++ bad, by have := HIG.out; omega, by go_num, hO1, hbw1, ?_, by simp [bad]; omega⟩
            show _ = _
            rw [List.append_assoc, ← hacc.out]
            have e := HN.out
            rw [HDC.out] at e
            rw [HDC.out, e]
        · have hs1 : sign (s.data.toList.drop i) = k := by rw [HSG.out, if_neg (fun h => hbz (hb0.1 h))]
          have hn := HNC.out.trans (if_neg (by rw [hs1]; exact hk0))
          rw [hs1] at hn hkl
          have HN := Lib.hid hn
          have hbz' : ((b.toNat : Int) == 0) = false := by simpa using hbz
          have hxs : (s.extract i (i + k)).size = k := by rw [ByteArray.size_extract]; omega
          have HXS := Lib.hid hxs
          have hsl := fun W => run_slice_string (P := Tryd.prog) (w := W) 9 s .i64 .i64 (i : Int) ((i : Int) + k) Tryd.underlying9 (by omega) (by omega) (by omega)
          have e1 : ((i : Int) + (k : Int)).toNat = i + k := by omega
          simp only [e1, Int.toNat_natCast] at hsl
          clear hs1 hb0 hbz hn hxs e1
          go_wp2_with (first | (go_at_call 17; refine (HC.out _).mono ?_; rintro e w1 ⟨rfl, rfl⟩) | (at_builtin; refine wp_appText w.heap.size rfl (.tmp 26) (.tmp 32) rfl _ acc rfl _ rfl hO hbw hsz (by rw [HXS.out]; omega) ?_; intro v1 w1 hO1 hbw1 hsz1))
          go_roundg (gk - k)
          case measure => have := HIG.out; omega
          case rel =>
            refine ⟨i + k, acc ++ (s.extract i (i + k)).data.toList, by have := HIG.out; omega, by go_num, hO1, hbw1, ?_, by rw [List.length_append, size_list, HXS.out]; omega⟩
            show _ = _
            rw [List.append_assoc, ← hacc.out, Lib.extract_data, show i + k - i = k by omega, HN.out, List.drop_drop]
    · obtain rfl : i = s.size := by omega
      have hcv := bytes_string hO
      have ha := hacc.out
      rw [List.drop_eq_nil_of_le (Nat.le_of_eq (size_list s)), norm_nil, List.append_nil] at ha
      have HA := Lib.hid ha
      clear ha hacc
      go_wp2
      go_ret
      exact ⟨_, rfl, HA.out, hbw⟩
end Go.Proofs.YthmcacgkhpigaaaDoor.S
