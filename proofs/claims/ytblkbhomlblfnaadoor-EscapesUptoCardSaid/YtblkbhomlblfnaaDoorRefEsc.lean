/-
  THE WALKS of the reference's in and Escape.
-/
import Derived.Test.YtblkbhomlblfnaaDoorRefNorm
import Derived.Test.YtblkbhomlblfnaaDoorPlainE
import Derived.Deep.RegionLaw
import Derived.Deep.RegionHeld3
import Derived.StillTailTactics
import Derived.Deep.RegionWith
import Derived.Laws.BitsLemmas
set_option linter.unusedVariables false
set_option linter.unusedSimpArgs false
namespace Go.Proofs.YtblkbhomlblfnaaDoor.S
open Go.RowKit

/-- is a byte among a text's? -/
def inL (c : Nat) (l : List UInt8) : Bool := l.any fun b => b.toNat == c
theorem rin_calls (c : Nat) (s : ByteArray) (w : World) (hc : c < 256) (hs : s.size ≤ 4611686018427387904) :
    Calls Tryd.prog 44 #[.int .u8 c, .string s] w fun e w' => e = .returned (.bool (inL c s.data.toList)) ∧ w = w' := by
  go_enter Tryd.func44, Tryd.ntmps44
  go_wp2
  go_loopg [4, 5] s.size (fun g _ v5 w' => ∃ (i : Nat), i + g = s.size ∧ v5 = .int .i64 i ∧ Hid (inL c s.data.toList = inL c (s.data.toList.drop i)) ∧ w = w')
  case atStart => exact ⟨0, by omega, rfl, rfl, rfl⟩
  case round =>
    obtain ⟨i, hig, rfl, hin, rfl⟩ := hrel
    have hle : i ≤ s.size := by omega
    have HIG := Lib.hid hig
    clear hig
    by_cases h : i < s.size
    · have hdc := drop_cons s i h
      obtain ⟨b, hb⟩ : ∃ b : UInt8, b = s[i]'h := ⟨_, rfl⟩
      have hbt : ∀ h', ((s[i]'h').toNat : Nat) = b.toNat := fun h' => by rw [hb]
      rw [← hb] at hdc
      have hi2 : inL c (s.data.toList.drop i) = (b.toNat == c || inL c (s.data.toList.drop (i + 1))) := by rw [hdc]; rfl
      have H2 := Lib.hid (hin.out.trans hi2)
      have hlt := b.toNat_lt
      clear hdc hb hi2 hin
      by_cases hq : b.toNat = c
      · have hqb : ((b.toNat : Int) == (c : Int)) = true := beq_iff_eq.2 (by omega)
        have HQ := Lib.hid hq
        clear hq
        go_wp2
        go_ret
        exact ⟨ret_bool (by rw [H2.out, HQ.out]; simp), rfl⟩
      · have hqb : ((b.toNat : Int) == (c : Int)) = false := beq_eq_false_iff_ne.2 (by omega)
        have HQ := Lib.hid hq
        clear hq
        go_wp2
        go_roundg (gk - 1)
        case measure => have := HIG.out; omega
        case rel => exact ⟨i + 1, by have := HIG.out; omega, by go_num, by have := HQ.out; show _ = _; rw [H2.out]; simp [this], rfl⟩
    · obtain rfl : i = s.size := by omega
      have hn : inL c (s.data.toList.drop s.size) = false := by rw [List.drop_eq_nil_of_le (Nat.le_of_eq (size_list s))]; rfl
      have H2 := Lib.hid (hin.out.trans hn)
      clear hn hin
      go_wp2
      go_ret
      exact ⟨ret_bool H2.out.symm, rfl⟩
theorem in_signJ (c : Nat) (h : c < 256) : inL c [32, 33, 35, 36, 37, 40, 41, 42, 43, 44, 45, 46, 47, 58, 59, 61, 63, 64, 91, 93, 94, 95, 123, 124, 125, 126] = signJ c := by
  have e := (by decide +kernel : ∀ c : Fin 256, inL c.val [32, 33, 35, 36, 37, 40, 41, 42, 43, 44, 45, 46, 47, 58, 59, 61, 63, 64, 91, 93, 94, 95, 123, 124, 125, 126] = signJ c.val)
  exact e ⟨c, h⟩
theorem rin_signs (c : Nat) (w : World) (hc : c < 256) :
    Calls Tryd.prog 44 #[.int .u8 c, .string ⟨#[32, 33, 35, 36, 37, 40, 41, 42, 43, 44, 45, 46, 47, 58, 59, 61, 63, 64, 91, 93, 94, 95, 123, 124, 125, 126]⟩] w fun e w' => e = .returned (.bool (signJ c)) ∧ w = w' := by
  rw [← in_signJ c hc]
  exact rin_calls c _ w hc (by decide)
theorem stay_low (c : Nat) (h : c < 256) : (letterI c || digitI c || signJ c) = true → c < 128 := by
  have e := (by decide +kernel : ∀ c : Fin 256, (letterI c.val || digitI c.val || signJ c.val) = true → c.val < 128)
  exact e ⟨c, h⟩
theorem round_one {acc x l l' L : List UInt8} (ha : acc ++ escR l = L) (he : escR l = x ++ escR l') : Hid ((acc ++ x) ++ escR l' = L) := by
  show _ = _
  rw [List.append_assoc, ← he, ha]
theorem pat_of (t : ByteArray) (i : Nat) (z : UInt8) (r' : List UInt8) {c : Nat} (hc : c = 226) (hr : t.data.toList.drop (i + 1) = 128 :: z :: r') (hz : z = 168 ∨ z = 169) :
    c = 226 ∧ i + 2 < t.size ∧ t.data.toList.getD (i + 1) 0 = 128 ∧ (t.data.toList.getD (i + 2) 0 = 168 ∨ t.data.toList.getD (i + 2) 0 = 169) := by
  have hl := congrArg List.length hr
  simp only [List.length_drop, List.length_cons, size_list] at hl
  have g : ∀ j, (t.data.toList.drop (i + 1)).getD j 0 = t.data.toList.getD (i + 1 + j) 0 := fun j => by
    rw [List.getD_eq_getElem?_getD, List.getD_eq_getElem?_getD, List.getElem?_drop]
  have g0 := g 0
  have g1 := g 1
  rw [hr] at g0 g1
  refine ⟨hc, by omega, g0.symm, ?_⟩
  rw [show i + 2 = i + 1 + 1 from rfl, ← g1]
  exact hz
/-- the great digits of sixteen -/
def digN (n : Nat) : Nat := [48, 49, 50, 51, 52, 53, 54, 55, 56, 57, 65, 66, 67, 68, 69, 70].getD n 0
theorem dig_byte (n : Nat) (h : n < 16) : ∀ h : n < (⟨#[48, 49, 50, 51, 52, 53, 54, 55, 56, 57, 65, 66, 67, 68, 69, 70]⟩ : ByteArray).size, (((⟨#[48, 49, 50, 51, 52, 53, 54, 55, 56, 57, 65, 66, 67, 68, 69, 70]⟩ : ByteArray)[n]'h).toNat : Nat) = digN n := by
  have := (by decide : ∀ k : Fin 16, ((⟨#[48, 49, 50, 51, 52, 53, 54, 55, 56, 57, 65, 66, 67, 68, 69, 70]⟩ : ByteArray)[k.val]'(k.isLt)).toNat = digN k.val)
  exact fun _ => this ⟨n, h⟩
theorem dig_byte' (x : Int) (m : Nat) (hx : x.toNat = m) (h : m < 16) : ∀ h : x.toNat < (⟨#[48, 49, 50, 51, 52, 53, 54, 55, 56, 57, 65, 66, 67, 68, 69, 70]⟩ : ByteArray).size, (((⟨#[48, 49, 50, 51, 52, 53, 54, 55, 56, 57, 65, 66, 67, 68, 69, 70]⟩ : ByteArray)[x.toNat]'h).toNat : Nat) = digN m := by
  subst hx
  exact dig_byte _ h
theorem dig_or (n : Nat) (h : n < 16) : bits .or .u8 (digN n : Int) 32 = ((hexd n).toNat : Int) := by
  have e := (by decide +kernel : ∀ n : Fin 16, bits .or .u8 (digN n.val : Int) 32 = ((hexd n.val).toNat : Int))
  exact e ⟨n, h⟩
theorem dig_low (n : Nat) (h : n < 16) : lowI (digN n : Int) = ((hexd n).toNat : Int) ∧ digN n < 256 := by
  have e := (by decide +kernel : ∀ n : Fin 16, lowI (digN n.val : Int) = ((hexd n.val).toNat : Int) ∧ digN n.val < 256)
  exact e ⟨n, h⟩
theorem escR_plain (c : UInt8) (r : List UInt8) (h : c = 226 → (∀ r', r ≠ 128 :: 168 :: r') ∧ ∀ r', r ≠ 128 :: 169 :: r') : escR (c :: r) = escJ c ++ escR r := by
  rw [escR]
  · intro r' hc; exact (h hc).1 r'
  · intro r' hc; exact (h hc).2 r'

set_option maxRecDepth 100000 in
set_option maxHeartbeats 8000000 in
theorem rescape_calls (s : ByteArray) (w : World) (hs : s.size ≤ 16777216) :
    Calls Tryd.prog 16 #[.string s] w fun e w' => ∃ r : ByteArray, e = .returned (.string r) ∧ StrIs r (escR (norm s.data.toList)) ∧ Below w.heap.size w w' := by
  go_enter Tryd.func16, Tryd.ntmps16
  go_wp2_with fail
  refine (rnorm_calls s _ (by omega)).mono ?_
  rintro e w1 ⟨t, rfl, ht, hb1⟩
  have hts : t.size ≤ 3 * s.size := by have := norm_len s.data.toList; rw [← ht.size] at this; exact this
  have HTT := Lib.hid (show t.data.toList = norm s.data.toList from ht)
  clear ht
  go_wp2_with fail
  go_loopg [4, 5, 6, 22, 37, 53] t.size (fun g v4 v5 _ _ _ _ w' => ∃ (i : Nat) (acc : List UInt8), i + g = t.size ∧ v5 = .int .i64 i ∧ Bytes w.heap.size v4 acc w' ∧ Below w.heap.size w w' ∧ Hid (acc ++ escR (t.data.toList.drop i) = escR t.data.toList) ∧ acc.length ≤ 6 * i)
  case atStart => exact ⟨0, [], by omega, rfl, bytes_nil _ _, hb1, rfl, by simp⟩
  case round =>
    obtain ⟨i, acc, hig, rfl, hO, hbw, hacc, hal⟩ := hrel
    have hle : i ≤ t.size := by omega
    have HIG := Lib.hid hig
    clear hig
    have hsz := hbw.size
    by_cases h : i < t.size
    · have hdc := drop_cons t i h
      obtain ⟨b, hb⟩ : ∃ b : UInt8, b = t[i]'h := ⟨_, rfl⟩
      have hbt : ∀ h', ((t[i]'h').toNat : Nat) = b.toNat := fun h' => by rw [hb]
      rw [← hb] at hdc
      have HDC := Lib.hid hdc
      have hlt := b.toNat_lt
      clear hdc hb
      obtain ⟨c, hc⟩ : ∃ c : Nat, c = b.toNat := ⟨_, rfl⟩
      rw [← hc] at hbt hlt
      have HBC := Lib.hid hc
      clear hc
      by_cases hst : (letterI c || digitI c || signJ c) = true
      · -- a byte that stays
        have h128 := stay_low c hlt hst
        have he : escR (t.data.toList.drop i) = [b] ++ escR (t.data.toList.drop (i + 1)) := by
          rw [HDC.out, escR_plain b _ (fun h => by rw [h] at HBC; have := HBC.out; simp at this; omega)]
          congr 1
          unfold escJ
          rw [← HBC.out, if_pos (by unfold stayJ; rw [Bool.or_assoc, Bool.or_assoc, ← Bool.or_assoc (letterI c), hst, Bool.or_true])]
        have HE := Lib.hid he
        clear he
        cases hL : letterI c
        · cases hD : digitI c
          · have hS : signJ c = true := by simpa [hL, hD] using hst
            clear hst
            go_wp2_with (first | (go_at_call 42; refine (rletter_calls c _ (by omega) (by omega)).mono ?_; rintro e w3 ⟨rfl, rfl⟩) | (go_at_call 43; refine (rdigit_calls c _ (by omega) (by omega)).mono ?_; rintro e w3 ⟨rfl, rfl⟩) | (go_at_call 44; refine (rin_signs c _ hlt).mono ?_; rintro e w3 ⟨rfl, rfl⟩) | (at_builtin; refine wp_appBytes w.heap.size rfl (.tmp 33) (.tmp 35) rfl _ acc [b] _ 1 1 ?hcs rfl rfl rfl hO hbw hsz (by simp; omega) ?_; (case hcs => rw [HBC.out]; rfl); intro v1 w1 hO1 hbw1 hsz1))
            go_roundg (gk - 1)
            case measure => have := HIG.out; omega
            case rel => exact ⟨i + 1, acc ++ [b], by have := HIG.out; omega, by go_num, hO1, hbw1, round_one hacc.out HE.out, by simp; omega⟩
          · clear hst
            go_wp2_with (first | (go_at_call 42; refine (rletter_calls c _ (by omega) (by omega)).mono ?_; rintro e w3 ⟨rfl, rfl⟩) | (go_at_call 43; refine (rdigit_calls c _ (by omega) (by omega)).mono ?_; rintro e w3 ⟨rfl, rfl⟩) | (at_builtin; refine wp_appBytes w.heap.size rfl (.tmp 33) (.tmp 35) rfl _ acc [b] _ 1 1 ?hcs rfl rfl rfl hO hbw hsz (by simp; omega) ?_; (case hcs => rw [HBC.out]; rfl); intro v1 w1 hO1 hbw1 hsz1))
            go_roundg (gk - 1)
            case measure => have := HIG.out; omega
            case rel => exact ⟨i + 1, acc ++ [b], by have := HIG.out; omega, by go_num, hO1, hbw1, round_one hacc.out HE.out, by simp; omega⟩
        · clear hst
          go_wp2_with (first | (go_at_call 42; refine (rletter_calls c _ (by omega) (by omega)).mono ?_; rintro e w3 ⟨rfl, rfl⟩) | (at_builtin; refine wp_appBytes w.heap.size rfl (.tmp 33) (.tmp 35) rfl _ acc [b] _ 1 1 ?hcs rfl rfl rfl hO hbw hsz (by simp; omega) ?_; (case hcs => rw [HBC.out]; rfl); intro v1 w1 hO1 hbw1 hsz1))
          go_roundg (gk - 1)
          case measure => have := HIG.out; omega
          case rel => exact ⟨i + 1, acc ++ [b], by have := HIG.out; omega, by go_num, hO1, hbw1, round_one hacc.out HE.out, by simp; omega⟩
      · have hq : (letterI c || digitI c || signJ c) = false := by simpa using hst
        simp only [Bool.or_eq_false_iff] at hq
        obtain ⟨⟨hL, hD⟩, hS⟩ := hq
        clear hst
        by_cases h128 : c < 128
        · have he : escR (t.data.toList.drop i) = ([92, 117, 48, 48] ++ [hexd (c / 16), hexd (c % 16)]) ++ escR (t.data.toList.drop (i + 1)) := by
            rw [HDC.out, escR_plain b _ (fun h => by rw [h] at HBC; have := HBC.out; simp at this; omega)]
            congr 1
            unfold escJ
            rw [← HBC.out, if_neg (by unfold stayJ; rw [hL, hD, hS]; simp; omega)]
            rfl
          have HE := Lib.hid he
          clear he
          go_wp2_with (first | (go_at_call 42; refine (rletter_calls c _ (by omega) (by omega)).mono ?_; rintro e w3 ⟨rfl, rfl⟩) | (go_at_call 43; refine (rdigit_calls c _ (by omega) (by omega)).mono ?_; rintro e w3 ⟨rfl, rfl⟩) | (go_at_call 44; refine (rin_signs c _ hlt).mono ?_; rintro e w3 ⟨rfl, rfl⟩) | (at_builtin; refine wp_appText w.heap.size rfl (.tmp 40) (.const (.string ⟨#[92, 117, 48, 48]⟩)) rfl _ acc rfl ⟨#[92, 117, 48, 48]⟩ rfl hO hbw hsz (by show _ + 4 ≤ _; omega) ?_; intro v1 w1' hO1 hbw1 hsz1))
          have hd1 := dig_byte' ((c : Int) / 16) (c / 16) (by omega) (by omega)
          have hd2 := dig_byte' ((c : Int) % 16) (c % 16) (by omega) (by omega)
          have hor := dig_or (c / 16) (by omega)
          have hlw := dig_low (c % 16) (by omega)
          have q1 : 0 ≤ (c : Int) / 16 := by omega
          have q2 : (c : Int) / 16 < 16 := by omega
          have q3 : 0 ≤ (c : Int) % 16 := by omega
          have q4 : (c : Int) % 16 < 16 := by omega
          have hand : bits .and .u8 (c : Int) 15 = (c : Int) % 16 := u8_and15 (c : Int) (by omega) (by omega)
          clear hL hD hS
          go_region_law (first | (refine step_appBytes w.heap.size rfl (.tmp 42) (.tmp 51) rfl _ (acc ++ [92, 117, 48, 48]) [hexd (c / 16), hexd (c % 16)] w1'.heap.size _ (0, 0) 2 2 ?hcs rfl (by decide) rfl rfl (heap_new w1' _) (hO1.below (((Below.refl _ w1').alloc (Nat.le_refl _) _).drew)) ((hbw1.alloc hbw1.size _).drew) (by have := hbw1.size; simp; omega) (by simp; omega) ?_; (case hcs => rfl); intro v2 w2 hO2 hbw2 hsz2) | (go_simp; go_at_call 45; refine (rlow_calls _ _ (by omega) (by omega)).mono ?_; rintro e w3 ⟨rfl, rfl⟩))
          all_goals clear hd1 hd2 hor hlw q1 q2 q3 q4 hand
          all_goals go_wp2
          all_goals
            go_roundg (gk - 1)
            case measure => have := HIG.out; omega
            case rel => exact ⟨i + 1, acc ++ [92, 117, 48, 48] ++ [hexd (c / 16), hexd (c % 16)], by have := HIG.out; omega, by go_num, hO2, hbw2, by rw [List.append_assoc acc]; exact round_one hacc.out HE.out, by simp; omega⟩
        · by_cases h226 : c = 226 ∧ i + 2 < t.size ∧ t.data.toList.getD (i + 1) 0 = 128 ∧ (t.data.toList.getD (i + 2) 0 = 168 ∨ t.data.toList.getD (i + 2) 0 = 169)
          · obtain ⟨hc226, h1, h2, h3⟩ := h226
            have hcb : ((c : Int) == 226) = true := beq_iff_eq.2 (by omega)
            have hb1 : ∀ h', ((t[i + 1]'h').toNat : Nat) = 128 := fun h' => by rw [byte_getD t (i + 1) h', h2]; rfl
            rcases h3 with h3 | h3
            · -- U+20168
              have hb2 : ∀ h', ((t[i + 2]'h').toNat : Nat) = 168 := fun h' => by rw [byte_getD t (i + 2) h', h3]; rfl
              have he : escR (t.data.toList.drop i) = ([92, 117, 50, 48, 50] ++ [56]) ++ escR (t.data.toList.drop (i + 3)) := by
                rw [HDC.out, drop_cons t (i + 1) (by omega), drop_cons t (i + 2) (by omega), byte_getD t (i + 1) (by omega), byte_getD t (i + 2) (by omega), h2, h3, show b = 226 from UInt8.toNat_inj.1 (by rw [← HBC.out, hc226]; rfl)]
                rfl
              have HE := Lib.hid he
              clear he h2 h3 hc226
              go_wp2_with (first | (go_at_call 42; refine (rletter_calls c _ (by omega) (by omega)).mono ?_; rintro e w3 ⟨rfl, rfl⟩) | (go_at_call 43; refine (rdigit_calls c _ (by omega) (by omega)).mono ?_; rintro e w3 ⟨rfl, rfl⟩) | (go_at_call 44; refine (rin_signs c _ hlt).mono ?_; rintro e w3 ⟨rfl, rfl⟩) | (at_builtin; refine wp_appText w.heap.size rfl (.tmp 84) (.const (.string ⟨#[92, 117, 50, 48, 50]⟩)) rfl _ acc rfl ⟨#[92, 117, 50, 48, 50]⟩ rfl hO hbw hsz (by show _ + 5 ≤ _; omega) ?_; intro v1 w1 hO1 hbw1 hsz1) | (at_builtin; refine wp_appBytes w.heap.size rfl (.tmp 86) (.tmp 93) rfl _ (acc ++ [92, 117, 50, 48, 50]) [56] _ 1 1 ?hcs rfl rfl rfl hO1 hbw1 hbw1.size (by simp; omega) ?_; (case hcs => rfl); intro v2 w2 hO2 hbw2 hsz2))
              go_roundg (gk - 3)
              case measure => have := HIG.out; omega
              case rel => exact ⟨i + 3, acc ++ [92, 117, 50, 48, 50] ++ [56], by have := HIG.out; omega, by first | go_num | (simp; omega), hO2, hbw2, by rw [List.append_assoc acc]; exact round_one hacc.out HE.out, by simp; omega⟩
            · -- U+20169
              have hb2 : ∀ h', ((t[i + 2]'h').toNat : Nat) = 169 := fun h' => by rw [byte_getD t (i + 2) h', h3]; rfl
              have he : escR (t.data.toList.drop i) = ([92, 117, 50, 48, 50] ++ [57]) ++ escR (t.data.toList.drop (i + 3)) := by
                rw [HDC.out, drop_cons t (i + 1) (by omega), drop_cons t (i + 2) (by omega), byte_getD t (i + 1) (by omega), byte_getD t (i + 2) (by omega), h2, h3, show b = 226 from UInt8.toNat_inj.1 (by rw [← HBC.out, hc226]; rfl)]
                rfl
              have HE := Lib.hid he
              clear he h2 h3 hc226
              go_wp2_with (first | (go_at_call 42; refine (rletter_calls c _ (by omega) (by omega)).mono ?_; rintro e w3 ⟨rfl, rfl⟩) | (go_at_call 43; refine (rdigit_calls c _ (by omega) (by omega)).mono ?_; rintro e w3 ⟨rfl, rfl⟩) | (go_at_call 44; refine (rin_signs c _ hlt).mono ?_; rintro e w3 ⟨rfl, rfl⟩) | (at_builtin; refine wp_appText w.heap.size rfl (.tmp 84) (.const (.string ⟨#[92, 117, 50, 48, 50]⟩)) rfl _ acc rfl ⟨#[92, 117, 50, 48, 50]⟩ rfl hO hbw hsz (by show _ + 5 ≤ _; omega) ?_; intro v1 w1 hO1 hbw1 hsz1) | (at_builtin; refine wp_appBytes w.heap.size rfl (.tmp 86) (.tmp 93) rfl _ (acc ++ [92, 117, 50, 48, 50]) [57] _ 1 1 ?hcs rfl rfl rfl hO1 hbw1 hbw1.size (by simp; omega) ?_; (case hcs => rfl); intro v2 w2 hO2 hbw2 hsz2))
              go_roundg (gk - 3)
              case measure => have := HIG.out; omega
              case rel => exact ⟨i + 3, acc ++ [92, 117, 50, 48, 50] ++ [57], by have := HIG.out; omega, by first | go_num | (simp; omega), hO2, hbw2, by rw [List.append_assoc acc]; exact round_one hacc.out HE.out, by simp; omega⟩
          · have he : escR (t.data.toList.drop i) = [b] ++ escR (t.data.toList.drop (i + 1)) := by
              rw [HDC.out, escR_plain b _ (fun hb => ?_), escJ_high b (by rw [← HBC.out]; omega)]
              have hc226 : c = 226 := by rw [HBC.out, hb]; rfl
              constructor <;> intro r' hr <;> apply h226
              · exact pat_of t i 168 r' hc226 hr (.inl rfl)
              · exact pat_of t i 169 r' hc226 hr (.inr rfl)
            have HE := Lib.hid he
            clear he
            by_cases hc226 : c = 226
            · have hcb : ((c : Int) == 226) = true := beq_iff_eq.2 (by omega)
              by_cases h1 : i + 2 < t.size
              · obtain ⟨x1, hx1⟩ : ∃ x1 : UInt8, x1 = t.data.toList.getD (i + 1) 0 := ⟨_, rfl⟩
                obtain ⟨x2, hx2⟩ : ∃ x2 : UInt8, x2 = t.data.toList.getD (i + 2) 0 := ⟨_, rfl⟩
                have hb1 : ∀ h', ((t[i + 1]'h').toNat : Nat) = x1.toNat := fun h' => by rw [byte_getD t (i + 1) h', hx1]
                have hb2 : ∀ h', ((t[i + 2]'h').toNat : Nat) = x2.toNat := fun h' => by rw [byte_getD t (i + 2) h', hx2]
                rw [← hx1, ← hx2] at h226
                have n1 : x1.toNat = 128 → x2.toNat ≠ 168 ∧ x2.toNat ≠ 169 := fun e1 => ⟨fun e2 => h226 ⟨hc226, h1, UInt8.toNat_inj.1 e1, .inl (UInt8.toNat_inj.1 e2)⟩, fun e2 => h226 ⟨hc226, h1, UInt8.toNat_inj.1 e1, .inr (UInt8.toNat_inj.1 e2)⟩⟩
                have l1 := x1.toNat_lt
                have l2 := x2.toNat_lt
                clear h226 hx1 hx2
                generalize x1.toNat = y1 at *
                generalize x2.toNat = y2 at *
                have HC := Lib.hid hc226
                clear hc226
                by_cases hy1 : y1 = 128
                · obtain ⟨k1, k2⟩ := n1 hy1
                  have d1 : ((y1 : Int) == 128) = true := beq_iff_eq.2 (by omega)
                  have d2 : ((y2 : Int) == 168) = false := beq_eq_false_iff_ne.2 (by omega)
                  have d3 : ((y2 : Int) == 169) = false := beq_eq_false_iff_ne.2 (by omega)
                  clear n1 hy1
                  go_wp2_with (first | (go_at_call 42; refine (rletter_calls c _ (by omega) (by omega)).mono ?_; rintro e w3 ⟨rfl, rfl⟩) | (go_at_call 43; refine (rdigit_calls c _ (by omega) (by omega)).mono ?_; rintro e w3 ⟨rfl, rfl⟩) | (go_at_call 44; refine (rin_signs c _ hlt).mono ?_; rintro e w3 ⟨rfl, rfl⟩) | (at_builtin; refine wp_appBytes w.heap.size rfl (.tmp 18) (.tmp 20) rfl _ acc [b] _ 1 1 ?hcs rfl rfl rfl hO hbw hsz (by simp; omega) ?_; (case hcs => rw [HBC.out]; rfl); intro v1 w1 hO1 hbw1 hsz1))
                  go_roundg (gk - 1)
                  case measure => have := HIG.out; omega
                  case rel => exact ⟨i + 1, acc ++ [b], by have := HIG.out; omega, by go_num, hO1, hbw1, round_one hacc.out HE.out, by simp; omega⟩
                · have d1 : ((y1 : Int) == 128) = false := beq_eq_false_iff_ne.2 (by omega)
                  clear n1
                  go_wp2_with (first | (go_at_call 42; refine (rletter_calls c _ (by omega) (by omega)).mono ?_; rintro e w3 ⟨rfl, rfl⟩) | (go_at_call 43; refine (rdigit_calls c _ (by omega) (by omega)).mono ?_; rintro e w3 ⟨rfl, rfl⟩) | (go_at_call 44; refine (rin_signs c _ hlt).mono ?_; rintro e w3 ⟨rfl, rfl⟩) | (at_builtin; refine wp_appBytes w.heap.size rfl (.tmp 18) (.tmp 20) rfl _ acc [b] _ 1 1 ?hcs rfl rfl rfl hO hbw hsz (by simp; omega) ?_; (case hcs => rw [HBC.out]; rfl); intro v1 w1 hO1 hbw1 hsz1))
                  go_roundg (gk - 1)
                  case measure => have := HIG.out; omega
                  case rel => exact ⟨i + 1, acc ++ [b], by have := HIG.out; omega, by go_num, hO1, hbw1, round_one hacc.out HE.out, by simp; omega⟩
              · have HC := Lib.hid hc226
                clear hc226 h226
                go_wp2_with (first | (go_at_call 42; refine (rletter_calls c _ (by omega) (by omega)).mono ?_; rintro e w3 ⟨rfl, rfl⟩) | (go_at_call 43; refine (rdigit_calls c _ (by omega) (by omega)).mono ?_; rintro e w3 ⟨rfl, rfl⟩) | (go_at_call 44; refine (rin_signs c _ hlt).mono ?_; rintro e w3 ⟨rfl, rfl⟩) | (at_builtin; refine wp_appBytes w.heap.size rfl (.tmp 18) (.tmp 20) rfl _ acc [b] _ 1 1 ?hcs rfl rfl rfl hO hbw hsz (by simp; omega) ?_; (case hcs => rw [HBC.out]; rfl); intro v1 w1 hO1 hbw1 hsz1))
                go_roundg (gk - 1)
                case measure => have := HIG.out; omega
                case rel => exact ⟨i + 1, acc ++ [b], by have := HIG.out; omega, by go_num, hO1, hbw1, round_one hacc.out HE.out, by simp; omega⟩
            · have hcb : ((c : Int) == 226) = false := beq_eq_false_iff_ne.2 (by omega)
              clear h226
              go_wp2_with (first | (go_at_call 42; refine (rletter_calls c _ (by omega) (by omega)).mono ?_; rintro e w3 ⟨rfl, rfl⟩) | (go_at_call 43; refine (rdigit_calls c _ (by omega) (by omega)).mono ?_; rintro e w3 ⟨rfl, rfl⟩) | (go_at_call 44; refine (rin_signs c _ hlt).mono ?_; rintro e w3 ⟨rfl, rfl⟩) | (at_builtin; refine wp_appBytes w.heap.size rfl (.tmp 18) (.tmp 20) rfl _ acc [b] _ 1 1 ?hcs rfl rfl rfl hO hbw hsz (by simp; omega) ?_; (case hcs => rw [HBC.out]; rfl); intro v1 w1 hO1 hbw1 hsz1))
              go_roundg (gk - 1)
              case measure => have := HIG.out; omega
              case rel => exact ⟨i + 1, acc ++ [b], by have := HIG.out; omega, by go_num, hO1, hbw1, round_one hacc.out HE.out, by simp; omega⟩
    · obtain rfl : i = t.size := by omega
      have hcv := bytes_string hO
      have ha := hacc.out
      rw [List.drop_eq_nil_of_le (Nat.le_of_eq (size_list t)), show escR [] = [] from rfl, List.append_nil, HTT.out] at ha
      have HA := Lib.hid ha
      clear ha hacc
      go_wp2
      go_ret
      exact ⟨_, rfl, HA.out, hbw⟩
end Go.Proofs.YtblkbhomlblfnaaDoor.S
