/-
  RefLex, LexEnd, LexComment, LexAction, LexSplit, RefLex2, RefLex3, LexTop, RefLex4, PlainS, PlainS2, PlainS3, SameP, SameI, Tmpl4, Tmpl5, Tmpl6, Tmpl7, Tmpl8, PlainW5, Tmpl9, LexAny, Tmpl10, Awake16: merged.
-/
import Derived.Test.YtdaffedbboofjaaGreatDoorRefNorm
import Derived.Test.YtdaffedbboofjaaGreatDoorPlainL2
import Derived.Test.YtdaffedbboofjaaGreatDoorState
import Derived.Test.YtdaffedbboofjaaGreatDoorLexWalks
import Derived.Test.YtdaffedbboofjaaGreatDoorLexText
import Derived.Deep.RegionLaw
import Derived.Deep.RegionHeld3
import Derived.Laws.OwnMore
import Derived.Deep.Onto
import Derived.Test.YtdaffedbboofjaaGreatDoorPipeMem
import Derived.BigRegion
import Derived.Test.YtdaffedbboofjaaGreatDoorItMem
import Derived.Test.YtdaffedbboofjaaGreatDoorTmpl3
import Derived.Test.YtdaffedbboofjaaGreatDoorPlainW4
/-
  THE WALKS of the reference's blank, left, right, Lines.
-/
set_option linter.unusedVariables false
set_option linter.unusedSimpArgs false
namespace Go.Proofs.YtdaffedbboofjaaGreatDoor.S
open Go.RowKit

theorem rblank_calls (c : Nat) (w : World) (h : c < 256) :
    Calls Tryz.prog 62 #[.int .u8 c] w fun e w' => e = .returned (.bool (blk c)) ∧ w = w' := by
  go_enter Tryz.func62, Tryz.ntmps62
  by_cases h9 : c = 9
  · have hb : ((c : Int) == 9) = true := beq_iff_eq.2 (by omega)
    have hk : blk c = true := by rw [h9]; rfl
    have HK := Lib.hid hk
    clear hk h9
    go_wp2
    go_ret
    exact ⟨ret_bool HK.out.symm, rfl⟩
  · have hb : ((c : Int) == 9) = false := beq_eq_false_iff_ne.2 (by omega)
    by_cases h10 : c = 10
    · have hb1 : ((c : Int) == 10) = true := beq_iff_eq.2 (by omega)
      have hk : blk c = true := by rw [h10]; rfl
      have HK := Lib.hid hk
      clear hk h9 h10
      go_wp2
      go_ret
      exact ⟨ret_bool HK.out.symm, rfl⟩
    · have hb1 : ((c : Int) == 10) = false := beq_eq_false_iff_ne.2 (by omega)
      by_cases h32 : c = 32
      · have hb2 : ((c : Int) == 32) = true := beq_iff_eq.2 (by omega)
        have hk : blk c = true := by rw [h32]; rfl
        have HK := Lib.hid hk
        clear hk h9 h10 h32
        go_wp2
        go_ret
        exact ⟨ret_bool HK.out.symm, rfl⟩
      · have hb2 : ((c : Int) == 32) = false := beq_eq_false_iff_ne.2 (by omega)
        have hk : blk c = false := by simp [blk, h9, h10, h32]
        have HK := Lib.hid hk
        clear hk h9 h10 h32
        go_wp2
        go_ret
        exact ⟨ret_bool HK.out.symm, rfl⟩

theorem rleft_calls (s : ByteArray) (l : List UInt8) (h : StrIs s l) (w : World) (hs : s.size ≤ 4611686018427387904) :
    Calls Tryz.prog 61 #[.string s] w fun e w' => ∃ r : ByteArray, e = .returned (.string r) ∧ StrIs r (trimL l) ∧ w = w' := by
  have h' : s.data.toList = l := h
  go_enter Tryz.func61, Tryz.ntmps61
  go_wp2
  go_loopg [0] s.size (fun gk v0 wr => ∃ t : ByteArray, v0 = .string t ∧ t.size = gk ∧ gk ≤ s.size ∧ Hid (trimL t.data.toList = trimL l) ∧ w = wr)
  case atStart => exact ⟨s, rfl, rfl, Nat.le_refl _, by show _ = _; rw [h'], rfl⟩
  case round =>
    obtain ⟨t, rfl, htk, hks, hT, rfl⟩ := hrel
    have HTK := Lib.hid htk
    have htl : t.size ≤ 4611686018427387904 := by omega
    clear htk h h'
    by_cases h0 : t.size = 0
    · have h1 := empty_test h0
      have hn := nil_of_size h0
      have ht := hT.out
      rw [hn] at ht
      have HN := Lib.hid hn
      have HT := Lib.hid ht
      clear hn ht hT
      go_wp2
      go_ret
      exact ⟨t, rfl, by show _ = _; rw [HN.out, ← HT.out]; rfl, rfl⟩
    · have h1 := nonempty_test h0
      have hdc := drop_cons t 0 (by omega)
      rw [List.drop_zero] at hdc
      obtain ⟨b, hb⟩ : ∃ b : UInt8, b = t[0]'(by omega) := ⟨_, rfl⟩
      have hbt : ∀ h', ((t[0]'h').toNat : Nat) = b.toNat := fun h' => by rw [hb]
      rw [← hb] at hdc
      have htr := trimL_cons b (t.data.toList.drop (0 + 1))
      rw [← hdc] at htr
      have hlt := b.toNat_lt
      have HDC := Lib.hid hdc
      clear hdc hb
      generalize b.toNat = c at *
      have hex : (t.extract 1 t.size).size = t.size - 1 := by rw [ByteArray.size_extract]; omega
      have hex2 := Lib.extract_data t 1 t.size
      rw [List.take_of_length_le (by rw [List.length_drop, size_list]; omega)] at hex2
      have HEX := Lib.hid hex
      have HEX2 := Lib.hid hex2
      clear hex hex2
      have hpos : 1 ≤ (t.size : Int) := by omega
      cases hbl : blk c with
      | true =>
        rw [hbl, if_pos rfl] at htr
        have HTR := Lib.hid htr
        clear htr
        go_wp2_with (go_at_call 62; refine (rblank_calls c _ hlt).mono ?_; rintro e w' ⟨rfl, rfl⟩)
        go_roundg (gk - 1)
        case measure => have := HTK.out; omega
        case rel => exact ⟨_, rfl, by rw [HEX.out, HTK.out], by omega, by show _ = _; rw [HEX2.out, ← HTR.out]; exact hT.out, rfl⟩
      | false =>
        rw [hbl, if_neg (by simp)] at htr
        have HTR := Lib.hid htr
        clear htr
        go_wp2_with (go_at_call 62; refine (rblank_calls c _ hlt).mono ?_; rintro e w' ⟨rfl, rfl⟩)
        go_ret
        exact ⟨t, rfl, by show _ = _; rw [← hT.out, HTR.out, HDC.out], rfl⟩

theorem trimR_snoc (b : UInt8) : ∀ l, trimR (l ++ [b]) = if blk b.toNat = true then trimR l else l ++ [b]
  | [] => by rw [List.nil_append, trimR_cons]; simp [trimR]
  | a :: l => by
    have ih := trimR_snoc b l
    rw [List.cons_append, trimR_cons, ih, trimR_cons]
    cases hb : blk b.toNat with
    | true => simp
    | false => simp
theorem snoc_form (t : ByteArray) (h : 0 < t.size) : t.data.toList = t.data.toList.take (t.size - 1) ++ [t[t.size - 1]'(by omega)] := by
  have := List.take_succ_eq_append_getElem (l := t.data.toList) (i := t.size - 1) (by rw [size_list]; omega)
  rw [show t.size - 1 + 1 = t.size by omega, List.take_of_length_le (Nat.le_of_eq (size_list t))] at this
  exact this
theorem rright_calls (s : ByteArray) (l : List UInt8) (h : StrIs s l) (w : World) (hs : s.size ≤ 4611686018427387904) :
    Calls Tryz.prog 63 #[.string s] w fun e w' => ∃ r : ByteArray, e = .returned (.string r) ∧ StrIs r (trimR l) ∧ w = w' := by
  have h' : s.data.toList = l := h
  go_enter Tryz.func63, Tryz.ntmps63
  go_wp2
  go_loopg [0] s.size (fun gk v0 wr => ∃ t : ByteArray, v0 = .string t ∧ t.size = gk ∧ gk ≤ s.size ∧ Hid (trimR t.data.toList = trimR l) ∧ w = wr)
  case atStart => exact ⟨s, rfl, rfl, Nat.le_refl _, by show _ = _; rw [h'], rfl⟩
  case round =>
    obtain ⟨t, rfl, htk, hks, hT, rfl⟩ := hrel
    have HTK := Lib.hid htk
    have htl : t.size ≤ 4611686018427387904 := by omega
    clear htk h h'
    by_cases h0 : t.size = 0
    · have h1 := empty_test h0
      have hn := nil_of_size h0
      have ht := hT.out
      rw [hn] at ht
      have HN := Lib.hid hn
      have HT := Lib.hid ht
      clear hn ht hT
      go_wp2
      go_ret
      exact ⟨t, rfl, by show _ = _; rw [HN.out, ← HT.out]; rfl, rfl⟩
    · have h1 := nonempty_test h0
      have hdc := snoc_form t (by omega)
      obtain ⟨b, hb⟩ : ∃ b : UInt8, b = t[t.size - 1]'(by omega) := ⟨_, rfl⟩
      have hbt : ∀ h', ((t[t.size - 1]'h').toNat : Nat) = b.toNat := fun h' => by rw [hb]
      rw [← hb] at hdc
      have htr := trimR_snoc b (t.data.toList.take (t.size - 1))
      rw [← hdc] at htr
      have hlt := b.toNat_lt
      have HDC := Lib.hid hdc
      clear hdc hb
      generalize b.toNat = c at *
      have hex : (t.extract 0 (t.size - 1)).size = t.size - 1 := by rw [ByteArray.size_extract]; omega
      have hex2 := Lib.extract_data t 0 (t.size - 1)
      simp only [List.drop_zero, Nat.sub_zero] at hex2
      have HEX := Lib.hid hex
      have HEX2 := Lib.hid hex2
      clear hex hex2
      have hpos : 1 ≤ (t.size : Int) := by omega
      have hpos2 : (t.size : Int) - 1 < (t.size : Int) := by omega
      have hpos3 : (t.size : Int) - 1 ≤ (t.size : Int) := by omega
      cases hbl : blk c with
      | true =>
        rw [hbl, if_pos rfl] at htr
        have HTR := Lib.hid htr
        clear htr
        go_wp2_with (go_at_call 62; refine (rblank_calls c _ hlt).mono ?_; rintro e w' ⟨rfl, rfl⟩)
        go_roundg (gk - 1)
        case measure => have := HTK.out; omega
        case rel => exact ⟨_, rfl, by rw [HEX.out, HTK.out], by omega, by show _ = _; rw [HEX2.out, ← HTR.out]; exact hT.out, rfl⟩
      | false =>
        rw [hbl, if_neg (by simp)] at htr
        have HTR := Lib.hid htr
        clear htr
        go_wp2_with (go_at_call 62; refine (rblank_calls c _ hlt).mono ?_; rintro e w' ⟨rfl, rfl⟩)
        go_ret
        exact ⟨t, rfl, HTR.out.symm.trans hT.out, rfl⟩

set_option maxRecDepth 100000 in
set_option maxHeartbeats 4000000 in
theorem rlines_calls (s : ByteArray) (w : World) (hs : s.size ≤ 35184372088832) :
    Calls Tryz.prog 60 #[.string s] w fun e w' => ∃ r : ByteArray, e = .returned (.string r) ∧ StrIs r (linesL s.data.toList) ∧ Below w.heap.size w w' := by
  go_enter Tryz.func60, Tryz.ntmps60
  go_wp2
  go_loopg [3, 4] s.size (fun gk v3 v4 w' => ∃ (i : Nat) (acc : List UInt8), i + gk = s.size ∧ v4 = .int .i64 i ∧ Bytes w.heap.size v3 acc w' ∧ Below w.heap.size w w' ∧ Hid (acc ++ linesL (s.data.toList.drop i) = linesL s.data.toList) ∧ acc.length ≤ i)
  case atStart => exact ⟨0, [], by omega, rfl, bytes_nil _ _, Below.refl _ _, rfl, by simp⟩
  case round =>
    obtain ⟨i, acc, hig, rfl, hO, hbw, hacc, hal⟩ := hrel
    have hle : i ≤ s.size := by omega
    have HIG := Lib.hid hig
    clear hig
    have hsz := hbw.size
    by_cases h : i < s.size
    · have hdc := drop_cons s i h
      obtain ⟨b, hb⟩ : ∃ b : UInt8, b = s[i]'h := ⟨_, rfl⟩
      have hbt : ∀ h', ((s[i]'h').toNat : Nat) = b.toNat := fun h' => by rw [hb]
      rw [← hb] at hdc
      have hlt := b.toNat_lt
      have hq : b = 13 ↔ b.toNat = 13 := ⟨fun h => by rw [h]; rfl, fun h => UInt8.toNat_inj.1 h⟩
      have HDC := Lib.hid hdc
      clear hdc hb
      by_cases hc : b.toNat = 13
      · have hcb : ((b.toNat : Int) == 13) = true := beq_iff_eq.2 (by omega)
        have hll := linesL_cons13 (s.data.toList.drop (i + 1))
        rw [← hq.2 hc, ← HDC.out] at hll
        by_cases h1 : i + 1 < s.size
        · have hdc1 := drop_cons s (i + 1) h1
          obtain ⟨d, hd⟩ : ∃ d : UInt8, d = s[i + 1]'h1 := ⟨_, rfl⟩
          have hdt : ∀ h', ((s[i + 1]'h').toNat : Nat) = d.toNat := fun h' => by rw [hd]
          rw [← hd] at hdc1
          have hdl := d.toNat_lt
          have hqd : d = 10 ↔ d.toNat = 10 := ⟨fun h => by rw [h]; rfl, fun h => UInt8.toNat_inj.1 h⟩
          by_cases hd10 : d.toNat = 10
          · have hdb : ((d.toNat : Int) == 10) = true := beq_iff_eq.2 (by omega)
            rw [hdc1, hqd.2 hd10] at hll
            simp only [List.isPrefixOf, beq_self_eq_true, Bool.true_and, if_true, List.drop_succ_cons, List.drop_zero] at hll
            have HLL := Lib.hid hll
            clear hll hdc1 hd hq hqd hc hd10
            go_wp2_with (at_builtin; refine wp_appBytes w.heap.size rfl (.tmp 15) (.tmp 16) rfl _ acc [10] _ 1 1 ?hcs rfl rfl rfl hO hbw hsz (by simp; omega) ?_; (case hcs => rfl); intro v1 w1 hO1 hbw1 hsz1)
            go_roundg (gk - 2)
            case measure => have := HIG.out; omega
            case rel => exact ⟨i + 2, acc ++ [10], by have := HIG.out; omega, by go_num, hO1, hbw1, by show _ = _; rw [← hacc.out, HLL.out, List.append_assoc]; rfl, by simp; omega⟩
          · have hdb : ((d.toNat : Int) == 10) = false := beq_eq_false_iff_ne.2 (by omega)
            have hne : (10 == d) = false := by simpa using fun h : 10 = d => hd10 (hqd.1 h.symm)
            rw [hdc1] at hll
            simp only [List.isPrefixOf, hne, Bool.false_and, Bool.false_eq_true, if_false] at hll
            rw [← hdc1] at hll
            have HLL := Lib.hid hll
            clear hll hdc1 hd hq hqd hc hd10 hne
            go_wp2_with (at_builtin; refine wp_appBytes w.heap.size rfl (.tmp 15) (.tmp 16) rfl _ acc [10] _ 1 1 ?hcs rfl rfl rfl hO hbw hsz (by simp; omega) ?_; (case hcs => rfl); intro v1 w1 hO1 hbw1 hsz1)
            go_roundg (gk - 1)
            case measure => have := HIG.out; omega
            case rel => exact ⟨i + 1, acc ++ [10], by have := HIG.out; omega, by go_num, hO1, hbw1, by show _ = _; rw [← hacc.out, HLL.out, List.append_assoc]; rfl, by simp; omega⟩
        · have hn : s.data.toList.drop (i + 1) = [] := List.drop_eq_nil_of_le (by rw [size_list]; omega)
          rw [hn] at hll
          have HLL := Lib.hid (show linesL (s.data.toList.drop i) = 10 :: linesL (s.data.toList.drop (i + 1)) by rw [hll, hn]; rfl)
          have h1b : decide ((i : Int) + 1 < (s.size : Int)) = false := decide_eq_false (by omega)
          clear hll hn hq hc
          go_wp2_with (at_builtin; refine wp_appBytes w.heap.size rfl (.tmp 15) (.tmp 16) rfl _ acc [10] _ 1 1 ?hcs rfl rfl rfl hO hbw hsz (by simp; omega) ?_; (case hcs => rfl); intro v1 w1 hO1 hbw1 hsz1)
          go_roundg (gk - 1)
          case measure => have := HIG.out; omega
          case rel => exact ⟨i + 1, acc ++ [10], by have := HIG.out; omega, by go_num, hO1, hbw1, by show _ = _; rw [← hacc.out, HLL.out, List.append_assoc]; rfl, by simp; omega⟩
      · have hcb : ((b.toNat : Int) == 13) = false := beq_eq_false_iff_ne.2 (by omega)
        have hll := linesL_cons b (fun h => hc (hq.1 h)) (s.data.toList.drop (i + 1))
        rw [← HDC.out] at hll
        have HLL := Lib.hid hll
        clear hll hq hc
        go_wp2_with (at_builtin; refine wp_appBytes w.heap.size rfl (.tmp 32) (.tmp 36) rfl _ acc [b] _ 1 1 ?hcs rfl rfl rfl hO hbw hsz (by simp; omega) ?_; (case hcs => rfl); intro v1 w1 hO1 hbw1 hsz1)
        go_roundg (gk - 1)
        case measure => have := HIG.out; omega
        case rel => exact ⟨i + 1, acc ++ [b], by have := HIG.out; omega, by go_num, hO1, hbw1, by show _ = _; rw [← hacc.out, HLL.out, List.append_assoc]; rfl, by simp; omega⟩
    · obtain rfl : i = s.size := by omega
      have hcv := bytes_string hO
      have ha := hacc.out
      rw [List.drop_eq_nil_of_le (Nat.le_of_eq (size_list s)), show linesL [] = [] from rfl, List.append_nil] at ha
      have HA := Lib.hid ha
      clear ha hacc
      go_wp2
      go_ret
      exact ⟨_, rfl, HA.out, hbw⟩
end Go.Proofs.YtdaffedbboofjaaGreatDoor.S

/-
  THE WALK of package lex's end.
-/
set_option linter.unusedVariables false
set_option linter.unusedSimpArgs false
namespace Go.Proofs.YtdaffedbboofjaaGreatDoor.S
open Go.RowKit

theorem pre2 (x y : UInt8) (l : List UInt8) : List.isPrefixOf [x, y] l = (decide (2 ≤ l.length) && (x == l.getD 0 0 && y == l.getD 1 0)) := by
  match l with
  | [] => rfl
  | [a] => simp [List.isPrefixOf]
  | a :: b :: r => simp [List.isPrefixOf]
theorem prefix_calls (s p : ByteArray) (l : List UInt8) (h : StrIs s l) (w : World) :
    Calls Tryz.prog 85 #[.string s, .string p] w fun e w' => e = .returned (.bool (List.isPrefixOf p.data.toList l)) ∧ w = w' := by
  rw [← h]
  exact (Tryz.strings_HasPrefix _ _ _).mono fun _ _ ⟨he, hw⟩ => ⟨he, hw.symm⟩

set_option maxHeartbeats 4000000 in
theorem end_calls (s : ByteArray) (w : World) (hs : s.size ≤ 4611686018427387904) :
    Calls Tryz.prog 113 #[.string s] w fun e w' => e = .returned (.int .i64 (endZ (endL false s.data.toList) 0)) ∧ w = w' := by
  obtain ⟨T, hT⟩ : ∃ T, T = endZ (endL false s.data.toList) 0 := ⟨_, rfl⟩
  rw [← hT]
  have HT := Lib.hid hT
  clear hT
  go_enter Tryz.func113, Tryz.ntmps113
  go_wp2
  go_loopg [3] (s.size + 2) (fun gk v3 wr => ∃ i : Nat, i + gk = s.size + 2 ∧ v3 = .int .i64 i ∧ Hid (endZ (endL false (s.data.toList.drop i)) i = T) ∧ w = wr)
  case atStart => exact ⟨0, by omega, rfl, HT.out.symm, rfl⟩
  case round =>
    obtain ⟨i, hig, rfl, hi, rfl⟩ := hrel
    have HIG := Lib.hid hig
    clear hig
    by_cases h : i < s.size
    · have hdc := drop_cons s i h
      obtain ⟨b, hb⟩ : ∃ b : UInt8, b = s[i]'h := ⟨_, rfl⟩
      have hbt : ∀ h', ((s[i]'h').toNat : Nat) = b.toNat := fun h' => by rw [hb]
      rw [← hb] at hdc
      have hlt := b.toNat_lt
      have hst := endL_false b (s.data.toList.drop (i + 1)) i
      rw [← hdc, hi.out] at hst
      have hpc := fun W => prefix_calls (s.extract i s.size) ⟨#[125, 125]⟩ _ (extract_end s i) W
      have hq : b = 34 ↔ b.toNat = 34 := ⟨fun h => by rw [h]; rfl, fun h => UInt8.toNat_inj.1 h⟩
      have HC := Lib.hid hpc
      clear hdc hb hpc hi
      cases hp : List.isPrefixOf [125, 125] (s.data.toList.drop i) with
      | true =>
        rw [hp, if_pos rfl] at hst
        have HST := Lib.hid hst
        clear hst hq
        go_wp2_with (go_at_call 85; refine (HC.out _).mono ?_; rintro e w1 ⟨rfl, rfl⟩)
        go_ret
        exact ⟨ret_int HST.out.symm, rfl⟩
      | false =>
        rw [hp, if_neg (by simp)] at hst
        by_cases h34 : b.toNat = 34
        · have h34b : ((b.toNat : Int) == 34) = true := beq_iff_eq.2 (by omega)
          rw [if_pos (hq.2 h34)] at hst
          have HST := Lib.hid hst
          clear hst hq h34
          go_wp2_with (go_at_call 85; refine (HC.out _).mono ?_; rintro e w1 ⟨rfl, rfl⟩)
          go_loopg [3] (s.size - i) (fun gi v3 wr => ∃ j : Nat, j + gi = s.size + 1 ∧ i < j ∧ v3 = .int .i64 j ∧ Hid (endZ (endL true (s.data.toList.drop j)) j = T) ∧ w = wr)
          case atStart => exact ⟨i + 1, by omega, by omega, by go_num, HST.out.symm, rfl⟩
          case round =>
            obtain ⟨j, hjg, hij, rfl, hj, rfl⟩ := hrel
            have HJG := Lib.hid hjg
            clear hjg
            clear hbt hlt
            by_cases h : j < s.size
            · have hdc := drop_cons s j h
              obtain ⟨b, hb⟩ : ∃ b : UInt8, b = s[j]'h := ⟨_, rfl⟩
              have hbt : ∀ h', ((s[j]'h').toNat : Nat) = b.toNat := fun h' => by rw [hb]
              rw [← hb] at hdc
              have hlt := b.toNat_lt
              have hst := endL_true b (s.data.toList.drop (j + 1)) j
              rw [← hdc, hj.out] at hst
              have hq : b = 34 ↔ b.toNat = 34 := ⟨fun h => by rw [h]; rfl, fun h => UInt8.toNat_inj.1 h⟩
              have hq2 : b = 92 ↔ b.toNat = 92 := ⟨fun h => by rw [h]; rfl, fun h => UInt8.toNat_inj.1 h⟩
              clear hdc hb hj
              by_cases h34 : b.toNat = 34
              · have h34b : ((b.toNat : Int) == 34) = true := beq_iff_eq.2 (by omega)
                rw [if_neg (fun h => by have := hq2.1 h; omega), if_pos (hq.2 h34)] at hst
                have HST2 := Lib.hid hst
                clear hst hq hq2 h34
                go_wp2
                go_roundg (s.size + 1 - j)
                case measure => have := HIG.out; omega
                case rel => exact ⟨j + 1, by omega, by go_num, HST2.out.symm, rfl⟩
              · have h34b : ((b.toNat : Int) == 34) = false := beq_eq_false_iff_ne.2 (by omega)
                by_cases h92 : b.toNat = 92
                · have h92b : ((b.toNat : Int) == 92) = true := beq_iff_eq.2 (by omega)
                  rw [if_pos (hq2.2 h92)] at hst
                  rw [List.drop_drop] at hst
                  have HST2 := Lib.hid hst
                  clear hst hq hq2 h34 h92
                  go_wp2
                  go_roundg (gk - 2)
                  case measure => have := HJG.out; omega
                  case rel => exact ⟨j + 2, by have := HJG.out; omega, by omega, by go_num, HST2.out.symm, rfl⟩
                · have h92b : ((b.toNat : Int) == 92) = false := beq_eq_false_iff_ne.2 (by omega)
                  rw [if_neg (fun h => h92 (hq2.1 h)), if_neg (fun h => h34 (hq.1 h))] at hst
                  have HST2 := Lib.hid hst
                  clear hst hq hq2 h34 h92
                  go_wp2
                  go_roundg (gk - 1)
                  case measure => have := HJG.out; omega
                  case rel => exact ⟨j + 1, by have := HJG.out; omega, by omega, by go_num, HST2.out.symm, rfl⟩
            · have hj2 : j ≤ s.size + 1 := by have := HJG.out; omega
              have e : s.data.toList.drop j = [] := List.drop_eq_nil_of_le (by rw [size_list]; omega)
              have e2 : s.data.toList.drop (j + 1) = [] := List.drop_eq_nil_of_le (by rw [size_list]; omega)
              have ht := hj.out
              rw [e] at ht
              have HT2 := Lib.hid ht
              have E2 := Lib.hid e2
              clear e e2 ht hj
              go_wp2
              go_roundg (s.size + 1 - j)
              case measure => have := HIG.out; omega
              case rel => exact ⟨j + 1, by have := HJG.out; omega, by go_num, by rw [E2.out]; exact HT2.out, rfl⟩
        · have h34b : ((b.toNat : Int) == 34) = false := beq_eq_false_iff_ne.2 (by omega)
          rw [if_neg (fun h => h34 (hq.1 h))] at hst
          have HST := Lib.hid hst
          clear hst hq h34
          go_wp2_with (go_at_call 85; refine (HC.out _).mono ?_; rintro e w1 ⟨rfl, rfl⟩)
          go_roundg (gk - 1)
          case measure => have := HIG.out; omega
          case rel => exact ⟨i + 1, by have := HIG.out; omega, by go_num, HST.out.symm, rfl⟩
    · have e : s.data.toList.drop i = [] := List.drop_eq_nil_of_le (by rw [size_list]; omega)
      have ht := hi.out
      rw [e] at ht
      have HT2 := Lib.hid ht
      clear e ht hi
      go_wp2
      go_ret
      exact ⟨ret_int HT2.out, rfl⟩
end Go.Proofs.YtdaffedbboofjaaGreatDoor.S

/-
  THE WALK of package lex's comment.
-/
set_option linter.unusedVariables false
set_option linter.unusedSimpArgs false
namespace Go.Proofs.YtdaffedbboofjaaGreatDoor.S
open Go.RowKit

theorem comL_has {l : List UInt8} (h : hasI [42, 47] l = true) : comL l =
    (let j := cutI [42, 47] l + 2
     let k := blkN (l.drop j)
     let tr := decide (0 < k) && List.isPrefixOf [45] (l.drop (j + k))
     let m := if tr = true then j + k + 1 else j + k
     if List.isPrefixOf [125, 125] (l.drop m) = true then some (m + 2, tr) else none) := by
  unfold comL
  rw [if_pos h]
theorem comL_not {l : List UInt8} (h : hasI [42, 47] l = false) : comL l = none := by
  unfold comL
  rw [if_neg (by simp [h])]
theorem pre_len {p l : List UInt8} (h : List.isPrefixOf p l = true) : p.length ≤ l.length := List.IsPrefix.length_le (List.isPrefixOf_iff_prefix.1 h)

set_option maxRecDepth 100000 in
set_option maxHeartbeats 4000000 in
theorem comment_calls (g : Nat) (s : ByteArray) (i : Nat) (ps : List Pc) (w : World) (hE : EnvAt g w) (hC : Cur g s i false ps w) (hi : i + 2 ≤ s.size) (hs : s.size ≤ 65536) :
    Calls Tryz.prog 86 #[.pointer (some ⟨g, 0, none⟩)] w fun e w' => ∃ b, e = .returned (.bool b) ∧ Below g w w' ∧ (∀ n tr, comL (s.data.toList.drop (i + 2)) = some (n, tr) → b = true ∧ i + 2 + n ≤ s.size ∧ Cur g s (i + 2 + n) tr ps w') ∧ (comL (s.data.toList.drop (i + 2)) = none → b = false) := by
  obtain ⟨v, hB, hP⟩ := hC
  have hbase : g + 1 ≤ w.heap.size := hB.lt
  have hne : v.ownBlock ≠ some g := fun h => by have := own_base hP g h; omega
  obtain ⟨l, hl0⟩ : ∃ l, l = s.data.toList.drop (i + 2) := ⟨_, rfl⟩
  have hll := congrArg List.length hl0
  rw [List.length_drop, size_list] at hll
  rw [← hl0]
  have HL := Lib.hid hl0
  have HLL := Lib.hid hll
  clear hl0 hll
  have c1 := hB.cell 1 _ rfl
  have f1 := hB.free 1
  go_enter Tryz.func86, Tryz.ntmps86
  go_wp2_with fail
  have hB1 := hB.goto ((i : Int) + 2) (i + 2) (by omega)
  have hg1 := grownBy_set w g 1 (.int .i64 ((i : Int) + 2))
  generalize w.setCell ⟨g, 1, none⟩ (.int .i64 ((i : Int) + 2)) = w1 at *
  clear c1 f1
  refine (rest_calls g s (i + 2) false v _ hB1 hi (by omega)).mono ?_
  rintro e w2 ⟨r, rfl, hr, hb2⟩
  have hB2 := hB1.below hb2
  have hg2 := hg1.trans (grownBy_below (row := some g) hb2)
  have hE2 := hE.below (Below.grow1 hg2 (by omega) (Nat.le_refl g))
  rw [← HL.out] at hr
  have hrs := hr.size
  rw [HLL.out] at hrs
  have HRS := Lib.hid hrs
  clear hrs
  go_wp2_with fail
  refine (index_calls r ⟨#[42, 47]⟩ l hr _ hE2.env (by rw [HRS.out]; omega) (by simp)).mono ?_
  rw [show (⟨#[42, 47]⟩ : ByteArray).data.toList = [42, 47] from rfl]
  cases hh : hasI [42, 47] l with
  | false =>
    rw [if_neg (by simp)]
    have hcn := comL_not hh
    have HCN := Lib.hid hcn
    clear hcn hh
    rintro e w3 ⟨rfl, rfl⟩
    go_wp2
    go_ret
    exact ⟨_, rfl, Below.grow1 hg2 (by omega) (Nat.le_refl g), fun n tr h => (by rw [HCN.out] at h; cases h), fun _ => rfl⟩
  | true =>
    rw [if_pos rfl]
    have hcm := comL_has hh
    dsimp only at hcm
    have hle := (cutI_some [42, 47] (by simp) l hh).2
    obtain ⟨c, hc⟩ : ∃ c, c = cutI [42, 47] l := ⟨_, rfl⟩
    rw [← hc] at hcm hle ⊢
    simp only [List.length_cons, List.length_nil] at hle
    have hle2 : i + 2 + c + 2 ≤ s.size := by rw [HLL.out] at hle; omega
    obtain ⟨k, hk⟩ : ∃ k, k = blkN (l.drop (c + 2)) := ⟨_, rfl⟩
    have hkl := blkN_le (l.drop (c + 2))
    rw [List.length_drop, HLL.out] at hkl
    rw [← hk] at hcm hkl
    have hld : s.data.toList.drop (i + 2 + c + 2) = l.drop (c + 2) := by rw [HL.out, List.drop_drop]; congr 1
    have hsk := fun W hW => skip_calls g s (i + 2 + c + 2) false v W hW (by omega) (by omega)
    rw [hld, ← hk] at hsk
    have HCM := Lib.hid hcm
    have HSK := Lib.hid hsk
    clear hcm hsk hk hh hc hld hle
    rintro e w3 ⟨rfl, rfl⟩
    have c1 := hB2.cell 1 _ rfl
    have f1 := hB2.free 1
    go_wp2_with fail
    have hB3 := hB2.goto ((i : Int) + 2 + ((c : Int) + 2)) (i + 2 + c + 2) (by omega)
    have hg3 := hg2.trans (grownBy_set w2 g 1 (.int .i64 ((i : Int) + 2 + ((c : Int) + 2))))
    generalize w2.setCell ⟨g, 1, none⟩ (.int .i64 ((i : Int) + 2 + ((c : Int) + 2))) = w3 at *
    clear c1 f1
    refine (HSK.out _ hB3).mono ?_
    rintro e w4 ⟨rfl, hB4, hg4'⟩
    have hg4 := hg3.trans hg4'
    clear hB3 hg3 hg4' HSK
    cases htr : (decide (0 < k) && List.isPrefixOf [45] (l.drop (c + 2 + k))) with
    | true =>
      rw [Bool.and_eq_true] at htr
      obtain ⟨hk0, hpm⟩ := htr
      have hcm := HCM.out
      rw [hk0, hpm] at hcm
      simp only [Bool.and_self, if_true] at hcm
      have HCM := Lib.hid hcm
      clear hcm
      have hpl := pre_len hpm
      rw [List.length_drop, HLL.out] at hpl
      simp only [List.length_cons, List.length_nil] at hpl
      have hi4 : i + 2 + c + 2 + k + 1 ≤ s.size := by omega
      clear hpl hkl
      go_wp2_with fail
      refine (rest_calls g s (i + 2 + c + 2 + k) false v _ hB4 (by omega) (by omega)).mono ?_
      rintro e w5 ⟨r5, rfl, hr5, hb5⟩
      have hB5 := hB4.below hb5
      have hg5 := hg4.trans (grownBy_below (row := some g) hb5)
      have hld : s.data.toList.drop (i + 2 + c + 2 + k) = l.drop (c + 2 + k) := by rw [HL.out, List.drop_drop]; congr 1; omega
      rw [hld] at hr5
      clear hld
      go_wp2_with fail
      refine (prefix_calls r5 ⟨#[45]⟩ _ hr5 _).mono ?_
      rw [show (⟨#[45]⟩ : ByteArray).data.toList = [45] from rfl, hpm]
      rintro e w6 ⟨rfl, rfl⟩
      have c1 := hB5.cell 1 _ rfl
      have f1 := hB5.free 1
      have c2 := hB5.cell 2 _ rfl
      have f2 := hB5.free 2
      go_wp2_with fail
      have hB6 := (hB5.goto ((i : Int) + 2 + c + 2 + k + 1) (i + 2 + c + 2 + k + 1) (by omega)).trims
      have hg6 := (hg5.trans (grownBy_set w5 g 1 (.int .i64 ((i : Int) + 2 + c + 2 + k + 1)))).trans (grownBy_set _ g 2 (.bool true))
      generalize (w5.setCell ⟨g, 1, none⟩ (.int .i64 ((i : Int) + 2 + c + 2 + k + 1))).setCell ⟨g, 2, none⟩ (.bool true) = w6 at *
      clear c1 f1 c2 f2 hr5 hb5 hB5 hg5 hB4 hg4
      refine (rest_calls g s (i + 2 + c + 2 + k + 1) true v _ hB6 (by omega) (by omega)).mono ?_
      rintro e w7 ⟨r7, rfl, hr7, hb7⟩
      have hB7 := hB6.below hb7
      have hg7 := hg6.trans (grownBy_below (row := some g) hb7)
      have hld : s.data.toList.drop (i + 2 + c + 2 + k + 1) = l.drop (c + 2 + k + 1) := by rw [HL.out, List.drop_drop]; congr 1; omega
      rw [hld] at hr7
      clear hld
      go_wp2_with fail
      refine (prefix_calls r7 ⟨#[125, 125]⟩ _ hr7 _).mono ?_
      rw [show (⟨#[125, 125]⟩ : ByteArray).data.toList = [125, 125] from rfl]
      have hcm := HCM.out
      cases hpe : List.isPrefixOf [125, 125] (l.drop (c + 2 + k + 1)) with
      | true =>
        rw [hpe, if_pos rfl] at hcm
        have HCM := Lib.hid hcm
        have hpl := pre_len hpe
        rw [List.length_drop, HLL.out] at hpl
        simp only [List.length_cons, List.length_nil] at hpl
        have hi7 : i + 2 + c + 2 + k + 1 + 2 ≤ s.size := by omega
        clear hcm hpl
        rintro e w8 ⟨rfl, rfl⟩
        have c1 := hB7.cell 1 _ rfl
        have f1 := hB7.free 1
        go_wp2
        go_ret
        refine ⟨_, rfl, Below.grow1 (hg7.trans (grownBy_set _ g 1 _)) (by omega) (Nat.le_refl g), fun n tr h => ?_, fun h => ?_⟩
        · rw [HCM.out] at h
          cases h
          refine ⟨rfl, by omega, v, ?_, ?_⟩
          · exact hB7.goto _ _ (by omega)
          · exact own_set (World.ownsRow.kept hP hg7 (.inr hne)) hne 1 _
        · rw [HCM.out] at h
          cases h
      | false =>
        rw [hpe, if_neg (by simp)] at hcm
        have HCM := Lib.hid hcm
        clear hcm
        rintro e w8 ⟨rfl, rfl⟩
        go_wp2
        go_ret
        exact ⟨_, rfl, Below.grow1 hg7 (by omega) (Nat.le_refl g), fun n tr h => (by rw [HCM.out] at h; cases h), fun _ => rfl⟩
    | false =>
      have hcm := HCM.out
      rw [htr] at hcm
      simp only [Bool.false_eq_true, if_false] at hcm
      have HCM := Lib.hid hcm
      clear hcm
      have hi4 : i + 2 + c + 2 + k ≤ s.size := by omega
      clear hkl
      cases hk0 : decide (0 < k) with
      | true =>
        rw [hk0, Bool.true_and] at htr
        go_wp2_with fail
        refine (rest_calls g s (i + 2 + c + 2 + k) false v _ hB4 (by omega) (by omega)).mono ?_
        rintro e w5 ⟨r5, rfl, hr5, hb5⟩
        have hB6 := hB4.below hb5
        have hg6 := hg4.trans (grownBy_below (row := some g) hb5)
        have hld : s.data.toList.drop (i + 2 + c + 2 + k) = l.drop (c + 2 + k) := by rw [HL.out, List.drop_drop]; congr 1; omega
        rw [hld] at hr5
        clear hld
        go_wp2_with fail
        refine (prefix_calls r5 ⟨#[45]⟩ _ hr5 _).mono ?_
        rw [show (⟨#[45]⟩ : ByteArray).data.toList = [45] from rfl, htr]
        rintro e w6 ⟨rfl, rfl⟩
        clear hB4 hg4
        go_wp2_with fail
        refine (rest_calls g s (i + 2 + c + 2 + k) false v _ hB6 (by omega) (by omega)).mono ?_
        rintro e w7 ⟨r7, rfl, hr7, hb7⟩
        have hB7 := hB6.below hb7
        have hg7 := hg6.trans (grownBy_below (row := some g) hb7)
        have hld : s.data.toList.drop (i + 2 + c + 2 + k) = l.drop (c + 2 + k) := by rw [HL.out, List.drop_drop]; congr 1; omega
        rw [hld] at hr7
        clear hld
        go_wp2_with fail
        refine (prefix_calls r7 ⟨#[125, 125]⟩ _ hr7 _).mono ?_
        rw [show (⟨#[125, 125]⟩ : ByteArray).data.toList = [125, 125] from rfl]
        have hcm := HCM.out
        cases hpe : List.isPrefixOf [125, 125] (l.drop (c + 2 + k)) with
        | true =>
          rw [hpe, if_pos rfl] at hcm
          have HCM := Lib.hid hcm
          have hpl := pre_len hpe
          rw [List.length_drop, HLL.out] at hpl
          simp only [List.length_cons, List.length_nil] at hpl
          have hi7 : i + 2 + c + 2 + k + 2 ≤ s.size := by omega
          clear hcm hpl
          rintro e w8 ⟨rfl, rfl⟩
          have c1 := hB7.cell 1 _ rfl
          have f1 := hB7.free 1
          go_wp2
          go_ret
          refine ⟨_, rfl, Below.grow1 (hg7.trans (grownBy_set _ g 1 _)) (by omega) (Nat.le_refl g), fun n tr h => ?_, fun h => ?_⟩
          · rw [HCM.out] at h
            cases h
            refine ⟨rfl, by omega, v, ?_, ?_⟩
            · exact hB7.goto _ _ (by omega)
            · exact own_set (World.ownsRow.kept hP hg7 (.inr hne)) hne 1 _
          · rw [HCM.out] at h
            cases h
        | false =>
          rw [hpe, if_neg (by simp)] at hcm
          have HCM := Lib.hid hcm
          clear hcm
          rintro e w8 ⟨rfl, rfl⟩
          go_wp2
          go_ret
          exact ⟨_, rfl, Below.grow1 hg7 (by omega) (Nat.le_refl g), fun n tr h => (by rw [HCM.out] at h; cases h), fun _ => rfl⟩
      | false =>
        have hB6 := hB4
        have hg6 := hg4
        clear hB4 hg4
        go_wp2_with fail
        refine (rest_calls g s (i + 2 + c + 2 + k) false v _ hB6 (by omega) (by omega)).mono ?_
        rintro e w7 ⟨r7, rfl, hr7, hb7⟩
        have hB7 := hB6.below hb7
        have hg7 := hg6.trans (grownBy_below (row := some g) hb7)
        have hld : s.data.toList.drop (i + 2 + c + 2 + k) = l.drop (c + 2 + k) := by rw [HL.out, List.drop_drop]; congr 1; omega
        rw [hld] at hr7
        clear hld
        go_wp2_with fail
        refine (prefix_calls r7 ⟨#[125, 125]⟩ _ hr7 _).mono ?_
        rw [show (⟨#[125, 125]⟩ : ByteArray).data.toList = [125, 125] from rfl]
        have hcm := HCM.out
        cases hpe : List.isPrefixOf [125, 125] (l.drop (c + 2 + k)) with
        | true =>
          rw [hpe, if_pos rfl] at hcm
          have HCM := Lib.hid hcm
          have hpl := pre_len hpe
          rw [List.length_drop, HLL.out] at hpl
          simp only [List.length_cons, List.length_nil] at hpl
          have hi7 : i + 2 + c + 2 + k + 2 ≤ s.size := by omega
          clear hcm hpl
          rintro e w8 ⟨rfl, rfl⟩
          have c1 := hB7.cell 1 _ rfl
          have f1 := hB7.free 1
          go_wp2
          go_ret
          refine ⟨_, rfl, Below.grow1 (hg7.trans (grownBy_set _ g 1 _)) (by omega) (Nat.le_refl g), fun n tr h => ?_, fun h => ?_⟩
          · rw [HCM.out] at h
            cases h
            refine ⟨rfl, by omega, v, ?_, ?_⟩
            · exact hB7.goto _ _ (by omega)
            · exact own_set (World.ownsRow.kept hP hg7 (.inr hne)) hne 1 _
          · rw [HCM.out] at h
            cases h
        | false =>
          rw [hpe, if_neg (by simp)] at hcm
          have HCM := Lib.hid hcm
          clear hcm
          rintro e w8 ⟨rfl, rfl⟩
          go_wp2
          go_ret
          exact ⟨_, rfl, Below.grow1 hg7 (by omega) (Nat.le_refl g), fun n tr h => (by rw [HCM.out] at h; cases h), fun _ => rfl⟩
end Go.Proofs.YtdaffedbboofjaaGreatDoor.S

/-
  THE WALK of package lex's action.
-/
set_option linter.unusedVariables false
set_option linter.unusedSimpArgs false
namespace Go.Proofs.YtdaffedbboofjaaGreatDoor.S
open Go.RowKit

theorem endL_len : ∀ (t : Bool) (l : List UInt8) (m : Nat), endL t l = some m → m + 2 ≤ l.length
  | _, [], _, h => by rw [endL.eq_def] at h; cases h
  | false, b :: r, m, h => by
    rw [endL.eq_def] at h
    dsimp only at h
    split at h
    · rename_i hp
      have := List.IsPrefix.length_le (List.isPrefixOf_iff_prefix.1 hp)
      cases h
      simpa using this
    · split at h
      · cases hr : endL true r with
        | none => rw [hr] at h; cases h
        | some n => rw [hr] at h; cases h; have := endL_len true r n hr; simp; omega
      · cases hr : endL false r with
        | none => rw [hr] at h; cases h
        | some n => rw [hr] at h; cases h; have := endL_len false r n hr; simp; omega
  | true, b :: r, m, h => by
    rw [endL.eq_def] at h
    dsimp only at h
    split at h
    · cases r with
      | nil => cases h
      | cons d r' =>
        dsimp only at h
        cases hr : endL true r' with
        | none => rw [hr] at h; cases h
        | some n => rw [hr] at h; cases h; have := endL_len true r' n hr; simp; omega
    · split at h
      · cases hr : endL false r with
        | none => rw [hr] at h; cases h
        | some n => rw [hr] at h; cases h; have := endL_len false r n hr; simp; omega
      · cases hr : endL true r with
        | none => rw [hr] at h; cases h
        | some n => rw [hr] at h; cases h; have := endL_len true r n hr; simp; omega

theorem index_at (T : ByteArray) (x : Int) (n c : Nat) (hx : x.toNat = n) (h : ∀ h' : n < T.size, ((T[n]'h').toNat : Nat) = c) : ∀ h' : x.toNat < T.size, ((T[x.toNat]'h').toNat : Nat) = c := by
  subst hx
  exact h

theorem Blk.alloc {g : Nat} {T : TypeId} {cs : List Value} {w : World} (h : Blk g T cs w) (o : Obj) : Blk g T cs (w.alloc o) := h.below ((Below.refl _ w).alloc (Nat.le_refl _) o)
theorem after_trim {g : Nat} {s : ByteArray} {i : Nat} {tr : Bool} {v : Value} {ps : List Pc} {w wc w5 : World} (hB : CurB g s i tr v wc) (hP : Pcs (g + 1) v ps wc) (hb : Below g w wc) (h5 : Below wc.drew.heap.size wc.drew w5) (hz : g + 1 ≤ wc.heap.size) :
    CurB g s i tr v w5 ∧ (∀ o, Pcs (g + 1) v ps (w5.alloc o)) ∧ (∀ o, Below g w (w5.alloc o)) ∧ ∀ o, g + 1 ≤ (w5.alloc o).heap.size := by
  have hz5 : wc.heap.size ≤ w5.heap.size := h5.size
  have h1 : Pcs (g + 1) v ps w5 := own_below (World.ownsRow.drew hP) h5
  have h2 : Below g w w5 := hb.drew.trans (h5.mono (Nat.le_trans (Nat.le_succ g) hz))
  refine ⟨Blk.below (Blk.drew hB) h5, fun o => World.ownsRow.alloc h1 o, fun o => h2.alloc (by omega) o, fun o => ?_⟩
  show g + 1 ≤ (w5.heap.push o).size
  simp
  omega

set_option maxRecDepth 100000 in
set_option maxHeartbeats 4000000 in
theorem action_calls (g : Nat) (s : ByteArray) (i from_ : Nat) (ps : List Pc) (w : World) (hE : EnvAt g w) (hC : Cur g s i false ps w) (hi : i ≤ s.size) (hs : s.size ≤ 65536) (hl : ps.length ≤ 1099511627775) :
    Calls Tryz.prog 87 #[.pointer (some ⟨g, 0, none⟩), .int .i64 from_] w fun e w' => ∃ b, e = .returned (.bool b) ∧ Below g w w' ∧ (∀ m, endL false (s.data.toList.drop i) = some m → b = true ∧ i + m + 2 ≤ s.size ∧ Cur g s (i + m + 2) (actTrims ((s.data.toList.drop i).take m)) (ps ++ [⟨true, actText ((s.data.toList.drop i).take m), from_⟩]) w') ∧ (endL false (s.data.toList.drop i) = none → b = false) := by
  obtain ⟨v, hB, hP⟩ := hC
  have hbase : g + 1 ≤ w.heap.size := hB.lt
  have hne : v.ownBlock ≠ some g := fun h => by have := own_base hP g h; omega
  obtain ⟨l, hl0⟩ : ∃ l, l = s.data.toList.drop i := ⟨_, rfl⟩
  have hll := congrArg List.length hl0
  rw [List.length_drop, size_list] at hll
  rw [← hl0]
  have HL := Lib.hid hl0
  have HLL := Lib.hid hll
  clear hl0 hll
  go_enter Tryz.func87, Tryz.ntmps87
  go_wp2_with fail
  refine (rest_calls g s i false v _ hB hi (by omega)).mono ?_
  rintro e w1 ⟨r, rfl, hr, hb1⟩
  have hB1 := hB.below hb1
  have hg1 := grownBy_below (row := some g) hb1
  rw [← HL.out] at hr
  have hrs := hr.size
  rw [HLL.out] at hrs
  go_wp2_with fail
  refine (end_calls r _ (by omega)).mono ?_
  rw [show r.data.toList = l from hr]
  clear hr hrs
  cases hm : endL false l with
  | none =>
    have HM := Lib.hid hm
    clear hm
    rintro e w2 ⟨rfl, rfl⟩
    rw [show endZ none 0 = -1 from rfl]
    go_wp2
    go_ret
    exact ⟨_, rfl, Below.grow1 hg1 (by omega) (Nat.le_refl g), fun m h => (by rw [HM.out] at h; cases h), fun _ => rfl⟩
  | some m =>
    have hml := endL_len false l m hm
    rw [HLL.out] at hml
    have hml2 : i + m + 2 ≤ s.size := by omega
    have HM := Lib.hid hm
    clear hm hml
    rintro e w2 ⟨rfl, rfl⟩
    rw [show endZ (some m) 0 = (m : Int) from congrArg (fun x : Nat => (x : Int)) (Nat.zero_add m)]
    go_wp2_with fail
    refine (rest_calls g s i false v _ hB1 hi (by omega)).mono ?_
    rintro e w2 ⟨r2, rfl, hr2, hb2⟩
    have hB2 := hB1.below hb2
    have hg2 := hg1.trans (grownBy_below (row := some g) hb2)
    rw [← HL.out] at hr2
    have hr2s := hr2.size
    rw [HLL.out] at hr2s
    have hmr : m ≤ r2.size := by omega
    have HR2 := Lib.hid hr2s
    clear hr2s
    have hsl := fun W => run_slice_string (P := Tryz.prog) (w := W) 9 r2 .i64 .i64 0 (m : Int) Tryz.underlying9 (by omega) (by omega) (by omega)
    simp only [Int.toNat_natCast, Int.toNat_zero] at hsl
    have c1 := hB2.cell 1 _ rfl
    have f1 := hB2.free 1
    go_upto_region 6 with (fail)
    have ht : StrIs (r2.extract 0 m) (l.take m) := by
      show _ = _
      rw [Lib.extract_data, show r2.data.toList = l from hr2]
      simp
    have hB3 := hB2.goto ((i : Int) + ((m : Int) + 2)) (i + m + 2) (by omega)
    have hg3 := hg2.trans (grownBy_set w2 g 1 (.int .i64 ((i : Int) + ((m : Int) + 2))))
    generalize w2.setCell ⟨g, 1, none⟩ (.int .i64 ((i : Int) + ((m : Int) + 2))) = w3 at *
    obtain ⟨T, hT⟩ : ∃ T, T = r2.extract 0 m := ⟨_, rfl⟩
    rw [← hT] at ht ⊢
    clear hsl c1 f1 hB2 hg2 hr2 hb2 hT
    obtain ⟨t, ht0⟩ : ∃ t, t = l.take m := ⟨_, rfl⟩
    have htl : t.length = m := by rw [ht0, List.length_take, HLL.out]; omega
    rw [← ht0] at ht
    have hTs : T.size = m := ht.size.trans htl
    have hT0 := getD_byte T (m - 1)
    have hT1 := getD_byte T (m - 2)
    rw [show T.data.toList = t from ht] at hT0 hT1
    have hat : actTrims t = (decide (2 ≤ m) && (t.getD (m - 1) 0).toNat == 45 && blk (t.getD (m - 2) 0).toNat) := by unfold actTrims; rw [htl]
    have l0 := (t.getD (m - 1) 0).toNat_lt
    have l1 := (t.getD (m - 2) 0).toNat_lt
    generalize (t.getD (m - 1) 0).toNat = ca at *
    generalize (t.getD (m - 2) 0).toNat = cb at *
    have HTS := Lib.hid hTs
    have HTL := Lib.hid htl
    have HT0 := Lib.hid ht0
    clear hTs htl ht0
    go_cut [40] (fun v40 wx => v40 = .bool (actTrims t) ∧ w3 = wx)
    case first =>
      by_cases hm2 : 2 ≤ m
      · have hmb : decide (1 < (m : Int)) = true := decide_eq_true (by omega)
        rw [show decide (2 ≤ m) = true from decide_eq_true hm2, Bool.true_and] at hat
        have q1 : (m : Int) - 1 < (T.size : Int) := by rw [HTS.out]; omega
        have q2 : (m : Int) - 2 < (T.size : Int) := by rw [HTS.out]; omega
        by_cases hca : ca = 45
        · have hcab : ((ca : Int) == 45) = true := beq_iff_eq.2 (by omega)
          rw [show (ca == 45) = true from beq_iff_eq.2 hca, Bool.true_and] at hat
          have HAT := Lib.hid hat
          clear hat hca
          go_wp2_with (go_at_call 111; refine (blank_calls cb _ l1).mono ?_; rintro e w' ⟨rfl, rfl⟩)
          go_meet
          exact ⟨by rw [HAT.out], rfl⟩
        · have hcab : ((ca : Int) == 45) = false := beq_eq_false_iff_ne.2 (by omega)
          rw [show (ca == 45) = false from beq_eq_false_iff_ne.2 hca, Bool.false_and] at hat
          have HAT := Lib.hid hat
          clear hat hca
          go_wp2_with (go_at_call 111; refine (blank_calls cb _ l1).mono ?_; rintro e w' ⟨rfl, rfl⟩)
          go_meet
          exact ⟨by rw [HAT.out], rfl⟩
      · have hmb : decide (1 < (m : Int)) = false := decide_eq_false (by omega)
        rw [show decide (2 ≤ m) = false from decide_eq_false hm2, Bool.false_and, Bool.false_and] at hat
        have HAT := Lib.hid hat
        clear hat
        go_wp2_with (go_at_call 111; refine (blank_calls cb _ l1).mono ?_; rintro e w' ⟨rfl, rfl⟩)
        go_meet
        exact ⟨by rw [HAT.out], rfl⟩
    case rest =>
    obtain ⟨rfl, rfl⟩ := hcut
    have htx : actText t = trimR (trimL (if actTrims t = true then t.take (m - 1) else t)) := by unfold actText; rw [HTL.out]
    clear hT0 hT1 l0 l1
    have hm1 : actTrims t = true → 2 ≤ m := fun h => by
      have h2 := hat.symm.trans h
      simp only [Bool.and_eq_true, decide_eq_true_eq] at h2
      exact h2.1.1
    clear hat
    generalize hq : actTrims t = q at *
    go_upto_if 40 with (fail)
    go_cut [6] (fun v6 wx => ∃ T', v6 = .string T' ∧ StrIs T' (if q = true then t.take (m - 1) else t) ∧ CurB g s (i + m + 2) q v wx ∧ w.grownBy wx (some g))
    case first =>
      cases q with
      | true =>
        have hm2 := hm1 rfl
        have k1 : 1 ≤ (m : Int) := by omega
        have k2 : (m : Int) - 1 ≤ (T.size : Int) := by rw [HTS.out]; omega
        have c2 := hB3.cell 2 _ rfl
        have f2 := hB3.free 2
        go_wp2
        go_meet
        refine ⟨_, rfl, ?_, hB3.trims, hg3.trans (grownBy_set _ g 2 _)⟩
        show _ = _
        rw [Lib.extract_data, show T.data.toList = t from ht]
        simp
      | false =>
        go_wp2
        go_meet
        exact ⟨_, rfl, ht, hB3, hg3⟩
    case rest =>
    obtain ⟨T', rfl, hT', hB4, hg4⟩ := hcut
    have c3 := hB4.cell 3 _ rfl
    have hP4 : Pcs (g + 1) v ps wc := World.ownsRow.kept hP hg4 (.inr hne)
    have hb4 := Below.grow1 hg4 (Nat.le_of_succ_le hbase) (Nat.le_refl g)
    have hz4 := hg4.size
    have hTS' : T'.size ≤ 65536 := by
      rw [hT'.size]
      split
      · rw [List.length_take, HTL.out]; omega
      · rw [HTL.out]; omega
    have HTX := Lib.hid htx
    clear hB3 hg3 ht htx hm1 hB hB1 hg1 hb1
    go_wp2_with fail
    go_region_law (first | (go_simp; go_at_call 114; refine (trimBoth_calls T' _ hT' _ (by omega)).mono ?_; rintro e w5 ⟨r5, rfl, hr5, hb5'⟩; have hF := after_trim hB4 hP4 hb4 hb5' (by omega); have c5 := hF.1.cell 3 _ rfl; have c5' := fun o => (Blk.alloc hF.1 o).cell 3 _ rfl; have HEQ := Lib.hid hr5.eq) | (refine step_appPiece g (g + 1) rfl (.tmp 52) (.tmp 57) rfl v ps ⟨true, actText t, from_⟩ w5.heap.size _ (0, 0) 1 ?hcs rfl rfl (heap_new w5 _) (hF.2.1 _) (hF.2.2.1 _) (Nat.le_succ g) (hF.2.2.2 _) (Nat.le_succ_of_le hl) ?_; (case hcs => rw [HEQ.out, ← HTX.out]; rfl); intro sa sc w6 hP6 hb6 hg6; have hB6 := Blk.grown (hF.1.alloc _) hg6 (fun h => hne h.symm); have f6 := hB6.free 3; have c6 := hB6.cell 3 _ rfl))
    all_goals go_wp2
    all_goals go_ret
    all_goals
      refine ⟨_, rfl, hb6.setCell (Nat.le_refl g) _, fun m' h => ?_, fun h => ?_⟩
      · rw [HM.out] at h
        cases h
        rw [← HT0.out, hq]
        exact ⟨rfl, by omega, _, hB6.puts _, own_set hP6 (fun h => by have := own_base hP6 g h; omega) 3 _⟩
      · rw [HM.out] at h
        cases h
end Go.Proofs.YtdaffedbboofjaaGreatDoor.S

/-
  THE WALK of package lex's split, Split; of utf's Lines.
-/
set_option linter.unusedVariables false
set_option linter.unusedSimpArgs false
namespace Go.Proofs.YtdaffedbboofjaaGreatDoor.S
open Go.RowKit

theorem lines_calls (s : ByteArray) (w : World) (hE : Env w) (hs : s.size ≤ 1048576) :
    Calls Tryz.prog 51 #[.string s] w fun e w' => ∃ r : ByteArray, e = .returned (.string r) ∧ StrIs r (linesL s.data.toList) ∧ Below w.heap.size w w' := by
  go_enter Tryz.func51, Tryz.ntmps51
  go_wp2_with fail
  have hl2 := replaceAll_len s.data.toList [13, 10] [10]
  rw [size_list] at hl2
  simp only [List.length_cons, List.length_nil] at hl2
  refine (replaceAll_calls s ⟨#[13, 10]⟩ ⟨#[10]⟩ _ hE (by omega) (by decide) (by rw [show (⟨#[10]⟩ : ByteArray).size = 1 from rfl]; omega)).mono ?_
  rintro e w1 ⟨r, rfl, hr, hb1⟩
  have hrs := hr.size
  have hrs2 : r.size ≤ 2 * s.size + 1 := by rw [hrs]; exact Nat.le_trans hl2 (by omega)
  clear hrs hl2
  go_wp2_with fail
  refine (replaceAll_calls r ⟨#[13]⟩ ⟨#[10]⟩ _ (hE.below hb1) (by omega) (by decide) (by rw [show (⟨#[10]⟩ : ByteArray).size = 1 from rfl]; omega)).mono ?_
  rintro e w2 ⟨z, rfl, hz, hb2⟩
  go_wp2
  go_ret
  refine ⟨z, rfl, ?_, hb1.trans (hb2.mono hb1.size)⟩
  unfold StrIs at *
  rw [hz, hr]
  exact lines_law _

theorem splitF_nil (n : Nat) (i : Nat) (tr : Bool) : splitF n [] i tr = some [] := by cases n <;> rfl
/-- where an action's own signs begin -/
theorem openN_text {l : List UInt8} (h : hasI [123, 123] l = true) : openN l = textN l + blkN (l.drop (textN l)) := by
  unfold openN
  rw [textN_some h]
  unfold markN
  dsimp only
  split <;> rfl
theorem splitF_none {n : Nat} {l : List UInt8} (i : Nat) (tr : Bool) (hl : l ≠ []) (h : hasI [123, 123] l = false) : splitF (n + 1) l i tr = some (txtP (textT l tr) i) := by
  cases l with
  | nil => exact absurd rfl hl
  | cons c r =>
    rw [splitF]
    simp only [h, Bool.false_eq_true, if_false]
    rw [textT_none _ _ h]
theorem splitF_some {n : Nat} {l : List UInt8} (i : Nat) (tr : Bool) (h : hasI [123, 123] l = true) : splitF (n + 1) l i tr =
    if List.isPrefixOf [47, 42] (l.drop (openN l)) = true then
      match comL (l.drop (openN l + 2)) with
      | none => none
      | some (m, tr') => (splitF n (l.drop (openN l + 2 + m)) (i + (openN l + 2 + m)) tr').map (txtP (textT l tr) i ++ ·)
    else
      match endL false (l.drop (openN l)) with
      | none => none
      | some m => (splitF n (l.drop (openN l + m + 2)) (i + (openN l + m + 2)) (actTrims ((l.drop (openN l)).take m))).map (txtP (textT l tr) i ++ [⟨true, actText ((l.drop (openN l)).take m), i + cutI [123, 123] l⟩] ++ ·) := by
  cases l with
  | nil => simp [hasI] at h
  | cons c r =>
    rw [splitF]
    simp only [h, if_true]
    rw [textT_cut _ _ h]
    rfl
theorem textN_le {l : List UInt8} (h : hasI [123, 123] l = true) : textN l ≤ l.length := by
  rw [textN_some h]
  have h1 := (cutI_some [123, 123] (by simp) l h).2
  simp only [List.length_cons, List.length_nil] at h1
  unfold markN
  split
  · rename_i hm
    rw [markL_eq] at hm
    simp only [Bool.and_eq_true, decide_eq_true_eq, List.length_drop] at hm
    omega
  · omega
/-- what is split so far, and the rest, make the whole -/
def Parts (T : Option (List Pc)) (ps : List Pc) (n : Nat) (l : List UInt8) (i : Nat) (tr : Bool) : Prop := T = (splitF n l i tr).map (ps ++ ·)
theorem parts_step {T : Option (List Pc)} {ps qs : List Pc} {n n' : Nat} {l l' : List UInt8} {i i' : Nat} {tr tr' : Bool} (h : Parts T ps n l i tr) (h2 : splitF n l i tr = (splitF n' l' i' tr').map (qs ++ ·)) : Parts T (ps ++ qs) n' l' i' tr' := by
  unfold Parts at *
  rw [h, h2, Option.map_map]
  congr 1
  funext x
  simp
theorem Cur.b {g : Nat} {s : ByteArray} {i : Nat} {tr : Bool} {ps : List Pc} {w : World} (h : Cur g s i tr ps w) : ∃ v, CurB g s i tr v w := let ⟨v, hv, _⟩ := h; ⟨v, hv⟩
theorem Cur.grown {g : Nat} {s : ByteArray} {i' : Nat} {tr' : Bool} {v : Value} {ps : List Pc} {w w' : World} (hP : Pcs (g + 1) v ps w) (hg : w.grownBy w' (some g)) (h : CurB g s i' tr' v w') : Cur g s i' tr' ps w' :=
  ⟨v, h, World.ownsRow.kept hP hg (.inr fun e => by have := own_base hP g e; omega)⟩
theorem Cur.below {g : Nat} {s : ByteArray} {i : Nat} {tr : Bool} {ps : List Pc} {w w' : World} (h : Cur g s i tr ps w) (hb : Below w.heap.size w w') : Cur g s i tr ps w' :=
  let ⟨v, hB, hP⟩ := h; ⟨v, hB.below hb, own_below hP hb⟩
theorem txtP_len (t : List UInt8) (i : Nat) : (txtP t i).length ≤ 1 := by unfold txtP; split <;> simp

set_option maxRecDepth 100000 in
set_option maxHeartbeats 4000000 in
theorem split_calls (g : Nat) (s : ByteArray) (w : World) (hE : EnvAt g w) (hC : Cur g s 0 false [] w) (hs : s.size ≤ 65536) :
    Calls Tryz.prog 52 #[.pointer (some ⟨g, 0, none⟩)] w fun e w' => ∃ b, e = .returned (.bool b) ∧ Below g w w' ∧ (∀ ps, splitF s.size s.data.toList 0 false = some ps → b = true ∧ ∃ i tr, Cur g s i tr ps w') ∧ (splitF s.size s.data.toList 0 false = none → b = false) := by
  obtain ⟨T, hT⟩ : ∃ T, T = splitF s.size s.data.toList 0 false := ⟨_, rfl⟩
  rw [← hT]
  have hT' : Parts T [] s.size s.data.toList 0 false := by unfold Parts; rw [hT]; simp
  clear hT
  go_enter Tryz.func52, Tryz.ntmps52
  go_wp2
  go_loopg [3, 4] s.size (fun gk _ _ wr => ∃ (i : Nat) (tr : Bool) (ps : List Pc), s.size - i ≤ gk ∧ i ≤ s.size ∧ Cur g s i tr ps wr ∧ Below g w wr ∧ Hid (Parts T ps gk (s.data.toList.drop i) i tr) ∧ ps.length + 2 * gk ≤ 2 * s.size)
  case atStart => exact ⟨0, false, [], by omega, by omega, hC, Below.refl _ _, hT', by simp⟩
  case round =>
    obtain ⟨i, tr, ps, hig, his, hCr, hbr, hPt, hpl⟩ := hrel
    obtain ⟨v, hB⟩ := hCr.b
    have c0 := hB.cell 0 _ rfl
    have c1 := hB.cell 1 _ rfl
    have HIG := Lib.hid hig
    have HPL := Lib.hid hpl
    clear hig hpl
    by_cases h : i < s.size
    · have hjb : decide ((i : Int) < (s.size : Int)) = true := decide_eq_true (by omega)
      obtain ⟨l, hl0⟩ : ∃ l, l = s.data.toList.drop i := ⟨_, rfl⟩
      have hll := congrArg List.length hl0
      rw [List.length_drop, size_list] at hll
      rw [← hl0] at hPt
      have HL := Lib.hid hl0
      have HLL := Lib.hid hll
      clear hl0 hll
      have hix : ∀ W : World, Env W → Calls Tryz.prog 81 #[.string (s.extract i s.size), .string ⟨#[123, 123]⟩] W fun e w' => e = .returned (.int .i64 (if hasI [123, 123] l = true then (cutI [123, 123] l : Int) else -1)) ∧ w' = W := fun W hW => by
        refine (index_calls (s.extract i s.size) ⟨#[123, 123]⟩ l ?_ W hW ?_ (by simp)).mono fun _ _ ⟨he, hw⟩ => ⟨he, hw.symm⟩
        · rw [HL.out]; exact extract_end s i
        · rw [ByteArray.size_extract]; omega
      have hEr := hE.below hbr
      cases hh : hasI [123, 123] l with
      | false =>
        rw [hh] at hix
        simp only [Bool.false_eq_true, if_false] at hix
        have HH := Lib.hid hh
        clear hh
        go_wp2_with fail
        go_quiet (fail)
        go_wp2_with fail
        have hB' : CurB g s i tr v (wr.drewN nq) := hB
        have hCr' : Cur g s i tr ps (wr.drewN nq) := hCr
        have hbr' := Below.drewN hbr nq
        have hEr' := hE.below hbr'
        clear c0 c1 hB hCr hbr hEr
        generalize wr.drewN nq = wq at *
        have c1 := hB'.cell 1 _ rfl
        have hR := fun n => Calls.quiet_of (rest_q g s i tr v (wq.drewN n) hB' his (by omega))
        have hI := fun n => Calls.quiet_of_same (n := n) (hix (wq.drewN n) (hEr'.below (Below.drewN (Below.refl g wq) n)).env)
        go_quiet ((first | (go_at_call 82; exact hR _) | (go_at_call 81; exact hI _)))
        clear hR hI hix
        have hB : CurB g s i tr v (wq.drewN nq) := hB'
        have hCr : Cur g s i tr ps (wq.drewN nq) := hCr'
        have hbr := Below.drewN hbr' nq
        have hEr := hE.below hbr
        clear c1 hB' hCr' hbr' hEr'
        generalize wq.drewN nq = wr at *
        have c1 := hB.cell 1 _ rfl
        go_wp2_with fail
        refine (text_calls g s i tr ps _ hEr.env hCr his hs (by have := HPL.out; omega)).mono ?_
        rw [← HL.out]
        rintro e w3 ⟨rfl, hC3, hb3⟩
        have hbr3 := hbr.trans hb3
        clear c1 hB hCr hbr hEr hb3
        have hcb : decide ((i : Int) ≤ (i : Int) + -1) = false := decide_eq_false (by omega)
        go_wp2
        go_ret
        have hp := hPt.out
        unfold Parts at hp
        obtain ⟨n, hn⟩ : ∃ n, gk = n + 1 := ⟨gk - 1, by have := HIG.out; omega⟩
        rw [hn, splitF_none i tr (fun e => by have := HLL.out; rw [e] at this; simp at this; omega) HH.out] at hp
        refine ⟨true, rfl, hbr3, fun qs hq => ⟨rfl, i + textN l, false, ?_⟩, fun hq => ?_⟩
        · rw [hp] at hq
          cases hq
          exact hC3
        · rw [hp] at hq
          cases hq
      | true =>
        rw [hh] at hix
        simp only [if_true] at hix
        have hle := (cutI_some [123, 123] (by simp) l hh).2
        have hopen := openN_text hh
        have htn := textN_le hh
        have hsp := fun n => splitF_some (n := n) i tr hh
        generalize cutI [123, 123] l = c at *
        simp only [List.length_cons, List.length_nil] at hle
        rw [HLL.out] at hle htn
        have hic : i + c + 2 ≤ s.size := by omega
        have hit : i + textN l ≤ s.size := by omega
        have HH := Lib.hid hh
        have HOP := Lib.hid hopen
        have HSP := Lib.hid hsp
        clear hh hle hopen htn hsp
        go_wp2_with fail
        go_quiet (fail)
        go_wp2_with fail
        have hB' : CurB g s i tr v (wr.drewN nq) := hB
        have hCr' : Cur g s i tr ps (wr.drewN nq) := hCr
        have hbr' := Below.drewN hbr nq
        have hEr' := hE.below hbr'
        clear c0 c1 hB hCr hbr hEr
        generalize wr.drewN nq = wq at *
        have c1 := hB'.cell 1 _ rfl
        have hR := fun n => Calls.quiet_of (rest_q g s i tr v (wq.drewN n) hB' his (by omega))
        have hI := fun n => Calls.quiet_of_same (n := n) (hix (wq.drewN n) (hEr'.below (Below.drewN (Below.refl g wq) n)).env)
        go_quiet ((first | (go_at_call 82; exact hR _) | (go_at_call 81; exact hI _)))
        clear hR hI hix
        have hB : CurB g s i tr v (wq.drewN nq) := hB'
        have hCr : Cur g s i tr ps (wq.drewN nq) := hCr'
        have hbr := Below.drewN hbr' nq
        have hEr := hE.below hbr
        clear c1 hB' hCr' hbr' hEr'
        generalize wq.drewN nq = wr at *
        have c1 := hB.cell 1 _ rfl
        go_wp2_with fail
        refine (text_calls g s i tr ps _ hEr.env hCr his hs (by have := HPL.out; omega)).mono ?_
        rw [← HL.out]
        rintro e w3 ⟨rfl, hC3, hb3⟩
        have hbr3 := hbr.trans hb3
        clear c1 hB hCr hbr hEr hb3
        have hcb : decide ((i : Int) ≤ (i : Int) + (c : Int)) = true := decide_eq_true (by omega)
        obtain ⟨v3, hB3, hP3⟩ := hC3
        have hsk := skip_calls g s (i + textN l) false v3 w3 hB3 hit (by omega)
        have hld : s.data.toList.drop (i + textN l) = l.drop (textN l) := by rw [HL.out, List.drop_drop]
        have hok : i + textN l + blkN (s.data.toList.drop (i + textN l)) = i + openN l := by rw [hld, HOP.out]; omega
        have hob : i + openN l ≤ s.size := by
          have := blkN_le (s.data.toList.drop (i + textN l))
          rw [List.length_drop, size_list] at this
          omega
        rw [hok] at hsk
        have HSK := Lib.hid hsk
        clear hok hld hsk
        have hgw : g ≤ w3.heap.size := Nat.le_of_lt hB3.lt
        obtain ⟨n, hn⟩ : ∃ n, gk = n + 1 := ⟨gk - 1, by have := HIG.out; omega⟩
        have hsp := HSP.out n
        rw [← hn] at hsp
        have hpt := fun T' (hT' : splitF gk l i tr = T') => hPt.out.trans (congrArg _ hT')
        have HPT := Lib.hid hpt
        clear hpt
        have hld2 : ∀ k, s.data.toList.drop (i + openN l + k) = l.drop (openN l + k) := fun k => by rw [HL.out, List.drop_drop]; congr 1; omega
        have HLD := Lib.hid hld2
        have hld2 := hld2 0
        simp only [Nat.add_zero] at hld2
        have hpl2 : (ps ++ txtP (textT l tr) i).length ≤ ps.length + 1 := by
          have := txtP_len (textT l tr) i
          simp; omega
        cases hpf : List.isPrefixOf [47, 42] (l.drop (openN l)) with
        | true =>
          rw [hpf, if_pos rfl] at hsp
          have hpl := pre_len hpf
          rw [List.length_drop, HLL.out] at hpl
          simp only [List.length_cons, List.length_nil] at hpl
          have hi2 : i + openN l + 2 ≤ s.size := by omega
          have HSP2 := Lib.hid hsp
          have HPF := Lib.hid (show List.isPrefixOf (⟨#[47, 42]⟩ : ByteArray).data.toList (s.data.toList.drop (i + openN l)) = true by rw [hld2]; exact hpf)
          clear hpl hsp hpf hld2
          go_wp2_with fail
          refine HSK.out.mono ?_
          rintro e w4 ⟨rfl, hB4, hg4⟩
          have hC4 := Cur.grown hP3 hg4 hB4
          have hbr4 := hbr3.trans (Below.grow1 hg4 hgw (Nat.le_refl g))
          go_wp2_with fail
          refine (rest_calls g s (i + openN l) false v3 _ hB4 hob (by omega)).mono ?_
          rintro e w5 ⟨r5, rfl, hr5, hb5⟩
          have hC5 := hC4.below hb5
          have hbr5 := hbr4.trans (hb5.mono (Nat.le_of_lt hB4.lt))
          go_wp2_with fail
          refine (prefix_calls r5 ⟨#[47, 42]⟩ _ hr5 _).mono ?_
          rw [HPF.out]
          rintro e w6 ⟨rfl, rfl⟩
          go_wp2_with fail
          refine (comment_calls g s (i + openN l) _ _ (hE.below hbr5) hC5 hi2 hs).mono ?_
          rw [HLD.out 2]
          cases hcm : comL (l.drop (openN l + 2)) with
          | none =>
            rintro e w7 ⟨b, rfl, hb7, -, hno⟩
            obtain rfl := hno rfl
            have hsp := HSP2.out
            rw [hcm] at hsp
            have HSP3 := Lib.hid (hPt.out.trans (congrArg _ hsp))
            clear hsp
            go_wp2
            go_ret
            refine ⟨false, rfl, hbr5.trans hb7, fun qs hq => ?_, fun _ => rfl⟩
            rw [HSP3.out] at hq
            cases hq
          | some x =>
            obtain ⟨m, tr'⟩ := x
            rintro e w7 ⟨b, rfl, hb7, hso, -⟩
            obtain ⟨rfl, hi7, hC7⟩ := hso m tr' rfl
            have hsp := HSP2.out
            rw [hcm] at hsp
            have HSP3 := Lib.hid (parts_step hPt.out (hsp.trans (by rfl)))
            clear hsp
            go_wp2
            go_roundg n
            case measure => omega
            case rel =>
              refine ⟨i + openN l + 2 + m, tr', _, ?_, hi7, hC7, hbr5.trans hb7, ?_, ?_⟩
              · have := HIG.out; omega
              · have e := HSP3.out
                have e2 := HLD.out (2 + m)
                show Parts _ _ _ _ _ _
                rw [show i + openN l + 2 + m = i + openN l + (2 + m) by omega, e2]
                rw [show i + (openN l + 2 + m) = i + openN l + (2 + m) by omega, show openN l + 2 + m = openN l + (2 + m) by omega] at e
                exact e
              · have := HPL.out; omega
        | false =>
          rw [hpf, if_neg (by simp)] at hsp
          have HSP2 := Lib.hid hsp
          have HPF := Lib.hid (show List.isPrefixOf (⟨#[47, 42]⟩ : ByteArray).data.toList (s.data.toList.drop (i + openN l)) = false by rw [hld2]; exact hpf)
          clear hsp hpf
          go_wp2_with fail
          refine HSK.out.mono ?_
          rintro e w4 ⟨rfl, hB4, hg4⟩
          have hC4 := Cur.grown hP3 hg4 hB4
          have hbr4 := hbr3.trans (Below.grow1 hg4 hgw (Nat.le_refl g))
          go_wp2_with fail
          refine (rest_calls g s (i + openN l) false v3 _ hB4 hob (by omega)).mono ?_
          rintro e w5 ⟨r5, rfl, hr5, hb5⟩
          have hC5 := hC4.below hb5
          have hbr5 := hbr4.trans (hb5.mono (Nat.le_of_lt hB4.lt))
          go_wp2_with fail
          refine (prefix_calls r5 ⟨#[47, 42]⟩ _ hr5 _).mono ?_
          rw [HPF.out]
          rintro e w6 ⟨rfl, rfl⟩
          go_wp2_with fail
          refine (action_calls g s (i + openN l) (i + c) _ _ (hE.below hbr5) hC5 hob hs (by have := HPL.out; omega)).mono ?_
          rw [hld2]
          cases hcm : endL false (l.drop (openN l)) with
          | none =>
            rintro e w7 ⟨b, rfl, hb7, -, hno⟩
            obtain rfl := hno rfl
            have hsp := HSP2.out
            rw [hcm] at hsp
            have HSP3 := Lib.hid (hPt.out.trans (congrArg _ hsp))
            clear hsp
            go_wp2
            go_ret
            refine ⟨false, rfl, hbr5.trans hb7, fun qs hq => ?_, fun _ => rfl⟩
            rw [HSP3.out] at hq
            cases hq
          | some m =>
            rintro e w7 ⟨b, rfl, hb7, hso, -⟩
            obtain ⟨rfl, hi7, hC7⟩ := hso m rfl
            have hsp := HSP2.out
            rw [hcm] at hsp
            have HSP3 := Lib.hid (parts_step hPt.out (hsp.trans (by rfl)))
            clear hsp
            go_wp2
            go_roundg n
            case measure => omega
            case rel =>
              refine ⟨i + openN l + m + 2, _, _, ?_, hi7, hC7, hbr5.trans hb7, ?_, ?_⟩
              · have := HIG.out; omega
              · have e := HSP3.out
                have e2 := HLD.out (m + 2)
                show Parts _ _ _ _ _ _
                rw [show i + openN l + m + 2 = i + openN l + (m + 2) by omega, e2]
                rw [show i + (openN l + m + 2) = i + openN l + (m + 2) by omega, ← List.append_assoc] at e
                exact e
              · have := HPL.out
                rw [List.length_append, List.length_singleton]
                omega
    · obtain rfl : i = s.size := by omega
      have hjb : decide ((s.size : Int) < (s.size : Int)) = false := decide_eq_false (by omega)
      have hp := hPt.out
      rw [List.drop_eq_nil_of_le (Nat.le_of_eq (size_list s))] at hp
      unfold Parts at hp
      rw [splitF_nil] at hp
      have HP := Lib.hid hp
      clear hp hPt
      go_wp2_with fail
      go_quiet (fail)
      go_wp2
      go_ret
      refine ⟨true, rfl, Below.drewN hbr nq, fun qs hq => ⟨rfl, s.size, tr, ?_⟩, fun hq => ?_⟩
      · rw [HP.out] at hq
        have : ps = qs := by simpa using hq
        rw [← this]
        exact hCr
      · rw [HP.out] at hq
        cases hq
end Go.Proofs.YtdaffedbboofjaaGreatDoor.S

/-
  THE WALKS of the reference's comment, plain.
-/
set_option linter.unusedVariables false
set_option linter.unusedSimpArgs false
namespace Go.Proofs.YtdaffedbboofjaaGreatDoor.S
open Go.RowKit

theorem hasI_short (p : List UInt8) : ∀ l : List UInt8, l.length < p.length → hasI p l = false
  | [], _ => rfl
  | b :: r, h => by
    unfold hasI
    rw [hasI_short p r (by simp at h; omega), Bool.or_false]
    cases hp : p.isPrefixOf (b :: r) with
    | false => rfl
    | true => have := pre_len hp; omega
theorem cutI_cons (p : List UInt8) (b : UInt8) (r : List UInt8) : cutI p (b :: r) = if p.isPrefixOf (b :: r) = true then 0 else cutI p r + 1 := rfl
theorem hasI_cons (p : List UInt8) (b : UInt8) (r : List UInt8) : hasI p (b :: r) = (p.isPrefixOf (b :: r) || hasI p r) := rfl
theorem slice2 (s : ByteArray) (i : Nat) (x y : UInt8) (h : i + 2 ≤ s.size) : ((s.extract i (i + 2)).toList == [x, y]) = List.isPrefixOf [x, y] (s.data.toList.drop i) := by
  rw [Lib.toList_data, Lib.extract_data, show i + 2 - i = 2 by omega]
  have hl : 2 ≤ (s.data.toList.drop i).length := by rw [List.length_drop, size_list]; omega
  match hd : s.data.toList.drop i with
  | [] => rw [hd] at hl; simp at hl
  | [c] => rw [hd] at hl; simp at hl
  | c :: d :: r =>
    simp only [List.take_succ_cons, List.take_zero, List.isPrefixOf, Bool.and_true]
    rw [Bool.eq_iff_iff]
    simp only [beq_iff_eq, List.cons.injEq, and_true, Bool.and_eq_true]
    exact ⟨fun ⟨h1, h2⟩ => ⟨h1.symm, h2.symm⟩, fun ⟨h1, h2⟩ => ⟨h1.symm, h2.symm⟩⟩
theorem slice_at (s : ByteArray) (x y : Int) (i j : Nat) (hx : x = i) (hy : y = j) (hij : i ≤ j) (hj : j ≤ s.size) (W : World) :
    (Instr.slice 9 (.string s) (some (.int .i64 x)) (some (.int .i64 y)) none).run Tryz.prog W = .ok (.string (s.extract i j)) W := by
  subst hx hy
  have h := run_slice_string (P := Tryz.prog) (w := W) 9 s .i64 .i64 (i : Int) (j : Int) Tryz.underlying9 (by omega) (by omega) (by omega)
  simpa using h
theorem at_drop {s : ByteArray} {l : List UInt8} {a : Nat} (hl : l = s.data.toList.drop a) (i k : Nat) (hik : i = a + k) (h : i < s.size) : l.drop k = s[i] :: l.drop (k + 1) := by
  subst hik
  rw [hl, List.drop_drop, List.drop_drop, drop_cons s (a + k) h]
  rfl
/-- the reference's action -/
def actV (en : Nat) (t : ByteArray) (tr cm ok : Bool) : Value := .agg #[.int .i64 en, .string t, .bool tr, .bool cm, .bool ok]

set_option maxRecDepth 100000 in
set_option maxHeartbeats 4000000 in
theorem rcomment_calls (s : ByteArray) (a : Nat) (w : World) (ha : a ≤ s.size) (hs : s.size ≤ 4611686018427387900) :
    Calls Tryz.prog 64 #[.string s, .int .i64 a] w fun e w' => ∃ en tr cm ok, e = .returned (actV en ⟨#[]⟩ tr cm ok) ∧ Below w.heap.size w w' ∧ (∀ n t, comL (s.data.toList.drop a) = some (n, t) → en = a + n ∧ tr = t ∧ cm = true ∧ ok = true ∧ a + n ≤ s.size) ∧ (comL (s.data.toList.drop a) = none → ok = false) := by
  obtain ⟨l, hl0⟩ : ∃ l, l = s.data.toList.drop a := ⟨_, rfl⟩
  have hll := congrArg List.length hl0
  rw [List.length_drop, size_list] at hll
  rw [← hl0]
  have HL := Lib.hid hl0
  have HLL := Lib.hid hll
  clear hl0 hll
  go_enter Tryz.func64, Tryz.ntmps64
  go_wp2
  go_loopg [5] (s.size - a) (fun gk v5 wr => ∃ j : Nat, v5 = .int .i64 (a + j : Nat) ∧ gk = s.size - (a + j) ∧ a + j ≤ s.size ∧ Hid (hasI [42, 47] (l.drop j) = hasI [42, 47] l ∧ j + cutI [42, 47] (l.drop j) = cutI [42, 47] l) ∧ w.alloc (.cells #[.int .i64 0, .string ⟨#[]⟩, .bool false, .bool false, .bool false] 122) = wr)
  case atStart => exact ⟨0, rfl, rfl, ha, ⟨rfl, by simp⟩, rfl⟩
  case round =>
    obtain ⟨j, rfl, hgk, hjs, hH, rfl⟩ := hrel
    have HGK := Lib.hid hgk
    clear hgk
    by_cases h : a + j + 1 < s.size
    · have hld : s.data.toList.drop (a + j) = l.drop j := by rw [HL.out, List.drop_drop]
      have heq := slice2 s (a + j) 42 47 (by omega)
      rw [hld] at heq
      have hdc := drop_cons s (a + j) (by omega)
      rw [hld, show a + j + 1 = a + (j + 1) by omega, show s.data.toList.drop (a + (j + 1)) = l.drop (j + 1) by rw [HL.out, List.drop_drop]] at hdc
      have hc := cutI_cons [42, 47] (s[a + j]'(by omega)) (l.drop (j + 1))
      have hh := hasI_cons [42, 47] (s[a + j]'(by omega)) (l.drop (j + 1))
      rw [← hdc] at hc hh
      have hsl := fun W => slice_at s ((a : Int) + j) ((a : Int) + j + 2) (a + j) (a + j + 2) (by omega) (by omega) (by omega) (by omega) W
      clear hld hdc
      cases hp : List.isPrefixOf [42, 47] (l.drop j) with
      | false =>
        rw [hp] at heq hc hh
        simp only [Bool.false_eq_true, if_false, Bool.false_or] at hc hh
        have HC := Lib.hid hc
        have HH := Lib.hid hh
        clear hc hh
        go_wp2
        go_roundg (gk - 1)
        case measure => have := HGK.out; omega
        case rel =>
          refine ⟨j + 1, by go_num, by have := HGK.out; omega, by omega, ⟨HH.out.symm.trans hH.out.1, ?_⟩, rfl⟩
          have h1 := hH.out.2
          have h2 := HC.out
          omega
      | true =>
        rw [hp] at heq hc hh
        simp only [if_true, Bool.true_or] at hc hh
        have hhl : hasI [42, 47] l = true := hH.out.1.symm.trans hh
        have hcl : cutI [42, 47] l = j := by have := hH.out.2; omega
        have hcm := comL_has hhl
        dsimp only at hcm
        rw [hcl] at hcm
        have HCM := Lib.hid hcm
        clear hcm hc hh hcl hhl hH hp
        go_wp2
        clear heq h hsl
        go_loopg [5] (s.size - (a + j + 2)) (fun gk v5 wr => ∃ k : Nat, v5 = .int .i64 (a + j + 2 + k : Nat) ∧ gk = s.size - (a + j + 2 + k) ∧ a + j + 2 + k ≤ s.size ∧ Hid (k + blkN (l.drop (j + 2 + k)) = blkN (l.drop (j + 2))) ∧ w.alloc (.cells #[.int .i64 0, .string ⟨#[]⟩, .bool false, .bool false, .bool false] 122) = wr)
        case atStart => exact ⟨0, by go_num, rfl, by omega, by show _ = _; simp, rfl⟩
        case round =>
          obtain ⟨k, rfl, hgk2, hks, hK, rfl⟩ := hrel
          have HGK2 := Lib.hid hgk2
          clear hgk2
          by_cases h : a + j + 2 + k < s.size
          · have hdc := at_drop HL.out (a + j + 2 + k) (j + 2 + k) (by omega) h
            obtain ⟨b, hb⟩ : ∃ b : UInt8, b = s[a + j + 2 + k]'h := ⟨_, rfl⟩
            have hbt : ∀ h', ((s[a + j + 2 + k]'h').toNat : Nat) = b.toNat := fun h' => by rw [hb]
            rw [← hb] at hdc
            have hlt := b.toNat_lt
            have hbn : blkN (l.drop (j + 2 + k)) = if blk b.toNat = true then blkN (l.drop (j + 2 + k + 1)) + 1 else 0 := by rw [hdc]; rfl
            clear hdc hb
            generalize b.toNat = c at *
            cases hbl : blk c with
            | true =>
              rw [hbl, if_pos rfl] at hbn
              have HBN := Lib.hid hbn
              clear hbn
              go_wp2_with (go_at_call 62; refine (rblank_calls c _ hlt).mono ?_; rintro e w' ⟨rfl, rfl⟩)
              go_roundg (gk - 1)
              case measure => have := HGK2.out; omega
              case rel => exact ⟨k + 1, by go_num, by have := HGK2.out; omega, by omega, (by have := hK.out; have := HBN.out; show _ = _; rw [show j + 2 + (k + 1) = j + 2 + k + 1 by omega]; omega), rfl⟩
            | false =>
              rw [hbl, if_neg (by simp)] at hbn
              have hK : k = blkN (l.drop (j + 2)) := by have := hK.out; omega
              have HK := Lib.hid hK
              clear hbn hK
              go_upto_if 42 with (go_at_call 62; refine (rblank_calls c _ hlt).mono ?_; rintro e w' ⟨rfl, rfl⟩)
              clear hbt hbl hlt h
              go_upto_region 10 with (fail)
              have hcm := HCM.out
              rw [← HK.out] at hcm
              clear HCM HK
              obtain ⟨T, hT⟩ : ∃ T, T = (decide (0 < k) && List.isPrefixOf [45] (l.drop (j + 2 + k))) := ⟨_, rfl⟩
              rw [← hT] at hcm
              go_cut [7] (fun v7 wx => v7 = .bool T ∧ w.alloc (.cells #[.int .i64 0, .string ⟨#[]⟩, .bool false, .bool false, .bool false] 122) = wx)
              case first =>
                by_cases hk0 : 0 < k
                · have hkb : decide ((a : Int) + j + 2 < (a : Int) + j + 2 + k) = true := decide_eq_true (by omega)
                  rw [show decide (0 < k) = true from decide_eq_true hk0, Bool.true_and] at hT
                  by_cases h : a + j + 2 + k < s.size
                  · have hib : decide ((a : Int) + j + 2 + k < (s.size : Int)) = true := decide_eq_true (by omega)
                    have hdc := at_drop HL.out (a + j + 2 + k) (j + 2 + k) (by omega) h
                    obtain ⟨b, hb⟩ : ∃ b : UInt8, b = s[a + j + 2 + k]'h := ⟨_, rfl⟩
                    have hbt : ∀ h', ((s[a + j + 2 + k]'h').toNat : Nat) = b.toNat := fun h' => by rw [hb]
                    rw [← hb] at hdc
                    have hlt := b.toNat_lt
                    rw [hdc] at hT
                    have hq : ((b.toNat : Int) == 45) = (45 == b) := by
                      rw [Bool.eq_iff_iff]
                      simp only [beq_iff_eq]
                      exact ⟨fun h => UInt8.toNat_inj.1 (by show 45 = _; omega), fun h => by rw [← h]; rfl⟩
                    have hT2 : T = ((b.toNat : Int) == 45) := by rw [hT, hq]; simp [List.isPrefixOf]
                    have HT := Lib.hid hT2
                    clear hdc hb hT hT2 hq
                    go_wp2
                    go_meet
                    exact ⟨by first | (rw [HT.out]; done) | (exfalso; omega), rfl⟩
                  · have hib : decide ((a : Int) + j + 2 + k < (s.size : Int)) = false := decide_eq_false (by omega)
                    rw [List.drop_eq_nil_of_le (by rw [HLL.out]; omega)] at hT
                    have HT := Lib.hid (show T = false from hT)
                    clear hT
                    go_wp2
                    go_meet
                    exact ⟨by first | (rw [HT.out]; done) | (exfalso; omega), rfl⟩
                · have hkb : decide ((a : Int) + j + 2 < (a : Int) + j + 2 + k) = false := decide_eq_false (by omega)
                  rw [show decide (0 < k) = false from decide_eq_false hk0, Bool.false_and] at hT
                  have HT := Lib.hid hT
                  clear hT
                  go_wp2
                  go_meet
                  exact ⟨by first | (rw [HT.out]; done) | (exfalso; omega), rfl⟩
              case rest =>
              obtain ⟨rfl, rfl⟩ := hcut
              cases T with
              | true =>
                simp only [if_true] at hcm
                have HCM := Lib.hid hcm
                clear hcm
                have hpr : a + j + 2 + k + 1 ≤ s.size := by
                  have h := hT.symm
                  rw [Bool.and_eq_true] at h
                  have := pre_len h.2
                  rw [List.length_drop, HLL.out] at this
                  simp only [List.length_cons, List.length_nil] at this
                  omega
                clear hT
                have hme : j + 2 + k + 1 ≤ l.length := by rw [HLL.out]; omega
                by_cases h2 : 2 ≤ s.size - (a + (j + 2 + k + 1))
                · have heq := slice2 s (a + (j + 2 + k + 1)) 125 125 (by omega)
                  rw [show s.data.toList.drop (a + (j + 2 + k + 1)) = l.drop (j + 2 + k + 1) by rw [HL.out, List.drop_drop]] at heq
                  have hsl := fun W => slice_at s ((a : Int) + j + 2 + k + 1) ((a : Int) + j + 2 + k + 1 + 2) (a + (j + 2 + k + 1)) (a + (j + 2 + k + 1) + 2) (by omega) (by omega) (by omega) (by omega) W
                  have hlb : decide ((s.size : Int) - ((a : Int) + j + 2 + k + 1) < 2) = false := decide_eq_false (by omega)
                  cases hp : List.isPrefixOf [125, 125] (l.drop (j + 2 + k + 1)) with
                  | true =>
                    rw [hp] at heq
                    have hcm := HCM.out
                    rw [hp, if_pos rfl] at hcm
                    have HCM := Lib.hid hcm
                    clear hcm hp
                    go_wp2
                    refine bodyPost_ret (v := actV (a + j + 2 + k + 1 + 2) ⟨#[]⟩ true true true) (by simp [results, Tryz.results64, go_sem, actV]) rfl ?_
                    refine ⟨a + j + 2 + k + 1 + 2, true, true, true, rfl, (((Below.refl _ w).alloc (Nat.le_refl _) _)), fun n t h => ?_, fun h => ?_⟩
                    · rw [HCM.out] at h
                      cases h
                      exact ⟨by omega, rfl, rfl, rfl, by omega⟩
                    · rw [HCM.out] at h
                      cases h
                  | false =>
                    rw [hp] at heq
                    have hcm := HCM.out
                    rw [hp, if_neg (by simp)] at hcm
                    have HCM := Lib.hid hcm
                    clear hcm hp
                    go_wp2
                    refine bodyPost_ret (v := actV 0 ⟨#[]⟩ false false false) (by simp [results, Tryz.results64, go_sem, actV]) rfl ?_
                    exact ⟨0, false, false, false, rfl, (((Below.refl _ w).alloc (Nat.le_refl _) _)), fun n t h => (by rw [HCM.out] at h; cases h), fun _ => rfl⟩
                · have hlb : decide ((s.size : Int) - ((a : Int) + j + 2 + k + 1) < 2) = true := decide_eq_true (by omega)
                  have hp : List.isPrefixOf [125, 125] (l.drop (j + 2 + k + 1)) = false := by
                    cases hp : List.isPrefixOf [125, 125] (l.drop (j + 2 + k + 1)) with
                    | false => rfl
                    | true =>
                      have := pre_len hp
                      rw [List.length_drop, HLL.out] at this
                      simp only [List.length_cons, List.length_nil] at this
                      omega
                  have hcm := HCM.out
                  rw [hp, if_neg (by simp)] at hcm
                  have HCM := Lib.hid hcm
                  clear hcm hp
                  go_wp2
                  refine bodyPost_ret (v := actV 0 ⟨#[]⟩ false false false) (by simp [results, Tryz.results64, go_sem, actV]) rfl ?_
                  exact ⟨0, false, false, false, rfl, (((Below.refl _ w).alloc (Nat.le_refl _) _)), fun n t h => (by rw [HCM.out] at h; cases h), fun _ => rfl⟩

              | false =>
                simp only [Bool.false_eq_true, if_false] at hcm
                have HCM := Lib.hid hcm
                clear hcm hT
                have hme : j + 2 + k ≤ l.length := by rw [HLL.out]; omega
                by_cases h2 : 2 ≤ s.size - (a + (j + 2 + k))
                · have heq := slice2 s (a + (j + 2 + k)) 125 125 (by omega)
                  rw [show s.data.toList.drop (a + (j + 2 + k)) = l.drop (j + 2 + k) by rw [HL.out, List.drop_drop]] at heq
                  have hsl := fun W => slice_at s ((a : Int) + j + 2 + k) ((a : Int) + j + 2 + k + 2) (a + (j + 2 + k)) (a + (j + 2 + k) + 2) (by omega) (by omega) (by omega) (by omega) W
                  have hlb : decide ((s.size : Int) - ((a : Int) + j + 2 + k) < 2) = false := decide_eq_false (by omega)
                  cases hp : List.isPrefixOf [125, 125] (l.drop (j + 2 + k)) with
                  | true =>
                    rw [hp] at heq
                    have hcm := HCM.out
                    rw [hp, if_pos rfl] at hcm
                    have HCM := Lib.hid hcm
                    clear hcm hp
                    go_wp2
                    refine bodyPost_ret (v := actV (a + j + 2 + k + 2) ⟨#[]⟩ false true true) (by simp [results, Tryz.results64, go_sem, actV]) rfl ?_
                    refine ⟨a + j + 2 + k + 2, false, true, true, rfl, (((Below.refl _ w).alloc (Nat.le_refl _) _)), fun n t h => ?_, fun h => ?_⟩
                    · rw [HCM.out] at h
                      cases h
                      exact ⟨by omega, rfl, rfl, rfl, by omega⟩
                    · rw [HCM.out] at h
                      cases h
                  | false =>
                    rw [hp] at heq
                    have hcm := HCM.out
                    rw [hp, if_neg (by simp)] at hcm
                    have HCM := Lib.hid hcm
                    clear hcm hp
                    go_wp2
                    refine bodyPost_ret (v := actV 0 ⟨#[]⟩ false false false) (by simp [results, Tryz.results64, go_sem, actV]) rfl ?_
                    exact ⟨0, false, false, false, rfl, (((Below.refl _ w).alloc (Nat.le_refl _) _)), fun n t h => (by rw [HCM.out] at h; cases h), fun _ => rfl⟩
                · have hlb : decide ((s.size : Int) - ((a : Int) + j + 2 + k) < 2) = true := decide_eq_true (by omega)
                  have hp : List.isPrefixOf [125, 125] (l.drop (j + 2 + k)) = false := by
                    cases hp : List.isPrefixOf [125, 125] (l.drop (j + 2 + k)) with
                    | false => rfl
                    | true =>
                      have := pre_len hp
                      rw [List.length_drop, HLL.out] at this
                      simp only [List.length_cons, List.length_nil] at this
                      omega
                  have hcm := HCM.out
                  rw [hp, if_neg (by simp)] at hcm
                  have HCM := Lib.hid hcm
                  clear hcm hp
                  go_wp2
                  refine bodyPost_ret (v := actV 0 ⟨#[]⟩ false false false) (by simp [results, Tryz.results64, go_sem, actV]) rfl ?_
                  exact ⟨0, false, false, false, rfl, (((Below.refl _ w).alloc (Nat.le_refl _) _)), fun n t h => (by rw [HCM.out] at h; cases h), fun _ => rfl⟩

          · have hn : l.drop (j + 2 + k) = [] := List.drop_eq_nil_of_le (by rw [HLL.out]; omega)
            have hK : k = blkN (l.drop (j + 2)) := by
              have hk := hK.out
              rw [hn] at hk
              exact hk
            have hb : decide ((a : Int) + j + 2 + k < (s.size : Int)) = false := decide_eq_false (by omega)
            have HK := Lib.hid hK
            clear hn hK
            go_upto_if 42 with (fail)
            clear hb h
            go_upto_region 10 with (fail)
            have hcm := HCM.out
            rw [← HK.out] at hcm
            clear HCM HK
            obtain ⟨T, hT⟩ : ∃ T, T = (decide (0 < k) && List.isPrefixOf [45] (l.drop (j + 2 + k))) := ⟨_, rfl⟩
            rw [← hT] at hcm
            go_cut [7] (fun v7 wx => v7 = .bool T ∧ w.alloc (.cells #[.int .i64 0, .string ⟨#[]⟩, .bool false, .bool false, .bool false] 122) = wx)
            case first =>
              by_cases hk0 : 0 < k
              · have hkb : decide ((a : Int) + j + 2 < (a : Int) + j + 2 + k) = true := decide_eq_true (by omega)
                rw [show decide (0 < k) = true from decide_eq_true hk0, Bool.true_and] at hT
                by_cases h : a + j + 2 + k < s.size
                · have hib : decide ((a : Int) + j + 2 + k < (s.size : Int)) = true := decide_eq_true (by omega)
                  have hdc := at_drop HL.out (a + j + 2 + k) (j + 2 + k) (by omega) h
                  obtain ⟨b, hb⟩ : ∃ b : UInt8, b = s[a + j + 2 + k]'h := ⟨_, rfl⟩
                  have hbt : ∀ h', ((s[a + j + 2 + k]'h').toNat : Nat) = b.toNat := fun h' => by rw [hb]
                  rw [← hb] at hdc
                  have hlt := b.toNat_lt
                  rw [hdc] at hT
                  have hq : ((b.toNat : Int) == 45) = (45 == b) := by
                    rw [Bool.eq_iff_iff]
                    simp only [beq_iff_eq]
                    exact ⟨fun h => UInt8.toNat_inj.1 (by show 45 = _; omega), fun h => by rw [← h]; rfl⟩
                  have hT2 : T = ((b.toNat : Int) == 45) := by rw [hT, hq]; simp [List.isPrefixOf]
                  have HT := Lib.hid hT2
                  clear hdc hb hT hT2 hq
                  go_wp2
                  go_meet
                  exact ⟨by first | (rw [HT.out]; done) | (exfalso; omega), rfl⟩
                · have hib : decide ((a : Int) + j + 2 + k < (s.size : Int)) = false := decide_eq_false (by omega)
                  rw [List.drop_eq_nil_of_le (by rw [HLL.out]; omega)] at hT
                  have HT := Lib.hid (show T = false from hT)
                  clear hT
                  go_wp2
                  go_meet
                  exact ⟨by first | (rw [HT.out]; done) | (exfalso; omega), rfl⟩
              · have hkb : decide ((a : Int) + j + 2 < (a : Int) + j + 2 + k) = false := decide_eq_false (by omega)
                rw [show decide (0 < k) = false from decide_eq_false hk0, Bool.false_and] at hT
                have HT := Lib.hid hT
                clear hT
                go_wp2
                go_meet
                exact ⟨by first | (rw [HT.out]; done) | (exfalso; omega), rfl⟩
            case rest =>
            obtain ⟨rfl, rfl⟩ := hcut
            cases T with
            | true =>
              simp only [if_true] at hcm
              have HCM := Lib.hid hcm
              clear hcm
              have hpr : a + j + 2 + k + 1 ≤ s.size := by
                have h := hT.symm
                rw [Bool.and_eq_true] at h
                have := pre_len h.2
                rw [List.length_drop, HLL.out] at this
                simp only [List.length_cons, List.length_nil] at this
                omega
              clear hT
              have hme : j + 2 + k + 1 ≤ l.length := by rw [HLL.out]; omega
              by_cases h2 : 2 ≤ s.size - (a + (j + 2 + k + 1))
              · have heq := slice2 s (a + (j + 2 + k + 1)) 125 125 (by omega)
                rw [show s.data.toList.drop (a + (j + 2 + k + 1)) = l.drop (j + 2 + k + 1) by rw [HL.out, List.drop_drop]] at heq
                have hsl := fun W => slice_at s ((a : Int) + j + 2 + k + 1) ((a : Int) + j + 2 + k + 1 + 2) (a + (j + 2 + k + 1)) (a + (j + 2 + k + 1) + 2) (by omega) (by omega) (by omega) (by omega) W
                have hlb : decide ((s.size : Int) - ((a : Int) + j + 2 + k + 1) < 2) = false := decide_eq_false (by omega)
                cases hp : List.isPrefixOf [125, 125] (l.drop (j + 2 + k + 1)) with
                | true =>
                  rw [hp] at heq
                  have hcm := HCM.out
                  rw [hp, if_pos rfl] at hcm
                  have HCM := Lib.hid hcm
                  clear hcm hp
                  go_wp2
                  refine bodyPost_ret (v := actV (a + j + 2 + k + 1 + 2) ⟨#[]⟩ true true true) (by simp [results, Tryz.results64, go_sem, actV]) rfl ?_
                  refine ⟨a + j + 2 + k + 1 + 2, true, true, true, rfl, (((Below.refl _ w).alloc (Nat.le_refl _) _)), fun n t h => ?_, fun h => ?_⟩
                  · rw [HCM.out] at h
                    cases h
                    exact ⟨by omega, rfl, rfl, rfl, by omega⟩
                  · rw [HCM.out] at h
                    cases h
                | false =>
                  rw [hp] at heq
                  have hcm := HCM.out
                  rw [hp, if_neg (by simp)] at hcm
                  have HCM := Lib.hid hcm
                  clear hcm hp
                  go_wp2
                  refine bodyPost_ret (v := actV 0 ⟨#[]⟩ false false false) (by simp [results, Tryz.results64, go_sem, actV]) rfl ?_
                  exact ⟨0, false, false, false, rfl, (((Below.refl _ w).alloc (Nat.le_refl _) _)), fun n t h => (by rw [HCM.out] at h; cases h), fun _ => rfl⟩
              · have hlb : decide ((s.size : Int) - ((a : Int) + j + 2 + k + 1) < 2) = true := decide_eq_true (by omega)
                have hp : List.isPrefixOf [125, 125] (l.drop (j + 2 + k + 1)) = false := by
                  cases hp : List.isPrefixOf [125, 125] (l.drop (j + 2 + k + 1)) with
                  | false => rfl
                  | true =>
                    have := pre_len hp
                    rw [List.length_drop, HLL.out] at this
                    simp only [List.length_cons, List.length_nil] at this
                    omega
                have hcm := HCM.out
                rw [hp, if_neg (by simp)] at hcm
                have HCM := Lib.hid hcm
                clear hcm hp
                go_wp2
                refine bodyPost_ret (v := actV 0 ⟨#[]⟩ false false false) (by simp [results, Tryz.results64, go_sem, actV]) rfl ?_
                exact ⟨0, false, false, false, rfl, (((Below.refl _ w).alloc (Nat.le_refl _) _)), fun n t h => (by rw [HCM.out] at h; cases h), fun _ => rfl⟩

            | false =>
              simp only [Bool.false_eq_true, if_false] at hcm
              have HCM := Lib.hid hcm
              clear hcm hT
              have hme : j + 2 + k ≤ l.length := by rw [HLL.out]; omega
              by_cases h2 : 2 ≤ s.size - (a + (j + 2 + k))
              · have heq := slice2 s (a + (j + 2 + k)) 125 125 (by omega)
                rw [show s.data.toList.drop (a + (j + 2 + k)) = l.drop (j + 2 + k) by rw [HL.out, List.drop_drop]] at heq
                have hsl := fun W => slice_at s ((a : Int) + j + 2 + k) ((a : Int) + j + 2 + k + 2) (a + (j + 2 + k)) (a + (j + 2 + k) + 2) (by omega) (by omega) (by omega) (by omega) W
                have hlb : decide ((s.size : Int) - ((a : Int) + j + 2 + k) < 2) = false := decide_eq_false (by omega)
                cases hp : List.isPrefixOf [125, 125] (l.drop (j + 2 + k)) with
                | true =>
                  rw [hp] at heq
                  have hcm := HCM.out
                  rw [hp, if_pos rfl] at hcm
                  have HCM := Lib.hid hcm
                  clear hcm hp
                  go_wp2
                  refine bodyPost_ret (v := actV (a + j + 2 + k + 2) ⟨#[]⟩ false true true) (by simp [results, Tryz.results64, go_sem, actV]) rfl ?_
                  refine ⟨a + j + 2 + k + 2, false, true, true, rfl, (((Below.refl _ w).alloc (Nat.le_refl _) _)), fun n t h => ?_, fun h => ?_⟩
                  · rw [HCM.out] at h
                    cases h
                    exact ⟨by omega, rfl, rfl, rfl, by omega⟩
                  · rw [HCM.out] at h
                    cases h
                | false =>
                  rw [hp] at heq
                  have hcm := HCM.out
                  rw [hp, if_neg (by simp)] at hcm
                  have HCM := Lib.hid hcm
                  clear hcm hp
                  go_wp2
                  refine bodyPost_ret (v := actV 0 ⟨#[]⟩ false false false) (by simp [results, Tryz.results64, go_sem, actV]) rfl ?_
                  exact ⟨0, false, false, false, rfl, (((Below.refl _ w).alloc (Nat.le_refl _) _)), fun n t h => (by rw [HCM.out] at h; cases h), fun _ => rfl⟩
              · have hlb : decide ((s.size : Int) - ((a : Int) + j + 2 + k) < 2) = true := decide_eq_true (by omega)
                have hp : List.isPrefixOf [125, 125] (l.drop (j + 2 + k)) = false := by
                  cases hp : List.isPrefixOf [125, 125] (l.drop (j + 2 + k)) with
                  | false => rfl
                  | true =>
                    have := pre_len hp
                    rw [List.length_drop, HLL.out] at this
                    simp only [List.length_cons, List.length_nil] at this
                    omega
                have hcm := HCM.out
                rw [hp, if_neg (by simp)] at hcm
                have HCM := Lib.hid hcm
                clear hcm hp
                go_wp2
                refine bodyPost_ret (v := actV 0 ⟨#[]⟩ false false false) (by simp [results, Tryz.results64, go_sem, actV]) rfl ?_
                exact ⟨0, false, false, false, rfl, (((Below.refl _ w).alloc (Nat.le_refl _) _)), fun n t h => (by rw [HCM.out] at h; cases h), fun _ => rfl⟩

    · have hn : hasI [42, 47] l = false := by
        rw [← hH.out.1]
        exact hasI_short _ _ (by rw [List.length_drop, HLL.out]; simp only [List.length_cons, List.length_nil]; omega)
      have hcm := comL_not hn
      have hb : decide ((a : Int) + j + 1 < (s.size : Int)) = false := decide_eq_false (by omega)
      have hb2 : decide ((s.size : Int) ≤ (a : Int) + j + 1) = true := decide_eq_true (by omega)
      have HCM := Lib.hid hcm
      clear hn hcm hH h
      go_wp2
      refine bodyPost_ret (v := actV 0 ⟨#[]⟩ false false false) (by simp [results, Tryz.results64, go_sem, actV]) rfl ?_
      exact ⟨0, false, false, false, rfl, ((Below.refl _ w).alloc (Nat.le_refl _) _), fun n t h => (by rw [HCM.out] at h; cases h), fun _ => rfl⟩
end Go.Proofs.YtdaffedbboofjaaGreatDoor.S

/-
  THE WALK of the reference's plain.
-/
set_option linter.unusedVariables false
set_option linter.unusedSimpArgs false
namespace Go.Proofs.YtdaffedbboofjaaGreatDoor.S
open Go.RowKit

theorem endZ_some {o : Option Nat} {a i : Nat} (h : endZ o a = (i : Int)) : o = some (i - a) ∧ a ≤ i := by
  cases o with
  | none =>
    have h : (-1 : Int) = (i : Int) := h
    omega
  | some n =>
    have h : ((a + n : Nat) : Int) = (i : Int) := h
    have : a + n = i := by omega
    exact ⟨by rw [← this]; simp, by omega⟩
theorem endZ_none {o : Option Nat} {a : Nat} (h : endZ o a = -1) : o = none := by
  cases o with
  | none => rfl
  | some n =>
    have h : ((a + n : Nat) : Int) = -1 := h
    omega
theorem pre_short (p l : List UInt8) (h : l.length < p.length) : List.isPrefixOf p l = false := by
  cases hp : List.isPrefixOf p l with
  | false => rfl
  | true => have := pre_len hp; omega

set_option maxRecDepth 100000 in
set_option maxHeartbeats 4000000 in
theorem rplain_calls (s : ByteArray) (a : Nat) (w : World) (ha : a ≤ s.size) (hs : s.size ≤ 4611686018427387900) :
    Calls Tryz.prog 65 #[.string s, .int .i64 a] w fun e w' => ∃ en x tr ok, e = .returned (actV en x tr false ok) ∧ Below w.heap.size w w' ∧ (∀ m, endL false (s.data.toList.drop a) = some m → en = a + m + 2 ∧ StrIs x (actText ((s.data.toList.drop a).take m)) ∧ tr = actTrims ((s.data.toList.drop a).take m) ∧ ok = true ∧ a + m + 2 ≤ s.size) ∧ (endL false (s.data.toList.drop a) = none → ok = false) := by
  obtain ⟨l, hl0⟩ : ∃ l, l = s.data.toList.drop a := ⟨_, rfl⟩
  have hll := congrArg List.length hl0
  rw [List.length_drop, size_list] at hll
  rw [← hl0]
  have HL := Lib.hid hl0
  have HLL := Lib.hid hll
  clear hl0 hll
  go_enter Tryz.func65, Tryz.ntmps65
  go_wp2
  go_loopg [5, 6, 17, 27, 34] (s.size + 1 - a) (fun gk v5 v6 _ _ _ wr => ∃ (j : Nat) (t : Bool), v5 = .bool t ∧ v6 = .int .i64 (a + j : Nat) ∧ a + j + gk = s.size + 1 ∧ Hid (endZ (endL t (l.drop j)) (a + j) = endZ (endL false l) a) ∧ w.alloc (.cells #[.int .i64 0, .string ⟨#[]⟩, .bool false, .bool false, .bool false] 122) = wr)
  case atStart => exact ⟨0, false, rfl, rfl, by omega, rfl, rfl⟩
  case round =>
    obtain ⟨j, t, rfl, rfl, hgk, hH, rfl⟩ := hrel
    have hj1 : a + j ≤ s.size + 1 := by omega
    have HGK := Lib.hid hgk
    clear hgk
    by_cases h : a + j < s.size
    · have hib : decide ((a : Int) + j < (s.size : Int)) = true := decide_eq_true (by omega)
      have hdc := at_drop HL.out (a + j) j rfl h
      obtain ⟨b, hb⟩ : ∃ b : UInt8, b = s[a + j]'h := ⟨_, rfl⟩
      have hbt : ∀ h', ((s[a + j]'h').toNat : Nat) = b.toNat := fun h' => by rw [hb]
      rw [← hb] at hdc
      have hlt := b.toNat_lt
      have hq : b = 34 ↔ b.toNat = 34 := ⟨fun h => by rw [h]; rfl, fun h => UInt8.toNat_inj.1 h⟩
      have hq2 : b = 92 ↔ b.toNat = 92 := ⟨fun h => by rw [h]; rfl, fun h => UInt8.toNat_inj.1 h⟩
      clear hb
      cases t with
      | true =>
        have hst := endL_true b (l.drop (j + 1)) (a + j)
        rw [← hdc, hH.out] at hst
        clear hdc hH
        by_cases h92 : b.toNat = 92
        · have h92b : ((b.toNat : Int) == 92) = true := beq_iff_eq.2 (by omega)
          rw [if_pos (hq2.2 h92), List.drop_drop] at hst
          have HST := Lib.hid hst
          clear hst hq hq2 h92
          go_wp2
          go_roundg (gk - 2)
          case measure => have := HGK.out; omega
          case rel => exact ⟨j + 2, true, rfl, by go_num, by have := HGK.out; omega, HST.out.symm, rfl⟩
        · have h92b : ((b.toNat : Int) == 92) = false := beq_eq_false_iff_ne.2 (by omega)
          rw [if_neg (fun h => h92 (hq2.1 h))] at hst
          by_cases h34 : b.toNat = 34
          · have h34b : ((b.toNat : Int) == 34) = true := beq_iff_eq.2 (by omega)
            rw [if_pos (hq.2 h34)] at hst
            have HST := Lib.hid hst
            clear hst hq hq2 h92 h34
            go_wp2
            go_roundg (gk - 1)
            case measure => have := HGK.out; omega
            case rel => exact ⟨j + 1, false, rfl, by go_num, by have := HGK.out; omega, HST.out.symm, rfl⟩
          · have h34b : ((b.toNat : Int) == 34) = false := beq_eq_false_iff_ne.2 (by omega)
            rw [if_neg (fun h => h34 (hq.1 h))] at hst
            have HST := Lib.hid hst
            clear hst hq hq2 h92 h34
            go_wp2
            go_roundg (gk - 1)
            case measure => have := HGK.out; omega
            case rel => exact ⟨j + 1, true, rfl, by go_num, by have := HGK.out; omega, HST.out.symm, rfl⟩
      | false =>
        have hst := endL_false b (l.drop (j + 1)) (a + j)
        rw [← hdc, hH.out] at hst
        by_cases h34 : b.toNat = 34
        · have h34b : ((b.toNat : Int) == 34) = true := beq_iff_eq.2 (by omega)
          have hnp : List.isPrefixOf [125, 125] (l.drop j) = false := by
            rw [hdc, hq.2 h34]
            simp [List.isPrefixOf]
          rw [hnp, if_neg (by simp), if_pos (hq.2 h34)] at hst
          have HST := Lib.hid hst
          clear hst hq hq2 h34 hnp hdc hH
          go_wp2
          go_roundg (gk - 1)
          case measure => have := HGK.out; omega
          case rel => exact ⟨j + 1, true, rfl, by go_num, by have := HGK.out; omega, HST.out.symm, rfl⟩
        · have h34b : ((b.toNat : Int) == 34) = false := beq_eq_false_iff_ne.2 (by omega)
          rw [if_neg (fun h => h34 (hq.1 h))] at hst
          clear hdc hH hq hq2 h34
          by_cases h2 : a + j + 1 < s.size
          · have h2b : decide ((a : Int) + j + 1 < (s.size : Int)) = true := decide_eq_true (by omega)
            have heq := slice2 s (a + j) 125 125 (by omega)
            rw [show s.data.toList.drop (a + j) = l.drop j by rw [HL.out, List.drop_drop]] at heq
            have hsl := fun W => slice_at s ((a : Int) + j) ((a : Int) + j + 2) (a + j) (a + j + 2) (by omega) (by omega) (by omega) (by omega) W
            cases hp : List.isPrefixOf [125, 125] (l.drop j) with
            | false =>
              rw [hp] at heq hst
              rw [if_neg (by simp)] at hst
              have HST := Lib.hid hst
              clear hst hp
              go_wp2
              go_roundg (gk - 1)
              case measure => have := HGK.out; omega
              case rel => exact ⟨j + 1, false, rfl, by go_num, by have := HGK.out; omega, HST.out.symm, rfl⟩
            | true =>
              rw [hp] at heq hst
              rw [if_pos rfl] at hst
              have hE := endZ_some hst
              rw [show a + j - a = j by omega] at hE
              have HE := Lib.hid hE.1
              clear hst hp hE
              have hsl2 := fun W => slice_at s (a : Int) ((a : Int) + j) a (a + j) (by omega) (by omega) (by omega) (by omega) W
              go_upto_region 11 with (fail)
              have ht : StrIs (s.extract a (a + j)) (l.take j) := by
                show _ = _
                rw [Lib.extract_data, HL.out, show a + j - a = j by omega]
              generalize s.extract a (a + j) = T at *
              obtain ⟨t, ht0⟩ : ∃ t, t = l.take j := ⟨_, rfl⟩
              have htl : t.length = j := by rw [ht0, List.length_take, HLL.out]; omega
              rw [← ht0] at ht
              have hTs : T.size = j := ht.size.trans htl
              have hT0 := getD_byte T (j - 1)
              have hT1 := getD_byte T (j - 2)
              rw [show T.data.toList = t from ht] at hT0 hT1
              have hat : actTrims t = (decide (2 ≤ j) && (t.getD (j - 1) 0).toNat == 45 && blk (t.getD (j - 2) 0).toNat) := by unfold actTrims; rw [htl]
              have l0 := (t.getD (j - 1) 0).toNat_lt
              have l1 := (t.getD (j - 2) 0).toNat_lt
              generalize (t.getD (j - 1) 0).toNat = ca at *
              generalize (t.getD (j - 2) 0).toNat = cb at *
              have HTS := Lib.hid hTs
              have HTL := Lib.hid htl
              have HT0 := Lib.hid ht0
              clear htl ht0 heq hsl hsl2 hbt h34b
              go_upto_region 12 with (fail)
              clear hTs
              go_cut [9] (fun v9 wx => v9 = .bool (actTrims t) ∧ w.alloc (.cells #[.int .i64 0, .string ⟨#[]⟩, .bool false, .bool false, .bool false] 122) = wx)
              case first =>
                by_cases hm2 : 2 ≤ j
                · have hmb : decide (2 ≤ (j : Int)) = true := decide_eq_true (by omega)
                  rw [show decide (2 ≤ j) = true from decide_eq_true hm2, Bool.true_and] at hat
                  have q1 : (j : Int) - 1 < (T.size : Int) := by rw [HTS.out]; omega
                  have q2 : (j : Int) - 2 < (T.size : Int) := by rw [HTS.out]; omega
                  by_cases hca : ca = 45
                  · have hcab : ((ca : Int) == 45) = true := beq_iff_eq.2 (by omega)
                    rw [show (ca == 45) = true from beq_iff_eq.2 hca, Bool.true_and] at hat
                    have HAT := Lib.hid hat
                    clear hat hca
                    go_wp2_with (go_at_call 62; refine (rblank_calls cb _ l1).mono ?_; rintro e w' ⟨rfl, rfl⟩)
                    go_meet
                    exact ⟨by rw [HAT.out], rfl⟩
                  · have hcab : ((ca : Int) == 45) = false := beq_eq_false_iff_ne.2 (by omega)
                    rw [show (ca == 45) = false from beq_eq_false_iff_ne.2 hca, Bool.false_and] at hat
                    have HAT := Lib.hid hat
                    clear hat hca
                    go_wp2_with (go_at_call 62; refine (rblank_calls cb _ l1).mono ?_; rintro e w' ⟨rfl, rfl⟩)
                    go_meet
                    exact ⟨by rw [HAT.out], rfl⟩
                · have hmb : decide (2 ≤ (j : Int)) = false := decide_eq_false (by omega)
                  rw [show decide (2 ≤ j) = false from decide_eq_false hm2, Bool.false_and, Bool.false_and] at hat
                  have HAT := Lib.hid hat
                  clear hat
                  go_wp2_with (go_at_call 62; refine (rblank_calls cb _ l1).mono ?_; rintro e w' ⟨rfl, rfl⟩)
                  go_meet
                  exact ⟨by rw [HAT.out], rfl⟩
              case rest =>
              obtain ⟨rfl, rfl⟩ := hcut
              have htx : actText t = trimR (trimL (if actTrims t = true then t.take (j - 1) else t)) := by unfold actText; rw [HTL.out]
              have hm1 : actTrims t = true → 2 ≤ j := fun h => by
                have h2 := hat.symm.trans h
                simp only [Bool.and_eq_true, decide_eq_true_eq] at h2
                exact h2.1.1
              clear hat hT0 hT1
              generalize hq : actTrims t = q at *
              go_upto_if 74 with (fail)
              go_cut [7] (fun v7 wx => ∃ T', v7 = .string T' ∧ StrIs T' (if q = true then t.take (j - 1) else t) ∧ w.alloc (.cells #[.int .i64 0, .string ⟨#[]⟩, .bool false, .bool false, .bool false] 122) = wx)
              case first =>
                cases q with
                | true =>
                  have hm2 := hm1 rfl
                  have k1 : 1 ≤ (j : Int) := by omega
                  have k2 : (j : Int) - 1 ≤ (T.size : Int) := by rw [HTS.out]; omega
                  go_wp2
                  go_meet
                  refine ⟨_, rfl, ?_, rfl⟩
                  show _ = _
                  rw [Lib.extract_data, show T.data.toList = t from ht]
                  simp
                | false =>
                  go_wp2
                  go_meet
                  exact ⟨_, rfl, ht, rfl⟩
              case rest =>
              obtain ⟨T', rfl, hT', rfl⟩ := hcut
              have hTS' : T'.size ≤ j := by
                rw [hT'.size]
                split
                · rw [List.length_take, HTL.out]; omega
                · rw [HTL.out]; omega
              go_wp2_with fail
              refine (rleft_calls T' _ hT' _ (by omega)).mono ?_
              rintro e w2 ⟨r2, rfl, hr2, rfl⟩
              have hr2s : r2.size ≤ j := by rw [hr2.size]; exact Nat.le_trans (trimL_len _) (by rw [← hT'.size]; exact hTS')
              go_wp2_with fail
              refine (rright_calls r2 _ hr2 _ (by omega)).mono ?_
              rintro e w2 ⟨r3, rfl, hr3, rfl⟩
              go_wp2
              refine bodyPost_ret (v := actV (a + j + 2) r3 q false true) (by simp [results, Tryz.results65, go_sem, actV]) rfl ?_
              refine ⟨a + j + 2, r3, q, true, rfl, ((Below.refl _ w).alloc (Nat.le_refl _) _), fun m h => ?_, fun h => ?_⟩
              · rw [HE.out] at h
                cases h
                refine ⟨rfl, ?_, by rw [← HT0.out, hq], rfl, by omega⟩
                rw [← HT0.out, htx]
                exact hr3
              · rw [HE.out] at h
                cases h
          · have h2b : decide ((a : Int) + j + 1 < (s.size : Int)) = false := decide_eq_false (by omega)
            have hp := pre_short [125, 125] (l.drop j) (by rw [List.length_drop, HLL.out]; simp only [List.length_cons, List.length_nil]; omega)
            rw [hp, if_neg (by simp)] at hst
            have HST := Lib.hid hst
            clear hst hp
            go_wp2
            go_roundg (gk - 1)
            case measure => have := HGK.out; omega
            case rel => exact ⟨j + 1, false, rfl, by go_num, by have := HGK.out; omega, HST.out.symm, rfl⟩
    · have hib : decide ((a : Int) + j < (s.size : Int)) = false := decide_eq_false (by omega)
      have hn : l.drop j = [] := List.drop_eq_nil_of_le (by rw [HLL.out]; omega)
      have hE := hH.out
      rw [hn, show endL t [] = none by cases t <;> rfl] at hE
      have HE := Lib.hid (endZ_none hE.symm)
      clear hn hE hH
      go_wp2
      refine bodyPost_ret (v := actV 0 ⟨#[]⟩ false false false) (by simp [results, Tryz.results65, go_sem, actV]) rfl ?_
      exact ⟨0, ⟨#[]⟩, false, false, rfl, ((Below.refl _ w).alloc (Nat.le_refl _) _), fun n h => (by rw [HE.out] at h; cases h), fun _ => rfl⟩
end Go.Proofs.YtdaffedbboofjaaGreatDoor.S

/-
  THE WALK of package lex's Split.
-/
set_option linter.unusedVariables false
set_option linter.unusedSimpArgs false
namespace Go.Proofs.YtdaffedbboofjaaGreatDoor.S
open Go.RowKit

/-- P13.1: its limits -/
def longP (ps : List Pc) : Bool := ps.any fun p => p.act && decide (256 < p.text.length)
def splitR (l : List UInt8) : List Pc × Nat :=
  if 65536 < l.length then ([], 1301) else match splitL l with
    | none => ([], 1300)
    | some ps => if longP ps = true then ([], 1301) else if 1024 < ps.length then ([], 1302) else (ps, 0)
theorem flat_get : ∀ (ps : List Pc) (k : Nat) (h : k < ps.length) (r : Nat), r < 3 → (ps.flatMap pcCells)[k * 3 + r]? = (pcCells ps[k])[r]?
  | p :: ps, 0, _, r, hr => by
    rw [List.flatMap_cons, Nat.zero_mul, Nat.zero_add, List.getElem?_append_left (by simpa [pcCells] using hr)]
    rfl
  | p :: ps, k + 1, h, r, hr => by
    rw [List.flatMap_cons, List.getElem?_append_right (by simp [pcCells]; omega)]
    have e : (k + 1) * 3 + r - (pcCells p).length = k * 3 + r := by simp [pcCells]; omega
    rw [e, flat_get ps k (by simpa using h) r hr]
    rfl
theorem Pcs.form {base : Nat} {v : Value} {ps : List Pc} {w : World} (h : Pcs base v ps w) (hn : 0 < ps.length) : ∃ b cap, v = .slice (some ⟨b, 0, none⟩) ps.length cap ∧ base ≤ b ∧ ps.length ≤ cap := by
  rcases h.2 with ⟨rfl, h0⟩ | ⟨g, cap, cur, rfl, hb, _, hc, _⟩
  · omega
  · exact ⟨g, cap, rfl, hb, hc⟩
theorem Pcs.len_le {base : Nat} {v : Value} {ps : List Pc} {w : World} (h : Pcs base v ps w) : ps.length ≤ 9223372036854775807 := by
  rcases h.2 with ⟨rfl, h0⟩ | ⟨g, cap, cur, rfl, hb, _, hc, hm, _⟩
  · omega
  · simp only [maxLen] at hm; omega
theorem Pcs.at {base b cap : Nat} {ps : List Pc} {w : World} (h : Pcs base (.slice (some ⟨b, 0, none⟩) ps.length cap) ps w) (k : Nat) (hk : k < ps.length) :
    w.cell? ⟨b, k * 3, none⟩ = some (.bool ps[k].act) ∧ w.cell? ⟨b, k * 3 + 1, none⟩ = some (.string ⟨ps[k].text.toArray⟩) ∧ w.cell? ⟨b, k * 3 + 2, none⟩ = some (.int .i64 ps[k].pos) :=
  ⟨(World.ownsRow.cellAt h (k * 3 + 0) (by omega)).trans (flat_get ps k hk 0 (by omega)), (World.ownsRow.cellAt h (k * 3 + 1) (by omega)).trans (flat_get ps k hk 1 (by omega)), (World.ownsRow.cellAt h (k * 3 + 2) (by omega)).trans (flat_get ps k hk 2 (by omega))⟩

set_option maxRecDepth 100000 in
set_option maxHeartbeats 4000000 in
theorem lexSplit_calls (s : ByteArray) (w : World) (hE : Env w) (hs : s.size ≤ 1073741824) :
    Calls Tryz.prog 30 #[.string s] w fun e w' => ∃ v ps n, e = .returned (.tuple #[v, .int .i64 (n : Nat)]) ∧ Pcs w.heap.size v ps w' ∧ Below w.heap.size w w' ∧ splitR s.data.toList = (ps, n) := by
  by_cases h : 65536 < s.size
  · have hr : splitR s.data.toList = ([], 1301) := if_pos h
    go_enter Tryz.func30, Tryz.ntmps30
    go_wp2
    go_ret2
    exact ⟨_, [], 1301, rfl, pcs_nil _ _, Below.refl _ _, hr⟩
  · have hr : splitR s.data.toList = match splitL s.data.toList with
      | none => ([], 1300)
      | some ps => if longP ps = true then ([], 1301) else if 1024 < ps.length then ([], 1302) else (ps, 0) := if_neg h
    have HR := Lib.hid hr
    clear hr
    go_enter Tryz.func30, Tryz.ntmps30
    go_wp2_with fail
    refine (lines_calls s _ hE (by omega)).mono ?_
    rintro e w1 ⟨t, rfl, ht, hb1⟩
    have hts : t.size ≤ 65536 := by rw [ht.size]; exact Nat.le_trans (linesL_len _) (by rw [size_list]; omega)
    have hE1 := (hE.below hb1).at
    have hsp : splitL s.data.toList = splitF t.size t.data.toList 0 false := by
      unfold splitL
      rw [← show t.data.toList = linesL s.data.toList from ht]
      rfl
    go_wp2_with fail
    have hB : CurB w1.heap.size t 0 false (.slice none 0 0) (w1.alloc (.cells #[.string t, .int .i64 0, .bool false, .slice none 0 0] 110)) := Blk.new w1 _ _
    have hC : Cur w1.heap.size t 0 false [] (w1.alloc (.cells #[.string t, .int .i64 0, .bool false, .slice none 0 0] 110)) := ⟨_, hB, pcs_nil _ _⟩
    have hbn : Below w1.heap.size w1 (w1.alloc (.cells #[.string t, .int .i64 0, .bool false, .slice none 0 0] 110)) := (Below.refl _ w1).alloc (Nat.le_refl _) _
    have hE2 := hE1.below hbn
    generalize w1.alloc (.cells #[.string t, .int .i64 0, .bool false, .slice none 0 0] 110) = w2 at *
    refine (split_calls w1.heap.size t _ hE2 hC hts).mono ?_
    rw [← hsp]
    rintro e w3 ⟨b, rfl, hb3, hso, hno⟩
    have hb13 := (hbn.trans hb3)
    have hbw := hb1.trans (hb13.mono hb1.size)
    cases hq : splitL s.data.toList with
    | none =>
      obtain rfl := hno hq
      have hr := HR.out
      rw [hq] at hr
      have HR2 := Lib.hid hr
      clear hr
      go_wp2
      go_ret2
      exact ⟨_, [], 1300, rfl, pcs_nil _ _, hbw, HR2.out⟩
    | some ps =>
      obtain ⟨rfl, i, tr, hC3⟩ := hso ps hq
      have hr := HR.out
      rw [hq] at hr
      have HR2 := Lib.hid hr
      clear hr hso hno hsp hq
      obtain ⟨v, hB3, hP3⟩ := hC3
      obtain ⟨sa, sc, rfl, hcap⟩ := own_slice hP3
      have c3 := hB3.cell 3 _ rfl
      go_wp2
      clear c3
      go_loopg [6, 22] ps.length (fun gk _ v22 wr => ∃ k : Nat, k + gk = ps.length ∧ v22 = .int .i64 k ∧ Hid (longP (ps.take k) = false) ∧ Below w3.heap.size w3 wr)
      case atStart => exact ⟨0, by omega, rfl, rfl, Below.refl _ _⟩
      case round =>
        obtain ⟨k, hkg, rfl, hlp, hbr⟩ := hrel
        have HKG := Lib.hid hkg
        have hkl : k ≤ ps.length := by omega
        clear hkg
        have hPr := own_below hP3 hbr
        have hBr := hB3.below hbr
        have c3 := hBr.cell 3 _ rfl
        have hpsl := hP3.len_le
        by_cases hk : k < ps.length
        · obtain ⟨b, cap, hv, hbb, hcc⟩ := hP3.form (by omega)
          obtain ⟨rfl, -, rfl⟩ := Value.slice.inj hv
          obtain ⟨d0, d1, d2⟩ := Pcs.at hPr k hk
          have hsz : (⟨ps[k].text.toArray⟩ : ByteArray).size = ps[k].text.length := rfl
          have hst : longP (ps.take (k + 1)) = (longP (ps.take k) || (ps[k].act && decide (256 < ps[k].text.length))) := by
            unfold longP
            rw [List.take_succ_eq_append_getElem hk, List.any_append]
            simp
          rw [hlp.out, Bool.false_or] at hst
          have hmem : (ps[k].act && decide (256 < ps[k].text.length)) = true → longP ps = true := fun h => List.any_eq_true.2 ⟨ps[k], List.getElem_mem hk, h⟩
          generalize (⟨ps[k].text.toArray⟩ : ByteArray) = tx at *
          generalize ps[k].text.length = tn at *
          generalize ps[k].act = ta at *
          generalize ps[k].pos = tp at *
          have HST := Lib.hid hst
          have HM := Lib.hid hmem
          clear hst hmem hv
          cases ta with
          | true =>
            by_cases h256 : 256 < tn
            · have h256b : decide (256 < (tn : Int)) = true := decide_eq_true (by omega)
              have hlong : longP ps = true := HM.out (by simpa using h256)
              have HLG := Lib.hid hlong
              clear hlong
              go_wp2
              go_ret2
              exact ⟨_, [], 1301, rfl, pcs_nil _ _, hbw.trans ((hbr.alloc hbr.size _).mono hbw.size), HR2.out.trans (if_pos HLG.out)⟩
            · have h256b : decide (256 < (tn : Int)) = false := decide_eq_false (by omega)
              have H256 := Lib.hid h256
              clear h256
              go_wp2
              go_roundg (gk - 1)
              case measure => have := HKG.out; omega
              case rel => exact ⟨k + 1, by have := HKG.out; omega, by go_num, (by have := H256.out; show _ = _; rw [HST.out]; simpa using this), hbr.alloc hbr.size _⟩
          | false =>
            go_wp2
            go_roundg (gk - 1)
            case measure => have := HKG.out; omega
            case rel => exact ⟨k + 1, by have := HKG.out; omega, by go_num, (by show _ = _; rw [HST.out]; rfl), hbr.alloc hbr.size _⟩
        · obtain rfl : k = ps.length := by omega
          have hl := hlp.out
          rw [List.take_length] at hl
          have hr := HR2.out
          rw [hl, if_neg (by simp)] at hr
          by_cases hm : 1024 < ps.length
          · have hmb : decide (1024 < (ps.length : Int)) = true := decide_eq_true (by omega)
            rw [if_pos hm] at hr
            have HR3 := Lib.hid hr
            clear hr hm
            go_wp2
            go_ret2
            exact ⟨_, [], 1302, rfl, pcs_nil _ _, hbw.trans (hbr.mono hbw.size), HR3.out⟩
          · have hmb : decide (1024 < (ps.length : Int)) = false := decide_eq_false (by omega)
            rw [if_neg hm] at hr
            have HR3 := Lib.hid hr
            clear hr hm
            go_wp2
            go_ret2
            exact ⟨_, ps, 0, rfl, World.ownsRow.mono hPr (by have := hb1.size; omega), hbw.trans (hbr.mono hbw.size), HR3.out⟩
end Go.Proofs.YtdaffedbboofjaaGreatDoor.S

/-
  THE WALKS of the reference's limits, Split.
-/
set_option linter.unusedVariables false
set_option linter.unusedSimpArgs false
namespace Go.Proofs.YtdaffedbboofjaaGreatDoor.S
open Go.RowKit

def limR (ps : List Pc) : List Pc × Nat := if longP ps = true then ([], 1301) else if 1024 < ps.length then ([], 1302) else (ps, 0)

set_option maxRecDepth 100000 in
set_option maxHeartbeats 4000000 in
theorem limits_calls (base : Nat) (v : Value) (ps : List Pc) (w : World) (hP : Pcs base v ps w) :
    Calls Tryz.prog 66 #[v] w fun e w' => ∃ v' qs n, e = .returned (.tuple #[v', .int .i64 (n : Nat)]) ∧ w = w' ∧ Pcs base v' qs w' ∧ limR ps = (qs, n) := by
  obtain ⟨sa, sc, rfl, hcap⟩ := own_slice hP
  have hpsl := hP.len_le
  have hr : limR ps = if longP ps = true then ([], 1301) else if 1024 < ps.length then ([], 1302) else (ps, 0) := rfl
  have HR2 := Lib.hid hr
  clear hr
  go_enter Tryz.func66, Tryz.ntmps66
  go_wp2
  go_loopg [4] ps.length (fun gk v4 wr => ∃ k : Nat, k + gk = ps.length ∧ v4 = .int .i64 k ∧ Hid (longP (ps.take k) = false) ∧ w = wr)
  case atStart => exact ⟨0, by omega, rfl, rfl, rfl⟩
  case round =>
    obtain ⟨k, hkg, rfl, hlp, rfl⟩ := hrel
    have HKG := Lib.hid hkg
    have hkl : k ≤ ps.length := by omega
    clear hkg
    by_cases hk : k < ps.length
    · obtain ⟨b, cap, hv, hbb, hcc⟩ := hP.form (by omega)
      obtain ⟨rfl, -, rfl⟩ := Value.slice.inj hv
      obtain ⟨d0, d1, d2⟩ := Pcs.at hP k hk
      have hsz : (⟨ps[k].text.toArray⟩ : ByteArray).size = ps[k].text.length := rfl
      have hst : longP (ps.take (k + 1)) = (longP (ps.take k) || (ps[k].act && decide (256 < ps[k].text.length))) := by
        unfold longP
        rw [List.take_succ_eq_append_getElem hk, List.any_append]
        simp
      rw [hlp.out, Bool.false_or] at hst
      have hmem : (ps[k].act && decide (256 < ps[k].text.length)) = true → longP ps = true := fun h => List.any_eq_true.2 ⟨ps[k], List.getElem_mem hk, h⟩
      generalize (⟨ps[k].text.toArray⟩ : ByteArray) = tx at *
      generalize ps[k].text.length = tn at *
      generalize ps[k].act = ta at *
      generalize ps[k].pos = tp at *
      have HST := Lib.hid hst
      have HM := Lib.hid hmem
      clear hst hmem hv
      cases ta with
      | true =>
        by_cases h256 : 256 < tn
        · have h256b : decide (256 < (tn : Int)) = true := decide_eq_true (by omega)
          have hlong : longP ps = true := HM.out (by simpa using h256)
          have HLG := Lib.hid hlong
          clear hlong
          go_wp2
          go_ret2
          exact ⟨_, [], 1301, rfl, rfl, pcs_nil _ _, HR2.out.trans (if_pos HLG.out)⟩
        · have h256b : decide (256 < (tn : Int)) = false := decide_eq_false (by omega)
          have H256 := Lib.hid h256
          clear h256
          go_wp2
          go_roundg (gk - 1)
          case measure => have := HKG.out; omega
          case rel => exact ⟨k + 1, by have := HKG.out; omega, by go_num, (by have := H256.out; show _ = _; rw [HST.out]; simpa using this), rfl⟩
      | false =>
        go_wp2
        go_roundg (gk - 1)
        case measure => have := HKG.out; omega
        case rel => exact ⟨k + 1, by have := HKG.out; omega, by go_num, (by show _ = _; rw [HST.out]; rfl), rfl⟩
    · obtain rfl : k = ps.length := by omega
      have hl := hlp.out
      rw [List.take_length] at hl
      have hr := HR2.out
      rw [hl, if_neg (by simp)] at hr
      by_cases hm : 1024 < ps.length
      · have hmb : decide (1024 < (ps.length : Int)) = true := decide_eq_true (by omega)
        rw [if_pos hm] at hr
        have HR3 := Lib.hid hr
        clear hr hm
        go_wp2
        go_ret2
        exact ⟨_, [], 1302, rfl, rfl, pcs_nil _ _, HR3.out⟩
      · have hmb : decide (1024 < (ps.length : Int)) = false := decide_eq_false (by omega)
        rw [if_neg hm] at hr
        have HR3 := Lib.hid hr
        clear hr hm
        go_wp2
        go_ret2
        exact ⟨_, ps, 0, rfl, rfl, hP, HR3.out⟩
end Go.Proofs.YtdaffedbboofjaaGreatDoor.S

/-
  THE PLAIN LAWS of chapter 13's texts put together.
-/
set_option linter.unusedVariables false
set_option linter.unusedSimpArgs false
namespace Go.Proofs.YtdaffedbboofjaaGreatDoor.S
open Go.RowKit

theorem linesL_append (a : List UInt8) (b : UInt8) (r : List UInt8) (hb : b ≠ 10) : linesL (a ++ b :: r) = linesL a ++ linesL (b :: r) := by
  match a with
  | [] => rfl
  | [c] =>
    by_cases hc : c = 13
    · subst hc
      show linesL (13 :: (b :: r)) = _
      rw [linesL_cons13, show List.isPrefixOf [10] (b :: r) = false by simp [List.isPrefixOf, Ne.symm hb]]
      rfl
    · show linesL (c :: (b :: r)) = linesL [c] ++ _
      rw [linesL_cons c hc, linesL_cons c hc]
      rfl
  | c :: d :: x =>
    by_cases hc : c = 13
    · subst hc
      by_cases hd : d = 10
      · subst hd
        show 10 :: linesL (x ++ b :: r) = 10 :: linesL x ++ _
        rw [linesL_append x b r hb]; rfl
      · have h1 : ∀ z, linesL (13 :: d :: z) = 10 :: linesL (d :: z) := fun z => by
          rw [linesL_cons13, show List.isPrefixOf [10] (d :: z) = false by simp [List.isPrefixOf, Ne.symm hd]]
          rfl
        show linesL (13 :: d :: (x ++ b :: r)) = _
        rw [h1, h1, show d :: (x ++ b :: r) = (d :: x) ++ b :: r from rfl, linesL_append (d :: x) b r hb]
        rfl
    · show linesL (c :: ((d :: x) ++ b :: r)) = _
      rw [linesL_cons c hc, linesL_cons c hc, linesL_append (d :: x) b r hb]
      rfl
termination_by a.length
theorem linesL_id : ∀ l : List UInt8, (∀ b ∈ l, b ≠ 13) → linesL l = l
  | [], _ => rfl
  | c :: x, h => by
    rw [linesL_cons c (h c (by simp)), linesL_id x fun b hb => h b (by simp [hb])]
theorem linesL_free (z : UInt8) (hz : z ≠ 10) : ∀ l : List UInt8, (∀ b ∈ l, b ≠ z) → ∀ b ∈ linesL l, b ≠ z
  | [], _, b, hb => by cases hb
  | c :: x, h, b, hb => by
    by_cases hc : c = 13
    · subst hc
      rw [linesL_cons13] at hb
      rcases List.mem_cons.1 hb with rfl | hb
      · exact Ne.symm hz
      · split at hb
        · exact linesL_free z hz (x.drop 1) (fun b hb => h b (List.mem_cons_of_mem _ (List.mem_of_mem_drop hb))) b hb
        · exact linesL_free z hz x (fun b hb => h b (List.mem_cons_of_mem _ hb)) b hb
    · rw [linesL_cons c hc] at hb
      rcases List.mem_cons.1 hb with rfl | hb
      · exact h _ (by simp)
      · exact linesL_free z hz x (fun b hb => h b (List.mem_cons_of_mem _ hb)) b hb
termination_by l => l.length
decreasing_by all_goals (simp; try omega)

/-- no opening where its first sign does not stand -/
theorem hasI_free (p : List UInt8) (z : UInt8) : ∀ l : List UInt8, (∀ b ∈ l, b ≠ z) → hasI (z :: p) l = false
  | [], _ => rfl
  | b :: r, h => by
    have hb : b ≠ z := h b (by simp)
    rw [hasI_cons, hasI_free p z r fun c hc => h c (by simp [hc])]
    simp [List.isPrefixOf, Ne.symm hb]
/-- the first opening stands behind what has none -/
theorem hasI_behind (p : List UInt8) (z : UInt8) (r : List UInt8) : ∀ a : List UInt8, (∀ b ∈ a, b ≠ z) → List.isPrefixOf (z :: p) r = true → r ≠ [] → hasI (z :: p) (a ++ r) = true ∧ cutI (z :: p) (a ++ r) = a.length
  | [], _, hp, hr => by
    match r with
    | [] => exact absurd rfl hr
    | c :: x => exact ⟨by rw [List.nil_append, hasI_cons, hp, Bool.true_or], by rw [List.nil_append, cutI_cons, hp]; rfl⟩
  | b :: a, h, hp, hr => by
    have hb : b ≠ z := h b (by simp)
    obtain ⟨h1, h2⟩ := hasI_behind p z r a (fun c hc => h c (by simp [hc])) hp hr
    have : List.isPrefixOf (z :: p) (b :: (a ++ r)) = false := by simp [List.isPrefixOf, Ne.symm hb]
    exact ⟨by rw [List.cons_append, hasI_cons, h1, Bool.or_true], by rw [List.cons_append, cutI_cons, this, h2]; simp⟩
/-- a source without an opening is one text -/
theorem splitR_plain (l : List UInt8) (hl : l.length ≤ 65536) (h : ∀ b ∈ l, b ≠ 123) : splitR l = (txtP (linesL l) 0, 0) := by
  have hf := linesL_free 123 (by decide) l h
  have hh := hasI_free [123] 123 (linesL l) hf
  have hs : splitL l = some (txtP (linesL l) 0) := by
    unfold splitL
    cases hx : linesL l with
    | nil => rw [splitF_nil]; rfl
    | cons b r =>
      rw [hx] at hh
      rw [show (b :: r).length = r.length + 1 from rfl, splitF_none 0 false (by simp) hh, textT_none _ _ hh]
      congr 2
      rw [headT_cut, cutI_none _ _ hh]
      simp
  unfold splitR
  rw [if_neg (by omega), hs]
  dsimp only
  have h1 : longP (txtP (linesL l) 0) = false := by unfold txtP longP; split <;> simp
  have h2 : (txtP (linesL l) 0).length ≤ 1 := txtP_len _ _
  rw [h1, if_neg (by simp), if_neg (by omega)]
/-- a comment is nothing -/
theorem splitR_comment (c : List UInt8) (hl : c.length ≤ 65000) (h : ∀ b ∈ c, b ≠ 42) : splitR ([123, 123, 47, 42] ++ c ++ [42, 47, 125, 125]) = ([], 0) := by
  have hx : linesL ([123, 123, 47, 42] ++ c ++ [42, 47, 125, 125]) = 123 :: 123 :: 47 :: 42 :: (linesL c ++ [42, 47, 125, 125]) := by
    rw [linesL_append _ 42 [47, 125, 125] (by decide)]
    show linesL (123 :: 123 :: 47 :: 42 :: c) ++ _ = _
    rw [linesL_cons _ (by decide), linesL_cons _ (by decide), linesL_cons _ (by decide), linesL_cons _ (by decide)]
    rfl
  have hf := linesL_free 42 (by decide) c h
  obtain ⟨g1, g2⟩ := hasI_behind [47] 42 [42, 47, 125, 125] (linesL c) hf (by decide) (by simp)
  generalize linesL c = d at *
  have hcm : comL (d ++ [42, 47, 125, 125]) = some (d.length + 2 + 2, false) := by
    rw [comL_has g1, g2]
    have e1 : (d ++ [42, 47, 125, 125]).drop (d.length + 2) = ([125, 125] : List UInt8) := by simp [List.drop_append]
    dsimp only
    rw [e1, show blkN [125, 125] = 0 from by decide]
    simp only [Nat.lt_irrefl, decide_false, Bool.false_and, Bool.false_eq_true, if_false, Nat.add_zero, e1]
    rfl
  have hs : splitL ([123, 123, 47, 42] ++ c ++ [42, 47, 125, 125]) = some [] := by
    unfold splitL
    rw [hx]
    have hh : hasI [123, 123] (123 :: 123 :: 47 :: 42 :: (d ++ [42, 47, 125, 125])) = true := by rw [hasI_cons]; rfl
    have hcu : cutI [123, 123] (123 :: 123 :: 47 :: 42 :: (d ++ [42, 47, 125, 125])) = 0 := by rw [cutI_cons]; rfl
    have hm : ∀ z, markL (47 :: 42 :: z) = false := fun z => rfl
    have hop : openN (123 :: 123 :: 47 :: 42 :: (d ++ [42, 47, 125, 125])) = 2 := by
      unfold openN
      rw [hcu]
      simp only [Nat.zero_add, List.drop_succ_cons, List.drop_zero, hm, Bool.false_eq_true, if_false]
      rw [blkN_cons]
      rfl
    have htx : textT (123 :: 123 :: 47 :: 42 :: (d ++ [42, 47, 125, 125])) false = [] := by
      rw [textT_cut _ _ hh, headT_cut, hcu]
      simp [hm]
    generalize hn : (123 :: 123 :: 47 :: 42 :: (d ++ [42, 47, 125, 125])).length = n
    obtain ⟨m, rfl⟩ : ∃ m, n = m + 1 := ⟨n - 1, by simp at hn; omega⟩
    rw [splitF_some 0 false hh, hop, htx]
    simp only [List.drop_succ_cons, List.drop_zero]
    rw [if_pos (by rfl), hcm]
    dsimp only
    rw [List.drop_eq_nil_of_le (by simp; omega), splitF_nil]
    rfl
  unfold splitR
  rw [if_neg (by simp; omega), hs]
  rfl
end Go.Proofs.YtdaffedbboofjaaGreatDoor.S

/-
  THE PLAIN LAWS of chapter 13's actions put together.
-/
set_option linter.unusedVariables false
set_option linter.unusedSimpArgs false
namespace Go.Proofs.YtdaffedbboofjaaGreatDoor.S
open Go.RowKit

theorem trimR_blanks : ∀ a : List UInt8, (∀ x ∈ a, blk x.toNat = true) → trimR a = []
  | [], _ => rfl
  | b :: r, h => by
    rw [trimR_cons, trimR_blanks r fun x hx => h x (by simp [hx])]
    simp [h b (by simp)]
theorem trimR_stop (b : UInt8) (r : List UInt8) (hb : blk b.toNat = false) : trimR (b :: r) = b :: trimR r := by
  rw [trimR_cons]
  simp [hb]
theorem trimR_free : ∀ a : List UInt8, (∀ x ∈ a, blk x.toNat = false) → trimR a = a
  | [], _ => rfl
  | b :: r, h => by rw [trimR_stop b r (h b (by simp)), trimR_free r fun x hx => h x (by simp [hx])]
theorem trimR_tail (z : UInt8) (hz : blk z.toNat = true) : ∀ a : List UInt8, (∀ x ∈ a, blk x.toNat = false) → trimR (a ++ [z]) = a
  | [], _ => by show trimR [z] = []; rw [trimR_cons]; simp [trimR, hz]
  | b :: r, h => by rw [List.cons_append, trimR_stop _ _ (h b (by simp)), trimR_tail z hz r fun x hx => h x (by simp [hx])]
theorem trimL_stop (b : UInt8) (r : List UInt8) (hb : blk b.toNat = false) : trimL (b :: r) = b :: r := by
  rw [trimL_cons]
  simp [hb]
theorem trimL_blanks (b : UInt8) (r : List UInt8) (hb : blk b.toNat = false) : ∀ a : List UInt8, (∀ x ∈ a, blk x.toNat = true) → trimL (a ++ b :: r) = b :: r
  | [], _ => trimL_stop b r hb
  | c :: a, h => by
    rw [List.cons_append, trimL_cons, trimL_blanks b r hb a fun x hx => h x (by simp [hx])]
    simp [h c (by simp)]
theorem actTrims_free (t : List UInt8) (h : ∀ b ∈ t, b ≠ 45) : actTrims t = false := by
  unfold actTrims
  by_cases hl : 2 ≤ t.length
  · have hm : t.getD (t.length - 1) 0 ∈ t := by
      rw [List.getD_eq_getElem?_getD, List.getElem?_eq_getElem (by omega)]
      exact List.getElem_mem _
    have := h _ hm
    have h2 : ((t.getD (t.length - 1) 0).toNat == 45) = false := by
      rw [beq_eq_false_iff_ne]
      intro e
      exact this (UInt8.toNat_inj.1 e)
    rw [h2, Bool.and_false, Bool.false_and]
  · rw [decide_eq_false hl, Bool.false_and, Bool.false_and]
theorem actText_free (t : List UInt8) (h : ∀ b ∈ t, b ≠ 45) : actText t = trimR (trimL t) := by
  unfold actText
  rw [actTrims_free t h]
  simp
theorem endL_free (z : List UInt8) : ∀ a : List UInt8, (∀ x ∈ a, x ≠ 125 ∧ x ≠ 34) → endL false (a ++ 125 :: 125 :: z) = some a.length
  | [], _ => rfl
  | b :: r, h => by
    obtain ⟨h1, h2⟩ := h b (by simp)
    rw [List.cons_append]
    show (if List.isPrefixOf [125, 125] (b :: (r ++ 125 :: 125 :: z)) = true then some 0 else if b = 34 then _ else (endL false (r ++ 125 :: 125 :: z)).map (· + 1)) = _
    rw [if_neg (by simp [List.isPrefixOf, Ne.symm h1]), if_neg h2, endL_free z r fun x hx => h x (by simp [hx])]
    rfl
/-- one text and one action of a source -/
theorem split_step (t r : List UInt8) (n i : Nat) (tr : Bool) (ht : ∀ b ∈ t, b ≠ 123) (m q e : Nat) (hm : markN r = m) (hq : blkN (r.drop m) = q)
    (hp : List.isPrefixOf [47, 42] ((r.drop m).drop q) = false) (he : endL false ((r.drop m).drop q) = some e) :
    splitF (n + 1) (t ++ 123 :: 123 :: r) i tr = (splitF n (((r.drop m).drop q).drop (e + 2)) (i + (t.length + 2 + m + q + e + 2)) (actTrims (((r.drop m).drop q).take e))).map
      (txtP (if markL r = true then trimR (if tr = true then trimL t else t) else (if tr = true then trimL t else t)) i ++ [⟨true, actText (((r.drop m).drop q).take e), i + t.length⟩] ++ ·) := by
  obtain ⟨h1, h2⟩ := hasI_behind [123] 123 (123 :: 123 :: r) t ht (by rfl) (by simp)
  have hd : (t ++ 123 :: 123 :: r).drop (t.length + 2) = r := by simp [List.drop_append]
  have hk : (t ++ 123 :: 123 :: r).take t.length = t := by simp
  have hop : openN (t ++ 123 :: 123 :: r) = t.length + 2 + m + q := by
    rw [openN_text h1, textN_some h1, h2, hd, hm, ← List.drop_drop, hd, hq]
  have hdo : (t ++ 123 :: 123 :: r).drop (t.length + 2 + m + q) = (r.drop m).drop q := by
    rw [← List.drop_drop, ← List.drop_drop, hd]
  have hdo2 : (t ++ 123 :: 123 :: r).drop (t.length + 2 + m + q + e + 2) = ((r.drop m).drop q).drop (e + 2) := by
    rw [← hdo, List.drop_drop]; congr 1
  have htx : textT (t ++ 123 :: 123 :: r) tr = if markL r = true then trimR (if tr = true then trimL t else t) else (if tr = true then trimL t else t) := by
    rw [textT_cut _ _ h1, headT_cut, h2, hd, hk]
  rw [splitF_some i tr h1, hop, hdo, hp, if_neg (by simp), he, htx, h2]
  dsimp only
  rw [hdo2]
theorem splitF_end (n i : Nat) (tr : Bool) (l : List UInt8) (h : ∀ b ∈ l, b ≠ 123) : splitF (n + 1) l i tr = some (txtP (if tr = true then trimL l else l) i) := by
  cases l with
  | nil => rw [splitF_nil]; cases tr <;> rfl
  | cons b r =>
    have hh := hasI_free [123] 123 (b :: r) h
    rw [splitF_none i tr (by simp) hh, textT_none _ _ hh, headT_cut, cutI_none _ _ hh]
    simp
theorem txtP_of {t : List UInt8} (h : t ≠ []) (i : Nat) : txtP t i = [⟨false, t, i⟩] := if_neg h
theorem blk_of (x : UInt8) (h : blk x.toNat = true) : x ≠ 123 ∧ x ≠ 13 := by
  constructor <;> (rintro rfl; revert h; decide)
/-- trim marks -/
theorem splitR_trims (a b : List UInt8) (ha : ∀ x ∈ a, blk x.toNat = true) (hb : ∀ x ∈ b, blk x.toNat = true) (hal : a.length ≤ 1000) (hbl : b.length ≤ 1000) (left right : Bool) :
    ∃ p, splitR ((117 :: a) ++ (if left = true then [123, 123, 45, 32] else [123, 123]) ++ [46, 122] ++ (if right = true then [32, 45, 125, 125] else [125, 125]) ++ b ++ [118])
      = ([⟨false, if left = true then [117] else 117 :: a, 0⟩, ⟨true, [46, 122], 1 + a.length⟩, ⟨false, if right = true then [118] else b ++ [118], p⟩], 0) := by
  obtain ⟨l, hl⟩ : ∃ l, l = (117 :: a) ++ (if left = true then [123, 123, 45, 32] else [123, 123]) ++ [46, 122] ++ (if right = true then [32, 45, 125, 125] else [125, 125]) ++ b ++ [118] := ⟨_, rfl⟩
  have hid : linesL l = l := by
    apply linesL_id
    rw [hl]
    intro x hx
    simp only [List.mem_append, List.mem_cons, List.not_mem_nil, or_false] at hx
    rcases hx with ((((hx | hx) | hx) | hx) | hx) | hx
    · rcases hx with rfl | hx
      · decide
      · exact (blk_of x (ha x hx)).2
    · cases left <;> simp at hx <;> rcases hx with rfl | rfl | rfl | rfl <;> decide
    · rcases hx with rfl | rfl <;> decide
    · cases right <;> simp at hx <;> rcases hx with rfl | rfl | rfl | rfl <;> decide
    · exact (blk_of x (hb x hx)).2
    · rw [hx]; decide
  have hlen : l.length ≤ 3000 ∧ 3 ≤ l.length := by
    rw [hl]
    cases left <;> cases right <;> simp <;> omega
  have hta : ∀ x ∈ (117 :: a), x ≠ 123 := by
    intro x hx
    rcases List.mem_cons.1 hx with rfl | hx
    · decide
    · exact (blk_of x (ha x hx)).1
  have htb : ∀ x ∈ b ++ [118], x ≠ 123 := by
    intro x hx
    rcases List.mem_append.1 hx with hx | hx
    · exact (blk_of x (hb x hx)).1
    · rw [List.mem_singleton.1 hx]; decide
  have hrb : trimL (b ++ [118]) = [118] := trimL_blanks 118 [] (by decide) b hb
  have hra : trimR (117 :: a) = [117] := by rw [trimR_stop _ _ (by decide), trimR_blanks a ha]
  obtain ⟨n, hn⟩ : ∃ n, l.length = n + 1 + 1 := ⟨l.length - 2, by omega⟩
  have hsp : ∃ p, splitL l = some [⟨false, if left = true then [117] else 117 :: a, 0⟩, ⟨true, [46, 122], 1 + a.length⟩, ⟨false, if right = true then [118] else b ++ [118], p⟩] := by
    unfold splitL
    rw [hid, hn]
    have e1 : ∀ z : List UInt8, endL false (46 :: 122 :: 125 :: 125 :: z) = some 2 := fun z => endL_free z [46, 122] (by decide)
    have e2 : ∀ z : List UInt8, endL false (46 :: 122 :: 32 :: 45 :: 125 :: 125 :: z) = some 4 := fun z => endL_free z [46, 122, 32, 45] (by decide)
    have q1 : ∀ z : List UInt8, blkN (32 :: 46 :: z) = 1 := fun z => rfl
    have q0 : ∀ z : List UInt8, blkN (46 :: z) = 0 := fun z => rfl
    have m1 : ∀ z : List UInt8, markL (45 :: 32 :: z) = true := fun z => rfl
    have m0 : ∀ z : List UInt8, markL (46 :: 122 :: z) = false := fun z => rfl
    have t1 : actText [46, 122] = [46, 122] := by decide
    have t2 : actText [46, 122, 32, 45] = [46, 122] := by decide
    have s1 : actTrims [46, 122] = false := by decide
    have s2 : actTrims [46, 122, 32, 45] = true := by decide
    cases left <;> cases right
    · have hl' : l = (117 :: a) ++ 123 :: 123 :: (46 :: 122 :: 125 :: 125 :: (b ++ [118])) := by rw [hl]; simp
      rw [hl', split_step (117 :: a) (46 :: 122 :: 125 :: 125 :: (b ++ [118])) (n + 1) 0 false hta 0 0 2 (by rw [markN_eq (m0 _)]; rfl) (q0 _) rfl (e1 _)]
      simp only [List.drop_zero, List.drop_succ_cons, List.take_succ_cons, List.take_zero, t1, s1, m0, splitF_end _ _ _ _ htb]
      exact ⟨a.length + 7, by simp [txtP]; omega⟩
    · have hl' : l = (117 :: a) ++ 123 :: 123 :: (46 :: 122 :: 32 :: 45 :: 125 :: 125 :: (b ++ [118])) := by rw [hl]; simp
      rw [hl', split_step (117 :: a) (46 :: 122 :: 32 :: 45 :: 125 :: 125 :: (b ++ [118])) (n + 1) 0 false hta 0 0 4 (by rw [markN_eq (m0 _)]; rfl) (q0 _) rfl (e2 _)]
      simp only [List.drop_zero, List.drop_succ_cons, List.take_succ_cons, List.take_zero, t2, s2, m0, splitF_end _ _ _ _ htb]
      exact ⟨a.length + 9, by simp [txtP, hrb]; omega⟩
    · have hl' : l = (117 :: a) ++ 123 :: 123 :: (45 :: 32 :: 46 :: 122 :: 125 :: 125 :: (b ++ [118])) := by rw [hl]; simp
      rw [hl', split_step (117 :: a) (45 :: 32 :: 46 :: 122 :: 125 :: 125 :: (b ++ [118])) (n + 1) 0 false hta 1 1 2 (by rw [markN_eq (m1 _)]; rfl) (q1 _) rfl (e1 _)]
      simp only [List.drop_zero, List.drop_succ_cons, List.take_succ_cons, List.take_zero, t1, s1, m1, splitF_end _ _ _ _ htb]
      exact ⟨a.length + 9, by simp [txtP, hra]; omega⟩
    · have hl' : l = (117 :: a) ++ 123 :: 123 :: (45 :: 32 :: 46 :: 122 :: 32 :: 45 :: 125 :: 125 :: (b ++ [118])) := by rw [hl]; simp
      rw [hl', split_step (117 :: a) (45 :: 32 :: 46 :: 122 :: 32 :: 45 :: 125 :: 125 :: (b ++ [118])) (n + 1) 0 false hta 1 1 4 (by rw [markN_eq (m1 _)]; rfl) (q1 _) rfl (e2 _)]
      simp only [List.drop_zero, List.drop_succ_cons, List.take_succ_cons, List.take_zero, t2, s2, m1, splitF_end _ _ _ _ htb]
      exact ⟨a.length + 11, by simp [txtP, hra, hrb]; omega⟩
  obtain ⟨p, hp⟩ := hsp
  refine ⟨p, ?_⟩
  rw [← hl]
  unfold splitR
  rw [if_neg (by omega), hp]
  rfl
end Go.Proofs.YtdaffedbboofjaaGreatDoor.S

/-
  THE PLAIN LAWS of chapter 13: two actions side by side; long ones, many.
-/
set_option linter.unusedVariables false
set_option linter.unusedSimpArgs false
namespace Go.Proofs.YtdaffedbboofjaaGreatDoor.S
open Go.RowKit

theorem limits_ok {l : List UInt8} {ps : List Pc} (hl : l.length ≤ 65536) (hs : splitL l = some ps) (hp : longP ps = false) (hn : ps.length ≤ 1024) : splitR l = (ps, 0) := by
  unfold splitR
  rw [if_neg (by omega), hs]
  dsimp only
  rw [hp, if_neg (by simp), if_neg (by omega)]
theorem longP_append (a b : List Pc) : longP (a ++ b) = (longP a || longP b) := by unfold longP; rw [List.any_append]
theorem longP_txt (t : List UInt8) (i : Nat) : longP (txtP t i) = false := by unfold txtP longP; split <;> simp
theorem digit_of (x : UInt8) (h : 48 ≤ x.toNat ∧ x.toNat ≤ 57) : x ≠ 123 ∧ x ≠ 125 ∧ x ≠ 34 ∧ x ≠ 13 ∧ x ≠ 45 ∧ blk x.toNat = false := by
  obtain ⟨h1, h2⟩ := h
  refine ⟨?_, ?_, ?_, ?_, ?_, ?_⟩
  · rintro rfl; revert h2; decide
  · rintro rfl; revert h2; decide
  · rintro rfl; revert h1; decide
  · rintro rfl; revert h1; decide
  · rintro rfl; revert h1; decide
  · unfold blk; generalize x.toNat = n at *; rw [Bool.or_eq_false_iff, Bool.or_eq_false_iff]; exact ⟨⟨beq_eq_false_iff_ne.2 (by omega), beq_eq_false_iff_ne.2 (by omega)⟩, beq_eq_false_iff_ne.2 (by omega)⟩
theorem splitR_one (s d t : List UInt8) (hs : ∀ b ∈ s, b ≠ 123 ∧ b ≠ 13) (ht : ∀ b ∈ t, b ≠ 123 ∧ b ≠ 13) (hd : ∀ b ∈ d, 48 ≤ b.toNat ∧ b.toNat ≤ 57) (hsl : s.length ≤ 200) (htl : t.length ≤ 200) (hdl : d.length ≤ 20) :
    splitR (s ++ [123, 123] ++ (46 :: 107 :: d) ++ [125, 125, 123, 123, 32, 32] ++ (46 :: 107 :: d) ++ [10, 125, 125] ++ t)
      = (txtP s 0 ++ [⟨true, 46 :: 107 :: d, s.length⟩, ⟨true, 46 :: 107 :: d, s.length + (46 :: 107 :: d).length + 4⟩] ++ txtP t (s.length + 2 * (46 :: 107 :: d).length + 11), 0) := by
  obtain ⟨a, ha⟩ : ∃ a, a = 46 :: 107 :: d := ⟨_, rfl⟩
  have hA : ∀ x ∈ a, x ≠ 123 ∧ x ≠ 125 ∧ x ≠ 34 ∧ x ≠ 13 ∧ x ≠ 45 ∧ blk x.toNat = false := by
    intro x hx
    rw [ha] at hx
    rcases List.mem_cons.1 hx with rfl | hx
    · decide
    · rcases List.mem_cons.1 hx with rfl | hx
      · decide
      · exact digit_of x (hd x hx)
  have hal : a.length ≤ 22 ∧ 2 ≤ a.length := by rw [ha]; simp; omega
  have hm : ∀ z, markL (a ++ z) = false := fun z => by rw [ha]; rfl
  have hm2 : ∀ z, markL (32 :: 32 :: z) = false := fun z => rfl
  have hq : ∀ z, blkN (a ++ z) = 0 := fun z => by rw [ha]; rfl
  have hq2 : ∀ z, blkN (32 :: 32 :: (a ++ z)) = 2 := fun z => by rw [ha]; rfl
  have hp : ∀ z, List.isPrefixOf [47, 42] (a ++ z) = false := fun z => by rw [ha]; rfl
  have hL : trimL a = a := by rw [ha]; exact trimL_stop _ _ (by decide)
  have hL2 : trimL (a ++ [10]) = a ++ [10] := by rw [ha]; exact trimL_stop _ _ (by decide)
  have t1 : actText a = a := by rw [actText_free a fun x hx => (hA x hx).2.2.2.2.1, hL, trimR_free a fun x hx => (hA x hx).2.2.2.2.2]
  have hf2 : ∀ x ∈ a ++ [10], x ≠ 45 := by
    intro x hx
    rcases List.mem_append.1 hx with hx | hx
    · exact (hA x hx).2.2.2.2.1
    · rw [List.mem_singleton.1 hx]; decide
  have t2 : actText (a ++ [10]) = a := by rw [actText_free _ hf2, hL2, trimR_tail 10 (by decide) a fun x hx => (hA x hx).2.2.2.2.2]
  have s1 : actTrims a = false := actTrims_free a fun x hx => (hA x hx).2.2.2.2.1
  have s2 : actTrims (a ++ [10]) = false := actTrims_free _ hf2
  rw [← ha]
  obtain ⟨l, hl⟩ : ∃ l, l = s ++ [123, 123] ++ a ++ [125, 125, 123, 123, 32, 32] ++ a ++ [10, 125, 125] ++ t := ⟨_, rfl⟩
  rw [← hl]
  have hid : linesL l = l := by
    apply linesL_id
    rw [hl]
    intro x hx
    simp only [List.mem_append, List.mem_cons, List.not_mem_nil, or_false] at hx
    rcases hx with (((((hx | hx) | hx) | hx) | hx) | hx) | hx
    · exact (hs x hx).2
    · rcases hx with rfl | rfl <;> decide
    · exact (hA x hx).2.2.2.1
    · rcases hx with rfl | rfl | rfl | rfl | rfl | rfl <;> decide
    · exact (hA x hx).2.2.2.1
    · rcases hx with rfl | rfl | rfl <;> decide
    · exact (ht x hx).2
  have hlen : l.length ≤ 500 ∧ 11 ≤ l.length := by rw [hl]; simp; omega
  obtain ⟨n, hn⟩ : ∃ n, l.length = n + 1 + 1 + 1 := ⟨l.length - 3, by omega⟩
  have e1 : ∀ z : List UInt8, endL false (a ++ 125 :: 125 :: z) = some a.length := fun z => endL_free z a fun x hx => ⟨(hA x hx).2.1, (hA x hx).2.2.1⟩
  have e2 : ∀ z : List UInt8, endL false (a ++ 10 :: 125 :: 125 :: z) = some (a.length + 1) := fun z => by
    have := endL_free z (a ++ [10]) (by
      intro x hx
      rcases List.mem_append.1 hx with hx | hx
      · exact ⟨(hA x hx).2.1, (hA x hx).2.2.1⟩
      · rw [List.mem_singleton.1 hx]; decide)
    simpa using this
  refine limits_ok (by omega) ?_ ?_ ?_
  · unfold splitL
    rw [hid, hn]
    have hl' : l = s ++ 123 :: 123 :: (a ++ 125 :: 125 :: (123 :: 123 :: 32 :: 32 :: (a ++ 10 :: 125 :: 125 :: t))) := by rw [hl]; simp
    rw [hl', split_step s _ (n + 1 + 1) 0 false (fun x hx => (hs x hx).1) 0 0 a.length (by rw [markN_eq (hm _)]; rfl) (hq _) (hp _) (e1 _)]
    simp only [List.drop_zero, hm, Bool.false_eq_true, if_false, List.take_left, t1, s1]
    have d1 : (a ++ 125 :: 125 :: (123 :: 123 :: 32 :: 32 :: (a ++ 10 :: 125 :: 125 :: t))).drop (a.length + 2) = [] ++ 123 :: 123 :: (32 :: 32 :: (a ++ 10 :: 125 :: 125 :: t)) := by simp [List.drop_append]
    rw [d1, split_step [] _ (n + 1) _ false (by simp) 0 2 (a.length + 1) (by rw [markN_eq (hm2 _)]; rfl) (hq2 _) (hp _) (e2 _)]
    have d2 : (a ++ 10 :: 125 :: 125 :: t).drop (a.length + 1 + 2) = t := by
      rw [show a.length + 1 + 2 = a.length + 3 by omega]
      simp [List.drop_append]
    have k2 : (a ++ 10 :: 125 :: 125 :: t).take (a.length + 1) = a ++ [10] := by simp [List.take_append, List.take_of_length_le]
    simp only [List.drop_zero, List.drop_succ_cons, hm2, Bool.false_eq_true, if_false, d2, k2, t2, s2]
    rw [splitF_end _ _ _ _ fun x hx => (ht x hx).1]
    simp only [Option.map_some, Bool.false_eq_true, if_false, List.length_nil, Option.some.injEq]
    rw [show txtP [] (0 + (s.length + 2 + 0 + 0 + a.length + 2)) = [] from rfl]
    have p1 : (0 : Nat) + s.length = s.length := by omega
    have p2 : 0 + (s.length + 2 + 0 + 0 + a.length + 2) + 0 = s.length + a.length + 4 := by omega
    have p3 : 0 + (s.length + 2 + 0 + 0 + a.length + 2) + (0 + 2 + 0 + 2 + (a.length + 1) + 2) = s.length + 2 * a.length + 11 := by omega
    rw [p1, p2, p3]
    simp
  · have h1 : decide (256 < a.length) = false := decide_eq_false (by omega)
    rw [longP_append, longP_append, longP_txt, longP_txt]
    simp [longP]
    omega
  · have h1 := txtP_len s 0
    have h2 := txtP_len t (s.length + 2 * a.length + 11)
    simp only [List.length_append, List.length_cons, List.length_nil]
    omega
/-- a long action -/
theorem splitR_long (k : Nat) (h1 : 1 ≤ k) (h2 : k ≤ 1000) : splitR ([123, 123] ++ List.replicate k 0 ++ [125, 125]) = if 256 < k then ([], 1301) else ([⟨true, List.replicate k 0, 0⟩], 0) := by
  obtain ⟨a, ha⟩ : ∃ a : List UInt8, a = List.replicate k 0 := ⟨_, rfl⟩
  rw [← ha]
  obtain ⟨k', rfl⟩ : ∃ k', k = k' + 1 := ⟨k - 1, by omega⟩
  have hal : a.length = k' + 1 := by rw [ha]; simp
  have hA : ∀ x ∈ a, x ≠ 123 ∧ x ≠ 125 ∧ x ≠ 34 ∧ x ≠ 13 ∧ x ≠ 45 ∧ blk x.toNat = false := by
    intro x hx
    rw [ha] at hx
    rw [(List.mem_replicate.1 hx).2]
    decide
  have hm : ∀ z, z ≠ [] → markL (a ++ z) = false := fun z hz => by
    rw [ha, List.replicate_succ]
    cases k' with
    | zero => cases z with
      | nil => exact absurd rfl hz
      | cons c y => rfl
    | succ j => rw [List.replicate_succ]; rfl
  have hq : ∀ z, blkN (a ++ z) = 0 := fun z => by rw [ha, List.replicate_succ]; rfl
  have hp : ∀ z, List.isPrefixOf [47, 42] (a ++ z) = false := fun z => by rw [ha, List.replicate_succ]; rfl
  have hL : trimL a = a := by rw [ha, List.replicate_succ]; exact trimL_stop _ _ (by decide)
  have t1 : actText a = a := by rw [actText_free a fun x hx => (hA x hx).2.2.2.2.1, hL, trimR_free a fun x hx => (hA x hx).2.2.2.2.2]
  have s1 : actTrims a = false := actTrims_free a fun x hx => (hA x hx).2.2.2.2.1
  have e1 : ∀ z : List UInt8, endL false (a ++ 125 :: 125 :: z) = some a.length := fun z => endL_free z a fun x hx => ⟨(hA x hx).2.1, (hA x hx).2.2.1⟩
  have hid : linesL ([123, 123] ++ a ++ [125, 125]) = [123, 123] ++ a ++ [125, 125] := by
    apply linesL_id
    intro x hx
    simp only [List.mem_append, List.mem_cons, List.not_mem_nil, or_false] at hx
    rcases hx with (hx | hx) | hx
    · rcases hx with rfl | rfl <;> decide
    · exact (hA x hx).2.2.2.1
    · rcases hx with rfl | rfl <;> decide
  have hs : splitL ([123, 123] ++ a ++ [125, 125]) = some [⟨true, a, 0⟩] := by
    unfold splitL
    rw [hid]
    obtain ⟨n, hn⟩ : ∃ n, ([123, 123] ++ a ++ [125, 125]).length = n + 1 := ⟨k' + 4, by simp [hal]⟩
    rw [hn, show [123, 123] ++ a ++ [125, 125] = [] ++ 123 :: 123 :: (a ++ 125 :: 125 :: []) by simp]
    rw [split_step [] _ n 0 false (by simp) 0 0 a.length (by rw [markN_eq (hm _ (by simp))]; rfl) (hq _) (hp _) (e1 _)]
    have d1 : (a ++ 125 :: 125 :: ([] : List UInt8)).drop (a.length + 2) = [] := by simp [List.drop_append]
    simp only [List.drop_zero, hm _ (List.cons_ne_nil _ _), Bool.false_eq_true, if_false, List.take_left, t1, s1, d1, splitF_nil]
    rfl
  unfold splitR
  rw [if_neg (by simp [hal]; omega), hs]
  dsimp only
  by_cases hk : 256 < k' + 1
  · rw [show longP [⟨true, a, 0⟩] = true by simp [longP, hal]; omega, if_pos rfl, if_pos hk]
  · rw [show longP [⟨true, a, 0⟩] = false by simp [longP, hal]; omega, if_neg (by simp), if_neg (by simp), if_neg hk]
/-- many of them -/
def manyL : Nat → List UInt8
  | 0 => []
  | m + 1 => [98, 123, 123, 46, 125, 125] ++ manyL m
def manyP : Nat → Nat → List Pc
  | 0, _ => []
  | m + 1, i => ⟨false, [98], i⟩ :: ⟨true, [46], i + 1⟩ :: manyP m (i + 6)
theorem manyL_back : ∀ m, manyL (m + 1) = manyL m ++ [98, 123, 123, 46, 125, 125]
  | 0 => rfl
  | m + 1 => by
    rw [show manyL (m + 1 + 1) = [98, 123, 123, 46, 125, 125] ++ manyL (m + 1) from rfl, show manyL (m + 1) = [98, 123, 123, 46, 125, 125] ++ manyL m from rfl, List.append_assoc, ← manyL_back m]
    rfl
theorem manyL_len : ∀ m, (manyL m).length = 6 * m
  | 0 => rfl
  | m + 1 => by rw [manyL, List.length_append, manyL_len m]; simp; omega
theorem manyL_no : ∀ m, ∀ x ∈ manyL m, x ≠ 13
  | 0, x, hx => by cases hx
  | m + 1, x, hx => by
    rcases List.mem_append.1 hx with hx | hx
    · have h2 : ∀ y ∈ ([98, 123, 123, 46, 125, 125] : List UInt8), y ≠ 13 := by decide
      exact h2 x hx
    · exact manyL_no m x hx
theorem manyP_len : ∀ m i, (manyP m i).length = 2 * m
  | 0, _ => rfl
  | m + 1, i => by simp [manyP, manyP_len m]; omega
theorem manyP_long : ∀ m i, longP (manyP m i) = false
  | 0, _ => rfl
  | m + 1, i => by
    have := manyP_long m (i + 6)
    unfold longP at *
    rw [manyP, List.any_cons, List.any_cons, this]
    rfl
theorem splitF_many : ∀ m n i, m ≤ n → splitF n (manyL m) i false = some (manyP m i)
  | 0, n, i, _ => splitF_nil n i false
  | m + 1, n, i, h => by
    obtain ⟨n', rfl⟩ : ∃ n', n = n' + 1 := ⟨n - 1, by omega⟩
    rw [show manyL (m + 1) = [98] ++ 123 :: 123 :: (46 :: 125 :: 125 :: manyL m) from rfl]
    have hm : markL (46 :: 125 :: 125 :: manyL m) = false := rfl
    have t1 : actText [46] = [46] := by decide
    have s1 : actTrims [46] = false := by decide
    rw [split_step [98] _ n' i false (by decide) 0 0 1 (by rw [markN_eq hm]; rfl) rfl rfl rfl]
    simp only [hm, List.drop_zero, List.drop_succ_cons, List.take_succ_cons, List.take_zero, Bool.false_eq_true, if_false, t1, s1]
    rw [splitF_many m n' _ (by omega)]
    rfl
theorem splitR_many (m : Nat) (h : m ≤ 1000) : splitR (manyL m) = if 1024 < 2 * m then ([], 1302) else (manyP m 0, 0) := by
  have hs : splitL (manyL m) = some (manyP m 0) := by
    unfold splitL
    rw [linesL_id _ (manyL_no m)]
    exact splitF_many m _ 0 (by rw [manyL_len]; omega)
  unfold splitR
  rw [if_neg (by rw [manyL_len]; omega), hs]
  dsimp only
  rw [manyP_long, if_neg (by simp), manyP_len]
end Go.Proofs.YtdaffedbboofjaaGreatDoor.S

/-
  THE WALK of SamePipe where the rows are alike.
-/
set_option linter.unusedVariables false
set_option linter.unusedSimpArgs false
namespace Go.Proofs.YtdaffedbboofjaaGreatDoor.S
open Go.RowKit

theorem flatn_get {α : Type} (f : α → List Value) (m : Nat) (hf : ∀ z, (f z).length = m) : ∀ (zs : List α) (k : Nat) (h : k < zs.length) (r : Nat), r < m → (zs.flatMap f)[k * m + r]? = (f zs[k])[r]?
  | z :: zs, 0, _, r, hr => by
    rw [List.flatMap_cons, Nat.zero_mul, Nat.zero_add, List.getElem?_append_left (by rw [hf]; exact hr)]
    rfl
  | z :: zs, k + 1, h, r, hr => by
    have ih := flatn_get f m hf zs k (by simpa using h) r hr
    rw [List.flatMap_cons, List.getElem?_append_right (by rw [hf, Nat.add_mul]; omega)]
    have e : (k + 1) * m + r - (f z).length = k * m + r := by rw [hf, Nat.add_mul]; omega
    rw [e, ih]
    rfl
theorem own_form {base e size n : Nat} {v : Value} {xs : List Value} {w : World} (h : w.ownsRow base e size v n xs) (hn : 0 < n) : ∃ b cap, v = .slice (some ⟨b, 0, none⟩) n cap ∧ base ≤ b ∧ n ≤ cap := by
  rcases h.2 with ⟨rfl, h0⟩ | ⟨g, cap, cur, rfl, hb, _, hc, _⟩
  · omega
  · exact ⟨g, cap, rfl, hb, hc⟩
theorem own_len {base e size n : Nat} {v : Value} {xs : List Value} {w : World} (h : w.ownsRow base e size v n xs) : n ≤ 9223372036854775807 := by
  rcases h.2 with ⟨rfl, h0⟩ | ⟨g, cap, cur, rfl, hb, _, hc, hm, _⟩
  · omega
  · simp only [maxLen] at hm; omega
theorem Cms.at {base : Nat} {v : Value} {ds : List Cm} {w : World} (h : Cms base v ds w) (k : Nat) (hk : k < ds.length) : ∃ b cap av, v = .slice (some ⟨b, 0, none⟩) ds.length cap ∧ ds.length ≤ cap ∧
    w.cell? ⟨b, k * 2, none⟩ = some (.string ⟨ds[k].fn.toArray⟩) ∧ w.cell? ⟨b, k * 2 + 1, none⟩ = some av ∧ Ars base av ds[k].args w := by
  obtain ⟨zs, rfl, hr, hp⟩ := h
  rw [List.length_map] at hk
  obtain ⟨b, cap, rfl, -, hc⟩ := own_form hr (by omega)
  have e : (zs.map Prod.fst)[k]'(by rw [List.length_map]; exact hk) = zs[k].1 := by simp
  simp only [e]
  refine ⟨b, cap, zs[k].2, by rw [List.length_map], by rw [List.length_map]; exact hc, ?_, ?_, hp _ (List.getElem_mem hk)⟩
  · exact (World.ownsRow.cellAt hr (k * 2 + 0) (by omega)).trans (flatn_get _ 2 (fun _ => rfl) zs k hk 0 (by omega))
  · exact (World.ownsRow.cellAt hr (k * 2 + 1) (by omega)).trans (flatn_get _ 2 (fun _ => rfl) zs k hk 1 (by omega))
theorem Ars.at {base : Nat} {v : Value} {ds : List Ar} {w : World} (h : Ars base v ds w) (k : Nat) (hk : k < ds.length) : ∃ b cap pv, v = .slice (some ⟨b, 0, none⟩) ds.length cap ∧ ds.length ≤ cap ∧
    w.cell? ⟨b, k * 5, none⟩ = some (.int .i64 ds[k].kind) ∧ w.cell? ⟨b, k * 5 + 1, none⟩ = some (.string ⟨ds[k].name.toArray⟩) ∧ w.cell? ⟨b, k * 5 + 2, none⟩ = some pv ∧ w.cell? ⟨b, k * 5 + 3, none⟩ = some (.int .i64 ds[k].num) ∧ w.cell? ⟨b, k * 5 + 4, none⟩ = some (.string ⟨ds[k].text.toArray⟩) ∧ Txs base pv ds[k].path w := by
  obtain ⟨zs, rfl, hr, hp⟩ := h
  rw [List.length_map] at hk
  obtain ⟨b, cap, rfl, -, hc⟩ := own_form hr (by omega)
  have e : (zs.map Prod.fst)[k]'(by rw [List.length_map]; exact hk) = zs[k].1 := by simp
  simp only [e]
  refine ⟨b, cap, zs[k].2, by rw [List.length_map], by rw [List.length_map]; exact hc, ?_, ?_, ?_, ?_, ?_, hp _ (List.getElem_mem hk)⟩
  · exact (World.ownsRow.cellAt hr (k * 5 + 0) (by omega)).trans (flatn_get _ 5 (fun _ => rfl) zs k hk 0 (by omega))
  · exact (World.ownsRow.cellAt hr (k * 5 + 1) (by omega)).trans (flatn_get _ 5 (fun _ => rfl) zs k hk 1 (by omega))
  · exact (World.ownsRow.cellAt hr (k * 5 + 2) (by omega)).trans (flatn_get _ 5 (fun _ => rfl) zs k hk 2 (by omega))
  · exact (World.ownsRow.cellAt hr (k * 5 + 3) (by omega)).trans (flatn_get _ 5 (fun _ => rfl) zs k hk 3 (by omega))
  · exact (World.ownsRow.cellAt hr (k * 5 + 4) (by omega)).trans (flatn_get _ 5 (fun _ => rfl) zs k hk 4 (by omega))
theorem Cms.len_le {base : Nat} {v : Value} {ds : List Cm} {w : World} (h : Cms base v ds w) : ds.length ≤ 9223372036854775807 := by
  obtain ⟨zs, rfl, hr, hp⟩ := h
  rw [List.length_map]
  exact own_len hr
theorem Ars.len_le {base : Nat} {v : Value} {ds : List Ar} {w : World} (h : Ars base v ds w) : ds.length ≤ 9223372036854775807 := by
  obtain ⟨zs, rfl, hr, hp⟩ := h
  rw [List.length_map]
  exact own_len hr
theorem sameTexts_none (a1 a2 : Option Addr) (c1 c2 : Nat) (w : World) :
    Calls Tryz.prog 69 #[.slice a1 0 c1, .slice a2 0 c2] w fun e w' => e = .returned (.bool true) ∧ ∃ m, w' = w.drewN m := by
  go_enter Tryz.func69, Tryz.ntmps69
  go_wp2
  go_loopg [5] 0 (fun gk v5 wr => v5 = .int .i64 0 ∧ wr = w)
  case atStart => exact ⟨rfl, rfl⟩
  case round =>
    obtain ⟨rfl, rfl⟩ := hrel
    go_wp2
    go_ret
    exact ⟨rfl, 0, rfl⟩
theorem sameTexts_t (b1 b2 : Nat) (v u : Value) (xs : List (List UInt8)) (w : World) (hP : Txs b1 v xs w) (hQ : Txs b2 u xs w) :
    Calls Tryz.prog 69 #[v, u] w fun e w' => e = .returned (.bool true) ∧ ∃ m, w' = w.drewN m := by
  rcases Nat.eq_zero_or_pos xs.length with h0 | h0
  · obtain ⟨a1, c1, rfl⟩ := hP.slice
    obtain ⟨a2, c2, rfl⟩ := hQ.slice
    rw [h0]
    exact sameTexts_none a1 a2 c1 c2 w
  · rcases hP with ⟨rfl, _⟩ | hP
    · cases h0
    · rcases hQ with ⟨rfl, _⟩ | hQ
      · cases h0
      · exact sameTexts_q b1 b2 v u xs w hP hQ
theorem Txs.drewN {base : Nat} {v : Value} {xs : List (List UInt8)} {w : World} (h : Txs base v xs w) (n : Nat) : Txs base v xs (w.drewN n) := h.below (Below.drewN (Below.refl _ _) n)
theorem two_new (W : World) (a b : Array Value) (T : TypeId) : Blk W.heap.size T a.toList ((W.alloc (.cells a T)).alloc (.cells b T)).drew ∧ Blk (W.heap.size + 1) T b.toList ((W.alloc (.cells a T)).alloc (.cells b T)).drew ∧ Below W.heap.size W ((W.alloc (.cells a T)).alloc (.cells b T)).drew := by
  have h1 : Blk W.heap.size T a.toList (W.alloc (.cells a T)) := Blk.new W _ _
  have z1 : (W.alloc (.cells a T)).heap.size = W.heap.size + 1 := by simp
  have b1 := (Below.refl W.heap.size W).alloc (Nat.le_refl _) (.cells a T)
  generalize W.alloc (.cells a T) = w1 at *
  have h2 : Blk w1.heap.size T b.toList (w1.alloc (.cells b T)) := Blk.new w1 _ _
  have b2 := (Below.refl w1.heap.size w1).alloc (Nat.le_refl _) (.cells b T)
  rw [z1] at h2
  exact ⟨(h1.below b2).below (Below.refl _ _).drew, h2.below (Below.refl _ _).drew, (b1.trans (b2.mono (by omega))).drew⟩
theorem cell_lt {W : World} {p : Addr} {x : Value} (h : W.cell? p = some x) : p.block < W.heap.size := by
  refine Nat.lt_of_not_le fun hle => ?_
  unfold World.cell? at h
  rw [Array.getElem?_eq_none hle] at h
  cases h
theorem cell_keep {W W' : World} (hb : Below W.heap.size W W') {p : Addr} {x : Value} (h : W.cell? p = some x) : W'.cell? p = some x := by
  refine (hb.cell ?_).trans h
  refine Nat.lt_of_not_le fun hle => ?_
  unfold World.cell? at h
  rw [Array.getElem?_eq_none hle] at h
  cases h
set_option maxRecDepth 100000 in
set_option maxHeartbeats 8000000 in
theorem samePipe_calls (b1 b2 : Nat) (v u : Value) (ds : List Cm) (w : World) (hP : Cms b1 v ds w) (hQ : Cms b2 u ds w) :
    Calls Tryz.prog 35 #[v, u] w fun e w' => e = .returned (.bool true) ∧ Below w.heap.size w w' := by
  obtain ⟨sa, sc, rfl⟩ := hP.slice
  obtain ⟨ra, rc, rfl⟩ := hQ.slice
  have hpl := hP.len_le
  go_enter Tryz.func35, Tryz.ntmps35
  go_wp2
  go_loopg [5, 6, 7, 8] ds.length (fun gk v5 _ _ _ wr => ∃ k : Nat, k + gk = ds.length ∧ v5 = .int .i64 k ∧ Below w.heap.size w wr)
  case atStart => exact ⟨0, by omega, rfl, Below.refl _ _⟩
  case round =>
    obtain ⟨k, hkg, rfl, hbr⟩ := hrel
    have hPr := hP.below hbr
    have hQr := hQ.below hbr
    have HKG := Lib.hid hkg
    have hkl : k ≤ ds.length := by omega
    clear hkg
    by_cases hk : k < ds.length
    · obtain ⟨b, cap, av, hv, hcc, d0, d1, hA⟩ := hPr.at k hk
      obtain ⟨rfl, -, rfl⟩ := Value.slice.inj hv
      obtain ⟨b', cap', au, hv', hcc', e0, e1, hB⟩ := hQr.at k hk
      obtain ⟨rfl, -, rfl⟩ := Value.slice.inj hv'
      have hb : decide ((k : Int) < (ds.length : Int)) = true := decide_eq_true (by omega)
      obtain ⟨aa, ac, rfl⟩ := hA.slice
      obtain ⟨ba, bc, rfl⟩ := hB.slice
      have hal := hA.len_le
      generalize (⟨ds[k].fn.toArray⟩ : ByteArray) = x at *
      generalize ds[k].args = as' at *
      generalize hn : ds.length = n at *
      clear hv hv' hP hQ hPr hQr
      go_upto_region 6 with (fail)
      go_cut [45] (fun v45 wx => v45 = .bool false ∧ ∃ m, wx = wr.drewN m)
      case first =>
        go_quiet (fail)
        go_wp2_with fail
        go_meet
        exact ⟨by simp, _, rfl⟩
      case rest =>
      obtain ⟨rfl, m', rfl⟩ := hcut
      have hby := Below.drewN (Below.refl wr.heap.size wr) m'
      have hbr := hbr.trans (hby.mono hbr.size)
      have d1 := cell_keep hby d1
      have e1 := cell_keep hby e1
      have hA := hA.below hby
      have hB := hB.below hby
      clear d0 e0 hby
      generalize wr.drewN m' = wy at *
      go_wp2
      obtain ⟨gk0, rfl⟩ : ∃ g, g = gk := ⟨_, rfl⟩
      go_loopg [6, 7, 8] as'.length (fun gk v6 _ _ wi => ∃ j : Nat, j + gk = as'.length ∧ v6 = .int .i64 j ∧ Below wy.heap.size wy wi)
      case atStart => exact ⟨0, by omega, rfl, Below.refl _ _⟩
      case round =>
        obtain ⟨j, hjg, rfl, hbi⟩ := hrel
        have HJG := Lib.hid hjg
        have hjl : j ≤ as'.length := by omega
        clear hjg
        have c1 := cell_keep hbi d1
        have c2 := cell_keep hbi e1
        by_cases hj : j < as'.length
        · have hjb : decide ((j : Int) < (as'.length : Int)) = true := decide_eq_true (by omega)
          obtain ⟨g, gc, pv, hgv, hgc, f0, f1, f2, f3, f4, hT⟩ := (hA.below hbi).at j hj
          obtain ⟨rfl, -, rfl⟩ := Value.slice.inj hgv
          obtain ⟨g', gc', pu, hgv', hgc', f0', f1', f2', f3', f4', hT'⟩ := (hB.below hbi).at j hj
          obtain ⟨rfl, -, rfl⟩ := Value.slice.inj hgv'
          obtain ⟨pa, pc, rfl⟩ := hT.slice
          obtain ⟨pa', pc', rfl⟩ := hT'.slice
          have l1 : b < wr.heap.size := cell_lt c1
          have l2 : b' < wr.heap.size := cell_lt c2
          have l3 : g < wr.heap.size := cell_lt f0
          have l4 : g' < wr.heap.size := cell_lt f0'
          clear hgv hgv'
          go_upto_region 11 with (fail)
          generalize hxn : (⟨as'[j].name.toArray⟩ : ByteArray) = xn at *
          generalize hxt : (⟨as'[j].text.toArray⟩ : ByteArray) = xt at *
          have hR := fun W (h1 : Txs b1 (.slice pa as'[j].path.length pc) as'[j].path W) (h2 : Txs b2 (.slice pa' as'[j].path.length pc') as'[j].path W) => sameTexts_t _ _ _ _ as'[j].path W h1 h2
          generalize as'[j].path = pth at *
          generalize as'[j].kind = kd at *
          generalize as'[j].num = nm at *
          clear hxn hxt
          go_cut [7, 8] (fun v7 v8 wx => ∃ h1 h2 : Nat, v7 = .pointer (some ⟨h1, 0, none⟩) ∧ v8 = .pointer (some ⟨h2, 0, none⟩) ∧ Blk h1 43 [.int .i64 kd, .string xn, .slice pa pth.length pc, .int .i64 nm, .string xt] wx ∧ Blk h2 43 [.int .i64 kd, .string xn, .slice pa' pth.length pc', .int .i64 nm, .string xt] wx ∧ Below wr.heap.size wr wx)
          case first =>
            go_region
            · go_wp2_with fail
              go_meet
              exact ⟨_, _, rfl, rfl, (two_new wr _ _ _).1, (two_new wr _ _ _).2.1, (two_new wr _ _ _).2.2⟩
            · go_wp2_with fail
              go_meet
              exact ⟨_, _, rfl, rfl, (two_new wr _ _ _).2.1, (two_new wr _ _ _).1, (two_new wr _ _ _).2.2⟩
          case rest =>
          obtain ⟨q1, q2, rfl, rfl, hX, hY, hbx⟩ := hcut
          have hTx := (hT.below hbx)
          have hTy := (hT'.below hbx)
          have hbi2 := hbi.trans (hbx.mono hbi.size)
          have hR := hR _ hTx hTy
          have x0 := hX.cell 0 _ rfl
          have x1 := hX.cell 1 _ rfl
          have x2 := hX.cell 2 _ rfl
          have x3 := hX.cell 3 _ rfl
          have x4 := hX.cell 4 _ rfl
          have y0 := hY.cell 0 _ rfl
          have y1 := hY.cell 1 _ rfl
          have y2 := hY.cell 2 _ rfl
          have y3 := hY.cell 3 _ rfl
          have y4 := hY.cell 4 _ rfl
          clear hX hY hTx hTy hT hT' hbx f0 f1 f2 f3 f4 f0' f1' f2' f3' f4' c1 c2 hbi
          go_upto_region 12 with (fail)
          go_cut [105] (fun v105 wx => v105 = .bool false ∧ ∃ m, wx = wc.drewN m)
          case first =>
            go_wp2_with (go_at_call 69; refine hR.mono ?_; rintro e w' ⟨rfl, m, rfl⟩)
            go_meet
            exact ⟨rfl, _, rfl⟩
          case rest =>
          obtain ⟨rfl, m', rfl⟩ := hcut
          clear x0 x1 x2 x3 x4 y0 y1 y2 y3 y4 hR
          go_wp2
          go_roundg (gk - 1)
          case measure => have := HJG.out; omega
          case rel => exact ⟨j + 1, by have := HJG.out; omega, by go_num, Below.drewN hbi2 m'⟩
        · have hjb : decide ((j : Int) < (as'.length : Int)) = false := decide_eq_false (by omega)
          have hbo := hbr.trans (hbi.mono hbr.size)
          go_wp2
          go_roundg (gk0 - 1)
          case measure => have := HKG.out; omega
          case rel => exact ⟨k + 1, by have := HKG.out; omega, by go_num, hbo⟩
    · have hb : decide ((k : Int) < (ds.length : Int)) = false := decide_eq_false (by omega)
      go_wp2
      go_ret
      exact ⟨rfl, hbr⟩
end Go.Proofs.YtdaffedbboofjaaGreatDoor.S

/-
  THE WALK of SameItems where the rows are alike.
-/
set_option linter.unusedVariables false
set_option linter.unusedSimpArgs false
namespace Go.Proofs.YtdaffedbboofjaaGreatDoor.S
open Go.RowKit
variable {base : Nat} {F F' : Nat → Prop} {v : Value} {is : List It} {W W' : World}

theorem Its.at (h : Its base F W v is) (k : Nat) (hk : k < is.length) : ∃ b cap pv tv ev, v = .slice (some ⟨b, 0, none⟩) is.length cap ∧ is.length ≤ cap ∧
    W.cell? ⟨b, k * 5, none⟩ = some (.int .i64 is[k].kind) ∧ W.cell? ⟨b, k * 5 + 1, none⟩ = some (.string ⟨is[k].text.toArray⟩) ∧ W.cell? ⟨b, k * 5 + 2, none⟩ = some pv ∧ W.cell? ⟨b, k * 5 + 3, none⟩ = some tv ∧ W.cell? ⟨b, k * 5 + 4, none⟩ = some ev ∧
    Cms base pv is[k].pipe W ∧ Its base F W tv is[k].th ∧ Its base F W ev is[k].el := by
  cases h with
  | mk _ zs hr hF hp ht he =>
    rw [List.length_map] at hk
    obtain ⟨b, cap, rfl, -, hc⟩ := own_form hr (by omega)
    have e : (zs.map Ic.it)[k]'(by rw [List.length_map]; exact hk) = zs[k].it := by simp
    simp only [e]
    refine ⟨b, cap, zs[k].pv, zs[k].tv, zs[k].ev, by rw [List.length_map], by rw [List.length_map]; exact hc, ?_, ?_, ?_, ?_, ?_, hp _ (List.getElem_mem hk), ht _ (List.getElem_mem hk), he _ (List.getElem_mem hk)⟩
    · exact (World.ownsRow.cellAt hr (k * 5 + 0) (by omega)).trans (flatn_get _ 5 (fun _ => rfl) zs k hk 0 (by omega))
    · exact (World.ownsRow.cellAt hr (k * 5 + 1) (by omega)).trans (flatn_get _ 5 (fun _ => rfl) zs k hk 1 (by omega))
    · exact (World.ownsRow.cellAt hr (k * 5 + 2) (by omega)).trans (flatn_get _ 5 (fun _ => rfl) zs k hk 2 (by omega))
    · exact (World.ownsRow.cellAt hr (k * 5 + 3) (by omega)).trans (flatn_get _ 5 (fun _ => rfl) zs k hk 3 (by omega))
    · exact (World.ownsRow.cellAt hr (k * 5 + 4) (by omega)).trans (flatn_get _ 5 (fun _ => rfl) zs k hk 4 (by omega))
theorem Its.len_le (h : Its base F W v is) : is.length ≤ 9223372036854775807 := by
  cases h with
  | mk _ zs hr hF hp ht he => rw [List.length_map]; exact own_len hr
theorem it_th (i : It) : SizeOf.sizeOf i.th < SizeOf.sizeOf i := by cases i; simp [It.th]; omega
theorem it_el (i : It) : SizeOf.sizeOf i.el < SizeOf.sizeOf i := by cases i; simp [It.el]; omega
set_option maxRecDepth 100000 in
set_option maxHeartbeats 16000000 in
theorem sameItems_n : ∀ (N : Nat) (is : List It), SizeOf.sizeOf is ≤ N → ∀ (b1 b2 : Nat) (F1 F2 : Nat → Prop) (v u : Value) (w : World), Its b1 F1 w v is → Its b2 F2 w u is →
    Calls Tryz.prog 14 #[v, u] w fun e w' => e = .returned (.bool true) ∧ Below w.heap.size w w' := by
  intro N
  induction N with
  | zero =>
    intro is hN
    cases is <;> simp at hN
  | succ N ih =>
  intro is hN b1 b2 F1 F2 v u w hP hQ
  have IH := Lib.hid (fun (k : Nat) (h : k < is.length) => (⟨fun b1 b2 F1 F2 v u w => ih is[k].th (by have h1 := List.sizeOf_lt_of_mem (List.getElem_mem h); have h2 := it_th is[k]; omega) b1 b2 F1 F2 v u w, fun b1 b2 F1 F2 v u w => ih is[k].el (by have h1 := List.sizeOf_lt_of_mem (List.getElem_mem h); have h2 := it_el is[k]; omega) b1 b2 F1 F2 v u w⟩ : (∀ (b1 b2 : Nat) (F1 F2 : Nat → Prop) (v u : Value) (w : World), Its b1 F1 w v is[k].th → Its b2 F2 w u is[k].th → Calls Tryz.prog 14 #[v, u] w fun e w' => e = .returned (.bool true) ∧ Below w.heap.size w w') ∧ (∀ (b1 b2 : Nat) (F1 F2 : Nat → Prop) (v u : Value) (w : World), Its b1 F1 w v is[k].el → Its b2 F2 w u is[k].el → Calls Tryz.prog 14 #[v, u] w fun e w' => e = .returned (.bool true) ∧ Below w.heap.size w w')))
  clear ih hN
  obtain ⟨sa, sc, rfl⟩ := hP.slice
  obtain ⟨ra, rc, rfl⟩ := hQ.slice
  have hpl := hP.len_le
  go_enter Tryz.func14, Tryz.ntmps14
  go_wp2
  go_loopg [5] is.length (fun gk v5 wr => ∃ k : Nat, k + gk = is.length ∧ v5 = .int .i64 k ∧ Below w.heap.size w wr)
  case atStart => exact ⟨0, by omega, rfl, Below.refl _ _⟩
  case round =>
    obtain ⟨k, hkg, rfl, hbr⟩ := hrel
    have hPr := hP.blw hbr
    have hQr := hQ.blw hbr
    have HKG := Lib.hid hkg
    have hkl : k ≤ is.length := by omega
    clear hkg
    by_cases hk : k < is.length
    · obtain ⟨b, cap, pv, tv, ev, hv, hcc, d0, d1, d2, d3, d4, hp1, ht1, he1⟩ := hPr.at k hk
      obtain ⟨rfl, -, rfl⟩ := Value.slice.inj hv
      obtain ⟨b', cap', pu, tu, eu, hv', hcc', e0, e1, e2, e3, e4, hp2, ht2, he2⟩ := hQr.at k hk
      obtain ⟨rfl, -, rfl⟩ := Value.slice.inj hv'
      have hb : decide ((k : Int) < (is.length : Int)) = true := decide_eq_true (by omega)
      obtain ⟨iht, ihe⟩ := IH.out k hk
      have hC1 := fun W (h : Below wr.heap.size wr W) => (samePipe_calls b1 b2 pv pu _ W (hp1.below h) (hp2.below h)).mono (fun e w' (hw : e = .returned (.bool true) ∧ Below W.heap.size W w') => (⟨hw.1, h.trans (hw.2.mono h.size)⟩ : e = .returned (.bool true) ∧ Below wr.heap.size wr w'))
      have hC2 := fun W (h : Below wr.heap.size wr W) => (iht b1 b2 F1 F2 tv tu W (ht1.blw h) (ht2.blw h)).mono (fun e w' (hw : e = .returned (.bool true) ∧ Below W.heap.size W w') => (⟨hw.1, h.trans (hw.2.mono h.size)⟩ : e = .returned (.bool true) ∧ Below wr.heap.size wr w'))
      have hC3 := fun W (h : Below wr.heap.size wr W) => (ihe b1 b2 F1 F2 ev eu W (he1.blw h) (he2.blw h)).mono (fun e w' (hw : e = .returned (.bool true) ∧ Below W.heap.size W w') => (⟨hw.1, h.trans (hw.2.mono h.size)⟩ : e = .returned (.bool true) ∧ Below wr.heap.size wr w'))
      obtain ⟨pa, pc, rfl⟩ := hp1.slice
      obtain ⟨pa', pc', rfl⟩ := hp2.slice
      obtain ⟨ta, tc, rfl⟩ := ht1.slice
      obtain ⟨ta', tc', rfl⟩ := ht2.slice
      obtain ⟨ea, ec, rfl⟩ := he1.slice
      obtain ⟨ea', ec', rfl⟩ := he2.slice
      have HK := Lib.hid (fun (W : World) (h : Below wr.heap.size wr W) => (⟨h, cell_keep h d0, cell_keep h d1, cell_keep h d2, cell_keep h d3, cell_keep h d4, cell_keep h e0, cell_keep h e1, cell_keep h e2, cell_keep h e3, cell_keep h e4⟩ : Below wr.heap.size wr W ∧ _ ∧ _ ∧ _ ∧ _ ∧ _ ∧ _ ∧ _ ∧ _ ∧ _ ∧ _))
      generalize is[k].pipe.length = pn at *
      generalize is[k].th.length = tn at *
      generalize is[k].el.length = en at *
      generalize is[k].kind = kd at *
      generalize (⟨is[k].text.toArray⟩ : ByteArray) = tx at *
      have hbw : Below wr.heap.size wr wr := Below.refl _ _
      clear hv hv' hp1 hp2 ht1 ht2 he1 he2 hP hQ hPr hQr iht ihe IH
      go_upto_region 6 with (fail)
      go_cut [82] (fun v82 wx => v82 = .bool false ∧ Below wr.heap.size wr wx)
      case first =>
        have HC1 := Lib.hid hC1
        have HC2 := Lib.hid hC2
        have HC3 := Lib.hid hC3
        clear hC1 hC2 hC3
        have HC := Lib.hid (fun (x y : Value) (W : World) (hxy : (x = .slice ta tn tc ∧ y = .slice ta' tn tc') ∨ (x = .slice ea en ec ∧ y = .slice ea' en ec')) (h : Below wr.heap.size wr W) => (show Calls Tryz.prog 14 #[x, y] W fun e w' => e = .returned (.bool true) ∧ Below wr.heap.size wr w' by
          rcases hxy with ⟨rfl, rfl⟩ | ⟨rfl, rfl⟩
          · exact HC2.out W h
          · exact HC3.out W h))
        clear HC2 HC3
        simp only [List.append_eq, List.cons_append, List.nil_append]
        go_region_held3 (fun w' => Below wr.heap.size wr w' ∧ w'.cell? ⟨b, k * 5, none⟩ = some (.int .i64 kd) ∧ w'.cell? ⟨b, k * 5 + 1, none⟩ = some (.string tx) ∧ w'.cell? ⟨b, k * 5 + 2, none⟩ = some (.slice pa pn pc) ∧ w'.cell? ⟨b, k * 5 + 3, none⟩ = some (.slice ta tn tc) ∧ w'.cell? ⟨b, k * 5 + 4, none⟩ = some (.slice ea en ec) ∧ w'.cell? ⟨b', k * 5, none⟩ = some (.int .i64 kd) ∧ w'.cell? ⟨b', k * 5 + 1, none⟩ = some (.string tx) ∧ w'.cell? ⟨b', k * 5 + 2, none⟩ = some (.slice pa' pn pc') ∧ w'.cell? ⟨b', k * 5 + 3, none⟩ = some (.slice ta' tn tc') ∧ w'.cell? ⟨b', k * 5 + 4, none⟩ = some (.slice ea' en ec'))
          (first | exact HK.out _ (by assumption) | exact HK.out _ (Below.drew (by assumption)))
          (first | (go_at_call 35; obtain ⟨hbq, -⟩ := ‹Below wr.heap.size wr _ ∧ _›; refine (HC1.out _ hbq).mono ?_; rintro e w' ⟨rfl, hbn⟩) | (go_at_call 14; obtain ⟨hbq, -⟩ := ‹Below wr.heap.size wr _ ∧ _›; refine (HC.out _ _ _ (by first | exact .inl ⟨rfl, rfl⟩ | exact .inr ⟨rfl, rfl⟩) hbq).mono ?_; rintro e w' ⟨rfl, hbn⟩))
        go_wp2_with fail
        go_meet
        exact ⟨by first | rfl | simp, by first | assumption | exact Below.drew (by assumption)⟩
      case rest =>
      obtain ⟨rfl, hbx⟩ := hcut
      have hbo := hbr.trans (hbx.mono hbr.size)
      clear d0 d1 d2 d3 d4 e0 e1 e2 e3 e4 hC1 hC2 hC3
      go_wp2
      go_roundg (gk - 1)
      case measure => have := HKG.out; omega
      case rel => exact ⟨k + 1, by have := HKG.out; omega, by go_num, hbo⟩
    · have hb : decide ((k : Int) < (is.length : Int)) = false := decide_eq_false (by omega)
      clear IH
      go_wp2
      go_ret
      exact ⟨rfl, hbr⟩
end Go.Proofs.YtdaffedbboofjaaGreatDoor.S

/-
  THE WALKS of package tmpl's looped, leaves, begin.
-/
set_option linter.unusedVariables false
set_option linter.unusedSimpArgs false
namespace Go.Proofs.YtdaffedbboofjaaGreatDoor.S
open Go.RowKit
variable {base p : Nat} {F F' : Nat → Prop} {W W' : World} {s t : Sl} {ls : List Sl}

def loopS (s : Sl) : Bool := s.lv.kind == 5 && !s.lv.behind
theorem looped_lvs (L : List Sl) : looped (lvs L) = L.any loopS := by
  unfold looped lvs
  rw [List.any_map, List.any_reverse]
  rfl
set_option maxRecDepth 100000 in
set_option maxHeartbeats 4000000 in
theorem looped_calls (w : World) (r : Sl) (L : List Sl) (h : St base p (r :: L) w) (hr : r.lv.kind ≠ 5) :
    Calls Tryz.prog 118 #[.pointer (some ⟨p, 0, none⟩)] w fun e w' => e = .returned (.bool (looped (lvs (r :: L)))) ∧ w = w' := by
  obtain ⟨R, hR⟩ : ∃ R, R = looped (lvs (r :: L)) := ⟨_, rfl⟩
  rw [← hR]
  have hRL : R = L.any loopS := by rw [hR, looped_lvs, List.any_cons, show loopS r = false by unfold loopS; rw [show (r.lv.kind == 5) = false from beq_eq_false_iff_ne.2 hr]; rfl, Bool.false_or]
  have HRL := Lib.hid hRL
  clear hR hRL
  obtain ⟨q, c, h1, h2⟩ := h.par
  obtain ⟨n, hn⟩ : ∃ n, n = L.length := ⟨_, rfl⟩
  rw [List.length_cons, ← hn] at h1 h2
  have hc : n + 1 ≤ c ∧ c ≤ 9223372036854775807 := by
    rcases h2.2 with ⟨h0, _⟩ | ⟨g, cap, cur, hv, _, _, hc, hm, _⟩
    · cases h0
    · obtain ⟨_, _, rfl⟩ := Value.slice.inj hv
      simp only [maxLen] at hm
      omega
  have hsl : ∃ a', (0 < n → a' = some ⟨q, 1, none⟩) ∧ ∀ W, (Instr.slice 76 (.slice (some ⟨q, 0, none⟩) (n + 1) c) (some (.int .i64 1)) none none).run Tryz.prog W = .ok (.slice a' n (c - 1)) W := by
    refine ⟨if c = 1 then some ⟨q, 0, none⟩ else some ⟨q, 1, none⟩, fun hp => if_neg (by omega), fun W => ?_⟩
    rw [run_slice_l (P := Tryz.prog) W 76 (some ⟨q, 0, none⟩) (n + 1) c (by kernel_rfl) .i64 1 (by omega) (by omega), show (sizeOf (Tryz.prog.elem 76)).run Tryz.prog W = .ok 1 W by kernel_rfl]
    simp only [Result.andThen, sliced]
    congr 2
  obtain ⟨a', ha, hrun⟩ := hsl
  have hE : ∀ k (hk : k < L.length), w.cell? ⟨q, 1 + k, none⟩ = some (.pointer (some ⟨L[k].g, 0, none⟩)) ∧ w.cell? ⟨L[k].g, 0, none⟩ = some (.int .i64 L[k].lv.kind) ∧ w.cell? ⟨L[k].g, 6, none⟩ = some (.bool L[k].lv.behind) := by
    intro k hk
    have hl := h.levs L[k] (List.mem_cons_of_mem _ (List.getElem_mem hk))
    have e := World.ownsRow.cellAt h2 (1 + k) (by omega)
    rw [show 1 + k = k + 1 by omega] at e ⊢
    rw [List.map_cons, List.getElem?_cons_succ, List.getElem?_map, List.getElem?_eq_getElem hk] at e
    exact ⟨e, hl.blk.cell 0 _ rfl, hl.blk.cell 6 _ rfl⟩
  have c0 := h1.cell 0 _ rfl
  have HE := Lib.hid hE
  have HN := Lib.hid hn
  have HA := Lib.hid ha
  have hn1 := hc.1
  have hn2 := hc.2
  clear hE hn ha h1 h2 h hc
  go_enter Tryz.func118, Tryz.ntmps118
  go_wp2_with fail
  go_loopg [11] n (fun gk v11 wr => ∃ k : Nat, k + gk = n ∧ v11 = .int .i64 k ∧ Hid ((L.take k).any loopS = false) ∧ w = wr)
  case atStart => exact ⟨0, by omega, rfl, rfl, rfl⟩
  case round =>
    obtain ⟨k, hkg, rfl, hno, rfl⟩ := hrel
    have HKG := Lib.hid hkg
    have hkl : k ≤ n := by omega
    clear hkg
    by_cases hk : k < n
    · have hkL : k < L.length := by rw [← HN.out]; exact hk
      obtain ⟨e1, e2, e3⟩ := HE.out k hkL
      obtain rfl := HA.out (by omega)
      have hb : decide ((k : Int) < (n : Int)) = true := decide_eq_true (by omega)
      have htk : (L.take (k + 1)).any loopS = loopS L[k] := by rw [List.take_succ_eq_append_getElem hkL, List.any_append, hno.out]; simp
      have hyes : loopS L[k] = true → R = true := fun hl => by rw [HRL.out]; exact List.any_eq_true.2 ⟨_, List.getElem_mem hkL, hl⟩
      have HY := Lib.hid hyes
      have HTK := Lib.hid htk
      have hlo : loopS L[k] = (L[k].lv.kind == 5 && !L[k].lv.behind) := rfl
      rw [hlo] at HTK HY
      generalize L[k].lv.kind = kd at *
      generalize L[k].lv.behind = bh at *
      generalize L[k].g = g at *
      clear htk hyes hlo hno
      by_cases h5 : kd = 5
      · have h5b : ((kd : Int) == 5) = true := beq_iff_eq.2 (by omega)
        cases bh with
        | true =>
          have h6 : (L.take (k + 1)).any loopS = false := by rw [HTK.out]; simp
          have H6 := Lib.hid h6
          clear h6 HTK HY h5
          go_wp2
          go_roundg (gk - 1)
          case measure => have := HKG.out; omega
          case rel => exact ⟨k + 1, by have := HKG.out; omega, by go_num, H6.out, rfl⟩
        | false =>
          have h6 : R = true := HY.out (by rw [h5]; rfl)
          have H6 := Lib.hid h6
          clear h6 HTK HY h5
          go_wp2
          go_ret
          exact ⟨by rw [H6.out]; rfl, rfl⟩
      · have h5b : ((kd : Int) == 5) = false := beq_eq_false_iff_ne.2 (by omega)
        have h6 : (L.take (k + 1)).any loopS = false := by rw [HTK.out, show (kd == 5) = false from beq_eq_false_iff_ne.2 h5]; rfl
        have H6 := Lib.hid h6
        clear h6 HTK HY h5
        go_wp2
        go_roundg (gk - 1)
        case measure => have := HKG.out; omega
        case rel => exact ⟨k + 1, by have := HKG.out; omega, by go_num, H6.out, rfl⟩
    · have hb : decide ((k : Int) < (n : Int)) = false := decide_eq_false (by omega)
      have h6 : R = false := by
        have := hno.out
        rw [List.take_of_length_le (by have := HN.out; omega)] at this
        rw [HRL.out, this]
      have H6 := Lib.hid h6
      clear h6 hno
      go_wp2
      go_ret
      exact ⟨by rw [H6.out]; rfl, rfl⟩
def doA (b : Lv) (st : List Lv) (x : Except Nat Ac) : Except Nat (List Lv) := match x with
  | .error e => .error e
  | .ok a => stepL b st a
def rootOk (L : List Sl) : Prop := ∀ s, L.head? = some s → s.lv.kind ≠ 5
set_option maxRecDepth 100000 in
set_option maxHeartbeats 4000000 in
theorem leaves_calls (k : Nat) (w : World) (h : St base p (ls ++ [t]) w) (hr : rootOk (ls ++ [t])) (hsm : t.lv.row.length ≤ 1073741824) (hbw : base ≤ w.heap.size) :
    Calls Tryz.prog 92 #[.pointer (some ⟨p, 0, none⟩), .int .i64 k] w (StPost base p (stepL t.lv (lvs ls) (.leave k)) w) := by
  have hT : stepL t.lv (lvs ls) (.leave k) = if looped (lvs (ls ++ [t])) = true then .ok (lvs (ls ++ [{ t with lv := t.lv.add (.mk k [] [] [] []) }])) else .error 1602 := by rw [lvs_snoc, lvs_snoc]; rfl
  generalize stepL t.lv (lvs ls) (.leave k) = T at *
  have HT := Lib.hid hT
  have hC : Calls Tryz.prog 118 #[.pointer (some ⟨p, 0, none⟩)] w fun e w' => e = .returned (.bool (looped (lvs (ls ++ [t])))) ∧ w = w' := by
    cases ls with
    | nil => exact looped_calls w t [] h (hr t rfl)
    | cons a l => exact looped_calls w a (l ++ [t]) h (hr a rfl)
  clear hT
  generalize looped (lvs (ls ++ [t])) = b at *
  have hA := add_calls w h (.mk k [] [] [] []) (.slice none 0 0) (.slice none 0 0) (.slice none 0 0) (cms_nil _ _) (its_nil _ _ _) (its_nil _ _ _) hsm hbw
  have hA : Calls Tryz.prog 31 #[.pointer (some ⟨p, 0, none⟩), .agg #[.int .i64 k, .string ⟨#[]⟩, .slice none 0 0, .slice none 0 0, .slice none 0 0]] w (AddPost base p ls t (.mk k [] [] [] []) w) := hA
  go_enter Tryz.func92, Tryz.ntmps92
  go_wp2_with fail
  refine hC.mono ?_
  rintro e w' ⟨rfl, rfl⟩
  clear hC
  cases b with
  | true =>
    have hT : T = .ok (lvs (ls ++ [{ t with lv := t.lv.add (.mk k [] [] [] []) }])) := HT.out
    have HTT := Lib.hid hT
    clear hT
    go_wp2_with fail
    refine hA.mono ?_
    rintro e w5 ⟨rfl, rv, hS5, hb5⟩
    have HS5 := Lib.hid hS5
    clear hS5 hA
    go_wp2
    go_ret
    have h5 := HS5.out
    exact StPost.ok (by rw [HTT.out, lvs_snoc, lvs_snoc]) h5 (by simp) hb5
  | false =>
    have hT : T = .error 1602 := HT.out
    have HTT := Lib.hid hT
    clear hT hA
    go_wp2
    go_ret
    exact StPost.no HTT.out (Below.refl _ _)
end Go.Proofs.YtdaffedbboofjaaGreatDoor.S

/-
  THE WALKS of package tmpl's begin, call, tells.
-/
set_option linter.unusedVariables false
set_option linter.unusedSimpArgs false
namespace Go.Proofs.YtdaffedbboofjaaGreatDoor.S
open Go.RowKit
variable {base p : Nat} {F F' : Nat → Prop} {W W' : World} {s t : Sl} {ls L : List Sl}

theorem ptrInfo : (Tryz.prog.info? 73).map (fun i => (i.zero, i.size, i.bytes)) = some (some (.pointer none), 1, 8) := by kernel_rfl
theorem pipeL_err {ds : List Wd} {c : Nat} (h : pipeL ds = .error c) : c ≠ 0 := by
  unfold pipeL at h
  split at h
  · cases h; decide
  · split at h
    · cases h; decide
    · cases h
def newS (k : Nat) (pl : List Cm) (g : Nat) (pv : Value) : Sl := { lv := ⟨k, pl, [], [], false⟩, g := g, pv := pv, tv := .slice none 0 0, rv := .slice none 0 0 }
theorem ptr_form {n : Nat} {v : Value} {xs : List Value} (h : W.ownsRow base 73 1 v (n + 1) xs) : ∃ q1 c1, v = .slice (some ⟨q1, 0, none⟩) (n + 1) c1 := by
  rcases h.2 with ⟨_, h0⟩ | ⟨g, cap, cur, hv, _⟩
  · omega
  · exact ⟨g, cap, hv⟩
/-- a new block on the stack -/
theorem St.push {q c q1 c1 k g : Nat} {pl : List Cm} {pv : Value} (h : St base p L W) (hp : Blk p 78 [.slice (some ⟨q, 0, none⟩) L.length c] W) (hrow : W.ownsRow base 73 1 (.slice (some ⟨q, 0, none⟩) L.length c) L.length (L.map Sl.ptr))
    (hk : ∀ b, b < W.heap.size → b ≠ p → b ≠ q → W'.heap[b]? = W.heap[b]?)
    (hp' : Blk p 78 [.slice (some ⟨q1, 0, none⟩) (L.length + 1) c1] W') (hrow' : W'.ownsRow base 73 1 (.slice (some ⟨q1, 0, none⟩) (L.length + 1) c1) (L.length + 1) (L.map Sl.ptr ++ [.pointer (some ⟨g, 0, none⟩)]))
    (hg : W.heap.size ≤ g) (hb : Blk g 75 (newS k pl g pv).cells W') (hbg : base ≤ g) (hpv : Cms base pv pl W') : St base p (L ++ [newS k pl g pv]) W' := by
  have hq : L.length = 0 ∨ ∃ cs, W.heap[q]? = some (.cells cs 73 (0, 0)) := by
    rcases hrow.2 with ⟨h0, _⟩ | ⟨g', cap, cur, hv, _, hh, _⟩
    · cases h0
    · obtain ⟨h1, -, -⟩ := Value.slice.inj hv
      injection h1 with h1
      injection h1 with h1
      subst h1
      exact .inr ⟨cur, hh⟩
  have hty : ∀ (b : Nat) (cs : Array Value) (T : TypeId), W.heap[b]? = some (.cells cs T (0, 0)) → T ≠ 78 → T ≠ 73 → W'.heap[b]? = W.heap[b]? := by
    intro b cs T hbb h1 h2
    refine hk b (Array.getElem?_eq_some_iff.1 hbb).1 (blk_type hp hbb h1) ?_
    rintro rfl
    rcases hq with h0 | ⟨cs', hc⟩
    · rcases hrow.2 with ⟨h0', _⟩ | ⟨g', cap, cur, hv, _, hh, _⟩
      · cases h0'
      · obtain ⟨h1', -, -⟩ := Value.slice.inj hv
        injection h1' with h1'
        injection h1' with h1'
        subst h1'
        rw [hbb] at hh
        injection hh with hh
        injection hh with _ hh
        exact h2 hh
    · rw [hbb] at hc
      injection hc with hc
      injection hc with _ hc
      exact h2 hc
  have hK : ∀ F, Kp base F W W' := by
    intro F
    refine ⟨fun g cs hg _ => hty g cs _ hg (by decide) (by decide), fun v cs hc => hc.hold fun b cs T hb hT => hty b cs T hb ?_ ?_⟩
    · rcases hT with rfl | rfl | rfl <;> decide
    · rcases hT with rfl | rfl | rfl <;> decide
  have hM : ∀ g, Fs L g → Fs (L ++ [newS k pl g pv]) g := fun g hg => (fs_snoc g).2 ⟨hg, by simp [newS, Value.ownBlock]⟩
  have hM' : ∀ b, Fs L b → Fs (L ++ [newS k pl g pv]) b := fun b hb => (fs_snoc b).2 ⟨hb, by simp [newS, Value.ownBlock]⟩
  refine ⟨⟨q1, c1, ?_, ?_⟩, h.low, fun s hs => ?_, ?_⟩
  · simpa using hp'
  · simpa [newS, Sl.ptr] using hrow'
  · rcases List.mem_append.1 hs with hs | hs
    · have hl := h.levs s hs
      refine hl.move (hK _) (fun b _ hb => hM' b hb) (hty _ _ _ hl.blk (by decide) (by decide)) fun g hg => ?_
      obtain ⟨_, _, cs', hc⟩ := hl.row.fact g hg
      exact hty g cs' _ hc (by decide) (by decide)
    · rw [List.mem_singleton.1 hs]
      exact ⟨hb, hbg, hpv, its_nil _ _ _, rw_nil _ _ _⟩
  · refine List.pairwise_append.2 ⟨h.dist, List.pairwise_singleton _ _, fun s hs t2 ht2 => ?_⟩
    rw [List.mem_singleton.1 ht2]
    exact ⟨fun e => by have := (h.levs s hs).blk.lt; rw [e] at this; simp only [newS] at this; omega, fun b _ => by simp [newS, Value.ownBlock]⟩
set_option maxRecDepth 100000 in
set_option maxHeartbeats 8000000 in
theorem begin_calls (k : Nat) (v : Value) (ds : List Wd) (w : World) (h : St base p (ls ++ [t]) w) (hV : WdV v ds w) (hd : ∀ d ∈ ds, WdOk d) (ht : ∀ d ∈ ds, d.text.length ≤ 65536) (hl : ds.length ≤ 1073741824) (hbw : base ≤ w.heap.size) (hn16 : ls.length ≤ 1073741824) :
    Calls Tryz.prog 57 #[.pointer (some ⟨p, 0, none⟩), .int .i64 k, v] w (StPost base p (doA t.lv (lvs ls) (blockA k ds)) w) := by
  obtain ⟨T, hT⟩ : ∃ T, T = doA t.lv (lvs ls) (blockA k ds) := ⟨_, rfl⟩
  rw [← hT]
  have hTe : ∀ c, pipeL ds = .error c → T = .error c := fun c hc => by rw [hT, blockA, hc]; rfl
  have hTo : ∀ pl, pipeL ds = .ok pl → T = if 16 < ls.length + 1 then .error 1603 else .ok (⟨k, pl, [], [], false⟩ :: t.lv :: lvs ls) := fun pl hc => by
    rw [hT, blockA, hc]
    show (if 16 < (lvs ls).length + 1 then _ else _) = _
    rw [show (lvs ls).length = ls.length by simp [lvs]]
  have HTE := Lib.hid hTe
  have HTO := Lib.hid hTo
  clear hT hTe hTo
  obtain ⟨va, vc, rfl⟩ := hV.slice
  go_enter Tryz.func57, Tryz.ntmps57
  go_wp2_with fail
  refine (pparse_calls _ ds w hV hd ht hl).mono ?_
  rintro e w1 ⟨hok, hno, hb1⟩
  have h1 := h.below hb1
  have hbb := hb1.mono hbw
  have hbw1 : base ≤ w1.heap.size := Nat.le_trans hbw hb1.size
  clear h hV hd ht hl
  cases hq : pipeL ds with
  | error c =>
    obtain rfl := hno c hq
    have hTT := HTE.out c hq
    have HTT := Lib.hid hTT
    have hc0 := pipeL_err hq
    · have hcb : ((c : Int) != 0) = true := by rw [bne, beq_eq_false_iff_ne.2 (by omega : (c : Int) ≠ 0)]; rfl
      have hcb2 : ((c : Int) == 0) = false := beq_eq_false_iff_ne.2 (by omega)
      clear hok hno hTT hq hc0
      go_wp2
      go_ret
      exact StPost.no HTT.out hbb
  | ok pl =>
    obtain ⟨pv, rfl, hP⟩ := hok pl hq
    obtain ⟨pa, pc, rfl⟩ := hP.slice
    have hTT := HTO.out pl hq
    have HTT := Lib.hid hTT
    obtain ⟨N, q, c, hN, hp, hn1, hn2, hn3, hrow⟩ := h1.len
    have c0 := hp.cell 0 _ rfl
    have HN := Lib.hid hN
    clear hok hno hTT hq hN
    by_cases h16 : 16 < N
    · have h16b : decide ((16 : Int) < (N : Int)) = true := decide_eq_true (by omega)
      have hT3 : T = .error 1603 := by rw [HTT.out, if_pos (by rw [← HN.out]; exact h16)]
      have HT3 := Lib.hid hT3
      clear hT3 h16 hp hrow
      go_wp2
      go_ret
      exact StPost.no HT3.out hbb
    · have h16b : decide ((16 : Int) < (N : Int)) = false := decide_eq_false (by omega)
      have hT3 : T = .ok (⟨k, pl, [], [], false⟩ :: t.lv :: lvs ls) := by rw [HTT.out, if_neg (by rw [← HN.out]; exact h16)]
      have HT3 := Lib.hid hT3
      have hzq : N ≤ 16 := by omega
      have hba : Below w1.heap.size w1 (w1.alloc (.cells #[.int .i64 k, .string ⟨#[]⟩, .slice pa pl.length pc, .slice none 0 0, .slice none 0 0, .slice none 0 0, .bool false] 75)) := (Below.refl _ w1).alloc (Nat.le_refl _) _
      have hX : Blk w1.heap.size 75 [.int .i64 k, .string ⟨#[]⟩, .slice pa pl.length pc, .slice none 0 0, .slice none 0 0, .slice none 0 0, .bool false] (w1.alloc (.cells #[.int .i64 k, .string ⟨#[]⟩, .slice pa pl.length pc, .slice none 0 0, .slice none 0 0, .slice none 0 0, .bool false] 75)) := Blk.new w1 _ _
      have hza : (w1.alloc (.cells #[.int .i64 k, .string ⟨#[]⟩, .slice pa pl.length pc, .slice none 0 0, .slice none 0 0, .slice none 0 0, .bool false] 75)).heap.size = w1.heap.size + 1 := by simp
      have hrow2 := own_below hrow hba
      have hp2 := hp.below hba
      have hqp : some p ≠ (Value.slice (some ⟨q, 0, none⟩) N c).ownBlock := by
        intro e
        obtain ⟨cs', hc⟩ := own_type hrow p e.symm
        exact blk_type hp hc (by decide) rfl
      have hqX : some w1.heap.size ≠ (Value.slice (some ⟨q, 0, none⟩) N c).ownBlock := fun e => by have := own_lt hrow _ e.symm; omega
      have hqb : ∀ k, (Value.slice (some ⟨q, 0, none⟩) N c).ownBlock = some k → base ≤ k := fun k hk => own_base hrow k hk
      have HRW := Lib.hid hrow
      have HP := Lib.hid hp
      have HP2 := Lib.hid hp2
      have HX := Lib.hid hX
      have HST := Lib.hid h1
      have hpz := hp.lt
      have HBA := Lib.hid hba
      have HPC := Lib.hid hP
      clear hT3 h16 hp hrow hX hp2 h1 hba hP
      go_wp2_with (at_builtin; refine wp_app1 (W := w1.alloc (.cells #[.int .i64 k, .string ⟨#[]⟩, .slice pa pl.length pc, .slice none 0 0, .slice none 0 0, .slice none 0 0, .bool false] 75)) ptrInfo Tryz.underlying76 rfl (by decide) base rfl (.tmp 27) (.tmp 33) rfl (.slice (some ⟨q, 0, none⟩) N c) N ((ls ++ [t]).map Sl.ptr) #[.pointer (some ⟨w1.heap.size, 0, none⟩)] 1 rfl (by rw [hza]; rfl) rfl (by intro u hu; simp at hu; subst hu; rfl) hrow2 (by omega) (by simp only [maxLen]; omega) (by omega) ?_; intro v5 w5 hown hg5; obtain ⟨q1, c1, rfl⟩ := ptr_form hown; have hp5 := Blk.grown HP2.out hg5 hqp; have c0 := hp5.cell 0 _ rfl; have f0 := hp5.free 0; have HO := Lib.hid hown; have HG := Lib.hid hg5; clear hown hg5 hp5)
      go_wp2
      go_ret
      have hp5 := (Blk.grown HP2.out HG.out hqp).set 0 (.slice (some ⟨q1, 0, none⟩) (N + 1) c1)
      have hpq : p ≠ q1 := by
        obtain ⟨cs', hc⟩ := own_type HO.out q1 rfl
        exact fun e => blk_type (Blk.grown HP2.out HG.out hqp) hc (by decide) e.symm
      have hX5 := (Blk.grown HX.out HG.out hqX).grown (grownBy_set w5 p 0 (.slice (some ⟨q1, 0, none⟩) (N + 1) c1)) (by simp; omega)
      have hr5 := own_set (g := p) HO.out (by simpa [Value.ownBlock] using hpq.symm) 0 (.slice (some ⟨q1, 0, none⟩) (N + 1) c1)
      have hk5 : ∀ b, b < w1.heap.size → b ≠ p → b ≠ q → (w5.setCell ⟨p, 0, none⟩ (.slice (some ⟨q1, 0, none⟩) (N + 1) c1)).heap[b]? = w1.heap[b]? := by
        intro b hb h1 h2
        rw [setCell_heap _ _ _ _ _ h1, HG.out.block b (by rw [hza]; omega) (by simpa [Value.ownBlock] using h2)]
        exact HBA.out.block b hb
      have hP5 : Cms base (.slice pa pl.length pc) pl (w5.setCell ⟨p, 0, none⟩ (.slice (some ⟨q1, 0, none⟩) (N + 1) c1)) := by
        refine (HPC.out.mono hbw).hold fun b cs T hb hT => hk5 b (Array.getElem?_eq_some_iff.1 hb).1 (blk_type HP.out hb (by rcases hT with rfl | rfl | rfl <;> decide)) ?_
        rintro rfl
        obtain ⟨cs', hc⟩ := own_type HRW.out b rfl
        rw [hc] at hb
        injection hb with hb
        injection hb with _ hb
        subst hb
        rcases hT with h | h | h <;> exact absurd h (by decide)
      have hNl : N = (ls ++ [t]).length := by rw [HN.out]; simp
      have hb5 := (((hbb.trans (HBA.out.mono hbw1)).grown HG.out (by omega) hqb).setCell (p := ⟨p, 0, none⟩) HST.out.low (.slice (some ⟨q1, 0, none⟩) (N + 1) c1))
      have hS := St.push (k := k) (pl := pl) (g := w1.heap.size) (pv := .slice pa pl.length pc) HST.out (by rw [← hNl]; exact HP.out) (by rw [← hNl]; exact HRW.out) hk5 (by rw [← hNl]; exact hp5) (by rw [← hNl]; exact hr5) (Nat.le_refl _) hX5 hbw1 hP5
      exact StPost.ok (by rw [HT3.out, lvs_snoc, lvs_snoc]; rfl) hS (by simp) hb5
end Go.Proofs.YtdaffedbboofjaaGreatDoor.S

/-
  THE WALKS of package tmpl's call, tells.
-/
set_option linter.unusedVariables false
set_option linter.unusedSimpArgs false
namespace Go.Proofs.YtdaffedbboofjaaGreatDoor.S
open Go.RowKit
variable {base p : Nat} {F F' : Nat → Prop} {W W' : World} {s t : Sl} {ls L : List Sl}

/-- what becomes of the item that stands in block g, with these words as its pipe -/
def pipeA (k : Nat) (tx : List UInt8) (ds : List Wd) : Except Nat Ac := (pipeL ds).map fun p => .item (.mk k tx p [] [])
theorem call_nil : callA [] = .error 1604 := rfl
theorem call_bad {d : Wd} {r : List Wd} (h : d.kind ≠ 4) : callA (d :: r) = .error 1604 := if_neg h
theorem call_one {d : Wd} (h : d.kind = 4) : callA [d] = .ok (.item (.mk 6 d.text [] [] [])) := (if_pos h).trans rfl
theorem call_more {d e : Wd} {r : List Wd} (h : d.kind = 4) : callA (d :: e :: r) = pipeA 6 d.text (e :: r) := (if_pos h).trans rfl
theorem doA_item {b : Lv} {st : List Lv} {i : It} : doA b st (.ok (.item i)) = .ok (b.add i :: st) := rfl
theorem doA_err {b : Lv} {st : List Lv} {c : Nat} : doA b st (.error c) = .error c := rfl
set_option maxRecDepth 100000 in
set_option maxHeartbeats 8000000 in
theorem call_calls (v : Value) (ds : List Wd) (w : World) (h : St base p (ls ++ [t]) w) (hV : WdV v ds w) (hd : ∀ d ∈ ds, WdOk d) (ht : ∀ d ∈ ds, d.text.length ≤ 65536) (hl : ds.length ≤ 1073741824) (hbw : base ≤ w.heap.size) (hsm : t.lv.row.length ≤ 1073741824) :
    Calls Tryz.prog 58 #[.pointer (some ⟨p, 0, none⟩), v] w (StPost base p (doA t.lv (lvs ls) (callA ds)) w) := by
  obtain ⟨T, hT⟩ : ∃ T, T = doA t.lv (lvs ls) (callA ds) := ⟨_, rfl⟩
  rw [← hT]
  have HT := Lib.hid hT
  clear hT
  obtain ⟨a, c, hv⟩ := hV.slice
  obtain ⟨n, hn⟩ : ∃ n, n = ds.length := ⟨_, rfl⟩
  rw [← hn] at hv
  subst hv
  have HN := Lib.hid hn
  clear hn
  cases ds with
  | nil =>
    obtain rfl : n = 0 := HN.out
    have hT : T = .error 1604 := HT.out
    have HTT := Lib.hid hT
    clear hT h hV
    go_enter Tryz.func58, Tryz.ntmps58
    go_wp2
    go_ret
    exact StPost.no HTT.out (Below.refl _ _)
  | cons d r =>
    have hn0 : 0 < n := by rw [HN.out]; simp
    have hV' := hV
    obtain ⟨a', c', hv, hc1, hc2, hc⟩ := hV'
    obtain ⟨rfl, -, rfl⟩ := Value.slice.inj hv
    rw [← HN.out] at hc1
    obtain ⟨g, off, pv, rfl, e0, e1, e2, e3, hp⟩ := hc 0 (by simp)
    rw [Nat.zero_mul, Nat.add_zero] at e0 e1
    simp only [List.getElem_cons_zero] at e0 e1
    have hnb : ((n : Int) == 0) = false := beq_eq_false_iff_ne.2 (by omega)
    clear hc hv e2 e3 hp
    by_cases hk : d.kind = 4
    · have hkb : ((d.kind : Int) == 4) = true := beq_iff_eq.2 (by omega)
      have hkn : ((d.kind : Int) != 4) = false := by rw [bne, hkb]; rfl
      have hba : Below w.heap.size w (w.alloc (.cells #[.int .i64 6, .string ⟨d.text.toArray⟩, .slice none 0 0, .slice none 0 0, .slice none 0 0] 37)) := (Below.refl _ w).alloc (Nat.le_refl _) _
      have hX : Blk w.heap.size 37 [.int .i64 6, .string ⟨d.text.toArray⟩, .slice none 0 0, .slice none 0 0, .slice none 0 0] (w.alloc (.cells #[.int .i64 6, .string ⟨d.text.toArray⟩, .slice none 0 0, .slice none 0 0, .slice none 0 0] 37)) := Blk.new w _ _
      have hdr : ∀ x ∈ r, WdOk x := fun x hx => hd x (List.mem_cons_of_mem _ hx)
      have htr : ∀ x ∈ r, x.text.length ≤ 65536 := fun x hx => ht x (List.mem_cons_of_mem _ hx)
      have hlr : r.length ≤ 1073741824 := by simp at hl; omega
      cases r with
      | nil =>
        obtain rfl : n = 1 := HN.out
        have hT : T = .ok (lvs (ls ++ [{ t with lv := t.lv.add (.mk 6 d.text [] [] []) }])) := by rw [HT.out, call_one hk, doA_item, lvs_snoc]
        have HTT := Lib.hid hT
        have h1 := h.below hba
        have hbw1 : base ≤ (w.alloc (.cells #[.int .i64 6, .string ⟨d.text.toArray⟩, .slice none 0 0, .slice none 0 0, .slice none 0 0] 37)).heap.size := Nat.le_trans hbw hba.size
        have hA := add_calls _ h1 (.mk 6 d.text [] [] []) (.slice none 0 0) (.slice none 0 0) (.slice none 0 0) (cms_nil _ _) (its_nil _ _ _) (its_nil _ _ _) hsm hbw1
        have hA : Calls Tryz.prog 31 #[.pointer (some ⟨p, 0, none⟩), .agg #[.int .i64 6, .string ⟨d.text.toArray⟩, .slice none 0 0, .slice none 0 0, .slice none 0 0]] (w.alloc (.cells #[.int .i64 6, .string ⟨d.text.toArray⟩, .slice none 0 0, .slice none 0 0, .slice none 0 0] 37)) (AddPost base p ls t (.mk 6 d.text [] [] []) (w.alloc (.cells #[.int .i64 6, .string ⟨d.text.toArray⟩, .slice none 0 0, .slice none 0 0, .slice none 0 0] 37))) := hA
        have hbm := hba.mono hbw
        clear hT h hV hk hd ht hdr htr hlr h1 hX hba
        generalize (⟨d.text.toArray⟩ : ByteArray) = tx at *
        go_enter Tryz.func58, Tryz.ntmps58
        go_wp2_with fail
        refine hA.mono ?_
        rintro e w5 ⟨rfl, rv, hS5, hb5⟩
        have HS5 := Lib.hid hS5
        clear hS5 hA
        go_wp2
        go_ret
        have h5 := HS5.out
        exact StPost.ok (by rw [HTT.out, lvs_snoc, lvs_snoc]) h5 (by simp) (hbm.trans hb5)
      | cons e r =>
        have hn2 : 2 ≤ n := by rw [HN.out]; simp
        have h1b : decide ((1 : Int) < (n : Int)) = true := decide_eq_true (by omega)
        have hTe : ∀ c, pipeL (e :: r) = .error c → T = .error c := fun c hc => by rw [HT.out, call_more hk, pipeA, hc]; rfl
        have hTo : ∀ pl, pipeL (e :: r) = .ok pl → T = .ok (t.lv.add (.mk 6 d.text pl [] []) :: lvs ls) := fun pl hc => by rw [HT.out, call_more hk, pipeA, hc]; rfl
        have hD := hV.drop 1 (by simp)
        rw [List.drop_succ_cons, List.drop_zero] at hD
        have rD := fun W => run_drop (a := some ⟨g, off, none⟩) (n := n) (c := c) 1 (by omega) (by omega) W
        rw [Int.natCast_one] at rD
        have HTE := Lib.hid hTe
        have HTO := Lib.hid hTo
        have hC := pparse_calls _ (e :: r) _ (hD.below hba) hdr htr hlr
        generalize sliced (some ⟨g, off, none⟩) 1 n c 4 = v1 at *
        generalize (e :: r) = rr at *
        have h1 := h.below hba
        have hbm := hba.mono hbw
        have hdtx : d.text = d.text := rfl
        have HH := Lib.hid h
        have HBA := Lib.hid hba
        have hzi : (w.alloc (.cells #[.int .i64 6, .string ⟨d.text.toArray⟩, .slice none 0 0, .slice none 0 0, .slice none 0 0] 37)).heap.size = w.heap.size + 1 := by simp
        clear hTe hTo h hV hk hd ht hdr htr hlr hD hba
        go_enter Tryz.func58, Tryz.ntmps58
        go_wp2_with fail
        generalize w.alloc (.cells #[.int .i64 6, .string ⟨d.text.toArray⟩, .slice none 0 0, .slice none 0 0, .slice none 0 0] 37) = w1 at *
        refine hC.mono ?_
        rintro e' w2 ⟨hok, hno, hb2⟩
        have h2 := h1.below hb2
        have hX2 := hX.below hb2
        have hbw2 : base ≤ w2.heap.size := Nat.le_trans hbw (Nat.le_trans hbm.size hb2.size)
        have hbb := hbm.trans (hb2.mono (Nat.le_trans hbw hbm.size))
        clear h1 hX hC
        cases hq : pipeL rr with
        | error cc =>
          obtain rfl := hno cc hq
          have hTT := HTE.out cc hq
          have HTT := Lib.hid hTT
          have hc0 := pipeL_err hq
          have hcb : ((cc : Int) != 0) = true := by rw [bne, beq_eq_false_iff_ne.2 (by omega : (cc : Int) ≠ 0)]; rfl
          have hcb2 : ((cc : Int) == 0) = false := beq_eq_false_iff_ne.2 (by omega)
          clear hok hno hTT hq hc0 h2 hX2
          go_wp2
          go_ret
          exact StPost.no HTT.out hbb
        | ok pl =>
          obtain ⟨pv', rfl, hP⟩ := hok pl hq
          obtain ⟨pa, pc, rfl⟩ := hP.slice
          have hTT := HTO.out pl hq
          have HTT := Lib.hid hTT
          have hX3 := hX2.set 2 (.slice pa pl.length pc)
          have hP3 := (hP.off (grownBy_set w2 w.heap.size 2 (.slice pa pl.length pc)) (off_low (by omega))).mono (base' := base) (by omega)
          have hb02 := (HBA.out.trans (hb2.mono HBA.out.size)).setCell (p := ⟨w.heap.size, 2, none⟩) (Nat.le_refl _) (.slice pa pl.length pc)
          have h3 := HH.out.below hb02
          have hbw3 : base ≤ (w2.setCell ⟨w.heap.size, 2, none⟩ (.slice pa pl.length pc)).heap.size := Nat.le_trans hbw hb02.size
          have x2 := hX2.cell 2 _ rfl
          have f2 := hX2.free 2
          have hA := add_calls _ h3 (.mk 6 d.text pl [] []) (.slice pa pl.length pc) (.slice none 0 0) (.slice none 0 0) hP3 (its_nil _ _ _) (its_nil _ _ _) hsm hbw3
          have HA : Hid (Calls Tryz.prog 31 #[.pointer (some ⟨p, 0, none⟩), .agg #[.int .i64 6, .string ⟨d.text.toArray⟩, .slice pa pl.length pc, .slice none 0 0, .slice none 0 0]] (w2.setCell ⟨w.heap.size, 2, none⟩ (.slice pa pl.length pc)) (AddPost base p ls t (.mk 6 d.text pl [] []) (w2.setCell ⟨w.heap.size, 2, none⟩ (.slice pa pl.length pc)))) := hA
          have HX3 := Lib.hid hX3
          have hb3 := hb02.mono hbw
          clear hA hok hno hTT hq h2 hX2 hX3 hP hP3 h3 hb02
          go_upto_region 9 with (fail)
          clear x2 f2
          generalize w2.setCell ⟨w.heap.size, 2, none⟩ (.slice pa pl.length pc) = w3 at *
          have d0 := HX3.out.cell 0 _ rfl
          have d1 := HX3.out.cell 1 _ rfl
          have d2 := HX3.out.cell 2 _ rfl
          have d3 := HX3.out.cell 3 _ rfl
          have d4 := HX3.out.cell 4 _ rfl
          go_wp2_with fail
          refine HA.out.mono ?_
          rintro e' w5 ⟨rfl, rv, hS5, hb5⟩
          have HS5 := Lib.hid hS5
          clear hS5 d0 d1 d2 d3 d4
          go_wp2
          go_ret
          have h5 := HS5.out
          exact StPost.ok (by rw [HTT.out, lvs_snoc]) h5 (by simp) (hb3.trans hb5)
    · have hkb : ((d.kind : Int) == 4) = false := beq_eq_false_iff_ne.2 (by omega)
      have hkn : ((d.kind : Int) != 4) = true := by rw [bne, hkb]; rfl
      have hT : T = .error 1604 := by rw [HT.out, call_bad hk]; rfl
      have HTT := Lib.hid hT
      clear hT h hV hk hd ht
      go_enter Tryz.func58, Tryz.ntmps58
      go_wp2
      go_ret
      exact StPost.no HTT.out (Below.refl _ _)
end Go.Proofs.YtdaffedbboofjaaGreatDoor.S

/-
  THE WALK of package tmpl's tells.
-/
set_option linter.unusedVariables false
set_option linter.unusedSimpArgs false
namespace Go.Proofs.YtdaffedbboofjaaGreatDoor.S
open Go.RowKit
variable {base p : Nat} {F F' : Nat → Prop} {W W' : World} {s t : Sl} {ls L : List Sl}

theorem setHead_two (d e : Wd) (r : List Wd) : setHead (d :: e :: r) = (d.kind == 2 && d.path.isEmpty && e.kind == 6) := rfl
theorem tell_set {ds : List Wd} (h : setHead ds = true) : tellA ds = pipeA 2 (ds.getD 0 ⟨0, [], [], 0⟩).text (ds.drop 2) := by unfold tellA; rw [if_pos h]; rfl
theorem tell_hole {ds : List Wd} (h : setHead ds = false) : tellA ds = pipeA 1 [] ds := by unfold tellA; rw [if_neg (by rw [h]; decide)]; rfl
set_option maxRecDepth 100000 in
set_option maxHeartbeats 16000000 in
theorem tells_calls (v : Value) (ds : List Wd) (w : World) (h : St base p (ls ++ [t]) w) (hV : WdV v ds w) (hd : ∀ d ∈ ds, WdOk d) (ht : ∀ d ∈ ds, d.text.length ≤ 65536) (hl : ds.length ≤ 1073741824) (hbw : base ≤ w.heap.size) (hsm : t.lv.row.length ≤ 1073741824) :
    Calls Tryz.prog 59 #[.pointer (some ⟨p, 0, none⟩), v] w (StPost base p (doA t.lv (lvs ls) (tellA ds)) w) := by
  obtain ⟨T, hT⟩ : ∃ T, T = doA t.lv (lvs ls) (tellA ds) := ⟨_, rfl⟩
  rw [← hT]
  have HT := Lib.hid hT
  clear hT
  obtain ⟨a, c, hv⟩ := hV.slice
  obtain ⟨n, hn⟩ : ∃ n, n = ds.length := ⟨_, rfl⟩
  rw [← hn] at hv
  subst hv
  have hcn : n ≤ c ∧ c ≤ 9223372036854775807 := by
    obtain ⟨_, _, hv, h1, h2, _⟩ := hV
    obtain ⟨-, rfl, rfl⟩ := Value.slice.inj hv
    exact ⟨h1, h2⟩
  have HN := Lib.hid hn
  have hba : Below w.heap.size w (w.alloc (.cells #[.int .i64 1, .string ⟨#[]⟩, .slice none 0 0, .slice none 0 0, .slice none 0 0] 37)) := (Below.refl _ w).alloc (Nat.le_refl _) _
  have hX : Blk w.heap.size 37 [.int .i64 1, .string ⟨#[]⟩, .slice none 0 0, .slice none 0 0, .slice none 0 0] (w.alloc (.cells #[.int .i64 1, .string ⟨#[]⟩, .slice none 0 0, .slice none 0 0, .slice none 0 0] 37)) := Blk.new w _ _
  clear hn
  go_enter Tryz.func59, Tryz.ntmps59
  go_upto_region 2 with (fail)
  generalize w.alloc (.cells #[.int .i64 1, .string ⟨#[]⟩, .slice none 0 0, .slice none 0 0, .slice none 0 0] 37) = w1 at *
  have hV1 := hV.below hba
  go_cut [33] (fun v33 wx => v33 = .bool (setHead ds) ∧ w1 = wx)
  case first =>
    cases ds with
    | nil =>
      obtain rfl : n = 0 := HN.out
      go_wp2_with fail
      go_meet
      exact ⟨rfl, rfl⟩
    | cons d r => cases r with
      | nil =>
        obtain rfl : n = 1 := HN.out
        go_wp2_with fail
        go_meet
        exact ⟨rfl, rfl⟩
      | cons e r =>
        have hn2 : 2 ≤ n := by rw [HN.out]; simp
        obtain ⟨a', c', hv, h1, h2, hc⟩ := hV1
        obtain ⟨rfl, -, rfl⟩ := Value.slice.inj hv
        obtain ⟨g, off, pv, rfl, e0, e1, e2, e3, hp⟩ := hc 0 (by simp)
        obtain ⟨g', off', pv', hgg, u0, u1, u2, u3, hp'⟩ := hc 1 (by simp)
        injection hgg with hgg
        injection hgg with hg1 hg2
        subst hg1 hg2
        rw [Nat.zero_mul, Nat.add_zero] at e0 e1 e2
        rw [Nat.one_mul] at u0
        simp only [List.getElem_cons_zero, List.getElem_cons_succ] at e0 e1 e2 u0 hp
        obtain ⟨pa, pc, rfl⟩ := hp.slice
        have hb1 : decide ((1 : Int) < (n : Int)) = true := decide_eq_true (by omega)
        have HS := Lib.hid (setHead_two d e r)
        have hpe : ((d.path.length : Int) == 0) = d.path.isEmpty := by cases d.path <;> simp; omega
        generalize d.path.isEmpty = pb at *
        generalize d.path.length = pn at *
        generalize d.kind = kd at *
        generalize e.kind = ke at *
        clear hc hv e1 e3 u1 u2 u3 hp hp' hV h hd ht hl h1 h2
        by_cases hk : kd = 2
        · have hkb : ((kd : Int) == 2) = true := beq_iff_eq.2 (by omega)
          have hs1 : setHead (d :: e :: r) = (pb && ke == 6) := by rw [HS.out, hk]; simp
          have HS1 := Lib.hid hs1
          clear hs1 hk
          cases pb with
          | true =>
            by_cases h6 : ke = 6
            · have h6b : ((ke : Int) == 6) = true := beq_iff_eq.2 (by omega)
              have hs2 : setHead (d :: e :: r) = true := by rw [HS1.out, h6]; rfl
              have HS2 := Lib.hid hs2
              clear hs2 h6
              go_wp2_with fail
              go_meet
              exact ⟨by rw [HS2.out], rfl⟩
            · have h6b : ((ke : Int) == 6) = false := beq_eq_false_iff_ne.2 (by omega)
              have hs2 : setHead (d :: e :: r) = false := by rw [HS1.out, show (ke == 6) = false from beq_eq_false_iff_ne.2 h6]; rfl
              have HS2 := Lib.hid hs2
              clear hs2 h6
              go_wp2_with fail
              go_meet
              exact ⟨by rw [HS2.out], rfl⟩
          | false =>
            have hs2 : setHead (d :: e :: r) = false := by rw [HS1.out]; rfl
            have HS2 := Lib.hid hs2
            clear hs2
            go_wp2_with fail
            go_meet
            exact ⟨by rw [HS2.out], rfl⟩
        · have hkb : ((kd : Int) == 2) = false := beq_eq_false_iff_ne.2 (by omega)
          have hs2 : setHead (d :: e :: r) = false := by rw [HS.out, show (kd == 2) = false from beq_eq_false_iff_ne.2 hk]; rfl
          have HS2 := Lib.hid hs2
          clear hs2 hk
          go_wp2_with fail
          go_meet
          exact ⟨by rw [HS2.out], rfl⟩
  case rest =>
  obtain ⟨rfl, rfl⟩ := hcut
  go_upto_if 33 with (fail)
  go_cut [1] (fun v1 wx => ∃ (k : Nat) (tx : List UInt8) (tb : ByteArray) (es : List Wd), StrIs tb tx ∧ WdV v1 es w ∧ (∀ d ∈ es, WdOk d) ∧ (∀ d ∈ es, d.text.length ≤ 65536) ∧ es.length ≤ 1073741824 ∧ Hid (T = doA t.lv (lvs ls) (pipeA k tx es)) ∧ Blk w.heap.size 37 [.int .i64 k, .string tb, .slice none 0 0, .slice none 0 0, .slice none 0 0] wx ∧ Below w.heap.size w wx)
  case first =>
    cases hs : setHead ds with
    | true =>
      have hT := HT.out
      rw [tell_set hs] at hT
      obtain ⟨d, e, r, rfl⟩ : ∃ d e r, ds = d :: e :: r := by
        cases ds with
        | nil => cases hs
        | cons d r => cases r with
          | nil => cases hs
          | cons e r => exact ⟨d, e, r, rfl⟩
      have hn2 : 2 ≤ n := by rw [HN.out]; simp
      have hD := hV.drop 2 (by simp)
      have rD := fun W => run_drop (a := a) (n := n) (c := c) 2 (by omega) (by omega) W
      rw [show ((2 : Nat) : Int) = 2 from rfl] at rD
      obtain ⟨a', c', hv, h1, h2, hc⟩ := hV1
      obtain ⟨rfl, -, rfl⟩ := Value.slice.inj hv
      obtain ⟨g, off, pv, rfl, e0, e1, e2, e3, hp⟩ := hc 0 (by simp)
      rw [Nat.zero_mul, Nat.add_zero] at e1
      simp only [List.getElem_cons_zero] at e1
      have hst : StrIs (⟨d.text.toArray⟩ : ByteArray) d.text := rfl
      have hdr : ∀ x ∈ r, WdOk x := fun x hx => hd x (List.mem_cons_of_mem _ (List.mem_cons_of_mem _ hx))
      have htr : ∀ x ∈ r, x.text.length ≤ 65536 := fun x hx => ht x (List.mem_cons_of_mem _ (List.mem_cons_of_mem _ hx))
      have hlr : r.length ≤ 1073741824 := by simp at hl; omega
      have hT2 : T = doA t.lv (lvs ls) (pipeA 2 d.text r) := hT
      have hD2 : WdV (sliced (some ⟨g, off, none⟩) 2 n c 4) r w := hD
      have HTT := Lib.hid hT2
      have k0 := hX.cell 0 _ rfl
      have k1 := hX.cell 1 _ rfl
      have k2 := hX.cell 2 _ rfl
      have k3 := hX.cell 3 _ rfl
      have k4 := hX.cell 4 _ rfl
      have f0 := hX.free 0
      have f1 := hX.free 1
      have f2 := hX.free 2
      have f3 := hX.free 3
      have f4 := hX.free 4
      have hidx : (0 : Int) < (n : Int) := by omega
      generalize (⟨d.text.toArray⟩ : ByteArray) = tb at *
      generalize sliced (some ⟨g, off, none⟩) 2 n c 4 = v2 at *
      have hX4 : Blk w.heap.size 37 [.int .i64 2, .string tb, .slice none 0 0, .slice none 0 0, .slice none 0 0] (((((w1.setCell ⟨w.heap.size, 0, none⟩ (.int .i64 2)).setCell ⟨w.heap.size, 1, none⟩ (.string tb)).setCell ⟨w.heap.size, 2, none⟩ (.slice none 0 0)).setCell ⟨w.heap.size, 3, none⟩ (.slice none 0 0)).setCell ⟨w.heap.size, 4, none⟩ (.slice none 0 0)) := blk_put5 hX _ _ _ _ _
      have hb4 : Below w.heap.size w (((((w1.setCell ⟨w.heap.size, 0, none⟩ (.int .i64 2)).setCell ⟨w.heap.size, 1, none⟩ (.string tb)).setCell ⟨w.heap.size, 2, none⟩ (.slice none 0 0)).setCell ⟨w.heap.size, 3, none⟩ (.slice none 0 0)).setCell ⟨w.heap.size, 4, none⟩ (.slice none 0 0)) := below_put5 hba _ (Nat.le_refl _) _ _ _ _ _
      have HX4 := Lib.hid hX4
      have HB4 := Lib.hid hb4
      clear hc hv e0 e2 e3 hp hT hT2 hs hD hV h hX hba hX4 hb4 h1 h2
      go_wp2_with fail
      go_meet
      have h5 := HX4.out
      have h6 := HB4.out
      exact ⟨2, d.text, tb, r, hst, hD2, hdr, htr, hlr, HTT.out, h5, h6⟩
    | false =>
      have hT := HT.out
      rw [tell_hole hs] at hT
      have HTT := Lib.hid hT
      have hlr : ds.length ≤ 1073741824 := hl
      clear hT hs
      go_wp2_with fail
      go_meet
      exact ⟨1, [], ⟨#[]⟩, ds, rfl, hV, hd, ht, hlr, HTT.out, hX, hba⟩
  case rest =>
  clear hV1 hX hba hV hd ht hl HT HN hcn
  obtain ⟨k, tx, tb, es, htb, hV, hd, ht, hl, hTE, hX, hba⟩ := hcut
  obtain ⟨ua, uc, hv⟩ := hV.slice
  subst hv
  have hTe : ∀ c, pipeL es = .error c → T = .error c := fun c hc => by rw [hTE.out, pipeA, hc]; rfl
  have hTo : ∀ pl, pipeL es = .ok pl → T = .ok (t.lv.add (.mk k tx pl [] []) :: lvs ls) := fun pl hc => by rw [hTE.out, pipeA, hc]; rfl
  have HTE := Lib.hid hTe
  have HTO := Lib.hid hTo
  have hC := pparse_calls _ es _ (hV.below hba) hd ht hl
  have HH := Lib.hid h
  have HBA := Lib.hid hba
  have hzi := hX.lt
  have HTB := Lib.hid htb
  clear hTe hTo hTE hV hd ht hl h htb hba
  go_wp2_with fail
  refine hC.mono ?_
  rintro e' w2 ⟨hok, hno, hb2⟩
  have hX2 := hX.below hb2
  have hbb := HBA.out.trans (hb2.mono HBA.out.size)
  clear hX hC
  cases hq : pipeL es with
  | error cc =>
    obtain rfl := hno cc hq
    have hTT := HTE.out cc hq
    have HTT := Lib.hid hTT
    have hc0 := pipeL_err hq
    have hcb : ((cc : Int) != 0) = true := by rw [bne, beq_eq_false_iff_ne.2 (by omega : (cc : Int) ≠ 0)]; rfl
    have hcb2 : ((cc : Int) == 0) = false := beq_eq_false_iff_ne.2 (by omega)
    have hbm := hbb.mono hbw
    clear hok hno hTT hq hc0 hX2
    go_wp2
    go_ret
    exact StPost.no HTT.out hbm
  | ok pl =>
    obtain ⟨pv', rfl, hP⟩ := hok pl hq
    obtain ⟨pa, pc, rfl⟩ := hP.slice
    have hTT := HTO.out pl hq
    have HTT := Lib.hid hTT
    have hX3 := hX2.set 2 (.slice pa pl.length pc)
    have hP3 := (hP.off (grownBy_set w2 w.heap.size 2 (.slice pa pl.length pc)) (off_low (by omega))).mono (base' := base) (by omega)
    have hb02 := hbb.setCell (p := ⟨w.heap.size, 2, none⟩) (Nat.le_refl _) (.slice pa pl.length pc)
    have h3 := HH.out.below hb02
    have hbw3 : base ≤ (w2.setCell ⟨w.heap.size, 2, none⟩ (.slice pa pl.length pc)).heap.size := Nat.le_trans hbw hb02.size
    have x2 := hX2.cell 2 _ rfl
    have f2 := hX2.free 2
    have hA := add_calls _ h3 (.mk k tx pl [] []) (.slice pa pl.length pc) (.slice none 0 0) (.slice none 0 0) hP3 (its_nil _ _ _) (its_nil _ _ _) hsm hbw3
    have hA2 : Calls Tryz.prog 31 #[.pointer (some ⟨p, 0, none⟩), .agg #[.int .i64 k, .string ⟨tx.toArray⟩, .slice pa pl.length pc, .slice none 0 0, .slice none 0 0]] (w2.setCell ⟨w.heap.size, 2, none⟩ (.slice pa pl.length pc)) (AddPost base p ls t (.mk k tx pl [] []) (w2.setCell ⟨w.heap.size, 2, none⟩ (.slice pa pl.length pc))) := hA
    have htbe : (⟨tx.toArray⟩ : ByteArray) = tb := (StrIs.eq HTB.out).symm
    rw [htbe] at hA2
    have HA := Lib.hid hA2
    have HX3 := Lib.hid hX3
    have hb3 := hb02.mono hbw
    clear hA hA2 htbe hok hno hTT hq hX2 hX3 hP hP3 h3 hb02 hbb
    go_upto_region 9 with (fail)
    clear x2 f2
    generalize w2.setCell ⟨w.heap.size, 2, none⟩ (.slice pa pl.length pc) = w3 at *
    have d0 := HX3.out.cell 0 _ rfl
    have d1 := HX3.out.cell 1 _ rfl
    have d2 := HX3.out.cell 2 _ rfl
    have d3 := HX3.out.cell 3 _ rfl
    have d4 := HX3.out.cell 4 _ rfl
    go_wp2_with fail
    refine HA.out.mono ?_
    rintro e' w5 ⟨rfl, rv, hS5, hb5⟩
    have HS5 := Lib.hid hS5
    clear hS5 d0 d1 d2 d3 d4
    go_wp2
    go_ret
    have h5 := HS5.out
    exact StPost.ok (by rw [HTT.out, lvs_snoc]) h5 (by simp) (hb3.trans hb5)
end Go.Proofs.YtdaffedbboofjaaGreatDoor.S

/-
  THE WALKS of package tmpl's lone, alone.
-/
set_option linter.unusedVariables false
set_option linter.unusedSimpArgs false
namespace Go.Proofs.YtdaffedbboofjaaGreatDoor.S
open Go.RowKit
variable {base p : Nat} {F F' : Nat → Prop} {W W' : World} {s t : Sl} {ls L : List Sl}

set_option maxRecDepth 100000 in
set_option maxHeartbeats 4000000 in
theorem lone_calls (s : ByteArray) (l : List UInt8) (hl : StrIs s l) (w : World) :
    Calls Tryz.prog 55 #[.string s] w fun e w' => e = .returned (.bool (lone l)) ∧ w = w' := by
  cases h0 : (l == [101, 108, 115, 101]) with
  | true =>
    have t0 := str_test hl [101, 108, 115, 101] true h0
    have hf : lone l = true := by unfold lone; rw [h0]; simp
    have HF := Lib.hid hf
    clear hf h0
    go_enter Tryz.func55, Tryz.ntmps55
    go_wp2
    go_ret
    exact ⟨by rw [HF.out]; rfl, rfl⟩
  | false =>
    have t0 := str_test hl [101, 108, 115, 101] false h0
    cases h1 : (l == [101, 110, 100]) with
    | true =>
      have t1 := str_test hl [101, 110, 100] true h1
      have hf : lone l = true := by unfold lone; rw [h1]; simp
      have HF := Lib.hid hf
      clear hf h0 h1
      go_enter Tryz.func55, Tryz.ntmps55
      go_wp2
      go_ret
      exact ⟨by rw [HF.out]; rfl, rfl⟩
    | false =>
      have t1 := str_test hl [101, 110, 100] false h1
      cases h2 : (l == [98, 114, 101, 97, 107]) with
      | true =>
        have t2 := str_test hl [98, 114, 101, 97, 107] true h2
        have hf : lone l = true := by unfold lone; rw [h2]; simp
        have HF := Lib.hid hf
        clear hf h0 h1 h2
        go_enter Tryz.func55, Tryz.ntmps55
        go_wp2
        go_ret
        exact ⟨by rw [HF.out]; rfl, rfl⟩
      | false =>
        have t2 := str_test hl [98, 114, 101, 97, 107] false h2
        cases h3 : (l == [99, 111, 110, 116, 105, 110, 117, 101]) with
        | true =>
          have t3 := str_test hl [99, 111, 110, 116, 105, 110, 117, 101] true h3
          have hf : lone l = true := by unfold lone; rw [h3]; simp
          have HF := Lib.hid hf
          clear hf h0 h1 h2 h3
          go_enter Tryz.func55, Tryz.ntmps55
          go_wp2
          go_ret
          exact ⟨by rw [HF.out]; rfl, rfl⟩
        | false =>
          have t3 := str_test hl [99, 111, 110, 116, 105, 110, 117, 101] false h3
          have hf : lone l = false := by unfold lone; rw [h0, h1, h2, h3]; rfl
          have HF := Lib.hid hf
          clear hf h0 h1 h2 h3
          go_enter Tryz.func55, Tryz.ntmps55
          go_wp2
          go_ret
          exact ⟨by rw [HF.out]; rfl, rfl⟩
theorem StPost.val {T : Except Nat (List Lv)} {w : World} {e : Ending} {w' : World} (h : StPost base p T w e w') : ∃ x : Nat, e = .returned (.int .i64 x) := by
  cases T with
  | ok l => exact ⟨0, (h.1 l rfl).1⟩
  | error c => exact ⟨c, h.2.1 c rfl⟩
def AlonePost (base p : Nat) (T : Except Nat (List Lv)) (w : World) (e : Ending) (w' : World) : Prop := ∃ x : Nat, e = .returned (.tuple #[.int .i64 x, .bool true]) ∧ StPost base p T w (.returned (.int .i64 x)) w'
theorem lit_test {s : ByteArray} {l x : List UInt8} (hl : StrIs s l) (h : l = x) (y : List UInt8) (b : Bool) (hb : (x == y) = b) : (s.toList == y) = b := str_test hl y b (by rw [h]; exact hb)
set_option maxRecDepth 100000 in
set_option maxHeartbeats 4000000 in
theorem alone_else (s : ByteArray) (w : World) (h : St base p (ls ++ [t]) w) (hr : rootOk (ls ++ [t])) (hsm : ∀ s ∈ ls ++ [t], s.lv.row.length ≤ 1073741824) (hbw : base ≤ w.heap.size) (hs : StrIs s [101, 108, 115, 101]) :
    Calls Tryz.prog 56 #[.pointer (some ⟨p, 0, none⟩), .string s] w (AlonePost base p (stepL t.lv (lvs ls) (.els)) w) := by
  have t0 := lit_test hs rfl [101, 108, 115, 101] true (by decide)
  have hC := otherwise_calls w h
  generalize stepL t.lv (lvs ls) (.els) = T at *
  clear hs hsm hr h
  go_enter Tryz.func56, Tryz.ntmps56
  go_wp2_with fail
  refine hC.mono ?_
  rintro e w' hP
  obtain ⟨x, rfl⟩ := hP.val
  have HP := Lib.hid hP
  clear hP hC
  go_wp2
  go_ret2
  have hp := HP.out
  exact ⟨x, rfl, hp⟩
set_option maxRecDepth 100000 in
set_option maxHeartbeats 4000000 in
theorem alone_end (s : ByteArray) (w : World) (h : St base p (ls ++ [t]) w) (hr : rootOk (ls ++ [t])) (hsm : ∀ s ∈ ls ++ [t], s.lv.row.length ≤ 1073741824) (hbw : base ≤ w.heap.size) (hs : StrIs s [101, 110, 100]) :
    Calls Tryz.prog 56 #[.pointer (some ⟨p, 0, none⟩), .string s] w (AlonePost base p (stepL t.lv (lvs ls) (.fin)) w) := by
  have t0 := lit_test hs rfl [101, 108, 115, 101] false (by decide)
  have t1 := lit_test hs rfl [101, 110, 100] true (by decide)
  have hC := tend_calls w h (fun s hs => hsm s (List.mem_append_left _ hs)) hbw
  generalize stepL t.lv (lvs ls) (.fin) = T at *
  clear hs hsm hr h
  go_enter Tryz.func56, Tryz.ntmps56
  go_wp2_with fail
  refine hC.mono ?_
  rintro e w' hP
  obtain ⟨x, rfl⟩ := hP.val
  have HP := Lib.hid hP
  clear hP hC
  go_wp2
  go_ret2
  have hp := HP.out
  exact ⟨x, rfl, hp⟩
set_option maxRecDepth 100000 in
set_option maxHeartbeats 4000000 in
theorem alone_break (s : ByteArray) (w : World) (h : St base p (ls ++ [t]) w) (hr : rootOk (ls ++ [t])) (hsm : ∀ s ∈ ls ++ [t], s.lv.row.length ≤ 1073741824) (hbw : base ≤ w.heap.size) (hs : StrIs s [98, 114, 101, 97, 107]) :
    Calls Tryz.prog 56 #[.pointer (some ⟨p, 0, none⟩), .string s] w (AlonePost base p (stepL t.lv (lvs ls) (.leave 7)) w) := by
  have t0 := lit_test hs rfl [101, 108, 115, 101] false (by decide)
  have t1 := lit_test hs rfl [101, 110, 100] false (by decide)
  have t2 := lit_test hs rfl [98, 114, 101, 97, 107] true (by decide)
  have hC := leaves_calls 7 w h hr (hsm t (by simp)) hbw
  rw [show ((7 : Nat) : Int) = 7 from rfl] at hC
  generalize stepL t.lv (lvs ls) (.leave 7) = T at *
  clear hs hsm hr h
  go_enter Tryz.func56, Tryz.ntmps56
  go_wp2_with fail
  refine hC.mono ?_
  rintro e w' hP
  obtain ⟨x, rfl⟩ := hP.val
  have HP := Lib.hid hP
  clear hP hC
  go_wp2
  go_ret2
  have hp := HP.out
  exact ⟨x, rfl, hp⟩
set_option maxRecDepth 100000 in
set_option maxHeartbeats 4000000 in
theorem alone_continue (s : ByteArray) (w : World) (h : St base p (ls ++ [t]) w) (hr : rootOk (ls ++ [t])) (hsm : ∀ s ∈ ls ++ [t], s.lv.row.length ≤ 1073741824) (hbw : base ≤ w.heap.size) (hs : StrIs s [99, 111, 110, 116, 105, 110, 117, 101]) :
    Calls Tryz.prog 56 #[.pointer (some ⟨p, 0, none⟩), .string s] w (AlonePost base p (stepL t.lv (lvs ls) (.leave 8)) w) := by
  have t0 := lit_test hs rfl [101, 108, 115, 101] false (by decide)
  have t1 := lit_test hs rfl [101, 110, 100] false (by decide)
  have t2 := lit_test hs rfl [98, 114, 101, 97, 107] false (by decide)
  have t3 := lit_test hs rfl [99, 111, 110, 116, 105, 110, 117, 101] true (by decide)
  have hC := leaves_calls 8 w h hr (hsm t (by simp)) hbw
  rw [show ((8 : Nat) : Int) = 8 from rfl] at hC
  generalize stepL t.lv (lvs ls) (.leave 8) = T at *
  clear hs hsm hr h
  go_enter Tryz.func56, Tryz.ntmps56
  go_wp2_with fail
  refine hC.mono ?_
  rintro e w' hP
  obtain ⟨x, rfl⟩ := hP.val
  have HP := Lib.hid hP
  clear hP hC
  go_wp2
  go_ret2
  have hp := HP.out
  exact ⟨x, rfl, hp⟩
set_option maxRecDepth 100000 in
set_option maxHeartbeats 4000000 in
theorem alone_no (q : Value) (s : ByteArray) (l : List UInt8) (hl : StrIs s l) (w : World) (h0 : (l == [101, 108, 115, 101]) = false) (h1 : (l == [101, 110, 100]) = false) (h2 : (l == [98, 114, 101, 97, 107]) = false) (h3 : (l == [99, 111, 110, 116, 105, 110, 117, 101]) = false) :
    Calls Tryz.prog 56 #[q, .string s] w fun e w' => e = .returned (.tuple #[.int .i64 0, .bool false]) ∧ w = w' := by
  have t0 := str_test hl [101, 108, 115, 101] false h0
  have t1 := str_test hl [101, 110, 100] false h1
  have t2 := str_test hl [98, 114, 101, 97, 107] false h2
  have t3 := str_test hl [99, 111, 110, 116, 105, 110, 117, 101] false h3
  clear h0 h1 h2 h3
  go_enter Tryz.func56, Tryz.ntmps56
  go_wp2
  go_ret2
  exact ⟨rfl, rfl⟩
end Go.Proofs.YtdaffedbboofjaaGreatDoor.S

/-
  PLAIN: how many words, paths, how long their names.
-/
set_option linter.unusedVariables false
set_option linter.unusedSimpArgs false
namespace Go.Proofs.YtdaffedbboofjaaGreatDoor.S

theorem wdOk_path {d : Wd} (h : WdOk d) : d.path.length ≤ 8 ∧ ∀ x ∈ d.path, x.length ≤ 32 := by
  have hn : ∀ x, nameOk x = true → x.length ≤ 32 := fun x hx => by
    simp only [nameOk, Bool.and_eq_true, decide_eq_true_eq] at hx
    exact hx.1.1.2
  cases h with
  | field xs h hl => exact ⟨hl, fun x hx => hn x (h x hx)⟩
  | var x xs h hs hl => exact ⟨hl, fun x hx => hn x (hs x hx)⟩
  | _ => exact ⟨by simp, fun x hx => by cases hx⟩
theorem costL_len (ds : List Wd) : 2 * ds.length ≤ costL ds := by
  induction ds with
  | nil => exact Nat.zero_le _
  | cons d ds ih => unfold costL at *; simp only [List.map_cons, List.sum_cons, List.length_cons]; omega
theorem wordsL_sizes {l : List UInt8} {ds : List Wd} {n : Nat} (h : wordsL l = (ds, n)) : ds.length ≤ 14 * l.length ∧ ∀ d ∈ ds, d.path.length ≤ 8 ∧ ∀ x ∈ d.path, x.length ≤ 32 := by
  by_cases hn : n = 0
  · subst hn
    obtain ⟨h1, h2⟩ := wordsL_good h
    have := costL_len ds
    exact ⟨by omega, fun d hd => wdOk_path (h1 d hd)⟩
  · rw [wordsL_no h hn]
    exact ⟨Nat.zero_le _, fun d hd => by cases hd⟩
end Go.Proofs.YtdaffedbboofjaaGreatDoor.S

/-
  THE WALK of package tmpl's action.
-/
set_option linter.unusedVariables false
set_option linter.unusedSimpArgs false
namespace Go.Proofs.YtdaffedbboofjaaGreatDoor.S
open Go.RowKit
variable {base p : Nat} {F F' : Nat → Prop} {W W' : World} {s t : Sl} {ls L : List Sl}

def chainA (nl : List UInt8) (ds : List Wd) : Except Nat Ac :=
  if (lone nl && decide (1 < ds.length)) = true then .error 1604
  else if nl = [101, 108, 115, 101] then .ok .els
  else if nl = [101, 110, 100] then .ok .fin
  else if nl = [98, 114, 101, 97, 107] then .ok (.leave 7)
  else if nl = [99, 111, 110, 116, 105, 110, 117, 101] then .ok (.leave 8)
  else if nl = [105, 102] then blockA 3 (ds.drop 1)
  else if nl = [119, 105, 116, 104] then blockA 4 (ds.drop 1)
  else if nl = [114, 97, 110, 103, 101] then blockA 5 (ds.drop 1)
  else if nl = [116, 101, 109, 112, 108, 97, 116, 101] then callA (ds.drop 1)
  else tellA ds
theorem wordsA_chain {d : Wd} {r : List Wd} : wordsA (d :: r) = chainA (nameOf (d :: r)) (d :: r) := rfl
theorem actL_err {l : List UInt8} {ds : List Wd} {n : Nat} (h : wordsL l = (ds, n)) (hn : n ≠ 0) : actL l = .error n := by unfold actL; rw [h, if_pos hn]
theorem actL_ok {l : List UInt8} {ds : List Wd} (h : wordsL l = (ds, 0)) : actL l = wordsA ds := by unfold actL; rw [h, if_neg (by simp)]
theorem escs_ge : ∀ t : List UInt8, t.length ≤ (escsL t).length
  | [] => Nat.le_refl _
  | b :: t => by have := escs_ge t; have := (escB_len b).1; unfold escsL at *; rw [List.flatMap_cons, List.length_append, List.length_cons]; omega
theorem text_cost {d : Wd} (h : WdOk d) : d.text.length ≤ (wrL d).length := by
  cases h with
  | name x h => exact Nat.le_refl _
  | var x xs h hx hl =>
    show x.length ≤ (refW (36 :: x) xs).length
    unfold refW
    rw [if_neg (by simp)]
    simp
    omega
  | text x =>
    show x.length ≤ (34 :: (escsL x ++ [34])).length
    have := escs_ge x
    simp
    omega
  | _ => exact Nat.zero_le _
theorem cost_mem {ds : List Wd} {d : Wd} (h : d ∈ ds) : 2 + (wrL d).length ≤ costL ds := by
  induction ds with
  | nil => cases h
  | cons a r ih =>
    unfold costL at *
    rw [List.map_cons, List.sum_cons]
    rcases List.mem_cons.1 h with rfl | h
    · omega
    · have := ih h; omega

theorem StPost.trans {T : Except Nat (List Lv)} {w w1 : World} {e : Ending} {w' : World} (hb : Below base w w1) (h : StPost base p T w1 e w') : StPost base p T w e w' := ⟨h.1, h.2.1, hb.trans h.2.2⟩
set_option maxRecDepth 100000 in
set_option maxHeartbeats 16000000 in
theorem taction_calls (s : ByteArray) (l : List UInt8) (hsl : StrIs s l) (hl : l.length ≤ 256) (w : World) (hE : Env w) (h : St base p (ls ++ [t]) w) (hr : rootOk (ls ++ [t])) (hsm : ∀ s ∈ ls ++ [t], s.lv.row.length ≤ 1073741824) (hbw : base ≤ w.heap.size) (hn16 : ls.length ≤ 1073741824) :
    Calls Tryz.prog 32 #[.pointer (some ⟨p, 0, none⟩), .string s] w (StPost base p (doA t.lv (lvs ls) (actL l)) w) := by
  obtain ⟨T, hT⟩ : ∃ T, T = doA t.lv (lvs ls) (actL l) := ⟨_, rfl⟩
  rw [← hT]
  have HT := Lib.hid hT
  have hss : s.size ≤ 1073741824 := by rw [hsl.size]; omega
  have hsd : s.data.toList = l := hsl
  have hW := words_calls s w hE hss
  rw [hsd] at hW
  clear hT hsl hsd hss
  go_enter Tryz.func32, Tryz.ntmps32
  go_wp2_with fail
  refine hW.mono ?_
  rintro e w1 ⟨v, ds, n, rfl, hP, hb1, hw⟩
  have h1 := h.below hb1
  have hbb := hb1.mono hbw
  have hbw1 : base ≤ w1.heap.size := Nat.le_trans hbw hb1.size
  have hV := hP.view
  have hdl : ds.length ≤ 16777216 := by have := (wordsL_sizes hw).1; omega
  clear h hE hP hb1 hW
  obtain ⟨a, c, hv⟩ := hV.slice
  obtain ⟨m, hm⟩ : ∃ m, m = ds.length := ⟨_, rfl⟩
  rw [← hm] at hv hdl
  subst hv
  have HM := Lib.hid hm
  clear hm
  by_cases hn : n = 0
  · subst hn
    obtain ⟨hd, hcost⟩ := wordsL_good hw
    have ht : ∀ d ∈ ds, d.text.length ≤ 65536 := fun d hx => by have h1 := text_cost (hd d hx); have h2 := cost_mem hx; omega
    have hT := HT.out
    rw [actL_ok hw] at hT
    cases ds with
    | nil =>
      obtain rfl : m = 0 := HM.out
      have hT2 : T = .error 1604 := hT
      have HTT := Lib.hid hT2
      clear hT hT2 hV hd ht hcost hw h1
      go_wp2
      go_ret
      exact StPost.no HTT.out hbb
    | cons d r =>
      rw [wordsA_chain] at hT
      have hm0 : 0 < m := by rw [HM.out]; simp
      have hmb : ((m : Int) == 0) = false := beq_eq_false_iff_ne.2 (by omega)
      have hV' := hV
      obtain ⟨a', c', hv, hc1, hc2, hc⟩ := hV'
      obtain ⟨rfl, -, rfl⟩ := Value.slice.inj hv
      rw [← HM.out] at hc1
      obtain ⟨g, off, pv, rfl, e0, e1, e2, e3, hp⟩ := hc 0 (by simp)
      rw [Nat.zero_mul, Nat.add_zero] at e0 e1
      simp only [List.getElem_cons_zero] at e0 e1
      have HTC := Lib.hid hT
      have HD := Lib.hid hd
      have HTX := Lib.hid ht
      have HV := Lib.hid hV
      have H1 := Lib.hid h1
      have hnm : nameOf (d :: r) = if d.kind = 0 then d.text else [] := rfl
      have HNM := Lib.hid hnm
      have hst : StrIs (⟨d.text.toArray⟩ : ByteArray) d.text := rfl
      have HSTR := Lib.hid hst
      clear hc hv e2 e3 hp hT hd ht hcost hw hV h1 hnm hst
      go_upto_region 7 with (fail)
      go_cut [27] (fun v27 wx => v27 = .bool (d.kind == 0) ∧ w1 = wx)
      case first =>
        go_wp2_with fail
        go_meet
        exact ⟨by cases hk : (d.kind == 0) with
          | true => rw [beq_iff_eq.1 hk]; rfl
          | false => rw [show ((d.kind : Int) == 0) = false from beq_eq_false_iff_ne.2 (by have := beq_eq_false_iff_ne.1 hk; omega)], rfl⟩
      case rest =>
      obtain ⟨rfl, rfl⟩ := hcut
      go_upto_if 27 with (fail)
      go_cut [7] (fun v7 wx => ∃ nb : ByteArray, v7 = .string nb ∧ StrIs nb (nameOf (d :: r)) ∧ w1 = wx)
      case first =>
        cases hk : (d.kind == 0) with
        | true =>
          have hst : StrIs (⟨d.text.toArray⟩ : ByteArray) (nameOf (d :: r)) := by rw [HNM.out, if_pos (beq_iff_eq.1 hk)]; rfl
          have HST := Lib.hid hst
          have hidx : (0 : Int) < (m : Int) := by omega
          clear hk hst
          generalize (⟨d.text.toArray⟩ : ByteArray) = tb at *
          go_wp2_with fail
          go_meet
          exact ⟨tb, rfl, HST.out, rfl⟩
        | false =>
          have hst : StrIs (⟨#[]⟩ : ByteArray) (nameOf (d :: r)) := by rw [HNM.out, if_neg (beq_eq_false_iff_ne.1 hk)]; rfl
          have HST := Lib.hid hst
          clear hk hst
          go_wp2_with fail
          go_meet
          exact ⟨⟨#[]⟩, rfl, HST.out, rfl⟩
      case rest =>
      obtain ⟨nb, rfl, hnb, rfl⟩ := hcut
      generalize nameOf (d :: r) = nl at *
      clear e0 e1 HNM HSTR
      have hLC := lone_calls nb nl hnb w1
      have hTC := HTC.out
      have hrd : (d :: r).length = m := HM.out.symm
      unfold chainA at hTC
      rw [hrd] at hTC
      cases hlm : (lone nl && decide (1 < m)) with
      | true =>
        rw [hlm] at hTC
        have hT2 : T = .error 1604 := hTC
        have HTT := Lib.hid hT2
        obtain ⟨hl1, hm1⟩ := Bool.and_eq_true_iff.1 hlm
        have hmb2 : decide ((1 : Int) < (m : Int)) = true := decide_eq_true (by have := of_decide_eq_true hm1; omega)
        rw [hl1] at hLC
        clear hTC hT2 hlm hl1 hm1 HTC hrd hnb
        go_wp2_with (go_at_call 55; refine hLC.mono ?_; rintro e w' ⟨rfl, rfl⟩)
        go_ret
        exact StPost.no HTT.out hbb
      | false =>
        rw [hlm, if_neg (by decide)] at hTC
        have HTC2 := Lib.hid hTC
        clear hTC HTC hrd
        go_upto_region 9 with (fail)
        go_cut [38] (fun v38 wx => v38 = .bool false ∧ w1 = wx)
        case first =>
          cases hl1 : lone nl with
          | true =>
            rw [hl1, Bool.true_and] at hlm
            have hmb2 : decide ((1 : Int) < (m : Int)) = false := decide_eq_false (by have := of_decide_eq_false hlm; omega)
            rw [hl1] at hLC
            clear hlm hl1 hnb
            go_wp2_with (go_at_call 55; refine hLC.mono ?_; rintro e w' ⟨rfl, rfl⟩)
            go_meet
            exact ⟨rfl, rfl⟩
          | false =>
            rw [hl1] at hLC
            clear hlm hl1 hnb
            go_wp2_with (go_at_call 55; refine hLC.mono ?_; rintro e w' ⟨rfl, rfl⟩)
            go_meet
            exact ⟨rfl, rfl⟩
        case rest =>
        obtain ⟨rfl, rfl⟩ := hcut
        clear hlm hLC
        have hD := HV.out.drop 1 (by simp)
        rw [List.drop_succ_cons, List.drop_zero] at hD
        have hdr : ∀ x ∈ r, WdOk x := fun x hx => HD.out x (List.mem_cons_of_mem _ hx)
        have htr : ∀ x ∈ r, x.text.length ≤ 65536 := fun x hx => HTX.out x (List.mem_cons_of_mem _ hx)
        have hlr : r.length ≤ 1073741824 := by have h := HM.out; rw [List.length_cons] at h; omega
        have hld : (d :: r).length ≤ 1073741824 := by rw [← HM.out]; omega
        have rD := fun W => run_drop (a := some ⟨g, off, none⟩) (n := m) (c := c) 1 (by omega) (by omega) W
        rw [Int.natCast_one] at rD
        rw [List.drop_succ_cons, List.drop_zero] at HTC2
        generalize sliced (some ⟨g, off, none⟩) 1 m c 4 = v1 at *
        cases k0 : (nl == [101, 108, 115, 101]) with
        | true =>
          have he := beq_iff_eq.1 k0
          subst he
          have hT2 : T = stepL t.lv (lvs ls) (.els) := HTC2.out
          have hC := alone_else nb w1 H1.out hr hsm hbw1 hnb
          rw [← hT2] at hC
          clear hT2 hnb rD hD k0
          go_wp2_with fail
          refine hC.mono ?_
          rintro e w5 ⟨x, rfl, hP5⟩
          have hpp := StPost.trans hbb hP5
          have HP5 := Lib.hid hpp
          clear hP5 hC hpp
          go_wp2
          go_ret
          exact HP5.out
        | false =>
          have t0 := str_test hnb [101, 108, 115, 101] false k0
          cases k1 : (nl == [101, 110, 100]) with
          | true =>
            have he := beq_iff_eq.1 k1
            subst he
            have hT2 : T = stepL t.lv (lvs ls) (.fin) := HTC2.out
            have hC := alone_end nb w1 H1.out hr hsm hbw1 hnb
            rw [← hT2] at hC
            clear hT2 hnb rD hD k0 k1
            go_wp2_with fail
            refine hC.mono ?_
            rintro e w5 ⟨x, rfl, hP5⟩
            have hpp := StPost.trans hbb hP5
            have HP5 := Lib.hid hpp
            clear hP5 hC hpp
            go_wp2
            go_ret
            exact HP5.out
          | false =>
            have t1 := str_test hnb [101, 110, 100] false k1
            cases k2 : (nl == [98, 114, 101, 97, 107]) with
            | true =>
              have he := beq_iff_eq.1 k2
              subst he
              have hT2 : T = stepL t.lv (lvs ls) (.leave 7) := HTC2.out
              have hC := alone_break nb w1 H1.out hr hsm hbw1 hnb
              rw [← hT2] at hC
              clear hT2 hnb rD hD k0 k1 k2
              go_wp2_with fail
              refine hC.mono ?_
              rintro e w5 ⟨x, rfl, hP5⟩
              have hpp := StPost.trans hbb hP5
              have HP5 := Lib.hid hpp
              clear hP5 hC hpp
              go_wp2
              go_ret
              exact HP5.out
            | false =>
              have t2 := str_test hnb [98, 114, 101, 97, 107] false k2
              cases k3 : (nl == [99, 111, 110, 116, 105, 110, 117, 101]) with
              | true =>
                have he := beq_iff_eq.1 k3
                subst he
                have hT2 : T = stepL t.lv (lvs ls) (.leave 8) := HTC2.out
                have hC := alone_continue nb w1 H1.out hr hsm hbw1 hnb
                rw [← hT2] at hC
                clear hT2 hnb rD hD k0 k1 k2 k3
                go_wp2_with fail
                refine hC.mono ?_
                rintro e w5 ⟨x, rfl, hP5⟩
                have hpp := StPost.trans hbb hP5
                have HP5 := Lib.hid hpp
                clear hP5 hC hpp
                go_wp2
                go_ret
                exact HP5.out
              | false =>
                have t3 := str_test hnb [99, 111, 110, 116, 105, 110, 117, 101] false k3
                cases k4 : (nl == [105, 102]) with
                | true =>
                  have he := beq_iff_eq.1 k4
                  subst he
                  have t0 := str_test hnb [101, 108, 115, 101] false (by decide)
                  have t1 := str_test hnb [101, 110, 100] false (by decide)
                  have t2 := str_test hnb [98, 114, 101, 97, 107] false (by decide)
                  have t3 := str_test hnb [99, 111, 110, 116, 105, 110, 117, 101] false (by decide)
                  have t4 := str_test hnb [105, 102] true (by decide)
                  have hA := alone_no (.pointer (some ⟨p, 0, none⟩)) nb _ hnb w1 (by decide) (by decide) (by decide) (by decide)
                  have hT2 : T = doA t.lv (lvs ls) (blockA 3 r) := HTC2.out
                  have hC := begin_calls 3 v1 r w1 H1.out hD hdr htr hlr hbw1 hn16
                  rw [show ((3 : Nat) : Int) = 3 from rfl, ← hT2] at hC
                  clear hT2 hnb hD hdr htr hlr hld hsm hr k0 k1 k2 k3 k4
                  go_wp2_with (first | (go_at_call 56; refine hA.mono ?_; rintro e w' ⟨rfl, rfl⟩) | (go_at_call 57; refine hC.mono ?_; rintro e w5 hP5; obtain ⟨x, rfl⟩ := hP5.val; have HP5 := Lib.hid (StPost.trans hbb hP5); clear hP5))
                  go_ret
                  exact HP5.out
                | false =>
                  have t4 := str_test hnb [105, 102] false k4
                  cases k5 : (nl == [119, 105, 116, 104]) with
                  | true =>
                    have he := beq_iff_eq.1 k5
                    subst he
                    have t0 := str_test hnb [101, 108, 115, 101] false (by decide)
                    have t1 := str_test hnb [101, 110, 100] false (by decide)
                    have t2 := str_test hnb [98, 114, 101, 97, 107] false (by decide)
                    have t3 := str_test hnb [99, 111, 110, 116, 105, 110, 117, 101] false (by decide)
                    have t4 := str_test hnb [105, 102] false (by decide)
                    have t5 := str_test hnb [119, 105, 116, 104] true (by decide)
                    have hA := alone_no (.pointer (some ⟨p, 0, none⟩)) nb _ hnb w1 (by decide) (by decide) (by decide) (by decide)
                    have hT2 : T = doA t.lv (lvs ls) (blockA 4 r) := HTC2.out
                    have hC := begin_calls 4 v1 r w1 H1.out hD hdr htr hlr hbw1 hn16
                    rw [show ((4 : Nat) : Int) = 4 from rfl, ← hT2] at hC
                    clear hT2 hnb hD hdr htr hlr hld hsm hr k0 k1 k2 k3 k4 k5
                    go_wp2_with (first | (go_at_call 56; refine hA.mono ?_; rintro e w' ⟨rfl, rfl⟩) | (go_at_call 57; refine hC.mono ?_; rintro e w5 hP5; obtain ⟨x, rfl⟩ := hP5.val; have HP5 := Lib.hid (StPost.trans hbb hP5); clear hP5))
                    go_ret
                    exact HP5.out
                  | false =>
                    have t5 := str_test hnb [119, 105, 116, 104] false k5
                    cases k6 : (nl == [114, 97, 110, 103, 101]) with
                    | true =>
                      have he := beq_iff_eq.1 k6
                      subst he
                      have t0 := str_test hnb [101, 108, 115, 101] false (by decide)
                      have t1 := str_test hnb [101, 110, 100] false (by decide)
                      have t2 := str_test hnb [98, 114, 101, 97, 107] false (by decide)
                      have t3 := str_test hnb [99, 111, 110, 116, 105, 110, 117, 101] false (by decide)
                      have t4 := str_test hnb [105, 102] false (by decide)
                      have t5 := str_test hnb [119, 105, 116, 104] false (by decide)
                      have t6 := str_test hnb [114, 97, 110, 103, 101] true (by decide)
                      have hA := alone_no (.pointer (some ⟨p, 0, none⟩)) nb _ hnb w1 (by decide) (by decide) (by decide) (by decide)
                      have hT2 : T = doA t.lv (lvs ls) (blockA 5 r) := HTC2.out
                      have hC := begin_calls 5 v1 r w1 H1.out hD hdr htr hlr hbw1 hn16
                      rw [show ((5 : Nat) : Int) = 5 from rfl, ← hT2] at hC
                      clear hT2 hnb hD hdr htr hlr hld hsm hr k0 k1 k2 k3 k4 k5 k6
                      go_wp2_with (first | (go_at_call 56; refine hA.mono ?_; rintro e w' ⟨rfl, rfl⟩) | (go_at_call 57; refine hC.mono ?_; rintro e w5 hP5; obtain ⟨x, rfl⟩ := hP5.val; have HP5 := Lib.hid (StPost.trans hbb hP5); clear hP5))
                      go_ret
                      exact HP5.out
                    | false =>
                      have t6 := str_test hnb [114, 97, 110, 103, 101] false k6
                      cases k7 : (nl == [116, 101, 109, 112, 108, 97, 116, 101]) with
                      | true =>
                        have he := beq_iff_eq.1 k7
                        subst he
                        have t0 := str_test hnb [101, 108, 115, 101] false (by decide)
                        have t1 := str_test hnb [101, 110, 100] false (by decide)
                        have t2 := str_test hnb [98, 114, 101, 97, 107] false (by decide)
                        have t3 := str_test hnb [99, 111, 110, 116, 105, 110, 117, 101] false (by decide)
                        have t4 := str_test hnb [105, 102] false (by decide)
                        have t5 := str_test hnb [119, 105, 116, 104] false (by decide)
                        have t6 := str_test hnb [114, 97, 110, 103, 101] false (by decide)
                        have t7 := str_test hnb [116, 101, 109, 112, 108, 97, 116, 101] true (by decide)
                        have hA := alone_no (.pointer (some ⟨p, 0, none⟩)) nb _ hnb w1 (by decide) (by decide) (by decide) (by decide)
                        have hT2 : T = doA t.lv (lvs ls) (callA r) := HTC2.out
                        have hC := call_calls v1 r w1 H1.out hD hdr htr hlr hbw1 (hsm t (by simp))
                        rw [← hT2] at hC
                        clear hT2 hnb hD hdr htr hlr hld hsm hr k0 k1 k2 k3 k4 k5 k6 k7
                        go_wp2_with (first | (go_at_call 56; refine hA.mono ?_; rintro e w' ⟨rfl, rfl⟩) | (go_at_call 58; refine hC.mono ?_; rintro e w5 hP5; obtain ⟨x, rfl⟩ := hP5.val; have HP5 := Lib.hid (StPost.trans hbb hP5); clear hP5))
                        go_ret
                        exact HP5.out
                      | false =>
                        have t7 := str_test hnb [116, 101, 109, 112, 108, 97, 116, 101] false k7
                        have hT2 : T = doA t.lv (lvs ls) (tellA (d :: r)) := by
                          have h := HTC2.out
                          rwa [if_neg (beq_eq_false_iff_ne.1 k0), if_neg (beq_eq_false_iff_ne.1 k1), if_neg (beq_eq_false_iff_ne.1 k2), if_neg (beq_eq_false_iff_ne.1 k3), if_neg (beq_eq_false_iff_ne.1 k4), if_neg (beq_eq_false_iff_ne.1 k5), if_neg (beq_eq_false_iff_ne.1 k6), if_neg (beq_eq_false_iff_ne.1 k7)] at h
                        have hA := alone_no (.pointer (some ⟨p, 0, none⟩)) nb _ hnb w1 k0 k1 k2 k3
                        have hC := tells_calls _ (d :: r) w1 H1.out HV.out HD.out HTX.out hld hbw1 (hsm t (by simp))
                        rw [← hT2] at hC
                        clear hT2 hnb hD hdr htr hlr hld hsm hr k0 k1 k2 k3 k4 k5 k6 k7
                        go_wp2_with (first | (go_at_call 56; refine hA.mono ?_; rintro e w' ⟨rfl, rfl⟩) | (go_at_call 59; refine hC.mono ?_; rintro e w5 hP5; obtain ⟨x, rfl⟩ := hP5.val; have HP5 := Lib.hid (StPost.trans hbb hP5); clear hP5))
                        go_ret
                        exact HP5.out
  · have hT : T = .error n := by rw [HT.out, actL_err hw hn]; rfl
    have HTT := Lib.hid hT
    have hnb : ((n : Int) != 0) = true := by rw [bne, beq_eq_false_iff_ne.2 (by omega : (n : Int) ≠ 0)]; rfl
    have hnb2 : ((n : Int) == 0) = false := beq_eq_false_iff_ne.2 (by omega)
    clear hT hw hn hV h1
    go_wp2
    go_ret
    exact StPost.no HTT.out hbb
end Go.Proofs.YtdaffedbboofjaaGreatDoor.S

/-
  Split of a string of any size.
-/
set_option linter.unusedVariables false
set_option linter.unusedSimpArgs false
namespace Go.Proofs.YtdaffedbboofjaaGreatDoor.S
open Go.RowKit

theorem lexSplit_any (s : ByteArray) (w : World) (hE : Env w) :
    Calls Tryz.prog 30 #[.string s] w fun e w' => ∃ v ps n, e = .returned (.tuple #[v, .int .i64 (n : Nat)]) ∧ Pcs w.heap.size v ps w' ∧ Below w.heap.size w w' ∧ splitR s.data.toList = (ps, n) := by
  by_cases h : 65536 < s.size
  · have hr : splitR s.data.toList = ([], 1301) := if_pos h
    go_enter Tryz.func30, Tryz.ntmps30
    go_wp2
    go_ret2
    exact ⟨_, [], 1301, rfl, pcs_nil _ _, Below.refl _ _, hr⟩
  · exact lexSplit_calls s w hE (by omega)
end Go.Proofs.YtdaffedbboofjaaGreatDoor.S

/-
  THE WALK of package tmpl's Parse.
-/
set_option linter.unusedVariables false
set_option linter.unusedSimpArgs false
namespace Go.Proofs.YtdaffedbboofjaaGreatDoor.S
open Go.RowKit
variable {base p : Nat} {F F' : Nat → Prop} {W W' : World} {s t : Sl} {ls L : List Sl}

theorem splitR_sizes {l : List UInt8} {ps : List Pc} (h : splitR l = (ps, 0)) : ps.length ≤ 1024 ∧ ∀ x ∈ ps, x.act = true → x.text.length ≤ 256 := by
  unfold splitR at h
  split at h
  · cases h
  · split at h
    · cases h
    · split at h
      · cases h
      · split at h
        · cases h
        · rename_i qs _ hl hn
          cases h
          refine ⟨by omega, fun x hx ha => ?_⟩
          refine Nat.le_of_not_lt fun hlt => hl ?_
          exact List.any_eq_true.2 ⟨x, hx, by rw [ha]; simpa using hlt⟩
theorem map_err {α β : Type} {x : Except Nat α} {f : α → β} {c : Nat} (h : x.map f = .error c) : x = .error c := by
  cases x with
  | error e => simpa [Except.map] using h
  | ok a => cases h
theorem wordsA_err {ds : List Wd} {c : Nat} (h : wordsA ds = .error c) : c ≠ 0 := by
  unfold wordsA at h
  repeat' split at h
  all_goals first
    | (cases h; done)
    | (cases h; decide)
    | exact pipeL_err (map_err h)
    | skip
  · unfold callA at h
    repeat' split at h
    all_goals first
      | (cases h; done)
      | (cases h; decide)
      | exact pipeL_err (map_err h)
  · unfold tellA at h
    repeat' split at h
    all_goals exact pipeL_err (map_err h)
theorem stepL_err {b : Lv} {st : List Lv} {a : Ac} {c : Nat} (h : stepL b st a = .error c) : c ≠ 0 := by
  unfold stepL at h
  repeat' split at h
  all_goals first
    | (cases h; done)
    | (cases h; decide)
theorem doA_errs {b : Lv} {st : List Lv} {l : List UInt8} {c : Nat} (h : doA b st (actL l) = .error c) : c ≠ 0 := by
  cases ha : actL l with
  | error e =>
    rw [ha] at h
    obtain rfl : e = c := by injection h
    unfold actL at ha
    split at ha
    · rename_i hn
      injection ha with ha
      rw [← ha]
      exact hn
    · exact wordsA_err ha
  | ok a => rw [ha] at h; exact stepL_err h
structure Good (k : Nat) (st : List Lv) : Prop where
  ne : st ≠ []
  len : st.length ≤ k + 1
  rows : ∀ b ∈ st, b.row.length ≤ k
  root : ∀ b, st.getLast? = some b → b.kind ≠ 5
theorem good_root : Good 0 [root] := ⟨by simp, by simp, by intro b hb; simp at hb; subst hb; exact Nat.le_refl _, by intro b hb; simp at hb; subst hb; decide⟩
theorem Good.top {k : Nat} {b b' : Lv} {st : List Lv} (h : Good k (b :: st)) (hk : b'.kind = b.kind) (hr : b'.row.length ≤ k + 1) : Good (k + 1) (b' :: st) := by
  refine ⟨by simp, by have := h.len; simp at *; omega, fun c hc => ?_, fun c hc => ?_⟩
  · rcases List.mem_cons.1 hc with rfl | hc
    · exact hr
    · have := h.rows c (List.mem_cons_of_mem _ hc); omega
  · cases st with
    | nil => simp at hc; subst hc; rw [hk]; exact h.root b (by simp)
    | cons d r => exact h.root c (by rw [List.getLast?_cons_cons] at *; exact hc)
theorem stepL_good {k : Nat} {b : Lv} {st st' : List Lv} {a : Ac} (h : Good k (b :: st)) (hs : stepL b st a = .ok st') : Good (k + 1) st' := by
  have hb := h.rows b (by simp)
  have hadd : ∀ (c : Lv) (i : It), c.row.length ≤ k → (c.add i).row.length ≤ k + 1 := by intro c i hc; simp [Lv.add]; omega
  cases a with
  | els =>
    simp only [stepL] at hs
    split at hs
    · cases hs
    · cases hs; exact h.top rfl (by simp)
  | fin =>
    cases st with
    | nil => cases hs
    | cons c st =>
      cases hs
      have h2 : Good k (c :: st) := ⟨by simp, by have := h.len; simp at *; omega, fun d hd => h.rows d (List.mem_cons_of_mem _ hd), fun d hd => h.root d (by rw [List.getLast?_cons_cons]; exact hd)⟩
      exact h2.top rfl (hadd c _ (h2.rows c (by simp)))
  | leave n =>
    simp only [stepL] at hs
    split at hs
    · cases hs; exact h.top rfl (hadd b _ hb)
    · cases hs
  | item i => cases hs; exact h.top rfl (hadd b _ hb)
  | block n pl =>
    simp only [stepL] at hs
    split at hs
    · cases hs
    · cases hs
      refine ⟨by simp, by have := h.len; simp at *; omega, fun c hc => ?_, fun c hc => h.root c (by rw [List.getLast?_cons_cons] at hc; exact hc)⟩
      rcases List.mem_cons.1 hc with rfl | hc
      · exact Nat.zero_le _
      · have := h.rows c hc; omega
theorem Its.tobase {base' : Nat} {v : Value} {is : List It} (h : Its base F W v is) (hb : base' ≤ base) : Its base' F W v is := by
  induction h with
  | mk v zs hr hF hp ht he iht ihe => exact .mk v zs (hr.mono hb) hF (fun z hz => (hp z hz).mono hb) iht ihe
theorem lvs_rev (ls : List Sl) : (lvs ls).getLast? = (ls.head?).map Sl.lv := by simp [lvs]
theorem Good.rootOk {k : Nat} (h : Good k (lvs ls)) : rootOk ls := fun s hs => h.root s.lv (by rw [lvs_rev, hs]; rfl)
theorem Good.small {k : Nat} (h : Good k (lvs ls)) (s : Sl) (hs : s ∈ ls) : s.lv.row.length ≤ k := h.rows s.lv (by unfold lvs; exact List.mem_map.2 ⟨s, List.mem_reverse.2 hs, rfl⟩)
theorem Good.count {k : Nat} (h : Good k (lvs (ls ++ [t]))) : ls.length ≤ k := by have := h.len; simp [lvs] at this; omega
theorem runS_step {b : Lv} {st : List Lv} {x : Pc} {r : List Pc} : runS (b :: st) (x :: r) = match doA b st (acOf x) with
    | .error e => .error e
    | .ok st' => runS st' r := by
  rw [runS]
  cases acOf x with
  | error e => rfl
  | ok a => rfl
theorem St.first (W : World) : St W.heap.size (W.heap.size + 1 + 1) ([] ++ [newS 0 [] W.heap.size (.slice none 0 0)]) (((W.alloc (.cells #[.int .i64 0, .string ⟨#[]⟩, .slice none 0 0, .slice none 0 0, .slice none 0 0, .slice none 0 0, .bool false] 75)).alloc (.cells #[.pointer (some ⟨W.heap.size, 0, none⟩)] 73)).alloc (.cells #[.slice (some ⟨W.heap.size + 1, 0, none⟩) 1 1] 78)) := by
  have h1 : Blk W.heap.size 75 (newS 0 [] W.heap.size (.slice none 0 0)).cells (W.alloc (.cells #[.int .i64 0, .string ⟨#[]⟩, .slice none 0 0, .slice none 0 0, .slice none 0 0, .slice none 0 0, .bool false] 75)) := Blk.new W _ _
  have z1 : (W.alloc (.cells #[.int .i64 0, .string ⟨#[]⟩, .slice none 0 0, .slice none 0 0, .slice none 0 0, .slice none 0 0, .bool false] 75)).heap.size = W.heap.size + 1 := by simp
  generalize W.alloc (.cells #[.int .i64 0, .string ⟨#[]⟩, .slice none 0 0, .slice none 0 0, .slice none 0 0, .slice none 0 0, .bool false] 75) = w1 at *
  have h2 : (w1.alloc (.cells #[.pointer (some ⟨W.heap.size, 0, none⟩)] 73)).ownsRow w1.heap.size 73 1 (.slice (some ⟨w1.heap.size, 0, none⟩) 1 1) 1 [.pointer (some ⟨W.heap.size, 0, none⟩)] := World.ownsRow_lit w1 #[.pointer (some ⟨W.heap.size, 0, none⟩)] 1 (Nat.le_refl _) (by simp only [maxLen]; omega) rfl
  have b2 := (Below.refl w1.heap.size w1).alloc (Nat.le_refl _) (.cells #[.pointer (some ⟨W.heap.size, 0, none⟩)] 73)
  have z2 : (w1.alloc (.cells #[.pointer (some ⟨W.heap.size, 0, none⟩)] 73)).heap.size = W.heap.size + 1 + 1 := by simp [z1]
  rw [z1] at h2
  have h1 := h1.below b2
  generalize w1.alloc (.cells #[.pointer (some ⟨W.heap.size, 0, none⟩)] 73) = w2 at *
  have h3 : Blk w2.heap.size 78 [.slice (some ⟨W.heap.size + 1, 0, none⟩) 1 1] (w2.alloc (.cells #[.slice (some ⟨W.heap.size + 1, 0, none⟩) 1 1] 78)) := Blk.new w2 _ _
  have b3 := (Below.refl w2.heap.size w2).alloc (Nat.le_refl _) (.cells #[.slice (some ⟨W.heap.size + 1, 0, none⟩) 1 1] 78)
  have h1 := h1.below b3
  have h2 := own_below h2 b3
  rw [z2] at h3
  refine ⟨⟨_, _, h3, h2.mono (by omega)⟩, by omega, fun s hs => ?_, List.pairwise_singleton _ _⟩
  have hs : s ∈ [newS 0 [] W.heap.size (.slice none 0 0)] := hs
  rw [List.mem_singleton.1 hs]
  exact ⟨h1, Nat.le_refl _, cms_nil _ _, its_nil _ _ _, rw_nil _ _ _⟩
/-- P16.1: what is read -/
def tmplL (l : List UInt8) : Except Nat (List It) := if (splitR l).2 ≠ 0 then .error (splitR l).2 else parseL (splitR l).1
def TmplPost (R : Except Nat (List It)) (w : World) (e : Ending) (w' : World) : Prop :=
  (∀ is, R = .ok is → ∃ v, e = .returned (.tuple #[v, .int .i64 0]) ∧ Its w.heap.size (fun _ => True) w' v is) ∧ (∀ c, R = .error c → e = .returned (.tuple #[.slice none 0 0, .int .i64 c])) ∧ Below w.heap.size w w'
theorem TmplPost.ok {R : Except Nat (List It)} {w w' : World} {is : List It} {v : Value} (h : R = .ok is) (hs : Its w.heap.size (fun _ => True) w' v is) (hb : Below w.heap.size w w') : TmplPost R w (.returned (.tuple #[v, .int .i64 0])) w' :=
  ⟨(fun l h' => by rw [h] at h'; cases h'; exact ⟨v, rfl, hs⟩), (fun c h' => by rw [h] at h'; cases h'), hb⟩
theorem TmplPost.no {R : Except Nat (List It)} {w w' : World} {c : Nat} (h : R = .error c) (hb : Below w.heap.size w w') : TmplPost R w (.returned (.tuple #[.slice none 0 0, .int .i64 c])) w' :=
  ⟨(fun l h' => by rw [h] at h'; cases h'), (fun c' h' => by rw [h] at h'; cases h'; rfl), hb⟩
set_option maxRecDepth 100000 in
set_option maxHeartbeats 8000000 in
theorem tmplParse_calls (s : ByteArray) (w : World) (hE : Env w) :
    Calls Tryz.prog 12 #[.string s] w (TmplPost (tmplL s.data.toList) w) := by
  obtain ⟨R, hR⟩ : ∃ R, R = tmplL s.data.toList := ⟨_, rfl⟩
  rw [← hR]
  have HR := Lib.hid hR
  clear hR
  go_enter Tryz.func12, Tryz.ntmps12
  go_wp2_with fail
  refine (lexSplit_any s w hE).mono ?_
  rintro e w1 ⟨v, ps, n, rfl, hP, hb1, hw⟩
  have hE1 := hE.below hb1
  have hR := HR.out
  unfold tmplL at hR
  rw [hw] at hR
  obtain ⟨pa, pc, rfl, hcap⟩ := own_slice hP
  by_cases hn : n = 0
  · subst hn
    rw [if_neg (by simp), ← run_parse] at hR
    obtain ⟨hlen, hact⟩ := splitR_sizes hw
    have HRR := Lib.hid hR
    have HACT := Lib.hid hact
    clear hR HR hact hw
    go_upto_region 5 with (fail)
    have hS := St.first w1
    have hbA : Below w1.heap.size w1 (((w1.alloc (.cells #[.int .i64 0, .string ⟨#[]⟩, .slice none 0 0, .slice none 0 0, .slice none 0 0, .slice none 0 0, .bool false] 75)).alloc (.cells #[.pointer (some ⟨w1.heap.size, 0, none⟩)] 73)).alloc (.cells #[.slice (some ⟨w1.heap.size + 1, 0, none⟩) 1 1] 78)) :=
      (((Below.refl _ w1).alloc (Nat.le_refl _) _).alloc (by simp) _).alloc (by simp; omega) _
    generalize ((w1.alloc (.cells #[.int .i64 0, .string ⟨#[]⟩, .slice none 0 0, .slice none 0 0, .slice none 0 0, .slice none 0 0, .bool false] 75)).alloc (.cells #[.pointer (some ⟨w1.heap.size, 0, none⟩)] 73)).alloc (.cells #[.slice (some ⟨w1.heap.size + 1, 0, none⟩) 1 1] 78) = w2 at *
    have hz1 := hb1.size
    generalize w1.heap.size + 1 + 1 = p at *
    have ht0 : (newS 0 [] w1.heap.size (.slice none 0 0)).lv = root := rfl
    generalize newS 0 [] w1.heap.size (.slice none 0 0) = t0 at *
    have hl0 : lvs ([] ++ [t0]) = [root] := by rw [lvs_snoc, ht0]; rfl
    rw [← hl0] at HRR
    have hg0 := good_root
    rw [← hl0] at hg0
    clear ht0 hl0
    go_wp2
    go_loopg [8, 9, 25] ps.length (fun gk _ _ v25 wr => ∃ (k : Nat) (ls : List Sl) (t : Sl), k + gk = ps.length ∧ v25 = .int .i64 k ∧ St w1.heap.size p (ls ++ [t]) wr ∧ Good k (lvs (ls ++ [t])) ∧ Hid (R = endS (runS (lvs (ls ++ [t])) (ps.drop k))) ∧ Below w1.heap.size w1 wr)
    case atStart => exact ⟨0, [], t0, by omega, rfl, hS, hg0, HRR, hbA⟩
    case round =>
      obtain ⟨k, ls, t, hkg, rfl, hSt, hG, hRk, hbr⟩ := hrel
      have HKG := Lib.hid hkg
      have hkl : k ≤ ps.length := by omega
      clear hkg hS hg0 HRR hbA
      have hbw := hb1.trans (hbr.mono hz1)
      have hPr := own_below hP hbr
      by_cases hk : k < ps.length
      · obtain ⟨b, cap, hv, hbb, hcc⟩ := hP.form (by omega)
        obtain ⟨rfl, -, rfl⟩ := Value.slice.inj hv
        obtain ⟨d0, d1, d2⟩ := Pcs.at hPr k hk
        have hdr : ps.drop k = ps[k] :: ps.drop (k + 1) := List.drop_eq_getElem_cons hk
        have hax := HACT.out ps[k] (List.getElem_mem hk)
        have hR := hRk.out
        rw [hdr, lvs_snoc, runS_step] at hR
        generalize ps[k] = x at *
        have hGs := hG.small
        have hGc := hG.count
        have hGr := hG.rootOk
        have hba : Below wr.heap.size wr (wr.alloc (.cells #[.bool x.act, .string ⟨x.text.toArray⟩, .int .i64 x.pos] 80)) := (Below.refl _ wr).alloc (Nat.le_refl _) _
        have hX : Blk wr.heap.size 80 [.bool x.act, .string ⟨x.text.toArray⟩, .int .i64 x.pos] (wr.alloc (.cells #[.bool x.act, .string ⟨x.text.toArray⟩, .int .i64 x.pos] 80)) := Blk.new wr _ _
        have hpost : ∀ st', doA t.lv (lvs ls) (acOf x) = .ok st' → Good (k + 1) st' := fun st' h => by
          cases ha : acOf x with
          | error e => rw [ha] at h; cases h
          | ok a => rw [ha] at h; rw [lvs_snoc] at hG; exact stepL_good hG h
        have HPO := Lib.hid hpost
        have HRK := Lib.hid hR
        clear hR hRk hv hG hpost hdr
        have hxs : StrIs (⟨x.text.toArray⟩ : ByteArray) x.text := rfl
        have HXS := Lib.hid hxs
        clear hxs
        have hlw : w1.heap.size ≤ wr.heap.size := hbr.size
        cases hact : x.act with
        | true =>
          rw [hact] at d0 hba hX
          have hax := hax hact
          generalize (⟨x.text.toArray⟩ : ByteArray) = tx at *
          go_upto_region 8 with (fail)
          generalize wr.alloc (.cells #[.bool true, .string tx, .int .i64 x.pos] 80) = wx at *
          have hSx := hSt.below hba
          have x0 := hX.cell 0 _ rfl
          have x1 := hX.cell 1 _ rfl
          have hbx := hbr.trans (hba.mono hlw)
          have hE2 := hE1.below (hbx)
          have hlx : w1.heap.size ≤ wx.heap.size := hbx.size
          have hA := taction_calls tx x.text HXS.out hax wx (hE1.below (hbx.mono (Nat.le_refl _))) hSx hGr (fun s hs => by have := hGs s hs; omega) hlx (by omega)
          have hac : acOf x = actL x.text := by unfold acOf; rw [if_pos hact]
          have her := fun c (h : doA t.lv (lvs ls) (acOf x) = .error c) => doA_errs (by rw [hac] at h; exact h)
          rw [← hac] at hA
          clear hSx hSt hX hba hac hact HXS d0 d1 d2 hPr hbr
          go_wp2_with fail
          refine hA.mono ?_
          rintro e w5 hP5
          have hb5 := hbx.trans hP5.2.2
          have hbw5 := hb1.trans (hb5.mono hz1)
          have hR := HRK.out
          cases hd : doA t.lv (lvs ls) (acOf x) with
          | error c =>
            obtain rfl := hP5.2.1 c hd
            have hc := her c hd
            rw [hd] at hR
            have hR' : R = .error c := hR
            have HR' := Lib.hid hR'
            have hcb : ((c : Int) != 0) = true := by rw [bne, beq_eq_false_iff_ne.2 (by omega : (c : Int) ≠ 0)]; rfl
            have hcb2 : ((c : Int) == 0) = false := beq_eq_false_iff_ne.2 (by omega)
            clear hR hR' HRK hd hP5 hA her hc HPO
            go_wp2
            go_ret2
            exact TmplPost.no HR'.out hbw5
          | ok st' =>
            obtain ⟨rfl, ls', hlv, hne, hS5⟩ := hP5.1 st' hd
            rw [hd] at hR
            have hR' : R = endS (runS st' (ps.drop (k + 1))) := hR
            have hg' := HPO.out st' hd
            obtain ⟨l2, t2, rfl⟩ : ∃ l2 t2, ls' = l2 ++ [t2] := ⟨_, _, (List.dropLast_concat_getLast hne).symm⟩
            rw [← hlv] at hR' hg'
            have HR' := Lib.hid hR'
            clear hR hR' HRK hd hP5 hA her HPO hlv hne
            go_wp2
            go_roundg (gk - 1)
            case measure => have := HKG.out; omega
            case rel => exact ⟨k + 1, l2, t2, by have := HKG.out; omega, by go_num, hS5, hg', HR', hb5⟩
        | false =>
          rw [hact] at d0 hba hX
          generalize hgtx : (⟨x.text.toArray⟩ : ByteArray) = tx at *
          go_upto_region 8 with (fail)
          generalize wr.alloc (.cells #[.bool false, .string tx, .int .i64 x.pos] 80) = wx at *
          have hSx := hSt.below hba
          have x0 := hX.cell 0 _ rfl
          have x1 := hX.cell 1 _ rfl
          have hbx := hbr.trans (hba.mono hlw)
          have hlx : w1.heap.size ≤ wx.heap.size := hbx.size
          have hA : Calls Tryz.prog 31 #[.pointer (some ⟨p, 0, none⟩), .agg #[.int .i64 0, .string tx, .slice none 0 0, .slice none 0 0, .slice none 0 0]] wx (AddPost w1.heap.size p ls t (.mk 0 x.text [] [] []) wx) := by
            have h := add_calls wx hSx (.mk 0 x.text [] [] []) (.slice none 0 0) (.slice none 0 0) (.slice none 0 0) (cms_nil _ _) (its_nil _ _ _) (its_nil _ _ _) (by have := hGs t (by simp); omega) hlx
            rw [← hgtx]
            exact h
          have hac : acOf x = .ok (.item (.mk 0 x.text [] [] [])) := by unfold acOf; rw [if_neg (by rw [hact]; decide)]
          have hd : doA t.lv (lvs ls) (acOf x) = .ok (t.lv.add (.mk 0 x.text [] [] []) :: lvs ls) := by rw [hac]; rfl
          have hR := HRK.out
          rw [hd] at hR
          have hR' : R = endS (runS (t.lv.add (.mk 0 x.text [] [] []) :: lvs ls) (ps.drop (k + 1))) := hR
          have HR' := Lib.hid hR'
          have hg' := HPO.out _ hd
          clear hSx hSt hX hba hac hact HXS d0 d1 d2 hPr hbr hd hR hR' HPO HRK hgtx
          go_wp2_with fail
          refine hA.mono ?_
          rintro e w5 ⟨rfl, rv, hS5, hb⟩
          have hb5 := hbx.trans hb
          have hlv : lvs (ls ++ [({ t with lv := t.lv.add (.mk 0 x.text [] [] []), rv := rv } : Sl)]) = t.lv.add (.mk 0 x.text [] [] []) :: lvs ls := by rw [lvs_snoc]
          rw [← hlv] at hg' HR'
          clear hlv hA
          generalize ({ t with lv := t.lv.add (.mk 0 x.text [] [] []), rv := rv } : Sl) = t2 at *
          go_wp2
          go_roundg (gk - 1)
          case measure => have := HKG.out; omega
          case rel => exact ⟨k + 1, ls, t2, by have := HKG.out; omega, by go_num, hS5, hg', HR', hb5⟩
      · obtain rfl : k = ps.length := by omega
        have hR := hRk.out
        rw [List.drop_length, lvs_snoc] at hR
        have hR' : R = endS (.ok (t.lv :: lvs ls)) := by rw [hR]; rfl
        obtain ⟨N, q, c, hN, hpp, hn1, hn2, hn3, hrow⟩ := hSt.len
        have c0 := hpp.cell 0 _ rfl
        by_cases hl : ls = []
        · subst hl
          obtain rfl : N = 1 := hN
          have hR2 : R = .ok t.lv.row := hR'
          have HR2 := Lib.hid hR2
          have htl := hSt.levs t (by simp)
          have q0 : wr.cell? ⟨q, 0, none⟩ = some t.ptr := World.ownsRow.cellAt hrow 0 (by simp)
          unfold Sl.ptr at q0
          have hI := (((htl.row.mono (F' := fun _ => True) fun _ _ _ => trivial).its fun _ _ => trivial).tobase hz1)
          have HI := Lib.hid hI
          obtain ⟨ra, rc, hrv⟩ := htl.row.slice
          have b5 := htl.blk.cell 5 (.slice ra t.lv.row.length rc) (by simp [Sl.cells, hrv])
          rw [hrv] at HI
          clear hR hR' hR2 htl hI hSt hpp hrow hRk hG hrv
          generalize t.lv.row.length = rn at *
          go_wp2
          go_ret2
          exact TmplPost.ok HR2.out HI.out hbw
        · have hpos : ls.length ≠ 0 := fun h => hl (List.eq_nil_of_length_eq_zero h)
          have hNb : decide ((1 : Int) < (N : Int)) = true := decide_eq_true (by omega)
          have hR2 : R = .error 1600 := by
            rw [hR']
            obtain ⟨l2, t2, rfl⟩ : ∃ l2 t2, ls = l2 ++ [t2] := ⟨_, _, (List.dropLast_concat_getLast hl).symm⟩
            rw [lvs_snoc]
            rfl
          have HR2 := Lib.hid hR2
          clear hR hR' hR2 hSt hpp hrow hRk hG hl hpos hN hn2
          go_wp2
          go_ret2
          exact TmplPost.no HR2.out hbw
  · have hR' : R = .error n := by rw [hR, if_pos hn]
    have HRR := Lib.hid hR'
    have hnb : ((n : Int) != 0) = true := by rw [bne, beq_eq_false_iff_ne.2 (by omega : (n : Int) ≠ 0)]; rfl
    have hnb2 : ((n : Int) == 0) = false := beq_eq_false_iff_ne.2 (by omega)
    clear hR hR' HR hw hn hE hE1
    go_wp2
    go_ret2
    exact TmplPost.no HRR.out hb1
end Go.Proofs.YtdaffedbboofjaaGreatDoor.S

/-
  THE WALK of awake (chapter 16).
-/
set_option linter.unusedVariables false
set_option linter.unusedSimpArgs false
namespace Go.Proofs.YtdaffedbboofjaaGreatDoor.S
open Go.RowKit

theorem ars_lit (W : World) (cs : Array Value) (ds : List Ar) (n base : Nat) (hc : cs.toList = arsCells (ds.map fun d => (d, .slice none 0 0))) (hn : ds.length = n) (hm : n ≤ 9223372036854775807) (hb : base ≤ W.heap.size) (hp : ∀ d ∈ ds, d.path = []) :
    Ars base (.slice (some ⟨W.heap.size, 0, none⟩) n n) ds (W.alloc (.cells cs 43)) := by
  subst hn
  refine ⟨ds.map fun d => (d, .slice none 0 0), (List.map_map ..).trans (List.map_id ds), ?_, ?_⟩
  · rw [← hc, List.length_map]
    refine World.ownsRow.mono (World.ownsRow_lit W cs ds.length (Nat.le_refl _) (by simp only [maxLen]; omega) ?_) hb
    have := congrArg List.length hc
    rw [Array.length_toList] at this
    rw [this]
    clear this hc hm hp
    induction ds with
    | nil => rfl
    | cons p ps ih => unfold arsCells at *; rw [List.map_cons, List.flatMap_cons, List.length_append, ih]; simp [arCells]; omega
  · intro z hz
    obtain ⟨d, hd, rfl⟩ := List.mem_map.1 hz
    exact .inl ⟨hp d hd, none, 0, rfl⟩
theorem cms_lit (W : World) (cs : Array Value) (zs : List (Cm × Value)) (n base : Nat) (hc : cs.toList = cmsCells zs) (hn : zs.length = n) (hm : n ≤ 9223372036854775807) (hb : base ≤ W.heap.size) (hp : ∀ z ∈ zs, Ars base z.2 z.1.args W) :
    Cms base (.slice (some ⟨W.heap.size, 0, none⟩) n n) (zs.map Prod.fst) (W.alloc (.cells cs 46)) := by
  subst hn
  refine ⟨zs, rfl, ?_, fun z hz => (hp z hz).below ((Below.refl _ W).alloc (Nat.le_refl _) _)⟩
  rw [← hc]
  refine World.ownsRow.mono (World.ownsRow_lit W cs zs.length (Nat.le_refl _) (by simp only [maxLen]; omega) ?_) hb
  have := congrArg List.length hc
  rw [Array.length_toList] at this
  rw [this]
  clear this hc hm hp
  induction zs with
  | nil => rfl
  | cons p ps ih => unfold cmsCells at *; rw [List.flatMap_cons, List.length_append, ih]; simp [cmCells]; omega
theorem its_lit (W : World) (cs : Array Value) (zs : List Ic) (n base : Nat) (hc : cs.toList = icsCells zs) (hn : zs.length = n) (hm : n ≤ 9223372036854775807) (hb : base ≤ W.heap.size) (hp : ∀ z ∈ zs, Cms base z.pv z.it.pipe W ∧ Its base (fun _ => True) W z.tv z.it.th ∧ Its base (fun _ => True) W z.ev z.it.el) :
    Its base (fun _ => True) (W.alloc (.cells cs 37)) (.slice (some ⟨W.heap.size, 0, none⟩) n n) (zs.map Ic.it) := by
  subst hn
  have hba : Below W.heap.size W (W.alloc (.cells cs 37)) := (Below.refl _ W).alloc (Nat.le_refl _) _
  refine .mk _ zs ?_ (fun _ _ => trivial) (fun z hz => (hp z hz).1.below hba) (fun z hz => (hp z hz).2.1.blw hba) (fun z hz => (hp z hz).2.2.blw hba)
  rw [← hc]
  refine World.ownsRow.mono (World.ownsRow_lit W cs zs.length (Nat.le_refl _) (by simp only [maxLen]; omega) ?_) hb
  have := congrArg List.length hc
  rw [Array.length_toList] at this
  rw [this]
  exact icsCells_len zs
def dotP : List Cm := [⟨[], [⟨0, [], [], 0, []⟩]⟩]
def want16 : List It := [.mk 0 [97] [] [] [], .mk 5 [] dotP [.mk 1 [] dotP [] [], .mk 7 [] [] [] []] [.mk 0 [98] [] [] []], .mk 2 [120] [⟨[], [⟨2, [], [], 1, []⟩]⟩] [] [], .mk 6 [116] dotP [] []]
set_option maxRecDepth 100000 in
set_option maxHeartbeats 8000000 in
theorem hole_calls (base : Nat) (w : World) (hbw : base ≤ w.heap.size) :
    Calls Tryz.prog 19 #[] w fun e w' => ∃ g : Nat, e = .returned (.agg #[.int .i64 1, .string ⟨#[]⟩, .slice (some ⟨g, 0, none⟩) 1 1, .slice none 0 0, .slice none 0 0]) ∧ Cms base (.slice (some ⟨g, 0, none⟩) 1 1) dotP w' ∧ Below w.heap.size w w' := by
  go_enter Tryz.func19, Tryz.ntmps19
  go_wp2
  have h1 : Blk w.heap.size 37 [.int .i64 1, .string ⟨#[]⟩, .slice (some ⟨w.heap.size + 1 + 1, 0, none⟩) 1 1, .slice none 0 0, .slice none 0 0] (w.alloc (.cells #[.int .i64 1, .string ⟨#[]⟩, .slice (some ⟨w.heap.size + 1 + 1, 0, none⟩) 1 1, .slice none 0 0, .slice none 0 0] 37)) := Blk.new w _ _
  have b1 := (Below.refl w.heap.size w).alloc (Nat.le_refl _) (.cells #[.int .i64 1, .string ⟨#[]⟩, .slice (some ⟨w.heap.size + 1 + 1, 0, none⟩) 1 1, .slice none 0 0, .slice none 0 0] 37)
  have z1 : (w.alloc (.cells #[.int .i64 1, .string ⟨#[]⟩, .slice (some ⟨w.heap.size + 1 + 1, 0, none⟩) 1 1, .slice none 0 0, .slice none 0 0] 37)).heap.size = w.heap.size + 1 := by simp
  generalize w.alloc (.cells #[.int .i64 1, .string ⟨#[]⟩, .slice (some ⟨w.heap.size + 1 + 1, 0, none⟩) 1 1, .slice none 0 0, .slice none 0 0] 37) = w1 at *
  have hA := ars_lit w1 #[.int .i64 0, .string ⟨#[]⟩, .slice none 0 0, .int .i64 0, .string ⟨#[]⟩] [⟨0, [], [], 0, []⟩] 1 base rfl rfl (by omega) (by omega) (by intro d hd; simp at hd; subst hd; rfl)
  have b2 := (Below.refl w1.heap.size w1).alloc (Nat.le_refl _) (.cells #[.int .i64 0, .string ⟨#[]⟩, .slice none 0 0, .int .i64 0, .string ⟨#[]⟩] 43)
  have z2 : (w1.alloc (.cells #[.int .i64 0, .string ⟨#[]⟩, .slice none 0 0, .int .i64 0, .string ⟨#[]⟩] 43)).heap.size = w.heap.size + 1 + 1 := by simp [z1]
  have h1 := h1.below b2
  generalize w1.alloc (.cells #[.int .i64 0, .string ⟨#[]⟩, .slice none 0 0, .int .i64 0, .string ⟨#[]⟩] 43) = w2 at *
  rw [z1] at hA
  have hC := cms_lit w2 #[.string ⟨#[]⟩, .slice (some ⟨w.heap.size + 1, 0, none⟩) 1 1] [(⟨[], [⟨0, [], [], 0, []⟩]⟩, .slice (some ⟨w.heap.size + 1, 0, none⟩) 1 1)] 1 base rfl rfl (by omega) (by omega) (by intro d hd; simp at hd; subst hd; exact hA)
  have b3 := (Below.refl w2.heap.size w2).alloc (Nat.le_refl _) (.cells #[.string ⟨#[]⟩, .slice (some ⟨w.heap.size + 1, 0, none⟩) 1 1] 46)
  have h1 := h1.below b3
  generalize w2.alloc (.cells #[.string ⟨#[]⟩, .slice (some ⟨w.heap.size + 1, 0, none⟩) 1 1] 46) = w3 at *
  rw [z2] at hC
  have hb := b1.trans ((b2.mono (by omega)).trans (b3.mono (by omega)))
  have k0 := h1.cell 0 _ rfl
  have k1 := h1.cell 1 _ rfl
  have k2 := h1.cell 2 _ rfl
  have k3 := h1.cell 3 _ rfl
  have k4 := h1.cell 4 _ rfl
  refine bodyPost_ret (v := .agg #[.int .i64 1, .string ⟨#[]⟩, .slice (some ⟨w.heap.size + 1 + 1, 0, none⟩) 1 1, .slice none 0 0, .slice none 0 0]) (by simp [results, Tryz.results19, go_sem, k0, k1, k2, k3, k4]) rfl ?_
  exact ⟨_, rfl, hC, hb⟩
theorem want_lit (W : World) (g6 g7 base : Nat) (hD6 : Cms base (.slice (some ⟨g6, 0, none⟩) 1 1) dotP W) (hD7 : Cms base (.slice (some ⟨g7, 0, none⟩) 1 1) dotP W) (hb : base ≤ W.heap.size) :
    Its base (fun _ => True) (((((W.alloc (.cells #[.int .i64 1, .string ⟨#[]⟩, .slice (some ⟨g7, 0, none⟩) 1 1, .slice none 0 0, .slice none 0 0, .int .i64 7, .string ⟨#[]⟩, .slice none 0 0, .slice none 0 0, .slice none 0 0] 37)).alloc (.cells #[.int .i64 0, .string ⟨#[98]⟩, .slice none 0 0, .slice none 0 0, .slice none 0 0] 37)).alloc (.cells #[.int .i64 2, .string ⟨#[]⟩, .slice none 0 0, .int .i64 1, .string ⟨#[]⟩] 43)).alloc (.cells #[.string ⟨#[]⟩, .slice (some ⟨W.heap.size + 1 + 1, 0, none⟩) 1 1] 46)).alloc (.cells #[.int .i64 0, .string ⟨#[97]⟩, .slice none 0 0, .slice none 0 0, .slice none 0 0, .int .i64 5, .string ⟨#[]⟩, .slice (some ⟨g6, 0, none⟩) 1 1, .slice (some ⟨W.heap.size, 0, none⟩) 2 2, .slice (some ⟨W.heap.size + 1, 0, none⟩) 1 1, .int .i64 2, .string ⟨#[120]⟩, .slice (some ⟨W.heap.size + 1 + 1 + 1, 0, none⟩) 1 1, .slice none 0 0, .slice none 0 0, .int .i64 6, .string ⟨#[116]⟩, .slice (some ⟨g6, 0, none⟩) 1 1, .slice none 0 0, .slice none 0 0] 37)) (.slice (some ⟨W.heap.size + 1 + 1 + 1 + 1, 0, none⟩) 4 4) want16 ∧ Below W.heap.size W (((((W.alloc (.cells #[.int .i64 1, .string ⟨#[]⟩, .slice (some ⟨g7, 0, none⟩) 1 1, .slice none 0 0, .slice none 0 0, .int .i64 7, .string ⟨#[]⟩, .slice none 0 0, .slice none 0 0, .slice none 0 0] 37)).alloc (.cells #[.int .i64 0, .string ⟨#[98]⟩, .slice none 0 0, .slice none 0 0, .slice none 0 0] 37)).alloc (.cells #[.int .i64 2, .string ⟨#[]⟩, .slice none 0 0, .int .i64 1, .string ⟨#[]⟩] 43)).alloc (.cells #[.string ⟨#[]⟩, .slice (some ⟨W.heap.size + 1 + 1, 0, none⟩) 1 1] 46)).alloc (.cells #[.int .i64 0, .string ⟨#[97]⟩, .slice none 0 0, .slice none 0 0, .slice none 0 0, .int .i64 5, .string ⟨#[]⟩, .slice (some ⟨g6, 0, none⟩) 1 1, .slice (some ⟨W.heap.size, 0, none⟩) 2 2, .slice (some ⟨W.heap.size + 1, 0, none⟩) 1 1, .int .i64 2, .string ⟨#[120]⟩, .slice (some ⟨W.heap.size + 1 + 1 + 1, 0, none⟩) 1 1, .slice none 0 0, .slice none 0 0, .int .i64 6, .string ⟨#[116]⟩, .slice (some ⟨g6, 0, none⟩) 1 1, .slice none 0 0, .slice none 0 0] 37)) := by
  have hA := its_lit W #[.int .i64 1, .string ⟨#[]⟩, .slice (some ⟨g7, 0, none⟩) 1 1, .slice none 0 0, .slice none 0 0, .int .i64 7, .string ⟨#[]⟩, .slice none 0 0, .slice none 0 0, .slice none 0 0] [⟨.mk 1 [] dotP [] [], .slice (some ⟨g7, 0, none⟩) 1 1, .slice none 0 0, .slice none 0 0⟩, ⟨.mk 7 [] [] [] [], .slice none 0 0, .slice none 0 0, .slice none 0 0⟩] 2 base rfl rfl (by omega) hb (by
    intro z hz
    simp only [List.mem_cons, List.not_mem_nil, or_false] at hz
    rcases hz with rfl | rfl
    · exact ⟨hD7, its_nil _ _ _, its_nil _ _ _⟩
    · exact ⟨cms_nil _ _, its_nil _ _ _, its_nil _ _ _⟩)
  have b1 := (Below.refl W.heap.size W).alloc (Nat.le_refl _) (.cells #[.int .i64 1, .string ⟨#[]⟩, .slice (some ⟨g7, 0, none⟩) 1 1, .slice none 0 0, .slice none 0 0, .int .i64 7, .string ⟨#[]⟩, .slice none 0 0, .slice none 0 0, .slice none 0 0] 37)
  have z1 : (W.alloc (.cells #[.int .i64 1, .string ⟨#[]⟩, .slice (some ⟨g7, 0, none⟩) 1 1, .slice none 0 0, .slice none 0 0, .int .i64 7, .string ⟨#[]⟩, .slice none 0 0, .slice none 0 0, .slice none 0 0] 37)).heap.size = W.heap.size + 1 := by simp
  have hD6 := hD6.below b1
  generalize W.alloc (.cells #[.int .i64 1, .string ⟨#[]⟩, .slice (some ⟨g7, 0, none⟩) 1 1, .slice none 0 0, .slice none 0 0, .int .i64 7, .string ⟨#[]⟩, .slice none 0 0, .slice none 0 0, .slice none 0 0] 37) = w1 at *
  have hB := its_lit w1 #[.int .i64 0, .string ⟨#[98]⟩, .slice none 0 0, .slice none 0 0, .slice none 0 0] [⟨.mk 0 [98] [] [] [], .slice none 0 0, .slice none 0 0, .slice none 0 0⟩] 1 base rfl rfl (by omega) (by omega) (by
    intro z hz
    simp only [List.mem_cons, List.not_mem_nil, or_false] at hz
    subst hz
    exact ⟨cms_nil _ _, its_nil _ _ _, its_nil _ _ _⟩)
  have b2 := (Below.refl w1.heap.size w1).alloc (Nat.le_refl _) (.cells #[.int .i64 0, .string ⟨#[98]⟩, .slice none 0 0, .slice none 0 0, .slice none 0 0] 37)
  have z2 : (w1.alloc (.cells #[.int .i64 0, .string ⟨#[98]⟩, .slice none 0 0, .slice none 0 0, .slice none 0 0] 37)).heap.size = W.heap.size + 1 + 1 := by simp [z1]
  have hD6 := hD6.below b2
  have hA := hA.blw b2
  generalize w1.alloc (.cells #[.int .i64 0, .string ⟨#[98]⟩, .slice none 0 0, .slice none 0 0, .slice none 0 0] 37) = w2 at *
  rw [z1] at hB
  have hC := ars_lit w2 #[.int .i64 2, .string ⟨#[]⟩, .slice none 0 0, .int .i64 1, .string ⟨#[]⟩] [⟨2, [], [], 1, []⟩] 1 base rfl rfl (by omega) (by omega) (by intro d hd; simp at hd; subst hd; rfl)
  have b3 := (Below.refl w2.heap.size w2).alloc (Nat.le_refl _) (.cells #[.int .i64 2, .string ⟨#[]⟩, .slice none 0 0, .int .i64 1, .string ⟨#[]⟩] 43)
  have z3 : (w2.alloc (.cells #[.int .i64 2, .string ⟨#[]⟩, .slice none 0 0, .int .i64 1, .string ⟨#[]⟩] 43)).heap.size = W.heap.size + 1 + 1 + 1 := by simp [z2]
  have hD6 := hD6.below b3
  have hA := hA.blw b3
  have hB := hB.blw b3
  generalize w2.alloc (.cells #[.int .i64 2, .string ⟨#[]⟩, .slice none 0 0, .int .i64 1, .string ⟨#[]⟩] 43) = w3 at *
  rw [z2] at hC
  have hD := cms_lit w3 #[.string ⟨#[]⟩, .slice (some ⟨W.heap.size + 1 + 1, 0, none⟩) 1 1] [(⟨[], [⟨2, [], [], 1, []⟩]⟩, .slice (some ⟨W.heap.size + 1 + 1, 0, none⟩) 1 1)] 1 base rfl rfl (by omega) (by omega) (by intro d hd; simp at hd; subst hd; exact hC)
  have b4 := (Below.refl w3.heap.size w3).alloc (Nat.le_refl _) (.cells #[.string ⟨#[]⟩, .slice (some ⟨W.heap.size + 1 + 1, 0, none⟩) 1 1] 46)
  have z4 : (w3.alloc (.cells #[.string ⟨#[]⟩, .slice (some ⟨W.heap.size + 1 + 1, 0, none⟩) 1 1] 46)).heap.size = W.heap.size + 1 + 1 + 1 + 1 := by simp [z3]
  have hD6 := hD6.below b4
  have hA := hA.blw b4
  have hB := hB.blw b4
  generalize w3.alloc (.cells #[.string ⟨#[]⟩, .slice (some ⟨W.heap.size + 1 + 1, 0, none⟩) 1 1] 46) = w4 at *
  rw [z3] at hD
  have hE := its_lit w4 #[.int .i64 0, .string ⟨#[97]⟩, .slice none 0 0, .slice none 0 0, .slice none 0 0, .int .i64 5, .string ⟨#[]⟩, .slice (some ⟨g6, 0, none⟩) 1 1, .slice (some ⟨W.heap.size, 0, none⟩) 2 2, .slice (some ⟨W.heap.size + 1, 0, none⟩) 1 1, .int .i64 2, .string ⟨#[120]⟩, .slice (some ⟨W.heap.size + 1 + 1 + 1, 0, none⟩) 1 1, .slice none 0 0, .slice none 0 0, .int .i64 6, .string ⟨#[116]⟩, .slice (some ⟨g6, 0, none⟩) 1 1, .slice none 0 0, .slice none 0 0] [⟨.mk 0 [97] [] [] [], .slice none 0 0, .slice none 0 0, .slice none 0 0⟩, ⟨.mk 5 [] dotP [.mk 1 [] dotP [] [], .mk 7 [] [] [] []] [.mk 0 [98] [] [] []], .slice (some ⟨g6, 0, none⟩) 1 1, .slice (some ⟨W.heap.size, 0, none⟩) 2 2, .slice (some ⟨W.heap.size + 1, 0, none⟩) 1 1⟩, ⟨.mk 2 [120] [⟨[], [⟨2, [], [], 1, []⟩]⟩] [] [], .slice (some ⟨W.heap.size + 1 + 1 + 1, 0, none⟩) 1 1, .slice none 0 0, .slice none 0 0⟩, ⟨.mk 6 [116] dotP [] [], .slice (some ⟨g6, 0, none⟩) 1 1, .slice none 0 0, .slice none 0 0⟩] 4 base rfl rfl (by omega) (by omega) (by
    intro z hz
    simp only [List.mem_cons, List.not_mem_nil, or_false] at hz
    rcases hz with rfl | rfl | rfl | rfl
    · exact ⟨cms_nil _ _, its_nil _ _ _, its_nil _ _ _⟩
    · exact ⟨hD6, hA, hB⟩
    · exact ⟨hD, its_nil _ _ _, its_nil _ _ _⟩
    · exact ⟨hD6, its_nil _ _ _, its_nil _ _ _⟩)
  have b5 := (Below.refl w4.heap.size w4).alloc (Nat.le_refl _) (.cells #[.int .i64 0, .string ⟨#[97]⟩, .slice none 0 0, .slice none 0 0, .slice none 0 0, .int .i64 5, .string ⟨#[]⟩, .slice (some ⟨g6, 0, none⟩) 1 1, .slice (some ⟨W.heap.size, 0, none⟩) 2 2, .slice (some ⟨W.heap.size + 1, 0, none⟩) 1 1, .int .i64 2, .string ⟨#[120]⟩, .slice (some ⟨W.heap.size + 1 + 1 + 1, 0, none⟩) 1 1, .slice none 0 0, .slice none 0 0, .int .i64 6, .string ⟨#[116]⟩, .slice (some ⟨g6, 0, none⟩) 1 1, .slice none 0 0, .slice none 0 0] 37)
  rw [z4] at hE
  exact ⟨hE, b1.trans ((b2.mono (by omega)).trans ((b3.mono (by omega)).trans ((b4.mono (by omega)).trans (b5.mono (by omega)))))⟩
set_option maxRecDepth 100000 in
set_option maxHeartbeats 8000000 in
theorem awake16_calls (w : World) (hE : Env w) :
    Calls Tryz.prog 17 #[] w fun e w' => e = .returned (.bool true) ∧ Below w.heap.size w w' := by
  go_enter Tryz.func17, Tryz.ntmps17
  go_wp2_with fail
  refine (tmplParse_calls _ _ hE).mono ?_
  rintro e w1 ⟨hok, -, hb1⟩
  obtain ⟨v1, rfl, hI1⟩ := hok want16 (by kernel_rfl)
  clear hok
  obtain ⟨va, vc, rfl⟩ := hI1.slice
  go_wp2_with fail
  refine (tmplParse_calls _ _ (hE.below hb1)).mono ?_
  rintro e w2 ⟨-, hno, hb2⟩
  obtain rfl := hno 1600 (by kernel_rfl)
  clear hno
  have hI1 := hI1.blw hb2
  have hb2 := hb1.trans (hb2.mono hb1.size)
  go_wp2_with fail
  refine (tmplParse_calls _ _ (hE.below hb2)).mono ?_
  rintro e w3 ⟨-, hno, hb3⟩
  obtain rfl := hno 1601 (by kernel_rfl)
  clear hno
  have hI1 := hI1.blw hb3
  have hb3 := hb2.trans (hb3.mono hb2.size)
  go_wp2_with fail
  refine (tmplParse_calls _ _ (hE.below hb3)).mono ?_
  rintro e w4 ⟨-, hno, hb4⟩
  obtain rfl := hno 1602 (by kernel_rfl)
  clear hno
  have hI1 := hI1.blw hb4
  have hb4 := hb3.trans (hb4.mono hb3.size)
  go_wp2_with fail
  refine (tmplParse_calls _ _ (hE.below hb4)).mono ?_
  rintro e w5 ⟨-, hno, hb5⟩
  obtain rfl := hno 1604 (by kernel_rfl)
  clear hno
  have hI1 := hI1.blw hb5
  have hb5 := hb4.trans (hb5.mono hb4.size)
  have hbz := hb5.size
  go_wp2_with fail
  refine (hole_calls w.heap.size w5 hbz).mono ?_
  rintro e w6 ⟨g6, rfl, hD6, hb6⟩
  have hI1 := hI1.blw hb6
  have hb6 := hb5.trans (hb6.mono hb5.size)
  have hbz := hb6.size
  have hfl : ∀ W, (Instr.field 37 (.agg #[.int .i64 1, .string ⟨#[]⟩, .slice (some ⟨g6, 0, none⟩) 1 1, .slice none 0 0, .slice none 0 0]) 2).run Tryz.prog W = .ok (.slice (some ⟨g6, 0, none⟩) 1 1) W := fun W => by rfl
  go_wp2_with fail
  refine (hole_calls w.heap.size w6 hbz).mono ?_
  rintro e w7 ⟨g7, rfl, hD7b, hb7⟩
  have hI1 := hI1.blw hb7
  have hD6 := hD6.below hb7
  have hb7 := hb6.trans (hb7.mono hb6.size)
  have hbz := hb7.size
  go_upto_region 8 with (fail)
  have hW := want_lit w7 g6 g7 w.heap.size hD6 hD7b hbz
  generalize (((((w7.alloc (.cells #[.int .i64 1, .string ⟨#[]⟩, .slice (some ⟨g7, 0, none⟩) 1 1, .slice none 0 0, .slice none 0 0, .int .i64 7, .string ⟨#[]⟩, .slice none 0 0, .slice none 0 0, .slice none 0 0] 37)).alloc (.cells #[.int .i64 0, .string ⟨#[98]⟩, .slice none 0 0, .slice none 0 0, .slice none 0 0] 37)).alloc (.cells #[.int .i64 2, .string ⟨#[]⟩, .slice none 0 0, .int .i64 1, .string ⟨#[]⟩] 43)).alloc (.cells #[.string ⟨#[]⟩, .slice (some ⟨w7.heap.size + 1 + 1, 0, none⟩) 1 1] 46)).alloc (.cells #[.int .i64 0, .string ⟨#[97]⟩, .slice none 0 0, .slice none 0 0, .slice none 0 0, .int .i64 5, .string ⟨#[]⟩, .slice (some ⟨g6, 0, none⟩) 1 1, .slice (some ⟨w7.heap.size, 0, none⟩) 2 2, .slice (some ⟨w7.heap.size + 1, 0, none⟩) 1 1, .int .i64 2, .string ⟨#[120]⟩, .slice (some ⟨w7.heap.size + 1 + 1 + 1, 0, none⟩) 1 1, .slice none 0 0, .slice none 0 0, .int .i64 6, .string ⟨#[116]⟩, .slice (some ⟨g6, 0, none⟩) 1 1, .slice none 0 0, .slice none 0 0] 37)) = w8 at *
  obtain ⟨hQ, hb8⟩ := hW
  have hI1 := hI1.blw hb8
  have hbw := hb7.trans (hb8.mono hbz)
  go_wp2_with fail
  refine (sameItems_n _ want16 (Nat.le_refl _) _ _ _ _ _ _ _ hI1 hQ).mono ?_
  rintro e w9 ⟨rfl, hb9⟩
  have hbw := hbw.trans (hb9.mono hbw.size)
  go_wp2_with (go_at_call 15; go_in)
  go_ret
  exact ⟨rfl, hbw⟩
end Go.Proofs.YtdaffedbboofjaaGreatDoor.S

