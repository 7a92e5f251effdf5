/-
  THE WALKS of the reference's blank, left, right, Lines.
-/
import Derived.Test.YtblkbhomlblfnaaDoorRefNorm
import Derived.Test.YtblkbhomlblfnaaDoorPlainL2
import Derived.Test.YtblkbhomlblfnaaDoorState
set_option linter.unusedVariables false
set_option linter.unusedSimpArgs false
namespace Go.Proofs.YtblkbhomlblfnaaDoor.S
open Go.RowKit

theorem rblank_calls (c : Nat) (w : World) (h : c < 256) :
    Calls Tryd.prog 48 #[.int .u8 c] w fun e w' => e = .returned (.bool (blk c)) ∧ w = w' := by
  go_enter Tryd.func48, Tryd.ntmps48
  by_cases h9 : c = 9
  · have hb : ((c : Int) == 9) = true := beq_iff_eq.2 (by omega)
    have hk : blk c = true := by rw [h9]; rfl
    have HK := Lib.hid hk
    clear hk h9
    go_wp2
    go_ret
    exact ⟨ret_bool HK.out.symm, rfl⟩
  · have hb : ((c : Int) == 9) = false := beq_eq_false_iff_ne.2 (by omega)
    by_cases h10 : c = 10
    · have hb1 : ((c : Int) == 10) = true := beq_iff_eq.2 (by omega)
      have hk : blk c = true := by rw [h10]; rfl
      have HK := Lib.hid hk
      clear hk h9 h10
      go_wp2
      go_ret
      exact ⟨ret_bool HK.out.symm, rfl⟩
    · have hb1 : ((c : Int) == 10) = false := beq_eq_false_iff_ne.2 (by omega)
      by_cases h32 : c = 32
      · have hb2 : ((c : Int) == 32) = true := beq_iff_eq.2 (by omega)
        have hk : blk c = true := by rw [h32]; rfl
        have HK := Lib.hid hk
        clear hk h9 h10 h32
        go_wp2
        go_ret
        exact ⟨ret_bool HK.out.symm, rfl⟩
      · have hb2 : ((c : Int) == 32) = false := beq_eq_false_iff_ne.2 (by omega)
        have hk : blk c = false := by simp [blk, h9, h10, h32]
        have HK := Lib.hid hk
        clear hk h9 h10 h32
        go_wp2
        go_ret
        exact ⟨ret_bool HK.out.symm, rfl⟩

theorem rleft_calls (s : ByteArray) (l : List UInt8) (h : StrIs s l) (w : World) (hs : s.size ≤ 4611686018427387904) :
    Calls Tryd.prog 56 #[.string s] w fun e w' => ∃ r : ByteArray, e = .returned (.string r) ∧ StrIs r (trimL l) ∧ w = w' := by
  have h' : s.data.toList = l := h
  go_enter Tryd.func56, Tryd.ntmps56
  go_wp2
  go_loopg [0] s.size (fun gk v0 wr => ∃ t : ByteArray, v0 = .string t ∧ t.size = gk ∧ gk ≤ s.size ∧ Hid (trimL t.data.toList = trimL l) ∧ w = wr)
  case atStart => exact ⟨s, rfl, rfl, Nat.le_refl _, by show _ = _; rw [h'], rfl⟩
  case round =>
    obtain ⟨t, rfl, htk, hks, hT, rfl⟩ := hrel
    have HTK := Lib.hid htk
    have htl : t.size ≤ 4611686018427387904 := by omega
    clear htk h h'
    by_cases h0 : t.size = 0
    · have h1 := empty_test h0
      have hn := nil_of_size h0
      have ht := hT.out
      rw [hn] at ht
      have HN := Lib.hid hn
      have HT := Lib.hid ht
      clear hn ht hT
      go_wp2
      go_ret
      exact ⟨t, rfl, by show _ = _; rw [HN.out, ← HT.out]; rfl, rfl⟩
    · have h1 := nonempty_test h0
      have hdc := drop_cons t 0 (by omega)
      rw [List.drop_zero] at hdc
      obtain ⟨b, hb⟩ : ∃ b : UInt8, b = t[0]'(by omega) := ⟨_, rfl⟩
      have hbt : ∀ h', ((t[0]'h').toNat : Nat) = b.toNat := fun h' => by rw [hb]
      rw [← hb] at hdc
      have htr := trimL_cons b (t.data.toList.drop (0 + 1))
      rw [← hdc] at htr
      have hlt := b.toNat_lt
      have HDC := Lib.hid hdc
      clear hdc hb
      generalize b.toNat = c at *
      have hex : (t.extract 1 t.size).size = t.size - 1 := by rw [ByteArray.size_extract]; omega
      have hex2 := Lib.extract_data t 1 t.size
      rw [List.take_of_length_le (by rw [List.length_drop, size_list]; omega)] at hex2
      have HEX := Lib.hid hex
      have HEX2 := Lib.hid hex2
      clear hex hex2
      have hpos : 1 ≤ (t.size : Int) := by omega
      cases hbl : blk c with
      | true =>
        rw [hbl, if_pos rfl] at htr
        have HTR := Lib.hid htr
        clear htr
        go_wp2_with (go_at_call 48; refine (rblank_calls c _ hlt).mono ?_; rintro e w' ⟨rfl, rfl⟩)
        go_roundg (gk - 1)
        case measure => have := HTK.out; omega
        case rel => exact ⟨_, rfl, by rw [HEX.out, HTK.out], by omega, by show _ = _; rw [HEX2.out, ← HTR.out]; exact hT.out, rfl⟩
      | false =>
        rw [hbl, if_neg (by simp)] at htr
        have HTR := Lib.hid htr
        clear htr
        go_wp2_with (go_at_call 48; refine (rblank_calls c _ hlt).mono ?_; rintro e w' ⟨rfl, rfl⟩)
        go_ret
        exact ⟨t, rfl, by show _ = _; rw [← hT.out, HTR.out, HDC.out], rfl⟩

theorem trimR_snoc (b : UInt8) : ∀ l, trimR (l ++ [b]) = if blk b.toNat = true then trimR l else l ++ [b]
  | [] => by rw [List.nil_append, trimR_cons]; simp [trimR]
  | a :: l => by
    have ih := trimR_snoc b l
    rw [List.cons_append, trimR_cons, ih, trimR_cons]
    cases hb : blk b.toNat with
    | true => simp
    | false => simp
theorem snoc_form (t : ByteArray) (h : 0 < t.size) : t.data.toList = t.data.toList.take (t.size - 1) ++ [t[t.size - 1]'(by omega)] := by
  have := List.take_succ_eq_append_getElem (l := t.data.toList) (i := t.size - 1) (by rw [size_list]; omega)
  rw [show t.size - 1 + 1 = t.size by omega, List.take_of_length_le (Nat.le_of_eq (size_list t))] at this
  exact this
theorem rright_calls (s : ByteArray) (l : List UInt8) (h : StrIs s l) (w : World) (hs : s.size ≤ 4611686018427387904) :
    Calls Tryd.prog 57 #[.string s] w fun e w' => ∃ r : ByteArray, e = .returned (.string r) ∧ StrIs r (trimR l) ∧ w = w' := by
  have h' : s.data.toList = l := h
  go_enter Tryd.func57, Tryd.ntmps57
  go_wp2
  go_loopg [0] s.size (fun gk v0 wr => ∃ t : ByteArray, v0 = .string t ∧ t.size = gk ∧ gk ≤ s.size ∧ Hid (trimR t.data.toList = trimR l) ∧ w = wr)
  case atStart => exact ⟨s, rfl, rfl, Nat.le_refl _, by show _ = _; rw [h'], rfl⟩
  case round =>
    obtain ⟨t, rfl, htk, hks, hT, rfl⟩ := hrel
    have HTK := Lib.hid htk
    have htl : t.size ≤ 4611686018427387904 := by omega
    clear htk h h'
    by_cases h0 : t.size = 0
    · have h1 := empty_test h0
      have hn := nil_of_size h0
      have ht := hT.out
      rw [hn] at ht
      have HN := Lib.hid hn
      have HT := Lib.hid ht
      clear hn ht hT
      go_wp2
      go_ret
      exact ⟨t, rfl, by show _ = _; rw [HN.out, ← HT.out]; rfl, rfl⟩
    · have h1 := nonempty_test h0
      have hdc := snoc_form t (by omega)
      obtain ⟨b, hb⟩ : ∃ b : UInt8, b = t[t.size - 1]'(by omega) := ⟨_, rfl⟩
      have hbt : ∀ h', ((t[t.size - 1]'h').toNat : Nat) = b.toNat := fun h' => by rw [hb]
      rw [← hb] at hdc
      have htr := trimR_snoc b (t.data.toList.take (t.size - 1))
      rw [← hdc] at htr
      have hlt := b.toNat_lt
      have HDC := Lib.hid hdc
      clear hdc hb
      generalize b.toNat = c at *
      have hex : (t.extract 0 (t.size - 1)).size = t.size - 1 := by rw [ByteArray.size_extract]; omega
      have hex2 := Lib.extract_data t 0 (t.size - 1)
      simp only [List.drop_zero, Nat.sub_zero] at hex2
      have HEX := Lib.hid hex
      have HEX2 := Lib.hid hex2
      clear hex hex2
      have hpos : 1 ≤ (t.size : Int) := by omega
      have hpos2 : (t.size : Int) - 1 < (t.size : Int) := by omega
      have hpos3 : (t.size : Int) - 1 ≤ (t.size : Int) := by omega
      cases hbl : blk c with
      | true =>
        rw [hbl, if_pos rfl] at htr
        have HTR := Lib.hid htr
        clear htr
        go_wp2_with (go_at_call 48; refine (rblank_calls c _ hlt).mono ?_; rintro e w' ⟨rfl, rfl⟩)
        go_roundg (gk - 1)
        case measure => have := HTK.out; omega
        case rel => exact ⟨_, rfl, by rw [HEX.out, HTK.out], by omega, by show _ = _; rw [HEX2.out, ← HTR.out]; exact hT.out, rfl⟩
      | false =>
        rw [hbl, if_neg (by simp)] at htr
        have HTR := Lib.hid htr
        clear htr
        go_wp2_with (go_at_call 48; refine (rblank_calls c _ hlt).mono ?_; rintro e w' ⟨rfl, rfl⟩)
        go_ret
        exact ⟨t, rfl, HTR.out.symm.trans hT.out, rfl⟩

set_option maxRecDepth 100000 in
set_option maxHeartbeats 4000000 in
theorem rlines_calls (s : ByteArray) (w : World) (hs : s.size ≤ 35184372088832) :
    Calls Tryd.prog 55 #[.string s] w fun e w' => ∃ r : ByteArray, e = .returned (.string r) ∧ StrIs r (linesL s.data.toList) ∧ Below w.heap.size w w' := by
  go_enter Tryd.func55, Tryd.ntmps55
  go_wp2
  go_loopg [3, 4] s.size (fun gk v3 v4 w' => ∃ (i : Nat) (acc : List UInt8), i + gk = s.size ∧ v4 = .int .i64 i ∧ Bytes w.heap.size v3 acc w' ∧ Below w.heap.size w w' ∧ Hid (acc ++ linesL (s.data.toList.drop i) = linesL s.data.toList) ∧ acc.length ≤ i)
  case atStart => exact ⟨0, [], by omega, rfl, bytes_nil _ _, Below.refl _ _, rfl, by simp⟩
  case round =>
    obtain ⟨i, acc, hig, rfl, hO, hbw, hacc, hal⟩ := hrel
    have hle : i ≤ s.size := by omega
    have HIG := Lib.hid hig
    clear hig
    have hsz := hbw.size
    by_cases h : i < s.size
    · have hdc := drop_cons s i h
      obtain ⟨b, hb⟩ : ∃ b : UInt8, b = s[i]'h := ⟨_, rfl⟩
      have hbt : ∀ h', ((s[i]'h').toNat : Nat) = b.toNat := fun h' => by rw [hb]
      rw [← hb] at hdc
      have hlt := b.toNat_lt
      have hq : b = 13 ↔ b.toNat = 13 := ⟨fun h => by rw [h]; rfl, fun h => UInt8.toNat_inj.1 h⟩
      have HDC := Lib.hid hdc
      clear hdc hb
      by_cases hc : b.toNat = 13
      · have hcb : ((b.toNat : Int) == 13) = true := beq_iff_eq.2 (by omega)
        have hll := linesL_cons13 (s.data.toList.drop (i + 1))
        rw [← hq.2 hc, ← HDC.out] at hll
        by_cases h1 : i + 1 < s.size
        · have hdc1 := drop_cons s (i + 1) h1
          obtain ⟨d, hd⟩ : ∃ d : UInt8, d = s[i + 1]'h1 := ⟨_, rfl⟩
          have hdt : ∀ h', ((s[i + 1]'h').toNat : Nat) = d.toNat := fun h' => by rw [hd]
          rw [← hd] at hdc1
          have hdl := d.toNat_lt
          have hqd : d = 10 ↔ d.toNat = 10 := ⟨fun h => by rw [h]; rfl, fun h => UInt8.toNat_inj.1 h⟩
          by_cases hd10 : d.toNat = 10
          · have hdb : ((d.toNat : Int) == 10) = true := beq_iff_eq.2 (by omega)
            rw [hdc1, hqd.2 hd10] at hll
            simp only [List.isPrefixOf, beq_self_eq_true, Bool.true_and, if_true, List.drop_succ_cons, List.drop_zero] at hll
            have HLL := Lib.hid hll
            clear hll hdc1 hd hq hqd hc hd10
            go_wp2_with (at_builtin; refine wp_appBytes w.heap.size rfl (.tmp 15) (.tmp 16) rfl _ acc [10] _ 1 1 ?hcs rfl rfl rfl hO hbw hsz (by simp; omega) ?_; (case hcs => rfl); intro v1 w1 hO1 hbw1 hsz1)
            go_roundg (gk - 2)
            case measure => have := HIG.out; omega
            case rel => exact ⟨i + 2, acc ++ [10], by have := HIG.out; omega, by go_num, hO1, hbw1, by show _ = _; rw [← hacc.out, HLL.out, List.append_assoc]; rfl, by simp; omega⟩
          · have hdb : ((d.toNat : Int) == 10) = false := beq_eq_false_iff_ne.2 (by omega)
            have hne : (10 == d) = false := by simpa using fun h : 10 = d => hd10 (hqd.1 h.symm)
            rw [hdc1] at hll
            simp only [List.isPrefixOf, hne, Bool.false_and, Bool.false_eq_true, if_false] at hll
            rw [← hdc1] at hll
            have HLL := Lib.hid hll
            clear hll hdc1 hd hq hqd hc hd10 hne
            go_wp2_with (at_builtin; refine wp_appBytes w.heap.size rfl (.tmp 15) (.tmp 16) rfl _ acc [10] _ 1 1 ?hcs rfl rfl rfl hO hbw hsz (by simp; omega) ?_; (case hcs => rfl); intro v1 w1 hO1 hbw1 hsz1)
            go_roundg (gk - 1)
            case measure => have := HIG.out; omega
            case rel => exact ⟨i + 1, acc ++ [10], by have := HIG.out; omega, by go_num, hO1, hbw1, by show _ = _; rw [← hacc.out, HLL.out, List.append_assoc]; rfl, by simp; omega⟩
        · have hn : s.data.toList.drop (i + 1) = [] := List.drop_eq_nil_of_le (by rw [size_list]; omega)
          rw [hn] at hll
          have HLL := Lib.hid (show linesL (s.data.toList.drop i) = 10 :: linesL (s.data.toList.drop (i + 1)) by rw [hll, hn]; rfl)
          have h1b : decide ((i : Int) + 1 < (s.size : Int)) = false := decide_eq_false (by omega)
          clear hll hn hq hc
          go_wp2_with (at_builtin; refine wp_appBytes w.heap.size rfl (.tmp 15) (.tmp 16) rfl _ acc [10] _ 1 1 ?hcs rfl rfl rfl hO hbw hsz (by simp; omega) ?_; (case hcs => rfl); intro v1 w1 hO1 hbw1 hsz1)
          go_roundg (gk - 1)
          case measure => have := HIG.out; omega
          case rel => exact ⟨i + 1, acc ++ [10], by have := HIG.out; omega, by go_num, hO1, hbw1, by show _ = _; rw [← hacc.out, HLL.out, List.append_assoc]; rfl, by simp; omega⟩
      · have hcb : ((b.toNat : Int) == 13) = false := beq_eq_false_iff_ne.2 (by omega)
        have hll := linesL_cons b (fun h => hc (hq.1 h)) (s.data.toList.drop (i + 1))
        rw [← HDC.out] at hll
        have HLL := Lib.hid hll
        clear hll hq hc
        go_wp2_with (at_builtin; refine wp_appBytes w.heap.size rfl (.tmp 32) (.tmp 36) rfl _ acc [b] _ 1 1 ?hcs rfl rfl rfl hO hbw hsz (by simp; omega) ?_; (case hcs => rfl); intro v1 w1 hO1 hbw1 hsz1)
        go_roundg (gk - 1)
        case measure => have := HIG.out; omega
        case rel => exact ⟨i + 1, acc ++ [b], by have := HIG.out; omega, by go_num, hO1, hbw1, by show _ = _; rw [← hacc.out, HLL.out, List.append_assoc]; rfl, by simp; omega⟩
    · obtain rfl : i = s.size := by omega
      have hcv := bytes_string hO
      have ha := hacc.out
      rw [List.drop_eq_nil_of_le (Nat.le_of_eq (size_list s)), show linesL [] = [] from rfl, List.append_nil] at ha
      have HA := Lib.hid ha
      clear ha hacc
      go_wp2
      go_ret
      exact ⟨_, rfl, HA.out, hbw⟩
end Go.Proofs.YtblkbhomlblfnaaDoor.S
