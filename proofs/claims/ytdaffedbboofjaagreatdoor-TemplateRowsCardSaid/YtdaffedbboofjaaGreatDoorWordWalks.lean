/-
  THE WALKS of package words' small readers: first, later, Name, fail, has, take, name.
-/
import Derived.Test.YtdaffedbboofjaaGreatDoorPlainW
import Derived.Test.YtdaffedbboofjaaGreatDoorLexText
import Derived.Test.YtdaffedbboofjaaGreatDoorByteWalks
import Derived.Test.YtdaffedbboofjaaGreatDoorLexWalks
import Derived.WalkLawsBesides
set_option linter.unusedVariables false
set_option linter.unusedSimpArgs false
namespace Go.Proofs.YtdaffedbboofjaaGreatDoor.S
open Go.RowKit

theorem wfirst_calls (c : Nat) (w : World) (h : c < 256) :
    Calls Tryz.prog 130 #[.int .u8 c] w fun e w' => e = .returned (.bool (wfirst c)) ∧ w = w' := by
  go_enter Tryz.func130, Tryz.ntmps130
  by_cases h1 : c = 95
  · have hb : ((c : Int) == 95) = true := beq_iff_eq.2 (by omega)
    have hw : wfirst c = true := by unfold wfirst; rw [h1]; rfl
    have HW := Lib.hid hw
    clear hw h1
    go_wp2
    go_ret
    exact ⟨by rw [HW.out]; rfl, rfl⟩
  · have hb : ((c : Int) == 95) = false := beq_eq_false_iff_ne.2 (by omega)
    have hw : wfirst c = letterI c := by unfold wfirst; rw [show (c == 95) = false from beq_eq_false_iff_ne.2 h1]; rfl
    have HW := Lib.hid hw
    clear hw h1
    go_wp2_with (go_at_call 72; refine (letter_calls c _ (by omega) (by omega)).mono ?_; rintro e w3 ⟨rfl, rfl⟩)
    go_ret
    exact ⟨by rw [HW.out]; rfl, rfl⟩
theorem wlater_calls (c : Nat) (w : World) (h : c < 256) :
    Calls Tryz.prog 131 #[.int .u8 c] w fun e w' => e = .returned (.bool (wlater c)) ∧ w = w' := by
  go_enter Tryz.func131, Tryz.ntmps131
  cases hf : wfirst c with
  | true =>
    have hw : wlater c = true := by unfold wlater; rw [hf]; rfl
    have HW := Lib.hid hw
    clear hw
    go_wp2_with fail
    refine (wfirst_calls c _ h).mono ?_
    rw [hf]
    rintro e w3 ⟨rfl, rfl⟩
    go_wp2
    go_ret
    exact ⟨by rw [HW.out]; rfl, rfl⟩
  | false =>
    have hw : wlater c = digitI c := by unfold wlater; rw [hf]; rfl
    have HW := Lib.hid hw
    clear hw
    go_wp2_with fail
    refine (wfirst_calls c _ h).mono ?_
    rw [hf]
    rintro e w3 ⟨rfl, rfl⟩
    go_wp2_with (go_at_call 73; refine (digit_calls c _ (by omega) (by omega)).mono ?_; rintro e w3 ⟨rfl, rfl⟩)
    go_ret
    exact ⟨by rw [HW.out]; rfl, rfl⟩
/-- a panic with an error -/
def pan (c : Nat) : Ending := .panicked [{ v := .iface 23 (.int .i64 c), recovered := false }]
theorem fail_ok (x : Int) (w : World) :
    Calls Tryz.prog 117 #[.bool true, .int .i64 x] w fun e w' => e = .returned (.tuple #[]) ∧ w = w' := by
  go_enter Tryz.func117, Tryz.ntmps117
  go_wp2
  go_end0
  exact ⟨rfl, rfl⟩
theorem fail_no (c : Nat) (w : World) :
    Calls Tryz.prog 117 #[.bool false, .int .i64 c] w fun e w' => e = pan c ∧ w = w' := by
  go_enter Tryz.func117, Tryz.ntmps117
  go_wp2
  exact ⟨rfl, rfl, rfl⟩
theorem all_drop {s : ByteArray} (k : Nat) (h : k < s.size) : ((s.data.toList.drop k).all fun b => wlater b.toNat) = (wlater (s[k]'h).toNat && (s.data.toList.drop (k + 1)).all fun b => wlater b.toNat) := by
  rw [drop_cons s k h, List.all_cons]
theorem nameOk_empty : nameOk [] = false := rfl
theorem nameOk_long {l : List UInt8} (h : 32 < l.length) : nameOk l = false := by
  unfold nameOk
  rw [decide_eq_false (by omega : ¬ l.length ≤ 32)]
  simp
theorem nameOk_rest {l : List UInt8} (h0 : 0 < l.length) (h : l.length ≤ 32) : nameOk l = (wfirst (l.getD 0 0).toNat && l.all fun b => wlater b.toNat) := by
  unfold nameOk
  rw [decide_eq_true h]
  cases l with
  | nil => simp at h0
  | cons b r => simp
set_option maxHeartbeats 2000000 in
theorem wName_calls (s : ByteArray) (l : List UInt8) (hl : StrIs s l) (w : World) :
    Calls Tryz.prog 103 #[.string s] w fun e w' => e = .returned (.bool (nameOk l)) ∧ w = w' := by
  obtain rfl : s.data.toList = l := hl
  go_enter Tryz.func103, Tryz.ntmps103
  by_cases h0 : s.size = 0
  · have h1 := empty_test h0
    have hn : nameOk s.data.toList = false := by rw [nil_of_size h0]; rfl
    have HN := Lib.hid hn
    clear hn
    go_wp2
    go_ret
    exact ⟨by rw [HN.out]; rfl, rfl⟩
  · have h1 := nonempty_test h0
    by_cases h2 : 32 < s.size
    · have h2b : decide (32 < (s.size : Int)) = true := decide_eq_true (by omega)
      have hn : nameOk s.data.toList = false := nameOk_long (by rw [size_list]; exact h2)
      have HN := Lib.hid hn
      clear hn
      go_wp2
      go_ret
      exact ⟨by rw [HN.out]; rfl, rfl⟩
    · have h2b : decide (32 < (s.size : Int)) = false := decide_eq_false (by omega)
      have hn := nameOk_rest (l := s.data.toList) (by rw [size_list]; omega) (by rw [size_list]; omega)
      have hs0 : 0 < s.size := by omega
      rw [← getD_byte s 0 hs0] at hn
      obtain ⟨b, hb⟩ : ∃ b : UInt8, b = s[0]'hs0 := ⟨_, rfl⟩
      have hbt : ∀ h', ((s[0]'h').toNat : Nat) = b.toNat := fun h' => by rw [hb]
      rw [← hb] at hn
      have hlt := b.toNat_lt
      clear hb
      generalize b.toNat = c at *
      cases hf : wfirst c with
      | false =>
        rw [hf, Bool.false_and] at hn
        have HN := Lib.hid hn
        clear hn
        go_wp2_with (go_at_call 130; refine (wfirst_calls c _ hlt).mono ?_; rw [hf]; rintro e w3 ⟨rfl, rfl⟩)
        go_ret
        exact ⟨by rw [HN.out]; rfl, rfl⟩
      | true =>
        rw [hf, Bool.true_and] at hn
        have HN := Lib.hid hn
        clear hn
        go_wp2_with (go_at_call 130; refine (wfirst_calls c _ hlt).mono ?_; rw [hf]; rintro e w3 ⟨rfl, rfl⟩)
        clear hbt hf hlt
        go_loopg [3, 19] s.size (fun gk _ v19 wr => ∃ k : Nat, v19 = .int .i64 k ∧ k + gk = s.size ∧ Hid ((s.data.toList.all fun b => wlater b.toNat) = (s.data.toList.drop k).all fun b => wlater b.toNat) ∧ w = wr)
        case atStart => exact ⟨0, rfl, by omega, rfl, rfl⟩
        case round =>
          obtain ⟨k, rfl, hkg, hH, rfl⟩ := hrel
          have HKG := Lib.hid hkg
          have hks : k ≤ s.size := by omega
          clear hkg
          by_cases h : k < s.size
          · have hkb : decide ((k : Int) < (s.size : Int)) = true := decide_eq_true (by omega)
            have hst := hH.out.trans (all_drop k h)
            obtain ⟨b, hb⟩ : ∃ b : UInt8, b = s[k]'h := ⟨_, rfl⟩
            have hbt : ∀ h', ((s[k]'h').toNat : Nat) = b.toNat := fun h' => by rw [hb]
            rw [← hb] at hst
            have hlt := b.toNat_lt
            clear hb
            generalize b.toNat = d at *
            cases hf : wlater d with
            | false =>
              rw [hf, Bool.false_and] at hst
              have HST := Lib.hid hst
              clear hst
              go_wp2_with (go_at_call 131; refine (wlater_calls d _ hlt).mono ?_; rw [hf]; rintro e w3 ⟨rfl, rfl⟩)
              go_ret
              exact ⟨by rw [HN.out, HST.out]; rfl, rfl⟩
            | true =>
              rw [hf, Bool.true_and] at hst
              have HST := Lib.hid hst
              clear hst
              go_wp2_with (go_at_call 131; refine (wlater_calls d _ hlt).mono ?_; rw [hf]; rintro e w3 ⟨rfl, rfl⟩)
              go_roundg (gk - 1)
              case measure => have := HKG.out; omega
              case rel => exact ⟨k + 1, by go_num, by have := HKG.out; omega, HST.out, rfl⟩
          · have hkb : decide ((k : Int) < (s.size : Int)) = false := decide_eq_false (by omega)
            have hst := hH.out
            rw [List.drop_eq_nil_of_le (by rw [size_list]; omega)] at hst
            have HST := Lib.hid hst
            clear hst
            go_wp2
            go_ret
            exact ⟨by rw [HN.out, HST.out]; rfl, rfl⟩

theorem slice_to (s : ByteArray) (x : Int) (n : Nat) (hx : x = n) (hn : n ≤ s.size) (W : World) :
    (Instr.slice 9 (.string s) none (some (.int .i64 x)) none).run Tryz.prog W = .ok (.string (s.extract 0 n)) W := by
  subst hx
  have h := run_slice_string_h (P := Tryz.prog) (t := 9) (s := s) (w := W) Tryz.underlying9 .i64 (n : Int) (by omega) (by omega)
  simpa using h
theorem slice_from (s : ByteArray) (x : Int) (n : Nat) (hx : x = n) (hn : n ≤ s.size) (W : World) :
    (Instr.slice 9 (.string s) (some (.int .i64 x)) none none).run Tryz.prog W = .ok (.string (s.extract n s.size)) W := by
  subst hx
  have h := run_slice_string_l (P := Tryz.prog) (t := 9) (s := s) (w := W) Tryz.underlying9 .i64 (n : Int) (by omega) (by omega)
  simpa using h
/-- the reader's block -/
abbrev Rd (g : Nat) (s : ByteArray) (o : Value) (w : World) : Prop := Blk g 143 [.string s, o] w
/-- what stands behind p, where p stands -/
def cutP (p l : List UInt8) : List UInt8 := Lib.trimPrefix l p
theorem cutP_yes {p l : List UInt8} (h : List.isPrefixOf p l = true) : cutP p l = l.drop p.length := if_pos h
theorem cutP_no {p l : List UInt8} (h : List.isPrefixOf p l = false) : cutP p l = l := if_neg (by rw [show Lib.hasPrefix l p = List.isPrefixOf p l from rfl, h]; simp)
theorem whas_calls (g : Nat) (s p : ByteArray) (o : Value) (l : List UInt8) (w : World) (hB : Rd g s o w) (hl : StrIs s l) :
    Calls Tryz.prog 115 #[.pointer (some ⟨g, 0, none⟩), .string p] w fun e w' => ∃ s' : ByteArray, e = .returned (.bool (List.isPrefixOf p.data.toList l)) ∧ StrIs s' (cutP p.data.toList l) ∧ Rd g s' o w' ∧ w.grownBy w' (some g) := by
  have c0 := hB.cell 0 _ rfl
  have f0 := hB.free 0
  obtain rfl : s.data.toList = l := hl
  go_enter Tryz.func115, Tryz.ntmps115
  go_wp2_with fail
  refine (Tryz.strings_CutPrefix s p _).mono ?_
  rintro e w1 ⟨rfl, rfl⟩
  obtain ⟨s', hs'⟩ : ∃ s' : ByteArray, s' = ⟨(Lib.trimPrefix s.data.toList p.data.toList).toArray⟩ := ⟨_, rfl⟩
  rw [← hs']
  have HS := Lib.hid (show StrIs s' (cutP p.data.toList s.data.toList) by rw [hs']; rfl)
  clear hs'
  have hp : Lib.hasPrefix s.data.toList p.data.toList = List.isPrefixOf p.data.toList s.data.toList := rfl
  obtain ⟨B, hBB⟩ : ∃ B, B = List.isPrefixOf p.data.toList s.data.toList := ⟨_, rfl⟩
  rw [hp, ← hBB]
  have HBB := Lib.hid hBB
  clear hp hBB
  go_wp2
  go_ret
  exact ⟨s', by rw [← HBB.out]; rfl, HS.out, hB.set 0 _, grownBy_set _ _ _ _⟩
theorem wtake_calls (g : Nat) (s : ByteArray) (o : Value) (l : List UInt8) (n : Nat) (w : World) (hB : Rd g s o w) (hl : StrIs s l) (hn : n ≤ s.size) (hs : s.size ≤ 4611686018427387904) :
    Calls Tryz.prog 173 #[.pointer (some ⟨g, 0, none⟩), .int .i64 n] w fun e w' => ∃ r s' : ByteArray, e = .returned (.string r) ∧ StrIs r (l.take n) ∧ StrIs s' (l.drop n) ∧ Rd g s' o w' ∧ w.grownBy w' (some g) := by
  have c0 := hB.cell 0 _ rfl
  have f0 := hB.free 0
  obtain rfl : s.data.toList = l := hl
  have hsl := fun W => slice_to s (n : Int) n rfl hn W
  have hsl2 := fun W => slice_from s (n : Int) n rfl hn W
  have hx1 : StrIs (s.extract 0 n) (s.data.toList.take n) := by show _ = _; rw [Lib.extract_data]; simp
  have hx2 : StrIs (s.extract n s.size) (s.data.toList.drop n) := extract_end s n
  generalize s.extract 0 n = x1 at *
  generalize s.extract n s.size = x2 at *
  have H1 := Lib.hid hx1
  have H2 := Lib.hid hx2
  clear hx1 hx2
  go_enter Tryz.func173, Tryz.ntmps173
  go_wp2
  go_ret
  exact ⟨x1, x2, rfl, H1.out, H2.out, hB.set 0 _, grownBy_set _ _ _ _⟩
theorem nmN_drop {s : ByteArray} (k : Nat) (h : k < s.size) : nmN (s.data.toList.drop k) = if wlater (s[k]'h).toNat = true then nmN (s.data.toList.drop (k + 1)) + 1 else 0 := by
  rw [drop_cons s k h]
  rfl
set_option maxHeartbeats 2000000 in
theorem wname_calls (g : Nat) (s : ByteArray) (o : Value) (l : List UInt8) (w : World) (hB : Rd g s o w) (hl : StrIs s l) (hs : s.size ≤ 4611686018427387900) :
    Calls Tryz.prog 153 #[.pointer (some ⟨g, 0, none⟩)] w fun e w' =>
      (∀ x r, nameL l = .ok (x, r) → ∃ t s' : ByteArray, e = .returned (.string t) ∧ StrIs t x ∧ StrIs s' r ∧ Rd g s' o w') ∧ (∀ c, nameL l = .error c → e = pan c) ∧ w.grownBy w' (some g) := by
  have c0 := hB.cell 0 _ rfl
  obtain rfl : s.data.toList = l := hl
  have hnl : nameL s.data.toList = if nameOk (s.data.toList.take (nmN s.data.toList)) = true then .ok (s.data.toList.take (nmN s.data.toList), s.data.toList.drop (nmN s.data.toList)) else .error 1400 := rfl
  have HNL := Lib.hid hnl
  have hnle := nmN_le s.data.toList
  rw [size_list] at hnle
  clear hnl
  go_enter Tryz.func153, Tryz.ntmps153
  go_wp2
  go_loopg [3] s.size (fun gk v3 wr => ∃ k : Nat, v3 = .int .i64 k ∧ k + gk = s.size ∧ Hid (nmN s.data.toList = k + nmN (s.data.toList.drop k)) ∧ w = wr)
  case atStart => exact ⟨0, rfl, by omega, (by show _ = _; simp), rfl⟩
  case round =>
    obtain ⟨k, rfl, hkg, hH, rfl⟩ := hrel
    have HKG := Lib.hid hkg
    have hks : k ≤ s.size := by omega
    clear hkg
    obtain ⟨B, hB'⟩ : ∃ B, B = decide (0 < nmN (s.data.toList.drop k)) := ⟨_, rfl⟩
    have HB := Lib.hid hB'
    clear hB'
    go_upto_region 2 with (fail)
    go_cut [20] (fun v20 wx => v20 = .bool B ∧ w = wx)
    case first =>
      by_cases h : k < s.size
      · have hkb : decide ((k : Int) < (s.size : Int)) = true := decide_eq_true (by omega)
        have hst := nmN_drop k h
        obtain ⟨b, hb⟩ : ∃ b : UInt8, b = s[k]'h := ⟨_, rfl⟩
        have hbt : ∀ h', ((s[k]'h').toNat : Nat) = b.toNat := fun h' => by rw [hb]
        rw [← hb] at hst
        have hlt := b.toNat_lt
        clear hb
        generalize b.toNat = d at *
        have hbb : B = wlater d := by rw [HB.out, hst]; cases wlater d <;> simp
        have HBB := Lib.hid hbb
        clear hst hbb
        go_wp2_with (go_at_call 131; refine (wlater_calls d _ hlt).mono ?_; rintro e w3 ⟨rfl, rfl⟩)
        go_meet
        exact ⟨by rw [HBB.out], rfl⟩
      · have hkb : decide ((k : Int) < (s.size : Int)) = false := decide_eq_false (by omega)
        have hbb : B = false := by rw [HB.out, List.drop_eq_nil_of_le (by rw [size_list]; omega)]; rfl
        have HBB := Lib.hid hbb
        clear hbb
        go_wp2
        go_meet
        exact ⟨by rw [HBB.out], rfl⟩
    case rest =>
    obtain ⟨rfl, rfl⟩ := hcut
    cases B with
    | true =>
      have hb0 : 0 < nmN (s.data.toList.drop k) := of_decide_eq_true HB.out.symm
      have hlt : k < s.size := by
        refine Nat.lt_of_not_le fun h => ?_
        rw [List.drop_eq_nil_of_le (by rw [size_list]; exact h)] at hb0
        exact absurd hb0 (by decide)
      have hst := nmN_drop k hlt
      have hst2 : nmN (s.data.toList.drop k) = nmN (s.data.toList.drop (k + 1)) + 1 := by
        cases hw : wlater (s[k]'hlt).toNat with
        | false => rw [hw] at hst; simp at hst; omega
        | true => rw [hw] at hst; simpa using hst
      have HST := Lib.hid hst2
      clear hb0 hst hst2
      go_wp2
      go_roundg (gk - 1)
      case measure => have := HKG.out; omega
      case rel => exact ⟨k + 1, by go_num, by have := HKG.out; omega, (by have := hH.out; have := HST.out; show _ = _; omega), rfl⟩
    | false =>
      have hk : k = nmN s.data.toList := by have h1 := hH.out; have h2 := of_decide_eq_false HB.out.symm; omega
      rw [← hk] at HNL hnle
      have HK := Lib.hid hk
      clear hk hH HB HKG
      go_wp2_with fail
      refine (wtake_calls g s o _ k _ hB rfl hks (by omega)).mono ?_
      rintro e w1 ⟨x, s', rfl, hx, hs', hB1, hg1⟩
      go_wp2_with fail
      refine (wName_calls x _ hx _).mono ?_
      rintro e w2 ⟨rfl, rfl⟩
      have hnl := HNL.out
      cases hok : nameOk (s.data.toList.take k) with
      | true =>
        rw [hok, if_pos rfl] at hnl
        have HN2 := Lib.hid hnl
        clear hnl HNL hok
        go_wp2_with (go_at_call 117; refine (fail_ok _ _).mono ?_; rintro e w3 ⟨rfl, rfl⟩)
        go_ret
        refine ⟨fun x2 r2 h => ?_, fun c h => ?_, hg1⟩
        · rw [HN2.out] at h
          cases h
          exact ⟨x, s', rfl, hx, hs', hB1⟩
        · rw [HN2.out] at h
          cases h
      | false =>
        rw [hok, if_neg (by simp)] at hnl
        have HN2 := Lib.hid hnl
        clear hnl HNL hok
        go_wp2_with (go_at_call 117; refine (fail_no 1400 _).mono ?_; unfold pan; rintro e w3 ⟨rfl, rfl⟩)
        refine ⟨rfl, fun x2 r2 h => ?_, fun c h => ?_, hg1⟩
        · rw [HN2.out] at h
          cases h
        · rw [HN2.out] at h
          cases h
          rfl
end Go.Proofs.YtdaffedbboofjaaGreatDoor.S
