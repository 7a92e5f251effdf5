import Derived.Test.YtbcddlheikdlkaaGreatDoorPlainW
import Derived.Test.YtbcddlheikdlkaaGreatDoorLexG
import Derived.Test.YtbcddlheikdlkaaGreatDoorByteWalks
import Derived.WalkLawsBesides
import Derived.Deep.Onto
import Derived.Deep.RegionLaw
import Derived.Deep.RegionHeld3
import Derived.StillTailTactics
import Derived.Deep.RegionWith
import Derived.Defers
import Derived.Recover
import Derived.Laws.Pointers
import Derived.Laws.OwnMore
import Derived.Deep.QuietTactic
import Derived.BigQuiet
/-
  THE WALKS of package words' small readers: first, later, Name, fail, has, take, name.
-/
set_option linter.unusedVariables false
set_option linter.unusedSimpArgs false
namespace Go.Proofs.YtbcddlheikdlkaaGreatDoor.S
open Go.RowKit

theorem wfirst_calls (c : Nat) (w : World) (h : c < 256) :
    Calls Tryz.prog 126 #[.int .u8 c] w fun e w' => e = .returned (.bool (wfirst c)) ∧ w = w' := by
  go_enter Tryz.func126, Tryz.ntmps126
  by_cases h1 : c = 95
  · have hb : ((c : Int) == 95) = true := beq_iff_eq.2 (by omega)
    have hw : wfirst c = true := by unfold wfirst; rw [h1]; rfl
    have HW := Lib.hid hw
    clear hw h1
    go_wp2
    go_ret
    exact ⟨by rw [HW.out]; rfl, rfl⟩
  · have hb : ((c : Int) == 95) = false := beq_eq_false_iff_ne.2 (by omega)
    have hw : wfirst c = letterI c := by unfold wfirst; rw [show (c == 95) = false from beq_eq_false_iff_ne.2 h1]; rfl
    have HW := Lib.hid hw
    clear hw h1
    go_wp2_with (go_at_call 68; refine (letter_calls c _ (by omega) (by omega)).mono ?_; rintro e w3 ⟨rfl, rfl⟩)
    go_ret
    exact ⟨by rw [HW.out]; rfl, rfl⟩
theorem wlater_calls (c : Nat) (w : World) (h : c < 256) :
    Calls Tryz.prog 127 #[.int .u8 c] w fun e w' => e = .returned (.bool (wlater c)) ∧ w = w' := by
  go_enter Tryz.func127, Tryz.ntmps127
  cases hf : wfirst c with
  | true =>
    have hw : wlater c = true := by unfold wlater; rw [hf]; rfl
    have HW := Lib.hid hw
    clear hw
    go_wp2_with fail
    refine (wfirst_calls c _ h).mono ?_
    rw [hf]
    rintro e w3 ⟨rfl, rfl⟩
    go_wp2
    go_ret
    exact ⟨by rw [HW.out]; rfl, rfl⟩
  | false =>
    have hw : wlater c = digitI c := by unfold wlater; rw [hf]; rfl
    have HW := Lib.hid hw
    clear hw
    go_wp2_with fail
    refine (wfirst_calls c _ h).mono ?_
    rw [hf]
    rintro e w3 ⟨rfl, rfl⟩
    go_wp2_with (go_at_call 69; refine (digit_calls c _ (by omega) (by omega)).mono ?_; rintro e w3 ⟨rfl, rfl⟩)
    go_ret
    exact ⟨by rw [HW.out]; rfl, rfl⟩
/-- a panic with an error -/
def pan (c : Nat) : Ending := .panicked [{ v := .iface 23 (.int .i64 c), recovered := false }]
theorem fail_ok (x : Int) (w : World) :
    Calls Tryz.prog 113 #[.bool true, .int .i64 x] w fun e w' => e = .returned (.tuple #[]) ∧ w = w' := by
  go_enter Tryz.func113, Tryz.ntmps113
  go_wp2
  go_end0
  exact ⟨rfl, rfl⟩
theorem fail_no (c : Nat) (w : World) :
    Calls Tryz.prog 113 #[.bool false, .int .i64 c] w fun e w' => e = pan c ∧ w = w' := by
  go_enter Tryz.func113, Tryz.ntmps113
  go_wp2
  exact ⟨rfl, rfl, rfl⟩
theorem all_drop {s : ByteArray} (k : Nat) (h : k < s.size) : ((s.data.toList.drop k).all fun b => wlater b.toNat) = (wlater (s[k]'h).toNat && (s.data.toList.drop (k + 1)).all fun b => wlater b.toNat) := by
  rw [drop_cons s k h, List.all_cons]
theorem nameOk_empty : nameOk [] = false := rfl
theorem nameOk_long {l : List UInt8} (h : 32 < l.length) : nameOk l = false := by
  unfold nameOk
  rw [decide_eq_false (by omega : ¬ l.length ≤ 32)]
  simp
theorem nameOk_rest {l : List UInt8} (h0 : 0 < l.length) (h : l.length ≤ 32) : nameOk l = (wfirst (l.getD 0 0).toNat && l.all fun b => wlater b.toNat) := by
  unfold nameOk
  rw [decide_eq_true h]
  cases l with
  | nil => simp at h0
  | cons b r => simp
set_option maxHeartbeats 2000000 in
theorem wName_calls (s : ByteArray) (l : List UInt8) (hl : StrIs s l) (w : World) :
    Calls Tryz.prog 99 #[.string s] w fun e w' => e = .returned (.bool (nameOk l)) ∧ w = w' := by
  obtain rfl : s.data.toList = l := hl
  go_enter Tryz.func99, Tryz.ntmps99
  by_cases h0 : s.size = 0
  · have h1 := empty_test h0
    have hn : nameOk s.data.toList = false := by rw [nil_of_size h0]; rfl
    have HN := Lib.hid hn
    clear hn
    go_wp2
    go_ret
    exact ⟨by rw [HN.out]; rfl, rfl⟩
  · have h1 := nonempty_test h0
    by_cases h2 : 32 < s.size
    · have h2b : decide (32 < (s.size : Int)) = true := decide_eq_true (by omega)
      have hn : nameOk s.data.toList = false := nameOk_long (by rw [size_list]; exact h2)
      have HN := Lib.hid hn
      clear hn
      go_wp2
      go_ret
      exact ⟨by rw [HN.out]; rfl, rfl⟩
    · have h2b : decide (32 < (s.size : Int)) = false := decide_eq_false (by omega)
      have hn := nameOk_rest (l := s.data.toList) (by rw [size_list]; omega) (by rw [size_list]; omega)
      have hs0 : 0 < s.size := by omega
      rw [← getD_byte s 0 hs0] at hn
      obtain ⟨b, hb⟩ : ∃ b : UInt8, b = s[0]'hs0 := ⟨_, rfl⟩
      have hbt : ∀ h', ((s[0]'h').toNat : Nat) = b.toNat := fun h' => by rw [hb]
      rw [← hb] at hn
      have hlt := b.toNat_lt
      clear hb
      generalize b.toNat = c at *
      cases hf : wfirst c with
      | false =>
        rw [hf, Bool.false_and] at hn
        have HN := Lib.hid hn
        clear hn
        go_wp2_with (go_at_call 126; refine (wfirst_calls c _ hlt).mono ?_; rw [hf]; rintro e w3 ⟨rfl, rfl⟩)
        go_ret
        exact ⟨by rw [HN.out]; rfl, rfl⟩
      | true =>
        rw [hf, Bool.true_and] at hn
        have HN := Lib.hid hn
        clear hn
        go_wp2_with (go_at_call 126; refine (wfirst_calls c _ hlt).mono ?_; rw [hf]; rintro e w3 ⟨rfl, rfl⟩)
        clear hbt hf hlt
        go_loopg [3, 19] s.size (fun gk _ v19 wr => ∃ k : Nat, v19 = .int .i64 k ∧ k + gk = s.size ∧ Hid ((s.data.toList.all fun b => wlater b.toNat) = (s.data.toList.drop k).all fun b => wlater b.toNat) ∧ w = wr)
        case atStart => exact ⟨0, rfl, by omega, rfl, rfl⟩
        case round =>
          obtain ⟨k, rfl, hkg, hH, rfl⟩ := hrel
          have HKG := Lib.hid hkg
          have hks : k ≤ s.size := by omega
          clear hkg
          by_cases h : k < s.size
          · have hkb : decide ((k : Int) < (s.size : Int)) = true := decide_eq_true (by omega)
            have hst := hH.out.trans (all_drop k h)
            obtain ⟨b, hb⟩ : ∃ b : UInt8, b = s[k]'h := ⟨_, rfl⟩
            have hbt : ∀ h', ((s[k]'h').toNat : Nat) = b.toNat := fun h' => by rw [hb]
            rw [← hb] at hst
            have hlt := b.toNat_lt
            clear hb
            generalize b.toNat = d at *
            cases hf : wlater d with
            | false =>
              rw [hf, Bool.false_and] at hst
              have HST := Lib.hid hst
              clear hst
              go_wp2_with (go_at_call 127; refine (wlater_calls d _ hlt).mono ?_; rw [hf]; rintro e w3 ⟨rfl, rfl⟩)
              go_ret
              exact ⟨by rw [HN.out, HST.out]; rfl, rfl⟩
            | true =>
              rw [hf, Bool.true_and] at hst
              have HST := Lib.hid hst
              clear hst
              go_wp2_with (go_at_call 127; refine (wlater_calls d _ hlt).mono ?_; rw [hf]; rintro e w3 ⟨rfl, rfl⟩)
              go_roundg (gk - 1)
              case measure => have := HKG.out; omega
              case rel => exact ⟨k + 1, by go_num, by have := HKG.out; omega, HST.out, rfl⟩
          · have hkb : decide ((k : Int) < (s.size : Int)) = false := decide_eq_false (by omega)
            have hst := hH.out
            rw [List.drop_eq_nil_of_le (by rw [size_list]; omega)] at hst
            have HST := Lib.hid hst
            clear hst
            go_wp2
            go_ret
            exact ⟨by rw [HN.out, HST.out]; rfl, rfl⟩

theorem slice_to (s : ByteArray) (x : Int) (n : Nat) (hx : x = n) (hn : n ≤ s.size) (W : World) :
    (Instr.slice 9 (.string s) none (some (.int .i64 x)) none).run Tryz.prog W = .ok (.string (s.extract 0 n)) W := by
  subst hx
  have h := run_slice_string_h (P := Tryz.prog) (t := 9) (s := s) (w := W) Tryz.underlying9 .i64 (n : Int) (by omega) (by omega)
  simpa using h
theorem slice_from (s : ByteArray) (x : Int) (n : Nat) (hx : x = n) (hn : n ≤ s.size) (W : World) :
    (Instr.slice 9 (.string s) (some (.int .i64 x)) none none).run Tryz.prog W = .ok (.string (s.extract n s.size)) W := by
  subst hx
  have h := run_slice_string_l (P := Tryz.prog) (t := 9) (s := s) (w := W) Tryz.underlying9 .i64 (n : Int) (by omega) (by omega)
  simpa using h
/-- the reader's block -/
abbrev Rd (g : Nat) (s : ByteArray) (o : Value) (w : World) : Prop := Blk g 140 [.string s, o] w
/-- what stands behind p, where p stands -/
def cutP (p l : List UInt8) : List UInt8 := Lib.trimPrefix l p
theorem cutP_yes {p l : List UInt8} (h : List.isPrefixOf p l = true) : cutP p l = l.drop p.length := if_pos h
theorem cutP_no {p l : List UInt8} (h : List.isPrefixOf p l = false) : cutP p l = l := if_neg (by rw [show Lib.hasPrefix l p = List.isPrefixOf p l from rfl, h]; simp)
theorem whas_calls (g : Nat) (s p : ByteArray) (o : Value) (l : List UInt8) (w : World) (hB : Rd g s o w) (hl : StrIs s l) :
    Calls Tryz.prog 111 #[.pointer (some ⟨g, 0, none⟩), .string p] w fun e w' => ∃ s' : ByteArray, e = .returned (.bool (List.isPrefixOf p.data.toList l)) ∧ StrIs s' (cutP p.data.toList l) ∧ Rd g s' o w' ∧ w.grownBy w' (some g) := by
  have c0 := hB.cell 0 _ rfl
  have f0 := hB.free 0
  obtain rfl : s.data.toList = l := hl
  go_enter Tryz.func111, Tryz.ntmps111
  go_wp2_with fail
  refine (Tryz.strings_CutPrefix s p _).mono ?_
  rintro e w1 ⟨rfl, rfl⟩
  obtain ⟨s', hs'⟩ : ∃ s' : ByteArray, s' = ⟨(Lib.trimPrefix s.data.toList p.data.toList).toArray⟩ := ⟨_, rfl⟩
  rw [← hs']
  have HS := Lib.hid (show StrIs s' (cutP p.data.toList s.data.toList) by rw [hs']; rfl)
  clear hs'
  have hp : Lib.hasPrefix s.data.toList p.data.toList = List.isPrefixOf p.data.toList s.data.toList := rfl
  obtain ⟨B, hBB⟩ : ∃ B, B = List.isPrefixOf p.data.toList s.data.toList := ⟨_, rfl⟩
  rw [hp, ← hBB]
  have HBB := Lib.hid hBB
  clear hp hBB
  go_wp2
  go_ret
  exact ⟨s', by rw [← HBB.out]; rfl, HS.out, hB.set 0 _, grownBy_set _ _ _ _⟩
theorem wtake_calls (g : Nat) (s : ByteArray) (o : Value) (l : List UInt8) (n : Nat) (w : World) (hB : Rd g s o w) (hl : StrIs s l) (hn : n ≤ s.size) (hs : s.size ≤ 4611686018427387904) :
    Calls Tryz.prog 169 #[.pointer (some ⟨g, 0, none⟩), .int .i64 n] w fun e w' => ∃ r s' : ByteArray, e = .returned (.string r) ∧ StrIs r (l.take n) ∧ StrIs s' (l.drop n) ∧ Rd g s' o w' ∧ w.grownBy w' (some g) := by
  have c0 := hB.cell 0 _ rfl
  have f0 := hB.free 0
  obtain rfl : s.data.toList = l := hl
  have hsl := fun W => slice_to s (n : Int) n rfl hn W
  have hsl2 := fun W => slice_from s (n : Int) n rfl hn W
  have hx1 : StrIs (s.extract 0 n) (s.data.toList.take n) := by show _ = _; rw [Lib.extract_data]; simp
  have hx2 : StrIs (s.extract n s.size) (s.data.toList.drop n) := extract_end s n
  generalize s.extract 0 n = x1 at *
  generalize s.extract n s.size = x2 at *
  have H1 := Lib.hid hx1
  have H2 := Lib.hid hx2
  clear hx1 hx2
  go_enter Tryz.func169, Tryz.ntmps169
  go_wp2
  go_ret
  exact ⟨x1, x2, rfl, H1.out, H2.out, hB.set 0 _, grownBy_set _ _ _ _⟩
theorem nmN_drop {s : ByteArray} (k : Nat) (h : k < s.size) : nmN (s.data.toList.drop k) = if wlater (s[k]'h).toNat = true then nmN (s.data.toList.drop (k + 1)) + 1 else 0 := by
  rw [drop_cons s k h]
  rfl
set_option maxHeartbeats 2000000 in
theorem wname_calls (g : Nat) (s : ByteArray) (o : Value) (l : List UInt8) (w : World) (hB : Rd g s o w) (hl : StrIs s l) (hs : s.size ≤ 4611686018427387900) :
    Calls Tryz.prog 149 #[.pointer (some ⟨g, 0, none⟩)] w fun e w' =>
      (∀ x r, nameL l = .ok (x, r) → ∃ t s' : ByteArray, e = .returned (.string t) ∧ StrIs t x ∧ StrIs s' r ∧ Rd g s' o w') ∧ (∀ c, nameL l = .error c → e = pan c) ∧ w.grownBy w' (some g) := by
  have c0 := hB.cell 0 _ rfl
  obtain rfl : s.data.toList = l := hl
  have hnl : nameL s.data.toList = if nameOk (s.data.toList.take (nmN s.data.toList)) = true then .ok (s.data.toList.take (nmN s.data.toList), s.data.toList.drop (nmN s.data.toList)) else .error 1400 := rfl
  have HNL := Lib.hid hnl
  have hnle := nmN_le s.data.toList
  rw [size_list] at hnle
  clear hnl
  go_enter Tryz.func149, Tryz.ntmps149
  go_wp2
  go_loopg [3] s.size (fun gk v3 wr => ∃ k : Nat, v3 = .int .i64 k ∧ k + gk = s.size ∧ Hid (nmN s.data.toList = k + nmN (s.data.toList.drop k)) ∧ w = wr)
  case atStart => exact ⟨0, rfl, by omega, (by show _ = _; simp), rfl⟩
  case round =>
    obtain ⟨k, rfl, hkg, hH, rfl⟩ := hrel
    have HKG := Lib.hid hkg
    have hks : k ≤ s.size := by omega
    clear hkg
    obtain ⟨B, hB'⟩ : ∃ B, B = decide (0 < nmN (s.data.toList.drop k)) := ⟨_, rfl⟩
    have HB := Lib.hid hB'
    clear hB'
    go_upto_region 2 with (fail)
    go_cut [20] (fun v20 wx => v20 = .bool B ∧ w = wx)
    case first =>
      by_cases h : k < s.size
      · have hkb : decide ((k : Int) < (s.size : Int)) = true := decide_eq_true (by omega)
        have hst := nmN_drop k h
        obtain ⟨b, hb⟩ : ∃ b : UInt8, b = s[k]'h := ⟨_, rfl⟩
        have hbt : ∀ h', ((s[k]'h').toNat : Nat) = b.toNat := fun h' => by rw [hb]
        rw [← hb] at hst
        have hlt := b.toNat_lt
        clear hb
        generalize b.toNat = d at *
        have hbb : B = wlater d := by rw [HB.out, hst]; cases wlater d <;> simp
        have HBB := Lib.hid hbb
        clear hst hbb
        go_wp2_with (go_at_call 127; refine (wlater_calls d _ hlt).mono ?_; rintro e w3 ⟨rfl, rfl⟩)
        go_meet
        exact ⟨by rw [HBB.out], rfl⟩
      · have hkb : decide ((k : Int) < (s.size : Int)) = false := decide_eq_false (by omega)
        have hbb : B = false := by rw [HB.out, List.drop_eq_nil_of_le (by rw [size_list]; omega)]; rfl
        have HBB := Lib.hid hbb
        clear hbb
        go_wp2
        go_meet
        exact ⟨by rw [HBB.out], rfl⟩
    case rest =>
    obtain ⟨rfl, rfl⟩ := hcut
    cases B with
    | true =>
      have hb0 : 0 < nmN (s.data.toList.drop k) := of_decide_eq_true HB.out.symm
      have hlt : k < s.size := by
        refine Nat.lt_of_not_le fun h => ?_
        rw [List.drop_eq_nil_of_le (by rw [size_list]; exact h)] at hb0
        exact absurd hb0 (by decide)
      have hst := nmN_drop k hlt
      have hst2 : nmN (s.data.toList.drop k) = nmN (s.data.toList.drop (k + 1)) + 1 := by
        cases hw : wlater (s[k]'hlt).toNat with
        | false => rw [hw] at hst; simp at hst; omega
        | true => rw [hw] at hst; simpa using hst
      have HST := Lib.hid hst2
      clear hb0 hst hst2
      go_wp2
      go_roundg (gk - 1)
      case measure => have := HKG.out; omega
      case rel => exact ⟨k + 1, by go_num, by have := HKG.out; omega, (by have := hH.out; have := HST.out; show _ = _; omega), rfl⟩
    | false =>
      have hk : k = nmN s.data.toList := by have h1 := hH.out; have h2 := of_decide_eq_false HB.out.symm; omega
      rw [← hk] at HNL hnle
      have HK := Lib.hid hk
      clear hk hH HB HKG
      go_wp2_with fail
      refine (wtake_calls g s o _ k _ hB rfl hks (by omega)).mono ?_
      rintro e w1 ⟨x, s', rfl, hx, hs', hB1, hg1⟩
      go_wp2_with fail
      refine (wName_calls x _ hx _).mono ?_
      rintro e w2 ⟨rfl, rfl⟩
      have hnl := HNL.out
      cases hok : nameOk (s.data.toList.take k) with
      | true =>
        rw [hok, if_pos rfl] at hnl
        have HN2 := Lib.hid hnl
        clear hnl HNL hok
        go_wp2_with (go_at_call 113; refine (fail_ok _ _).mono ?_; rintro e w3 ⟨rfl, rfl⟩)
        go_ret
        refine ⟨fun x2 r2 h => ?_, fun c h => ?_, hg1⟩
        · rw [HN2.out] at h
          cases h
          exact ⟨x, s', rfl, hx, hs', hB1⟩
        · rw [HN2.out] at h
          cases h
      | false =>
        rw [hok, if_neg (by simp)] at hnl
        have HN2 := Lib.hid hnl
        clear hnl HNL hok
        go_wp2_with (go_at_call 113; refine (fail_no 1400 _).mono ?_; unfold pan; rintro e w3 ⟨rfl, rfl⟩)
        refine ⟨rfl, fun x2 r2 h => ?_, fun c h => ?_, hg1⟩
        · rw [HN2.out] at h
          cases h
        · rw [HN2.out] at h
          cases h
          rfl
end Go.Proofs.YtbcddlheikdlkaaGreatDoor.S
/-
  THE WALKS of package words' path, field.
-/
set_option linter.unusedVariables false
set_option linter.unusedSimpArgs false
namespace Go.Proofs.YtbcddlheikdlkaaGreatDoor.S
open Go.RowKit

/-- rows of texts -/
def stCells (x : List UInt8) : List Value := [.string ⟨x.toArray⟩]
def Strs (base : Nat) (v : Value) (xs : List (List UInt8)) (w : World) : Prop := w.ownsRow base 9 1 v xs.length (xs.flatMap stCells)
theorem strInfo : (Tryz.prog.info? 9).map (fun i => (i.zero, i.size, i.bytes)) = some (some (.string ⟨#[]⟩), 1, 16) := by kernel_rfl
theorem strs_nil (base : Nat) (w : World) : Strs base (.slice none 0 0) [] w := ⟨by simp, .inl ⟨rfl, rfl⟩⟩
theorem Strs.grown {base g : Nat} {v : Value} {xs : List (List UInt8)} {w w' : World} (h : Strs base v xs w) (hg : w.grownBy w' (some g)) (hb : g < base) : Strs base v xs w' :=
  World.ownsRow.kept h hg (.inr fun e => by have := own_base h g e; omega)
theorem Strs.slice {base : Nat} {v : Value} {xs : List (List UInt8)} {w : World} (h : Strs base v xs w) : ∃ a c, v = .slice a xs.length c := by
  obtain ⟨a, c, h, _⟩ := own_slice h
  exact ⟨a, c, h⟩
section
variable {ops : Array Oper} {rest : List Oper} {o : Oper} {a : Act} {Q : Exit → Act → World → Prop}
/-- append(xs, x): the literal's block has just been laid -/
theorem wp_appStr {W : World} (base : Nat) (hgd : o.guard = none) (s x : Operand)
    (ho : o.op = .call { callee := .builtin .append, args := #[s, x], argTypes := #[53, 53] })
    (v : Value) (xs : List (List UInt8)) (t : ByteArray) (y : List UInt8) (hy : StrIs t y) (c : Nat) (hs : a.eval s = v) (hx : a.eval x = .slice (some ⟨W.heap.size, 0, none⟩) 1 c)
    (HO : Strs base v xs W) (hbase : base ≤ W.heap.size) (hl : xs.length ≤ 1099511627776)
    (h : ∀ v1 w1, Strs base v1 (xs ++ [y]) w1 → W.grownBy w1 v.ownBlock → wpList Tryz.prog ops Q rest (a.put o.dst v1) w1) :
    wpList Tryz.prog ops Q (o :: rest) a (W.alloc (.cells #[.string t] 9)) := by
  obtain ⟨i0, hi, hz0, hz1, hz2⟩ := info_parts strInfo
  refine wpList_append_own (W.alloc (.cells #[.string t] 9)) hgd s x 53 ho base 9 i0 (.string ⟨#[]⟩) 1 16 Tryz.underlying53 hi hz0 hz1 hz2 rfl (by decide) v xs.length (xs.flatMap stCells) hs (own_below HO ((Below.refl _ W).alloc (Nat.le_refl _) _))
    ⟨W.heap.size, 0, none⟩ 1 c (stCells y) hx rfl ?_ ?_ (by simp only [maxLen]; omega) (by omega) (by simp; omega) ?_
  · rw [show stCells y = (#[Value.string t] : Array Value).toList by rw [hy.eq]; rfl]
    exact World.news_of_block (t := 9) (fr := (0, 0)) (heap_new W _)
  · intro u hu
    simp only [stCells, List.mem_cons, List.not_mem_nil, or_false] at hu
    rcases hu with rfl
    rfl
  · intro v1 w1 hown hg _
    refine h v1 w1 ?_ ((World.grownBy_alloc W _ _).trans hg)
    unfold Strs
    rw [List.length_append, List.flatMap_append]
    simpa using hown
end
theorem grown_more {w w2 w3 : World} {base e size n : Nat} {v : Value} {xs : List Value} {row : Option Nat} (h : w.grownBy w2 row) (hO : w2.ownsRow base e size v n xs) (hb : w.heap.size ≤ base) (hg : w2.grownBy w3 v.ownBlock) : w.grownBy w3 row :=
  ⟨hg.os.trans h.os, hg.tape.trans h.tape, hg.output.trans h.output, Nat.le_trans h.size hg.size, fun i hi hne =>
    (hg.block i (Nat.lt_of_lt_of_le hi h.size) fun e => by have := own_base hO i e.symm; omega).trans (h.block i hi hne)⟩
/-- what is read so far, and the rest, make the whole -/
def PathAt (T : Except Nat (List (List UInt8) × List UInt8)) (xs : List (List UInt8)) (n k : Nat) (l : List UInt8) : Prop := T = (pathF n k l).map fun x => (xs ++ x.1, x.2)
theorem path_end {T : Except Nat (List (List UInt8) × List UInt8)} {xs : List (List UInt8)} {n k : Nat} {l : List UInt8} (h : PathAt T xs (n + 1) k l) (hp : List.isPrefixOf [46] l = false) : T = .ok (xs, l) := by
  rw [h, pathF, hp]
  simp [Except.map]
theorem path_err {T : Except Nat (List (List UInt8) × List UInt8)} {xs : List (List UInt8)} {n k : Nat} {l : List UInt8} {e : Nat} (h : PathAt T xs (n + 1) k l) (hp : List.isPrefixOf [46] l = true) (hn : nameL (l.drop 1) = .error e) : T = .error e := by
  rw [h, pathF, hp, if_pos rfl, hn]
  rfl
theorem path_many {T : Except Nat (List (List UInt8) × List UInt8)} {xs : List (List UInt8)} {n k : Nat} {l x r : List UInt8} (h : PathAt T xs (n + 1) k l) (hp : List.isPrefixOf [46] l = true) (hn : nameL (l.drop 1) = .ok (x, r)) (hk : ¬ k + 1 ≤ 8) : T = .error 1400 := by
  rw [h, pathF, hp, if_pos rfl, hn]
  dsimp only
  rw [if_neg hk]
  rfl
theorem path_go {T : Except Nat (List (List UInt8) × List UInt8)} {xs : List (List UInt8)} {n k : Nat} {l x r : List UInt8} (h : PathAt T xs (n + 1) k l) (hp : List.isPrefixOf [46] l = true) (hn : nameL (l.drop 1) = .ok (x, r)) (hk : k + 1 ≤ 8) : PathAt T (xs ++ [x]) n (k + 1) r := by
  unfold PathAt at *
  rw [h, pathF, hp, if_pos rfl, hn]
  dsimp only
  rw [if_pos hk]
  cases pathF n (k + 1) r with
  | error e => rfl
  | ok y => simp [Except.map]
theorem nameL_len {l x r : List UInt8} (h : nameL l = .ok (x, r)) : r.length ≤ l.length := by
  unfold nameL at h
  split at h
  · injection h with h
    injection h with _ h
    rw [← h]
    simp
  · cases h

set_option maxRecDepth 100000 in
set_option maxHeartbeats 2000000 in
theorem wpath_calls (g : Nat) (s : ByteArray) (o : Value) (l : List UInt8) (w : World) (hB : Rd g s o w) (hl : StrIs s l) (hs : s.size ≤ 4611686018427387900) :
    Calls Tryz.prog 150 #[.pointer (some ⟨g, 0, none⟩)] w fun e w' =>
      (∀ xs r, pathL l = .ok (xs, r) → ∃ (v : Value) (s' : ByteArray), e = .returned v ∧ Strs w.heap.size v xs w' ∧ StrIs s' r ∧ Rd g s' o w') ∧ (∀ c, pathL l = .error c → e = pan c) ∧ w.grownBy w' (some g) := by
  obtain ⟨T, hT⟩ : ∃ T, T = pathL l := ⟨_, rfl⟩
  rw [← hT]
  have hT' : PathAt T [] 9 0 l := by
    unfold PathAt
    rw [hT]
    show pathF 9 0 l = _
    cases pathF 9 0 l <;> rfl
  have hll : l.length = s.size := hl.size.symm
  have hgl := hB.lt
  clear hT
  go_enter Tryz.func150, Tryz.ntmps150
  go_wp2
  go_loopg [3] 9 (fun gk v3 wr => ∃ (k : Nat) (xs : List (List UInt8)) (s' : ByteArray) (l' : List UInt8), k + gk = 9 ∧ k ≤ 8 ∧ xs.length = k ∧ Strs w.heap.size v3 xs wr ∧ StrIs s' l' ∧ l'.length ≤ l.length ∧ Rd g s' o wr ∧ w.grownBy wr (some g) ∧ Hid (PathAt T xs gk k l'))
  case atStart => exact ⟨0, [], s, l, by omega, by omega, rfl, strs_nil _ _, hl, Nat.le_refl _, hB, World.grownBy.refl _ _, hT'⟩
  case round =>
    obtain ⟨k, xs, s', l', hkg, hk8, hxk, hO, hs', hll', hBr, hgr, hP⟩ := hrel
    obtain ⟨n, rfl⟩ : ∃ n, gk = n + 1 := ⟨gk - 1, by omega⟩
    have HKG := Lib.hid hkg
    have HXK := Lib.hid hxk
    clear hkg hxk hT'
    go_wp2_with fail
    refine (whas_calls g s' ⟨#[46]⟩ o l' _ hBr hs').mono ?_
    rintro e w1 ⟨s1, rfl, hs1, hB1, hg1⟩
    have hO1 := hO.grown hg1 hgl
    have hgr1 := hgr.trans hg1
    cases hp : List.isPrefixOf [46] l' with
    | false =>
      rw [show cutP (⟨#[46]⟩ : ByteArray).data.toList l' = l' from cutP_no hp] at hs1
      have hT := path_end hP.out hp
      have HT := Lib.hid hT
      clear hT hP hp
      go_wp2
      go_ret
      refine ⟨fun ys r h => ?_, fun c h => ?_, hgr1⟩
      · rw [HT.out] at h
        cases h
        exact ⟨_, s1, rfl, hO1, hs1, hB1⟩
      · rw [HT.out] at h
        cases h
    | true =>
      rw [show cutP (⟨#[46]⟩ : ByteArray).data.toList l' = l'.drop 1 from cutP_yes hp] at hs1
      have hl1 : (l'.drop 1).length ≤ l.length := by rw [List.length_drop]; omega
      have hz1 : s1.size ≤ 4611686018427387900 := by rw [hs1.size]; omega
      have hN := fun W hW => wname_calls g s1 o (l'.drop 1) W hW hs1 hz1
      cases hn : nameL (l'.drop 1) with
      | error c =>
        have hT := path_err hP.out hp hn
        have HT := Lib.hid hT
        clear hT hP hp
        go_wp2_with fail
        refine (hN _ hB1).mono ?_
        rintro e w2 ⟨-, he, hg2⟩
        obtain rfl := he c hn
        have hgr2 := hgr1.trans hg2
        unfold pan
        go_wp2
        refine ⟨rfl, fun ys r h => ?_, fun c' h => ?_, hgr2⟩
        · rw [HT.out] at h
          cases h
        · rw [HT.out] at h
          cases h
          rfl
      | ok y =>
        obtain ⟨x, r⟩ := y
        go_wp2_with fail
        refine (hN _ hB1).mono ?_
        rintro e w2 ⟨hok, -, hg2⟩
        obtain ⟨t, s2, rfl, ht, hs2, hB2⟩ := hok x r hn
        have hgr2 := hgr1.trans hg2
        have hO2 := hO1.grown hg2 hgl
        have hrl := nameL_len hn
        have hz2 := hgr2.size
        have HN := Lib.hid hn
        have HHP := Lib.hid hp
        clear hok hn hN hp
        have hxl2 : (xs ++ [x]).length = k + 1 := by rw [List.length_append, HXK.out]; rfl
        have hbn : ∀ (v3 : Value) (w3 : World), Strs w.heap.size v3 (xs ++ [x]) w3 → w2.grownBy w3 u3.ownBlock → ∃ sa m sc, v3 = .slice sa m sc ∧ m = k + 1 ∧ Rd g s2 o w3 ∧ w.grownBy w3 (some g) := fun v3 w3 hO3 hg3 => by
          obtain ⟨sa, sc, h⟩ := hO3.slice
          exact ⟨sa, _, sc, h, hxl2, Blk.grown hB2 hg3 (fun e => by have := own_base hO2 _ e.symm; omega), grown_more hgr2 hO2 (Nat.le_refl _) hg3⟩
        have hxl : xs.length ≤ 1099511627776 := by have := HXK.out; omega
        have HBN := Lib.hid hbn
        have HX2 := Lib.hid hxl2
        clear hbn hxl2
        by_cases hk : k + 1 ≤ 8
        · have hP2 := path_go hP.out HHP.out HN.out hk
          have HP2 := Lib.hid hP2
          have hrl2 : r.length ≤ l.length := by omega
          clear hP2 hP HHP HN hrl
          go_wp2_with (first | (at_builtin; refine wp_appStr w.heap.size rfl (.tmp 6) (.tmp 9) rfl u3 xs t x ht 1 rfl rfl hO2 hz2 hxl ?_; intro v3 w3 hO3 hg3; obtain ⟨sa, m, sc, rfl, hm, hB3, hgr3⟩ := HBN.out v3 w3 hO3 hg3; have hkb : decide ((m : Int) ≤ 8) = true := decide_eq_true (by omega); have hm2 : m ≤ 9223372036854775807 := (by omega); clear hm) | (go_at_call 113; refine (fail_ok _ _).mono ?_; rintro e w9 ⟨rfl, rfl⟩))
          go_roundg n
          case measure => omega
          case rel => exact ⟨k + 1, xs ++ [x], s2, r, by have := HKG.out; omega, hk, HX2.out, hO3, hs2, hrl2, hB3, hgr3, HP2.out⟩
        · have hT := path_many hP.out HHP.out HN.out hk
          have HT := Lib.hid hT
          clear hT hP HHP HN hrl
          go_wp2_with (first | (at_builtin; refine wp_appStr w.heap.size rfl (.tmp 6) (.tmp 9) rfl u3 xs t x ht 1 rfl rfl hO2 hz2 hxl ?_; intro v3 w3 hO3 hg3; obtain ⟨sa, m, sc, rfl, hm, hB3, hgr3⟩ := HBN.out v3 w3 hO3 hg3; have hkb : decide ((m : Int) ≤ 8) = false := decide_eq_false (by omega); have hm2 : m ≤ 9223372036854775807 := (by omega); clear hm) | (go_at_call 113; refine (fail_no 1400 _).mono ?_; unfold pan; rintro e w9 ⟨rfl, rfl⟩))
          refine ⟨rfl, fun ys r h => ?_, fun c' h => ?_, hgr3⟩
          · rw [HT.out] at h
            cases h
          · rw [HT.out] at h
            cases h
            rfl
end Go.Proofs.YtbcddlheikdlkaaGreatDoor.S
/-
  THE WALK of package words' field.
-/
set_option linter.unusedVariables false
set_option linter.unusedSimpArgs false
namespace Go.Proofs.YtbcddlheikdlkaaGreatDoor.S
open Go.RowKit

/-- a word as a value; pv: its path's slice -/
def wdV (d : Wd) (pv : Value) : Value := .agg #[.int .i64 d.kind, .string ⟨d.text.toArray⟩, pv, .int .i64 d.num]
def WOk (base g : Nat) (o : Value) (e : Ending) (d : Wd) (r : List UInt8) (w' : World) : Prop := ∃ (pv : Value) (s' : ByteArray), e = .returned (wdV d pv) ∧ Strs base pv d.path w' ∧ StrIs s' r ∧ Rd g s' o w'
def WPost (S : Except Nat (Wd × List UInt8)) (w : World) (g : Nat) (o : Value) (e : Ending) (w' : World) : Prop :=
  (∀ d r, S = .ok (d, r) → WOk w.heap.size g o e d r w') ∧ (∀ c, S = .error c → e = pan c) ∧ w.grownBy w' (some g)
/-- a write to a new block is none to the old ones -/
theorem grown_set {w W : World} {row : Option Nat} (h : w.grownBy W row) (G j : Nat) (hG : w.heap.size ≤ G) (x : Value) : w.grownBy (W.setCell ⟨G, j, none⟩ x) row :=
  ⟨h.os, h.tape, h.output, by simpa [World.setCell] using h.size, fun k hk hne => by
    have : G ≠ k := by omega
    rw [← h.block k hk hne]
    simp [World.setCell, Array.getElem?_modify, this]⟩
abbrev wd0 : List Value := [.int .i64 0, .string ⟨#[]⟩, .slice none 0 0, .int .i64 0]
abbrev put4 (W : World) (G : Nat) (a b c d : Value) : World := (((W.setCell ⟨G, 0, none⟩ a).setCell ⟨G, 1, none⟩ b).setCell ⟨G, 2, none⟩ c).setCell ⟨G, 3, none⟩ d
theorem grown_put4 {w W : World} {row : Option Nat} (h : w.grownBy W row) (G : Nat) (hG : w.heap.size ≤ G) (a b c d : Value) : w.grownBy (put4 W G a b c d) row :=
  grown_set (grown_set (grown_set (grown_set h G 0 hG a) G 1 hG b) G 2 hG c) G 3 hG d
theorem own_put4 {base e size n : Nat} {v : Value} {xs : List Value} {W : World} (h : W.ownsRow base e size v n xs) (G : Nat) (hG : G < base) (a b c d : Value) : (put4 W G a b c d).ownsRow base e size v n xs := by
  have hne : v.ownBlock ≠ some G := fun k => by have := own_base h G k; omega
  exact own_set (own_set (own_set (own_set h hne 0 a) hne 1 b) hne 2 c) hne 3 d
theorem blk_put4 {g : Nat} {T : TypeId} {cs : List Value} {W : World} (h : Blk g T cs W) (G : Nat) (hG : G ≠ g) (a b c d : Value) : Blk g T cs (put4 W G a b c d) :=
  Blk.grown (Blk.grown (Blk.grown (Blk.grown h (grownBy_set _ G 0 a) (by simp; omega)) (grownBy_set _ G 1 b) (by simp; omega)) (grownBy_set _ G 2 c) (by simp; omega)) (grownBy_set _ G 3 d) (by simp; omega)
theorem second_eq {l : List UInt8} (h : 1 < l.length) : second l = wfirst (l.getD 1 0).toNat := by unfold second; rw [decide_eq_true h, Bool.true_and]
theorem second_no {l : List UInt8} (h : ¬ 1 < l.length) : second l = false := by unfold second; rw [decide_eq_false h, Bool.false_and]

set_option maxRecDepth 100000 in
set_option maxHeartbeats 2000000 in
theorem wfield_calls (g : Nat) (s : ByteArray) (o : Value) (l : List UInt8) (w : World) (hB : Rd g s o w) (hl : StrIs s l) (hs : s.size ≤ 4611686018427387900) (hn : 0 < s.size) :
    Calls Tryz.prog 148 #[.pointer (some ⟨g, 0, none⟩)] w fun e w' => WPost (fieldL l) w g o e w' := by
  have hgl := hB.lt
  have hll : l.length = s.size := hl.size.symm
  have hW : Blk w.heap.size 112 wd0 (w.alloc (.cells wd0.toArray 112)) := Blk.new w _ _
  have hb0 : Below w.heap.size w (w.alloc (.cells wd0.toArray 112)) := (Below.refl _ w).alloc (Nat.le_refl _) _
  have hB0 := hB.below hb0
  have hz0 : (w.alloc (.cells wd0.toArray 112)).heap.size = w.heap.size + 1 := by simp
  go_enter Tryz.func148, Tryz.ntmps148
  go_upto_region 1 with (fail)
  generalize w.alloc (.cells wd0.toArray 112) = w0 at *
  have c0 := hB0.cell 0 _ rfl
  go_cut [16] (fun v16 wx => v16 = .bool (second l) ∧ w0 = wx)
  case first =>
    by_cases h1 : 1 < s.size
    · have h1b : decide (1 < (s.size : Int)) = true := decide_eq_true (by omega)
      have hsc := second_eq (l := l) (by omega)
      rw [← show s.data.toList = l from hl, ← getD_byte s 1 h1] at hsc
      obtain ⟨b, hb⟩ : ∃ b : UInt8, b = s[1]'h1 := ⟨_, rfl⟩
      have hbt : ∀ h', ((s[1]'h').toNat : Nat) = b.toNat := fun h' => by rw [hb]
      rw [← hb, show s.data.toList = l from hl] at hsc
      have hlt := b.toNat_lt
      have HSC := Lib.hid hsc
      clear hb hsc
      generalize b.toNat = d at *
      go_wp2_with (go_at_call 126; refine (wfirst_calls d _ hlt).mono ?_; rintro e w3 ⟨rfl, rfl⟩)
      go_meet
      exact ⟨by rw [HSC.out], rfl⟩
    · have h1b : decide (1 < (s.size : Int)) = false := decide_eq_false (by omega)
      have hsc := second_no (l := l) (by omega)
      have HSC := Lib.hid hsc
      clear hsc
      go_wp2
      go_meet
      exact ⟨by rw [HSC.out], rfl⟩
  case rest =>
  obtain ⟨rfl, rfl⟩ := hcut
  clear c0
  have hF : fieldL l = if second l = true then (pathL l).map fun x => (⟨1, [], x.1, 0⟩, x.2) else .ok (⟨1, [], [], 0⟩, l.drop 1) := rfl
  cases hsc : second l with
  | true =>
    rw [hsc, if_pos rfl] at hF
    have HF := Lib.hid hF
    clear hF hsc
    have hP := fun W hW => wpath_calls g s o l W hW hl hs
    cases hp : pathL l with
    | error c =>
      go_wp2_with fail
      refine (hP _ hB0).mono ?_
      rintro e w1 ⟨-, he, hg1⟩
      obtain rfl := he c hp
      have hg := (grownBy_below (row := some g) hb0).trans hg1
      have HPP := Lib.hid hp
      clear hp hP
      unfold pan
      go_wp2
      refine ⟨rfl, fun d r h => ?_, fun c' h => ?_, hg⟩
      · rw [HF.out, HPP.out] at h
        cases h
      · rw [HF.out, HPP.out] at h
        cases h
        rfl
    | ok y =>
      obtain ⟨xs, r⟩ := y
      go_wp2_with fail
      refine (hP _ hB0).mono ?_
      rintro e w1 ⟨hok, -, hg1⟩
      obtain ⟨v, s', rfl, hO1, hs', hB1⟩ := hok xs r hp
      have hg := (grownBy_below (row := some g) hb0).trans hg1
      have hW1 := Blk.grown hW hg1 (by simp; omega)
      have HPP := Lib.hid hp
      have c0 := hW1.cell 0 _ rfl
      have c1 := hW1.cell 1 _ rfl
      have c2 := hW1.cell 2 _ rfl
      have c3 := hW1.cell 3 _ rfl
      have f0 := hW1.free 0
      have f1 := hW1.free 1
      have f2 := hW1.free 2
      have f3 := hW1.free 3
      obtain ⟨sa, sc, rfl⟩ := hO1.slice
      clear hok hp hP
      have hW4 : Blk w.heap.size 112 [.int .i64 1, .string ⟨#[]⟩, .slice sa xs.length sc, .int .i64 0] ((((w1.setCell ⟨w.heap.size, 0, none⟩ (.int .i64 1)).setCell ⟨w.heap.size, 1, none⟩ (.string ⟨#[]⟩)).setCell ⟨w.heap.size, 2, none⟩ (.slice sa xs.length sc)).setCell ⟨w.heap.size, 3, none⟩ (.int .i64 0)) := (((hW1.set 0 _).set 1 _).set 2 _).set 3 _
      have hg4 : w.grownBy ((((w1.setCell ⟨w.heap.size, 0, none⟩ (.int .i64 1)).setCell ⟨w.heap.size, 1, none⟩ (.string ⟨#[]⟩)).setCell ⟨w.heap.size, 2, none⟩ (.slice sa xs.length sc)).setCell ⟨w.heap.size, 3, none⟩ (.int .i64 0)) (some g) := grown_put4 hg w.heap.size (Nat.le_refl _) _ _ _ _
      have hO4 : Strs w0.heap.size (.slice sa xs.length sc) xs ((((w1.setCell ⟨w.heap.size, 0, none⟩ (.int .i64 1)).setCell ⟨w.heap.size, 1, none⟩ (.string ⟨#[]⟩)).setCell ⟨w.heap.size, 2, none⟩ (.slice sa xs.length sc)).setCell ⟨w.heap.size, 3, none⟩ (.int .i64 0)) := own_put4 hO1 w.heap.size (by omega) _ _ _ _
      have hB4 : Rd g s' o ((((w1.setCell ⟨w.heap.size, 0, none⟩ (.int .i64 1)).setCell ⟨w.heap.size, 1, none⟩ (.string ⟨#[]⟩)).setCell ⟨w.heap.size, 2, none⟩ (.slice sa xs.length sc)).setCell ⟨w.heap.size, 3, none⟩ (.int .i64 0)) := blk_put4 hB1 w.heap.size (by omega) _ _ _ _
      go_wp2
      clear c0 c1 c2 c3 f0 f1 f2 f3
      generalize (((w1.setCell ⟨w.heap.size, 0, none⟩ (.int .i64 1)).setCell ⟨w.heap.size, 1, none⟩ (.string ⟨#[]⟩)).setCell ⟨w.heap.size, 2, none⟩ (.slice sa xs.length sc)).setCell ⟨w.heap.size, 3, none⟩ (.int .i64 0) = w4 at *
      have d0 := hW4.cell 0 _ rfl
      have d1 := hW4.cell 1 _ rfl
      have d2 := hW4.cell 2 _ rfl
      have d3 := hW4.cell 3 _ rfl
      refine bodyPost_ret (v := wdV ⟨1, [], xs, 0⟩ (.slice sa xs.length sc)) (by simp [results, Tryz.results148, go_sem, wdV, d0, d1, d2, d3]) rfl ?_
      refine ⟨fun d r' h => ?_, fun c' h => ?_, hg4⟩
      · rw [HF.out, HPP.out] at h
        cases h
        exact ⟨_, s', rfl, World.ownsRow.mono hO4 (by omega), hs', hB4⟩
      · rw [HF.out, HPP.out] at h
        cases h
  | false =>
    rw [hsc, if_neg (by simp)] at hF
    have HF := Lib.hid hF
    clear hF hsc
    go_wp2_with fail
    refine (wtake_calls g s o l 1 _ hB0 hl hn (by omega)).mono ?_
    rintro e w1 ⟨x, s', rfl, -, hs', hB1, hg1⟩
    have hg := (grownBy_below (row := some g) hb0).trans hg1
    have hW1 := Blk.grown hW hg1 (by simp; omega)
    have c0 := hW1.cell 0 _ rfl
    have c1 := hW1.cell 1 _ rfl
    have c2 := hW1.cell 2 _ rfl
    have c3 := hW1.cell 3 _ rfl
    have f0 := hW1.free 0
    have f1 := hW1.free 1
    have f2 := hW1.free 2
    have f3 := hW1.free 3
    have hW4 : Blk w.heap.size 112 [.int .i64 1, .string ⟨#[]⟩, .slice none 0 0, .int .i64 0] ((((w1.setCell ⟨w.heap.size, 0, none⟩ (.int .i64 1)).setCell ⟨w.heap.size, 1, none⟩ (.string ⟨#[]⟩)).setCell ⟨w.heap.size, 2, none⟩ (.slice none 0 0)).setCell ⟨w.heap.size, 3, none⟩ (.int .i64 0)) := (((hW1.set 0 _).set 1 _).set 2 _).set 3 _
    have hg4 : w.grownBy ((((w1.setCell ⟨w.heap.size, 0, none⟩ (.int .i64 1)).setCell ⟨w.heap.size, 1, none⟩ (.string ⟨#[]⟩)).setCell ⟨w.heap.size, 2, none⟩ (.slice none 0 0)).setCell ⟨w.heap.size, 3, none⟩ (.int .i64 0)) (some g) := grown_put4 hg w.heap.size (Nat.le_refl _) _ _ _ _
    have hB4 : Rd g s' o ((((w1.setCell ⟨w.heap.size, 0, none⟩ (.int .i64 1)).setCell ⟨w.heap.size, 1, none⟩ (.string ⟨#[]⟩)).setCell ⟨w.heap.size, 2, none⟩ (.slice none 0 0)).setCell ⟨w.heap.size, 3, none⟩ (.int .i64 0)) := blk_put4 hB1 w.heap.size (by omega) _ _ _ _
    go_wp2
    clear c0 c1 c2 c3 f0 f1 f2 f3
    generalize (((w1.setCell ⟨w.heap.size, 0, none⟩ (.int .i64 1)).setCell ⟨w.heap.size, 1, none⟩ (.string ⟨#[]⟩)).setCell ⟨w.heap.size, 2, none⟩ (.slice none 0 0)).setCell ⟨w.heap.size, 3, none⟩ (.int .i64 0) = w4 at *
    have d0 := hW4.cell 0 _ rfl
    have d1 := hW4.cell 1 _ rfl
    have d2 := hW4.cell 2 _ rfl
    have d3 := hW4.cell 3 _ rfl
    refine bodyPost_ret (v := wdV ⟨1, [], [], 0⟩ (.slice none 0 0)) (by simp [results, Tryz.results148, go_sem, wdV, d0, d1, d2, d3]) rfl ?_
    refine ⟨fun d r' h => ?_, fun c' h => ?_, hg4⟩
    · rw [HF.out] at h
      cases h
      exact ⟨_, s', rfl, strs_nil _ _, hs', hB4⟩
    · rw [HF.out] at h
      cases h
end Go.Proofs.YtbcddlheikdlkaaGreatDoor.S
/-
  THE WALK of package words' text.
-/
set_option linter.unusedVariables false
set_option linter.unusedSimpArgs false
namespace Go.Proofs.YtbcddlheikdlkaaGreatDoor.S
open Go.RowKit

theorem slice_mid (s : ByteArray) (x y : Int) (i j : Nat) (hx : x = i) (hy : y = j) (hij : i ≤ j) (hj : j ≤ s.size) (W : World) :
    (Instr.slice 9 (.string s) (some (.int .i64 x)) (some (.int .i64 y)) none).run Tryz.prog W = .ok (.string (s.extract i j)) W := by
  subst hx hy
  have h := run_slice_string (P := Tryz.prog) (w := W) 9 s .i64 .i64 (i : Int) (j : Int) Tryz.underlying9 (by omega) (by omega) (by omega)
  simpa using h
theorem builderGrown {B b g : Nat} {l : List UInt8} {w w' : World} (h : Tryz.BuilderHas B b l w) (hg : w.grownBy w' (some g)) (hgB : g < B) : Tryz.BuilderHas B b l w' := by
  have one : ∀ p, Lib.BuilderAtF 175 5 B b p (Lib.byteCells l) w → Lib.BuilderAtF 175 5 B b p (Lib.byteCells l) w' := fun p ⟨hB, v, hv, hr, hne⟩ =>
    ⟨hB, v, (hg.block b (Array.getElem?_eq_some_iff.1 hv).1 (by simp; omega)).trans hv, hr.kept hg (.inr fun e => by have := (hr.lt g e).1; omega), hne⟩
  exact h.elim (fun x => .inl (one _ x)) (fun x => .inr (one _ x))
theorem grown_below {w W W' : World} {row : Option Nat} {B : Nat} (h : w.grownBy W row) (hb : Below B W W') (hB : w.heap.size ≤ B) : w.grownBy W' row :=
  ⟨hb.os.trans h.os, hb.tape.trans h.tape, hb.output.trans h.output, Nat.le_trans h.size hb.size, fun i hi hne => (hb.block i (by omega)).trans (h.block i hi hne)⟩
theorem Blk.belowB {g B : Nat} {T : TypeId} {cs : List Value} {w w' : World} (h : Blk g T cs w) (hb : Below B w w') (hg : g < B) : Blk g T cs w' := (hb.block g hg).trans h
theorem escIdx (c : UInt8) : ∀ z, escW c.toNat = some z → ∃ k, k < 4 ∧ hasI [c] [34, 92, 110, 116] = true ∧ cutI [c] [34, 92, 110, 116] = k ∧ ([34, 92, 10, 9] : List UInt8)[k]? = some z := by
  intro z h
  unfold escW at h
  split at h
  · rename_i hc; obtain rfl : c = 34 := UInt8.toNat_inj.1 hc; cases h; exact ⟨0, by decide, by decide, by decide, rfl⟩
  · split at h
    · rename_i hc; obtain rfl : c = 92 := UInt8.toNat_inj.1 hc; cases h; exact ⟨1, by decide, by decide, by decide, rfl⟩
    · split at h
      · rename_i hc; obtain rfl : c = 110 := UInt8.toNat_inj.1 hc; cases h; exact ⟨2, by decide, by decide, by decide, rfl⟩
      · split at h
        · rename_i hc; obtain rfl : c = 116 := UInt8.toNat_inj.1 hc; cases h; exact ⟨3, by decide, by decide, by decide, rfl⟩
        · cases h
theorem escIdx_no (c : UInt8) (h : escW c.toNat = none) : hasI [c] [34, 92, 110, 116] = false := by
  unfold escW at h
  split at h
  · cases h
  · rename_i h1
    split at h
    · cases h
    · rename_i h2
      split at h
      · cases h
      · rename_i h3
        split at h
        · cases h
        · rename_i h4
          have g1 : c ≠ 34 := fun e => h1 (by rw [e]; rfl)
          have g2 : c ≠ 92 := fun e => h2 (by rw [e]; rfl)
          have g3 : c ≠ 110 := fun e => h3 (by rw [e]; rfl)
          have g4 : c ≠ 116 := fun e => h4 (by rw [e]; rfl)
          simp [hasI, List.isPrefixOf, g1, g2, g3, g4]
theorem textL_quote (r : List UInt8) : textL (34 :: r) = .ok ([], r) := by rw [textL.eq_def]; rfl
theorem textL_plain (b : UInt8) (r : List UInt8) (h1 : b ≠ 34) (h2 : b ≠ 92) : textL (b :: r) = (textL r).map fun x => (b :: x.1, x.2) := by rw [textL.eq_def]; dsimp only; rw [if_neg h1, if_neg h2]
theorem textL_esc (c : UInt8) (r : List UInt8) : textL (92 :: c :: r) = match escW c.toNat with
        | none => .error 1401
        | some z => (textL r).map fun x => (z :: x.1, x.2) := by rw [textL.eq_def]; dsimp only; rw [if_neg (by decide), if_pos rfl]; cases escW c.toNat <;> rfl
theorem textL_esc0 : textL [92] = .error 1401 := by rw [textL.eq_def]; dsimp only; rw [if_neg (by decide), if_pos rfl]
def TextAt (T : Except Nat (List UInt8 × List UInt8)) (acc l : List UInt8) : Prop := T = (textL l).map fun x => (acc ++ x.1, x.2)
theorem text_end {T : Except Nat (List UInt8 × List UInt8)} {acc r : List UInt8} (h : TextAt T acc (34 :: r)) : T = .ok (acc, r) := by
  rw [h, textL_quote]; simp [Except.map]
theorem text_err {T : Except Nat (List UInt8 × List UInt8)} {acc l : List UInt8} {e : Nat} (h : TextAt T acc l) (he : textL l = .error e) : T = .error e := by
  rw [h, he]; rfl
theorem text_go {T : Except Nat (List UInt8 × List UInt8)} {acc l r : List UInt8} {z : UInt8} (h : TextAt T acc l) (he : textL l = (textL r).map fun x => (z :: x.1, x.2)) : TextAt T (acc ++ [z]) r := by
  unfold TextAt at *
  rw [h, he]
  cases textL r with
  | error e => rfl
  | ok y => simp [Except.map]

set_option maxRecDepth 100000 in
set_option maxHeartbeats 4000000 in
theorem wtext_calls (g : Nat) (s : ByteArray) (o : Value) (l : List UInt8) (w : World) (hE : EnvAt g w) (hB : Rd g s o w) (hl : StrIs s l) (hs : s.size ≤ 1073741824) :
    Calls Tryz.prog 146 #[.pointer (some ⟨g, 0, none⟩)] w fun e w' => WPost ((textL l).map fun x => (⟨4, x.1, [], 0⟩, x.2)) w g o e w' := by
  have hgl := hB.lt
  have hll : l.length = s.size := hl.size.symm
  have hW : Blk w.heap.size 112 wd0 (w.alloc (.cells wd0.toArray 112)) := Blk.new w _ _
  have hb0 : Below w.heap.size w (w.alloc (.cells wd0.toArray 112)) := (Below.refl _ w).alloc (Nat.le_refl _) _
  have hB0 := hB.below hb0
  have hz0 : (w.alloc (.cells wd0.toArray 112)).heap.size = w.heap.size + 1 := by simp
  obtain ⟨T, hT⟩ : ∃ T, T = textL l := ⟨_, rfl⟩
  rw [← hT]
  have hT' : TextAt T [] l := by
    unfold TextAt
    rw [hT]
    cases textL l <;> rfl
  clear hT
  go_enter Tryz.func146, Tryz.ntmps146
  go_upto_region 1 with (fail)
  generalize w.alloc (.cells wd0.toArray 112) = w0 at *
  have hI := Tryz.freshBuilder w0
  have hb1 : Below w0.heap.size w0 (w0.alloc (.cells #[.pointer none, .slice none 0 0] 175)) := (Below.refl _ w0).alloc (Nat.le_refl _) _
  have hW1 := hW.below hb1
  have hB1 := hB0.below hb1
  have hg1 : w.grownBy (w0.alloc (.cells #[.pointer none, .slice none 0 0] 175)) (some g) := grown_below (grownBy_below hb0) hb1 (by omega)
  go_wp2
  generalize w0.alloc (.cells #[.pointer none, .slice none 0 0] 175) = w1 at *
  rw [hz0] at hI
  obtain ⟨b, hbq⟩ : ∃ b, b = w.heap.size + 1 := ⟨_, rfl⟩
  rw [← hbq] at hI ⊢
  have hzb : b ≤ w1.heap.size := by have := hb1.size; omega
  have hbw : w.heap.size < b := by omega
  clear hbq hb1 hW hB0 hb0 hz0
  go_loopg [4, 5] s.size (fun gk _ _ wr => ∃ (acc : List UInt8) (s' : ByteArray) (l' : List UInt8), l'.length ≤ gk ∧ acc.length + gk ≤ s.size ∧ Tryz.BuilderHas b b acc wr ∧ StrIs s' l' ∧ Rd g s' o wr ∧ Blk w.heap.size 112 wd0 wr ∧ w.grownBy wr (some g) ∧ b ≤ wr.heap.size ∧ Hid (TextAt T acc l'))
  case atStart => exact ⟨[], s, l, by omega, by simp, hI, hl, hB1, hW1, hg1, hzb, hT'⟩
  case round =>
    obtain ⟨acc, s', l', hlg, hag, hI, hs', hBr, hWr, hgr, hzr, hTA⟩ := hrel
    have HLG := Lib.hid hlg
    have HAG := Lib.hid hag
    clear hlg hag hT'
    go_wp2_with fail
    refine (whas_calls g s' ⟨#[34]⟩ o l' _ hBr hs').mono ?_
    rintro e w2 ⟨s2, rfl, hs2, hB2, hg2⟩
    have hI2 := builderGrown hI hg2 (by omega)
    have hgr2 := hgr.trans hg2
    have hW2 := Blk.grown hWr hg2 (by simp; omega)
    have hzr2 := Nat.le_trans hzr hg2.size
    have e20 := hB2.cell 0 _ rfl
    cases l' with
    | nil =>
      have hT := text_err hTA.out (show textL [] = .error 1401 from by rw [textL.eq_def])
      have HT := Lib.hid hT
      have hs2' : StrIs s2 [] := hs2
      have hz : s2.size = 0 := hs2'.size
      have h1 := empty_test hz
      clear hT hTA hz hs2'
      rw [show List.isPrefixOf (⟨#[34]⟩ : ByteArray).data.toList [] = false from rfl]
      go_wp2_with (go_at_call 113; refine (fail_no 1401 _).mono ?_; unfold pan; rintro e w9 ⟨rfl, rfl⟩)
      refine ⟨rfl, fun d r' h => ?_, fun c' h => ?_, hgr2⟩
      · rw [HT.out] at h
        cases h
      · rw [HT.out] at h
        cases h
        rfl
    | cons b1 r =>
      by_cases h34 : b1 = 34
      · subst h34
        have hp : List.isPrefixOf (⟨#[34]⟩ : ByteArray).data.toList (34 :: r) = true := rfl
        rw [cutP_yes hp] at hs2
        have hT := text_end hTA.out
        have HT := Lib.hid hT
        clear hT hTA HAG HLG
        rw [hp]
        go_wp2_with fail
        refine (Tryz.builderString' _ _ _ _ hI2 hzr2).mono ?_
        rintro e w3 ⟨t, rfl, ht, hb3⟩
        have hgr3 := grown_below hgr2 hb3 (by omega)
        have hW3 := hW2.belowB hb3 hbw
        have hB3 := Blk.belowB hB2 hb3 (by omega)
        have hteq := ht.eq
        have c0 := hW3.cell 0 _ rfl
        have c1 := hW3.cell 1 _ rfl
        have c2 := hW3.cell 2 _ rfl
        have c3 := hW3.cell 3 _ rfl
        have f0 := hW3.free 0
        have f1 := hW3.free 1
        have f2 := hW3.free 2
        have f3 := hW3.free 3
        have HTE := Lib.hid hteq
        clear hteq hI hI2 hs' hBr hWr hgr hW2 hB2 hg2
        have hW4 : Blk w.heap.size 112 [.int .i64 4, .string t, .slice none 0 0, .int .i64 0] ((((w3.setCell ⟨w.heap.size, 0, none⟩ (.int .i64 4)).setCell ⟨w.heap.size, 1, none⟩ (.string t)).setCell ⟨w.heap.size, 2, none⟩ (.slice none 0 0)).setCell ⟨w.heap.size, 3, none⟩ (.int .i64 0)) := (((hW3.set 0 _).set 1 _).set 2 _).set 3 _
        have hg4 : w.grownBy ((((w3.setCell ⟨w.heap.size, 0, none⟩ (.int .i64 4)).setCell ⟨w.heap.size, 1, none⟩ (.string t)).setCell ⟨w.heap.size, 2, none⟩ (.slice none 0 0)).setCell ⟨w.heap.size, 3, none⟩ (.int .i64 0)) (some g) := grown_put4 hgr3 w.heap.size (Nat.le_refl _) _ _ _ _
        have hB4 : Rd g s2 o ((((w3.setCell ⟨w.heap.size, 0, none⟩ (.int .i64 4)).setCell ⟨w.heap.size, 1, none⟩ (.string t)).setCell ⟨w.heap.size, 2, none⟩ (.slice none 0 0)).setCell ⟨w.heap.size, 3, none⟩ (.int .i64 0)) := blk_put4 hB3 w.heap.size (by omega) _ _ _ _
        go_wp2
        clear c0 c1 c2 c3 f0 f1 f2 f3
        generalize (((w3.setCell ⟨w.heap.size, 0, none⟩ (.int .i64 4)).setCell ⟨w.heap.size, 1, none⟩ (.string t)).setCell ⟨w.heap.size, 2, none⟩ (.slice none 0 0)).setCell ⟨w.heap.size, 3, none⟩ (.int .i64 0) = w4 at *
        have d0 := hW4.cell 0 _ rfl
        have d1 := hW4.cell 1 _ rfl
        have d2 := hW4.cell 2 _ rfl
        have d3 := hW4.cell 3 _ rfl
        refine bodyPost_ret (v := .agg #[.int .i64 4, .string t, .slice none 0 0, .int .i64 0]) (by simp [results, Tryz.results146, go_sem, d0, d1, d2, d3]) rfl ?_
        refine ⟨fun d r' h => ?_, fun c' h => ?_, hg4⟩
        · rw [HT.out] at h
          cases h
          exact ⟨.slice none 0 0, s2, by rw [HTE.out]; rfl, strs_nil _ _, hs2, hB4⟩
        · rw [HT.out] at h
          cases h
      · have hp : List.isPrefixOf (⟨#[34]⟩ : ByteArray).data.toList (b1 :: r) = false := by show (34 == b1 && _) = false; simp [Ne.symm h34]
        rw [cutP_no hp] at hs2
        rw [hp]
        have hz : s2.size = r.length + 1 := hs2.size
        have h1 := nonempty_test (show ¬ s2.size = 0 by omega)
        have hz3 : 1 ≤ s2.size := by omega
        have hz4 : s2.size ≤ 4611686018427387904 := by have h5 := HLG.out; have h6 := HAG.out; simp only [List.length_cons] at h5; omega
        clear hz hp
        go_wp2_with (go_at_call 113; refine (fail_ok _ _).mono ?_; rintro e w9 ⟨rfl, rfl⟩)
        refine (wtake_calls g s2 o _ 1 _ hB2 hs2 hz3 hz4).mono ?_
        rintro e w3 ⟨x, s3, rfl, hx, hs3, hB3, hg3⟩
        have hI3 := builderGrown hI2 hg3 (by omega)
        have hgr3 := hgr2.trans hg3
        have hW3 := Blk.grown hW2 hg3 (by simp; omega)
        have hzr3 := Nat.le_trans hzr2 hg3.size
        have hx : StrIs x [b1] := hx
        have hs3 : StrIs s3 r := hs3
        have e30 := hB3.cell 0 _ rfl
        clear hI hI2 hg3 hB2 hBr hWr hgr hgr2 hW2 hzr hzr2 hs' hg2
        by_cases h92 : b1 = 92
        · have hxt : (x.toList == [92]) = true := by rw [Lib.toList_data, show x.data.toList = [b1] from hx, h92]; rfl
          obtain rfl := h92
          clear hx h34
          cases r with
          | nil =>
            have hT := text_err hTA.out textL_esc0
            have HT := Lib.hid hT
            have hz : s3.size = 0 := hs3.size
            have h1 := empty_test hz
            clear hT hTA hz
            go_wp2_with (go_at_call 113; refine (fail_no 1401 _).mono ?_; unfold pan; rintro e w9 ⟨rfl, rfl⟩)
            refine ⟨rfl, fun d r' h => ?_, fun c' h => ?_, hgr3⟩
            · rw [HT.out] at h
              cases h
            · rw [HT.out] at h
              cases h
              rfl
          | cons c r' =>
            have hz : s3.size = r'.length + 1 := hs3.size
            have h1 := nonempty_test (show ¬ s3.size = 0 by omega)
            have hz3 : 1 ≤ s3.size := by omega
            have hz4 : s3.size ≤ 4611686018427387904 := by have h5 := HLG.out; have h6 := HAG.out; simp only [List.length_cons] at h5; omega
            clear hz
            go_wp2_with (go_at_call 113; refine (fail_ok _ _).mono ?_; rintro e w9 ⟨rfl, rfl⟩)
            refine (wtake_calls g s3 o _ 1 _ hB3 hs3 hz3 hz4).mono ?_
            rintro e w4 ⟨y, s4, rfl, hy, hs4, hB4, hg4⟩
            have hI4 := builderGrown hI3 hg4 (by omega)
            have hgr4 := hgr3.trans hg4
            have hW4 := Blk.grown hW3 hg4 (by simp; omega)
            have hzr4 := Nat.le_trans hzr3 hg4.size
            have hE4 := hE.below (Below.grow1 hgr4 (by omega) (Nat.le_refl g))
            have hix := index_calls ⟨#[34, 92, 110, 116]⟩ y [34, 92, 110, 116] rfl _ hE4.env (by decide) (by rw [show y.data.toList = [c] from hy]; simp)
            rw [show y.data.toList = [c] from hy] at hix
            cases hesc : escW c.toNat with
            | none =>
              rw [escIdx_no c hesc] at hix
              simp only [Bool.false_eq_true, if_false] at hix
              have hT := text_err hTA.out (by rw [textL_esc, hesc])
              have HT := Lib.hid hT
              have HIX := Lib.hid hix
              clear hT hTA hix hesc
              go_wp2_with fail
              refine HIX.out.mono ?_
              rintro e w5 ⟨rfl, rfl⟩
              go_wp2_with (go_at_call 113; refine (fail_no 1401 _).mono ?_; unfold pan; rintro e w9 ⟨rfl, rfl⟩)
              refine ⟨rfl, fun d r' h => ?_, fun c' h => ?_, hgr4⟩
              · rw [HT.out] at h
                cases h
              · rw [HT.out] at h
                cases h
                rfl
            | some z =>
              obtain ⟨k, hk4, hh, hc, hkz⟩ := escIdx c z hesc
              rw [hh, hc] at hix
              simp only [if_true] at hix
              have hTA2 := text_go (r := r') (z := z) hTA.out (by rw [textL_esc, hesc])
              have HTA := Lib.hid hTA2
              have HIX := Lib.hid hix
              have hsl := fun W => slice_mid ⟨#[34, 92, 10, 9]⟩ (k : Int) ((k : Int) + 1) k (k + 1) (by omega) (by omega) (by omega) (by show _ ≤ 4; omega) W
              have hext : StrIs ((⟨#[34, 92, 10, 9]⟩ : ByteArray).extract k (k + 1)) [z] := by
                show _ = _
                rw [Lib.extract_data, show k + 1 - k = 1 by omega]
                have hk : k < ([34, 92, 10, 9] : List UInt8).length := hk4
                rw [List.getElem?_eq_getElem hk] at hkz
                rw [show (⟨#[34, 92, 10, 9]⟩ : ByteArray).data.toList = [34, 92, 10, 9] from rfl, List.drop_eq_getElem_cons hk, List.take_succ_cons, List.take_zero, Option.some.inj hkz]
              generalize (⟨#[34, 92, 10, 9]⟩ : ByteArray).extract k (k + 1) = q at *
              have hqs : q.size = 1 := hext.size
              have hlen : acc.length + q.size ≤ 140737488355328 := by have := HAG.out; omega
              have hkb : decide (0 ≤ (k : Int)) = true := decide_eq_true (by omega)
              have HQ := Lib.hid hext
              clear hTA hTA2 hix hesc hext hh hc hkz hqs
              go_wp2_with fail
              refine HIX.out.mono ?_
              rintro e w5 ⟨rfl, rfl⟩
              go_wp2_with (first | (go_at_call 113; refine (fail_ok _ _).mono ?_; rintro e w9 ⟨rfl, rfl⟩) | (go_at_call 132; refine (Tryz.writeString _ _ _ _ _ hI4 hlen hzr4).mono ?_; rintro e w9 ⟨rfl, hI9, hb9⟩))
              go_roundg (gk - 1)
              case measure => have := HLG.out; simp only [List.length_cons] at this; omega
              case rel =>
                refine ⟨acc ++ [z], s4, r', by have := HLG.out; simp only [List.length_cons] at this; omega, by have h6 := HAG.out; have h5 := HLG.out; simp only [List.length_cons] at h5; simp only [List.length_append, List.length_cons, List.length_nil]; omega, ?_, hs4, Blk.belowB hB4 hb9 (by omega), hW4.belowB hb9 hbw, grown_below hgr4 hb9 (by omega), Nat.le_trans hzr4 hb9.size, HTA.out⟩
                rw [show q.data.toList = [z] from HQ.out] at hI9
                exact hI9
        · have hxt : (x.toList == [92]) = false := by rw [Lib.toList_data, show x.data.toList = [b1] from hx]; simp [h92]
          have hxs : x.size = 1 := hx.size
          have hTA2 := text_go hTA.out (textL_plain b1 r h34 h92)
          have HTA := Lib.hid hTA2
          have HX := Lib.hid hx
          have HXS := Lib.hid hxs
          have hlen : acc.length + x.size ≤ 140737488355328 := by have := HAG.out; omega
          clear hTA hTA2 hx hxs h34 h92
          go_wp2_with (go_at_call 132; refine (Tryz.writeString _ _ _ _ _ hI3 hlen hzr3).mono ?_; rintro e w9 ⟨rfl, hI9, hb9⟩)
          go_roundg (gk - 1)
          case measure => have := HLG.out; simp only [List.length_cons] at this; omega
          case rel =>
            refine ⟨acc ++ [b1], s3, r, by have := HLG.out; simp only [List.length_cons] at this; omega, by have h6 := HAG.out; have h5 := HLG.out; simp only [List.length_cons] at h5; simp only [List.length_append, List.length_cons, List.length_nil]; omega, ?_, hs3, Blk.belowB hB3 hb9 (by omega), hW3.belowB hb9 hbw, grown_below hgr3 hb9 (by omega), Nat.le_trans hzr3 hb9.size, HTA.out⟩
            rw [show x.data.toList = [b1] from HX.out] at hI9
            exact hI9
end Go.Proofs.YtbcddlheikdlkaaGreatDoor.S
/-
  THE WALK of package words' number.
-/
set_option linter.unusedVariables false
set_option linter.unusedSimpArgs false
namespace Go.Proofs.YtbcddlheikdlkaaGreatDoor.S
open Go.RowKit

theorem digN_drop {s : ByteArray} (k : Nat) (h : k < s.size) : digN (s.data.toList.drop k) = if digitI (s[k]'h).toNat = true then digN (s.data.toList.drop (k + 1)) + 1 else 0 := by
  rw [drop_cons s k h]
  rfl
theorem digV_drop {s : ByteArray} (k x : Nat) (h : k < s.size) (hd : digitI (s[k]'h).toNat = true) : digV x ((s.data.toList.drop k).take (digN (s.data.toList.drop k))) = digV (min (10 * x + ((s[k]'h).toNat - 48)) 9007199254740992) ((s.data.toList.drop (k + 1)).take (digN (s.data.toList.drop (k + 1)))) := by
  rw [digN_drop k h, if_pos hd]
  conv => lhs; rw [drop_cons s k h]
  rfl

set_option maxRecDepth 100000 in
set_option maxHeartbeats 4000000 in
theorem wnumber_calls (g : Nat) (s : ByteArray) (o : Value) (l : List UInt8) (w : World) (hB : Rd g s o w) (hl : StrIs s l) (hs : s.size ≤ 4611686018427387900) :
    Calls Tryz.prog 147 #[.pointer (some ⟨g, 0, none⟩)] w fun e w' => WPost ((numL l).map fun x => (⟨3, [], [], x.1⟩, x.2)) w g o e w' := by
  have hgl := hB.lt
  have hll : l.length = s.size := hl.size.symm
  have hW : Blk w.heap.size 112 wd0 (w.alloc (.cells wd0.toArray 112)) := Blk.new w _ _
  have hb0 : Below w.heap.size w (w.alloc (.cells wd0.toArray 112)) := (Below.refl _ w).alloc (Nat.le_refl _) _
  have hB0 := hB.below hb0
  go_enter Tryz.func147, Tryz.ntmps147
  go_upto_region 1 with (fail)
  generalize w.alloc (.cells wd0.toArray 112) = w0 at *
  go_wp2_with fail
  refine (whas_calls g s ⟨#[45]⟩ o l _ hB0 hl).mono ?_
  rintro e w1 ⟨s1, rfl, hs1, hB1, hg1⟩
  have hg := (grownBy_below (row := some g) hb0).trans hg1
  have hW1 := Blk.grown hW hg1 (by simp; omega)
  obtain ⟨B, hBB⟩ : ∃ B, B = List.isPrefixOf (⟨#[45]⟩ : ByteArray).data.toList l := ⟨_, rfl⟩
  obtain ⟨r, hr⟩ : ∃ r, r = cutP (⟨#[45]⟩ : ByteArray).data.toList l := ⟨_, rfl⟩
  have hN : numL l = if 0 < digN r ∧ digV 0 (r.take (digN r)) ≤ 9007199254740991 then .ok (if B = true then -(digV 0 (r.take (digN r)) : Int) else (digV 0 (r.take (digN r)) : Int), r.drop (digN r)) else .error 1402 := by
    have e : r = if List.isPrefixOf [45] l = true then l.drop 1 else l := hr
    unfold numL
    dsimp only
    rw [← e, show List.isPrefixOf [45] l = B from hBB.symm]
  rw [← hr] at hs1
  rw [← hBB]
  have hs1z : s1.size ≤ s.size := by
    rw [hs1.size, hr, ← hll]
    cases hq : List.isPrefixOf (⟨#[45]⟩ : ByteArray).data.toList l with
    | true => rw [cutP_yes hq]; simp
    | false => rw [cutP_no hq]; exact Nat.le_refl _
  have HN := Lib.hid hN
  obtain rfl : s1.data.toList = r := hs1
  clear hN hBB hr hB0 hW hb0 hg1
  have c0 := hB1.cell 0 _ rfl
  go_wp2
  go_loopg [4, 5] s1.size (fun gk v4 v5 wr => ∃ (k x : Nat), v4 = .int .i64 k ∧ v5 = .int .i64 x ∧ k + gk = s1.size ∧ x ≤ 9007199254740992 ∧ Hid (digN s1.data.toList = k + digN (s1.data.toList.drop k)) ∧ Hid (digV 0 (s1.data.toList.take (digN s1.data.toList)) = digV x ((s1.data.toList.drop k).take (digN (s1.data.toList.drop k)))) ∧ w1 = wr)
  case atStart => exact ⟨0, 0, rfl, rfl, by omega, by omega, (by show _ = _; simp), rfl, rfl⟩
  case round =>
    obtain ⟨k, x, rfl, rfl, hkg, hx, hD, hV, rfl⟩ := hrel
    have HKG := Lib.hid hkg
    have hks : k ≤ s1.size := by omega
    clear hkg
    obtain ⟨D, hD'⟩ : ∃ D, D = decide (0 < digN (s1.data.toList.drop k)) := ⟨_, rfl⟩
    have HD := Lib.hid hD'
    clear hD'
    go_upto_region 3 with (fail)
    go_cut [23] (fun v23 wx => v23 = .bool D ∧ w1 = wx)
    case first =>
      by_cases h : k < s1.size
      · have hkb : decide ((k : Int) < (s1.size : Int)) = true := decide_eq_true (by omega)
        have hst := digN_drop k h
        obtain ⟨b, hb⟩ : ∃ b : UInt8, b = s1[k]'h := ⟨_, rfl⟩
        have hbt : ∀ h', ((s1[k]'h').toNat : Nat) = b.toNat := fun h' => by rw [hb]
        rw [← hb] at hst
        have hlt := b.toNat_lt
        clear hb
        generalize b.toNat = d at *
        have hbb : D = digitI d := by rw [HD.out, hst]; cases digitI d <;> simp
        have HBB := Lib.hid hbb
        clear hst hbb
        go_wp2_with (go_at_call 69; refine (digit_calls d _ (by omega) (by omega)).mono ?_; rintro e w3 ⟨rfl, rfl⟩)
        go_meet
        exact ⟨by rw [HBB.out], rfl⟩
      · have hkb : decide ((k : Int) < (s1.size : Int)) = false := decide_eq_false (by omega)
        have hbb : D = false := by rw [HD.out, List.drop_eq_nil_of_le (by rw [size_list]; omega)]; rfl
        have HBB := Lib.hid hbb
        clear hbb
        go_wp2
        go_meet
        exact ⟨by rw [HBB.out], rfl⟩
    case rest =>
    obtain ⟨rfl, rfl⟩ := hcut
    cases D with
    | true =>
      have hb0 : 0 < digN (s1.data.toList.drop k) := of_decide_eq_true HD.out.symm
      have h : k < s1.size := by
        refine Nat.lt_of_not_le fun h => ?_
        rw [List.drop_eq_nil_of_le (by rw [size_list]; exact h)] at hb0
        exact absurd hb0 (by decide)
      have hst := digN_drop k h
      have hvt := digV_drop k x h
      obtain ⟨b, hb⟩ : ∃ b : UInt8, b = s1[k]'h := ⟨_, rfl⟩
      have hbt : ∀ h', ((s1[k]'h').toNat : Nat) = b.toNat := fun h' => by rw [hb]
      rw [← hb] at hst hvt
      have hlt := b.toNat_lt
      clear hb
      generalize b.toNat = d at *
      have hd : digitI d = true := by
        cases hd : digitI d with
        | true => rfl
        | false => rw [hd] at hst; simp at hst; omega
      have hdr := digitI_true.1 hd
      have hv := hV.out.trans (hvt hd)
      rw [hd, if_pos rfl] at hst
      have hsub : ((d : Int) - 48) % 256 = (d : Int) - 48 := by omega
      have hmin : ((min (10 * x + (d - 48)) 9007199254740992 : Nat) : Int) = min (10 * (x : Int) + ((d : Int) - 48)) 9007199254740992 := by omega
      have HM := Lib.hid hmin
      have HV := Lib.hid hv
      have HST := Lib.hid hst
      clear hvt hst hv hmin hd hb0
      go_wp2
      go_roundg (gk - 1)
      case measure => have := HKG.out; omega
      case rel => exact ⟨k + 1, min (10 * x + (d - 48)) 9007199254740992, by go_num, by rw [HM.out], by have := HKG.out; omega, Nat.min_le_right _ _, (by have := hD.out; have := HST.out; show _ = _; omega), HV.out, rfl⟩
    | false =>
      have hn0 : digN (s1.data.toList.drop k) = 0 := by have := of_decide_eq_false HD.out.symm; omega
      have hk : digN s1.data.toList = k := by have := hD.out; omega
      have hv := hV.out
      rw [hn0, List.take_zero] at hv
      have hv2 : digV 0 (s1.data.toList.take (digN s1.data.toList)) = x := hv
      have hN := HN.out
      rw [hv2, hk] at hN
      have hN2 := Lib.hid hN
      clear hn0 hk hv hv2 hN HN HD hD hV HKG
      by_cases hok : 0 < k ∧ x ≤ 9007199254740991
      · obtain ⟨h1, h2⟩ := hok
        have h1b : decide (0 < (k : Int)) = true := decide_eq_true (by omega)
        have h2b : decide ((x : Int) ≤ 9007199254740991) = true := decide_eq_true (by omega)
        have hN := hN2.out
        rw [if_pos ⟨h1, h2⟩] at hN
        have HN := Lib.hid hN
        clear hN hN2
        go_wp2_with (go_at_call 113; refine (fail_ok _ _).mono ?_; rintro e w9 ⟨rfl, rfl⟩)
        refine (wtake_calls g s1 o _ k _ hB1 rfl hks (by omega)).mono ?_
        rintro e w2 ⟨t, s2, rfl, -, hs2, hB2, hg2⟩
        have hgA := hg.trans hg2
        have hW2 := Blk.grown hW1 hg2 (by simp; omega)
        have c0 := hW2.cell 0 _ rfl
        have c1 := hW2.cell 1 _ rfl
        have c2 := hW2.cell 2 _ rfl
        have c3 := hW2.cell 3 _ rfl
        have f0 := hW2.free 0
        have f1 := hW2.free 1
        have f2 := hW2.free 2
        have f3 := hW2.free 3
        clear hW1 hB1 hg hg2
        cases B with
        | true =>
          have hN := HN.out
          rw [if_pos rfl] at hN
          have HN3 := Lib.hid hN
          clear hN HN
          have hW4 : Blk w.heap.size 112 [.int .i64 3, .string ⟨#[]⟩, .slice none 0 0, .int .i64 (-(x : Int))] ((((w2.setCell ⟨w.heap.size, 0, none⟩ (.int .i64 3)).setCell ⟨w.heap.size, 1, none⟩ (.string ⟨#[]⟩)).setCell ⟨w.heap.size, 2, none⟩ (.slice none 0 0)).setCell ⟨w.heap.size, 3, none⟩ (.int .i64 (-(x : Int)))) := (((hW2.set 0 _).set 1 _).set 2 _).set 3 _
          have hg4 : w.grownBy ((((w2.setCell ⟨w.heap.size, 0, none⟩ (.int .i64 3)).setCell ⟨w.heap.size, 1, none⟩ (.string ⟨#[]⟩)).setCell ⟨w.heap.size, 2, none⟩ (.slice none 0 0)).setCell ⟨w.heap.size, 3, none⟩ (.int .i64 (-(x : Int)))) (some g) := grown_put4 hgA w.heap.size (Nat.le_refl _) _ _ _ _
          have hB4 : Rd g s2 o ((((w2.setCell ⟨w.heap.size, 0, none⟩ (.int .i64 3)).setCell ⟨w.heap.size, 1, none⟩ (.string ⟨#[]⟩)).setCell ⟨w.heap.size, 2, none⟩ (.slice none 0 0)).setCell ⟨w.heap.size, 3, none⟩ (.int .i64 (-(x : Int)))) := blk_put4 hB2 w.heap.size (by omega) _ _ _ _
          go_wp2
          clear c0 c1 c2 c3 f0 f1 f2 f3
          generalize (((w2.setCell ⟨w.heap.size, 0, none⟩ (.int .i64 3)).setCell ⟨w.heap.size, 1, none⟩ (.string ⟨#[]⟩)).setCell ⟨w.heap.size, 2, none⟩ (.slice none 0 0)).setCell ⟨w.heap.size, 3, none⟩ (.int .i64 (-(x : Int))) = w4 at *
          have d0 := hW4.cell 0 _ rfl
          have d1 := hW4.cell 1 _ rfl
          have d2 := hW4.cell 2 _ rfl
          have d3 := hW4.cell 3 _ rfl
          refine bodyPost_ret (v := wdV ⟨3, [], [], -(x : Int)⟩ (.slice none 0 0)) (by simp [results, Tryz.results147, go_sem, wdV, d0, d1, d2, d3]) rfl ?_
          refine ⟨fun d r' h => ?_, fun c' h => ?_, hg4⟩
          · rw [HN3.out] at h
            cases h
            exact ⟨_, s2, rfl, strs_nil _ _, hs2, hB4⟩
          · rw [HN3.out] at h
            cases h
        | false =>
          have hN := HN.out
          rw [if_neg (by simp)] at hN
          have HN3 := Lib.hid hN
          clear hN HN
          have hW4 : Blk w.heap.size 112 [.int .i64 3, .string ⟨#[]⟩, .slice none 0 0, .int .i64 ((x : Int))] ((((w2.setCell ⟨w.heap.size, 0, none⟩ (.int .i64 3)).setCell ⟨w.heap.size, 1, none⟩ (.string ⟨#[]⟩)).setCell ⟨w.heap.size, 2, none⟩ (.slice none 0 0)).setCell ⟨w.heap.size, 3, none⟩ (.int .i64 ((x : Int)))) := (((hW2.set 0 _).set 1 _).set 2 _).set 3 _
          have hg4 : w.grownBy ((((w2.setCell ⟨w.heap.size, 0, none⟩ (.int .i64 3)).setCell ⟨w.heap.size, 1, none⟩ (.string ⟨#[]⟩)).setCell ⟨w.heap.size, 2, none⟩ (.slice none 0 0)).setCell ⟨w.heap.size, 3, none⟩ (.int .i64 ((x : Int)))) (some g) := grown_put4 hgA w.heap.size (Nat.le_refl _) _ _ _ _
          have hB4 : Rd g s2 o ((((w2.setCell ⟨w.heap.size, 0, none⟩ (.int .i64 3)).setCell ⟨w.heap.size, 1, none⟩ (.string ⟨#[]⟩)).setCell ⟨w.heap.size, 2, none⟩ (.slice none 0 0)).setCell ⟨w.heap.size, 3, none⟩ (.int .i64 ((x : Int)))) := blk_put4 hB2 w.heap.size (by omega) _ _ _ _
          go_wp2
          clear c0 c1 c2 c3 f0 f1 f2 f3
          generalize (((w2.setCell ⟨w.heap.size, 0, none⟩ (.int .i64 3)).setCell ⟨w.heap.size, 1, none⟩ (.string ⟨#[]⟩)).setCell ⟨w.heap.size, 2, none⟩ (.slice none 0 0)).setCell ⟨w.heap.size, 3, none⟩ (.int .i64 ((x : Int))) = w4 at *
          have d0 := hW4.cell 0 _ rfl
          have d1 := hW4.cell 1 _ rfl
          have d2 := hW4.cell 2 _ rfl
          have d3 := hW4.cell 3 _ rfl
          refine bodyPost_ret (v := wdV ⟨3, [], [], (x : Int)⟩ (.slice none 0 0)) (by simp [results, Tryz.results147, go_sem, wdV, d0, d1, d2, d3]) rfl ?_
          refine ⟨fun d r' h => ?_, fun c' h => ?_, hg4⟩
          · rw [HN3.out] at h
            cases h
            exact ⟨_, s2, rfl, strs_nil _ _, hs2, hB4⟩
          · rw [HN3.out] at h
            cases h
      · by_cases h1 : 0 < k
        · have h1b : decide (0 < (k : Int)) = true := decide_eq_true (by omega)
          have h2b : decide ((x : Int) ≤ 9007199254740991) = false := decide_eq_false (by omega)
          have hN := hN2.out
          rw [if_neg hok] at hN
          have HN := Lib.hid hN
          clear hN hN2 hok
          go_wp2_with (go_at_call 113; refine (fail_no 1402 _).mono ?_; unfold pan; rintro e w9 ⟨rfl, rfl⟩)
          refine ⟨rfl, fun d r' h => ?_, fun c' h => ?_, hg⟩
          · rw [HN.out] at h
            cases h
          · rw [HN.out] at h
            cases h
            rfl
        · have h1b : decide (0 < (k : Int)) = false := decide_eq_false (by omega)
          have hN := hN2.out
          rw [if_neg hok] at hN
          have HN := Lib.hid hN
          clear hN hN2 hok
          go_wp2_with (go_at_call 113; refine (fail_no 1402 _).mono ?_; unfold pan; rintro e w9 ⟨rfl, rfl⟩)
          refine ⟨rfl, fun d r' h => ?_, fun c' h => ?_, hg⟩
          · rw [HN.out] at h
            cases h
          · rw [HN.out] at h
            cases h
            rfl
end Go.Proofs.YtbcddlheikdlkaaGreatDoor.S
/-
  PLAIN: what a word takes.
-/
set_option linter.unusedVariables false
set_option linter.unusedSimpArgs false
namespace Go.Proofs.YtbcddlheikdlkaaGreatDoor.S

theorem nameL_len2 {l x r : List UInt8} (h : nameL l = .ok (x, r)) : r.length + 1 ≤ l.length := by
  unfold nameL at h
  split at h
  · rename_i hok
    injection h with h
    injection h with h1 h2
    have hx : 0 < (l.take (nmN l)).length := by
      refine Nat.pos_of_ne_zero fun h0 => ?_
      rw [List.eq_nil_of_length_eq_zero h0] at hok
      cases hok
    rw [List.length_take] at hx
    rw [← h2, List.length_drop]
    omega
  · cases h
theorem pathF_len : ∀ (n k : Nat) (l : List UInt8) (xs : List (List UInt8)) (r : List UInt8), pathF n k l = .ok (xs, r) → r.length ≤ l.length
  | 0, k, l, xs, r, h => by cases h; exact Nat.le_refl _
  | n + 1, k, l, xs, r, h => by
    rw [pathF] at h
    split at h
    · cases hn : nameL (l.drop 1) with
      | error e => rw [hn] at h; cases h
      | ok y =>
        obtain ⟨x, r1⟩ := y
        rw [hn] at h
        dsimp only at h
        split at h
        · cases hp : pathF n (k + 1) r1 with
          | error e => rw [hp] at h; cases h
          | ok z =>
            obtain ⟨ys, r2⟩ := z
            rw [hp] at h
            cases h
            have h1 := pathF_len n (k + 1) r1 _ _ hp
            have h2 := nameL_len2 hn
            rw [List.length_drop] at h2
            omega
        · cases h
    · cases h; exact Nat.le_refl _
theorem textL_len : ∀ (m : Nat) (l x r : List UInt8), l.length ≤ m → textL l = .ok (x, r) → r.length + 1 ≤ l.length
  | m, [], x, r, _, h => by rw [textL.eq_def] at h; cases h
  | 0, b :: t, x, r, hm, h => by simp at hm
  | m + 1, b :: t, x, r, hm, h => by
    simp only [List.length_cons] at hm ⊢
    by_cases h1 : b = 34
    · subst h1
      rw [textL_quote] at h
      cases h
      exact Nat.le_refl _
    · by_cases h2 : b = 92
      · subst h2
        cases t with
        | nil => rw [textL_esc0] at h; cases h
        | cons c t =>
          rw [textL_esc] at h
          cases he : escW c.toNat with
          | none => rw [he] at h; cases h
          | some z =>
            rw [he] at h
            cases ht : textL t with
            | error e => rw [ht] at h; cases h
            | ok y =>
              obtain ⟨x1, r1⟩ := y
              rw [ht] at h
              cases h
              have := textL_len m t _ _ (by simp only [List.length_cons] at hm; omega) ht
              simp only [List.length_cons]
              first | omega | (dsimp only at *; omega)
      · rw [textL_plain b t h1 h2] at h
        cases ht : textL t with
        | error e => rw [ht] at h; cases h
        | ok y =>
          obtain ⟨x1, r1⟩ := y
          rw [ht] at h
          cases h
          have := textL_len m t _ _ (by omega) ht
          first | omega | (dsimp only at *; omega)
theorem numL_len {l r : List UInt8} {x : Int} (h : numL l = .ok (x, r)) : r.length + 1 ≤ l.length := by
  obtain ⟨q, hq⟩ : ∃ q, q = (if List.isPrefixOf [45] l = true then l.drop 1 else l) := ⟨_, rfl⟩
  have h3 : q.length ≤ l.length := by rw [hq]; split <;> simp
  have h' : (if 0 < digN q ∧ digV 0 (q.take (digN q)) ≤ 9007199254740991 then (Except.ok ((if List.isPrefixOf [45] l = true then -(digV 0 (q.take (digN q)) : Int) else digV 0 (q.take (digN q))), q.drop (digN q)) : Except Nat (Int × List UInt8)) else .error 1402) = .ok (x, r) := by rw [hq]; exact h
  have h1 := digN_le q
  by_cases hc : 0 < digN q ∧ digV 0 (q.take (digN q)) ≤ 9007199254740991
  · rw [if_pos hc] at h'
    injection h' with h'
    injection h' with _ h2
    rw [← h2, List.length_drop]
    first | omega | (dsimp only at *; omega)
  · rw [if_neg hc] at h'
    cases h'
theorem map_ok {α β : Type} {f : α → β} {x : Except Nat α} {y : β} (h : x.map f = .ok y) : ∃ z, x = .ok z ∧ y = f z := by
  cases x with
  | error e => cases h
  | ok z => cases h; exact ⟨z, rfl, rfl⟩
theorem fieldL_len {l r : List UInt8} {d : Wd} (hn : l ≠ []) (hp : List.isPrefixOf [46] l = true) (h : fieldL l = .ok (d, r)) : r.length + 1 ≤ l.length := by
  have hl : 0 < l.length := List.length_pos_iff.2 hn
  unfold fieldL at h
  split at h
  · obtain ⟨z, hz, hy⟩ := map_ok h
    obtain ⟨xs, r1⟩ := z
    cases hy
    unfold pathL at hz
    rw [pathF, hp, if_pos rfl] at hz
    cases hnm : nameL (l.drop 1) with
    | error e => rw [hnm] at hz; cases hz
    | ok y =>
      obtain ⟨x, r2⟩ := y
      rw [hnm] at hz
      dsimp only at hz
      split at hz
      · cases hpp : pathF 8 (0 + 1) r2 with
        | error e => rw [hpp] at hz; cases hz
        | ok z =>
          obtain ⟨ys, r3⟩ := z
          rw [hpp] at hz
          cases hz
          have h1 := pathF_len _ _ _ _ _ hpp
          have h2 := nameL_len2 hnm
          rw [List.length_drop] at h2
          first | omega | (dsimp only at *; omega)
      · cases hz
  · cases h
    rw [List.length_drop]
    first | omega | (dsimp only at *; omega)
theorem prefix_one {c : UInt8} {l : List UInt8} (hn : l ≠ []) (h : (l.getD 0 0).toNat = c.toNat) : List.isPrefixOf [c] l = true := by
  cases l with
  | nil => exact absurd rfl hn
  | cons b r =>
    have : b = c := UInt8.toNat_inj.1 h
    rw [this]
    simp [List.isPrefixOf]
theorem wordL_len {l r : List UInt8} {d : Wd} (hn : l ≠ []) (h : wordL l = .ok (d, r)) : r.length + 1 ≤ l.length := by
  have hl : 0 < l.length := List.length_pos_iff.2 hn
  unfold wordL at h
  split at h
  · cases h
    rw [List.length_drop]
    first | omega | (dsimp only at *; omega)
  · split at h
    · obtain ⟨⟨x, r1⟩, hz, hy⟩ := map_ok h
      cases hy
      have := textL_len _ _ _ _ (Nat.le_refl _) hz
      rw [List.length_drop] at this
      first | omega | (dsimp only at *; omega)
    · split at h
      · obtain ⟨⟨x, r1⟩, hz, hy⟩ := map_ok h
        cases hy
        exact numL_len hz
      · split at h
        · rename_i h46
          exact fieldL_len hn (prefix_one hn (beq_iff_eq.1 h46)) h
        · split at h
          · cases hnm : nameL (l.drop 1) with
            | error e => rw [hnm] at h; cases h
            | ok y =>
              obtain ⟨x, r2⟩ := y
              rw [hnm] at h
              obtain ⟨⟨xs, r1⟩, hz, hy⟩ := map_ok h
              cases hy
              have h1 := pathF_len _ _ _ _ _ hz
              have h2 := nameL_len2 hnm
              rw [List.length_drop] at h2
              first | omega | (dsimp only at *; omega)
          · split at h
            · obtain ⟨⟨x, r1⟩, hz, hy⟩ := map_ok h
              cases hy
              exact nameL_len2 hz
            · cases h
def AllAt (T : Except Nat (List Wd)) (acc : List Wd) (n : Nat) (l : List UInt8) : Prop := T = (allF n l).map (acc ++ ·)
theorem all_end {T : Except Nat (List Wd)} {acc : List Wd} {n : Nat} {l : List UInt8} (h : AllAt T acc (n + 1) l) (ht : trimL l = []) : T = .ok acc := by
  rw [h, allF, if_pos ht]
  simp [Except.map]
theorem all_pipe {T : Except Nat (List Wd)} {acc : List Wd} {n : Nat} {l : List UInt8} (h : AllAt T acc (n + 1) l) (ht : trimL l ≠ []) (hp : List.isPrefixOf [124] (trimL l) = true) : AllAt T (acc ++ [⟨5, [], [], 0⟩]) n ((trimL l).drop 1) := by
  unfold AllAt at *
  rw [h, allF, if_neg ht, if_pos hp]
  cases allF n ((trimL l).drop 1) <;> simp [Except.map]
theorem all_err {T : Except Nat (List Wd)} {acc : List Wd} {n : Nat} {l : List UInt8} {e : Nat} (h : AllAt T acc (n + 1) l) (ht : trimL l ≠ []) (hp : List.isPrefixOf [124] (trimL l) = false) (hw : wordL (trimL l) = .error e) : T = .error e := by
  rw [h, allF, if_neg ht, if_neg (by rw [hp]; simp), hw]
  rfl
theorem all_ends {T : Except Nat (List Wd)} {acc : List Wd} {n : Nat} {l r : List UInt8} {d : Wd} (h : AllAt T acc (n + 1) l) (ht : trimL l ≠ []) (hp : List.isPrefixOf [124] (trimL l) = false) (hw : wordL (trimL l) = .ok (d, r)) (he : ends r = false) : T = .error 1400 := by
  rw [h, allF, if_neg ht, if_neg (by rw [hp]; simp), hw]
  dsimp only
  rw [if_neg (by rw [he]; simp)]
  rfl
theorem all_go {T : Except Nat (List Wd)} {acc : List Wd} {n : Nat} {l r : List UInt8} {d : Wd} (h : AllAt T acc (n + 1) l) (ht : trimL l ≠ []) (hp : List.isPrefixOf [124] (trimL l) = false) (hw : wordL (trimL l) = .ok (d, r)) (he : ends r = true) : AllAt T (acc ++ [d]) n r := by
  unfold AllAt at *
  rw [h, allF, if_neg ht, if_neg (by rw [hp]; simp), hw]
  dsimp only
  rw [if_pos he]
  cases allF n r <;> simp [Except.map]
end Go.Proofs.YtbcddlheikdlkaaGreatDoor.S
/-
  THE WALK of package words' word.
-/
set_option linter.unusedVariables false
set_option linter.unusedSimpArgs false
namespace Go.Proofs.YtbcddlheikdlkaaGreatDoor.S
open Go.RowKit

set_option maxRecDepth 100000 in
set_option maxHeartbeats 8000000 in
theorem wword_calls (g : Nat) (s : ByteArray) (o : Value) (l : List UInt8) (w : World) (hE : EnvAt g w) (hB : Rd g s o w) (hl : StrIs s l) (hs : s.size ≤ 1073741824) (hn : 0 < s.size) :
    Calls Tryz.prog 112 #[.pointer (some ⟨g, 0, none⟩)] w fun e w' => WPost (wordL l) w g o e w' := by
  have hgl := hB.lt
  have hll : l.length = s.size := hl.size.symm
  have hW : Blk w.heap.size 112 wd0 (w.alloc (.cells wd0.toArray 112)) := Blk.new w _ _
  have hb0 : Below w.heap.size w (w.alloc (.cells wd0.toArray 112)) := (Below.refl _ w).alloc (Nat.le_refl _) _
  have hB0 := hB.below hb0
  have hz0 : w.heap.size < (w.alloc (.cells wd0.toArray 112)).heap.size := by simp
  have hg0 := grownBy_below (row := some g) hb0
  have hEg := fun W (h : w.grownBy W (some g)) => hE.below (Below.grow1 h (by omega) (Nat.le_refl g))
  have hwl : wordL l = if List.isPrefixOf [58, 61] l = true then .ok (⟨6, [], [], 0⟩, l.drop 2)
      else if List.isPrefixOf [34] l = true then (textL (l.drop 1)).map fun x => (⟨4, x.1, [], 0⟩, x.2)
      else if ((l.getD 0 0).toNat == 45 || digitI (l.getD 0 0).toNat) = true then (numL l).map fun x => (⟨3, [], [], x.1⟩, x.2)
      else if ((l.getD 0 0).toNat == 46) = true then fieldL l
      else if List.isPrefixOf [36] l = true then match nameL (l.drop 1) with
        | .error e => .error e
        | .ok (x, r) => (pathL r).map fun y => (⟨2, x, y.1, 0⟩, y.2)
      else if wfirst (l.getD 0 0).toNat = true then (nameL l).map fun x => (⟨0, x.1, [], 0⟩, x.2)
      else .error 1400 := rfl
  rw [← show s.data.toList = l from hl, ← getD_byte s 0 hn, show s.data.toList = l from hl] at hwl
  obtain ⟨b, hb⟩ : ∃ b : UInt8, b = s[0]'hn := ⟨_, rfl⟩
  have hbt : ∀ h', ((s[0]'h').toNat : Nat) = b.toNat := fun h' => by rw [hb]
  rw [← hb] at hwl
  have hlt := b.toNat_lt
  clear hb
  generalize b.toNat = c at *
  have c0 := hB0.cell 0 _ rfl
  have HE := Lib.hid hEg
  have HWL := Lib.hid hwl
  clear hwl hEg hE hB
  go_enter Tryz.func112, Tryz.ntmps112
  go_upto_region 1 with (fail)
  generalize w.alloc (.cells wd0.toArray 112) = w0 at *
  go_wp2_with fail
  refine (whas_calls g s ⟨#[58, 61]⟩ o l _ hB0 hl).mono ?_
  rintro e w1 ⟨s1, rfl, hs1, hB1, hg1⟩
  have hgA := hg0.trans hg1
  have hWA := Blk.grown hW hg1 (by simp; omega)
  have hzA := Nat.lt_of_lt_of_le hz0 hg1.size
  have hwl := HWL.out
  clear hB0 hW c0 hbt hb0 hg1 hg0
  cases hp1 : List.isPrefixOf [58, 61] l with
  | true =>
    rw [hp1, if_pos rfl] at hwl
    rw [show cutP (⟨#[58, 61]⟩ : ByteArray).data.toList l = l.drop 2 from cutP_yes hp1] at hs1
    have HS2 := Lib.hid hwl
    clear hwl HWL hp1
    have k0 := hWA.cell 0 _ rfl
    have f0 := hWA.free 0
    have k1 := hWA.cell 1 _ rfl
    have f1 := hWA.free 1
    have k2 := hWA.cell 2 _ rfl
    have f2 := hWA.free 2
    have k3 := hWA.cell 3 _ rfl
    have f3 := hWA.free 3
    have hW4 : Blk w.heap.size 112 [.int .i64 6, .string ⟨#[]⟩, .slice none 0 0, .int .i64 0] ((((w1.setCell ⟨w.heap.size, 0, none⟩ (.int .i64 6)).setCell ⟨w.heap.size, 1, none⟩ (.string ⟨#[]⟩)).setCell ⟨w.heap.size, 2, none⟩ (.slice none 0 0)).setCell ⟨w.heap.size, 3, none⟩ (.int .i64 0)) := (((hWA.set 0 _).set 1 _).set 2 _).set 3 _
    have hg4 : w.grownBy ((((w1.setCell ⟨w.heap.size, 0, none⟩ (.int .i64 6)).setCell ⟨w.heap.size, 1, none⟩ (.string ⟨#[]⟩)).setCell ⟨w.heap.size, 2, none⟩ (.slice none 0 0)).setCell ⟨w.heap.size, 3, none⟩ (.int .i64 0)) (some g) := grown_put4 hgA w.heap.size (Nat.le_refl _) _ _ _ _
    have hB4 : Rd g s1 o ((((w1.setCell ⟨w.heap.size, 0, none⟩ (.int .i64 6)).setCell ⟨w.heap.size, 1, none⟩ (.string ⟨#[]⟩)).setCell ⟨w.heap.size, 2, none⟩ (.slice none 0 0)).setCell ⟨w.heap.size, 3, none⟩ (.int .i64 0)) := blk_put4 hB1 w.heap.size (by omega) _ _ _ _
    go_wp2
    clear k0 k1 k2 k3 f0 f1 f2 f3
    generalize (((w1.setCell ⟨w.heap.size, 0, none⟩ (.int .i64 6)).setCell ⟨w.heap.size, 1, none⟩ (.string ⟨#[]⟩)).setCell ⟨w.heap.size, 2, none⟩ (.slice none 0 0)).setCell ⟨w.heap.size, 3, none⟩ (.int .i64 0) = w40 at *
    have d0 := hW4.cell 0 _ rfl
    have d1 := hW4.cell 1 _ rfl
    have d2 := hW4.cell 2 _ rfl
    have d3 := hW4.cell 3 _ rfl
    refine bodyPost_ret (v := .agg #[.int .i64 6, .string ⟨#[]⟩, .slice none 0 0, .int .i64 0]) (by simp [results, Tryz.results112, go_sem, d0, d1, d2, d3]) rfl ?_
    refine ⟨fun d' r' h => ?_, fun c' h => ?_, hg4⟩
    · rw [HS2.out] at h
      cases h
      exact ⟨.slice none 0 0, s1, rfl, strs_nil _ _, hs1, hB4⟩
    · rw [HS2.out] at h
      cases h
  | false =>
    rw [hp1, if_neg (by simp)] at hwl
    rw [show cutP (⟨#[58, 61]⟩ : ByteArray).data.toList l = l from cutP_no hp1] at hs1
    have HWL1 := Lib.hid hwl
    clear hwl HWL hp1
    go_wp2_with fail
    refine (whas_calls g s1 ⟨#[34]⟩ o l _ hB1 hs1).mono ?_
    rintro e w2 ⟨s2, rfl, hs2, hB2, hg2⟩
    have hgB := hgA.trans hg2
    have hWB := Blk.grown hWA hg2 (by simp; omega)
    have hzB := Nat.lt_of_lt_of_le hzA hg2.size
    have hwl := HWL1.out
    clear hB1 hWA hg2
    cases hp2 : List.isPrefixOf [34] l with
    | true =>
      rw [hp2, if_pos rfl] at hwl
      rw [show cutP (⟨#[34]⟩ : ByteArray).data.toList l = l.drop 1 from cutP_yes hp2] at hs2
      obtain ⟨S, hS0⟩ : ∃ S, S = (textL (l.drop 1)).map fun x => ((⟨4, x.1, [], 0⟩ : Wd), x.2) := ⟨_, rfl⟩
      have hC := fun W hW hE => wtext_calls g s2 o (l.drop 1) W hE hW hs2 (by rw [hs2.size, List.length_drop]; omega)
      rw [← hS0] at hwl hC
      have HS := Lib.hid hwl
      clear hwl HWL1 hp2 hS0
      cases hS : S with
      | error c =>
        go_wp2_with fail
        refine (hC _ hB2 (HE.out _ hgB)).mono ?_
        rintro e w9 ⟨-, he, hg9⟩
        obtain rfl := he c hS
        have hg10 := hgB.trans hg9
        unfold pan
        have HS2 := Lib.hid (HS.out.trans hS)
        go_wp2
        refine ⟨rfl, fun d' r' h => ?_, fun c' h => ?_, hg10⟩
        · rw [HS2.out] at h
          cases h
        · rw [HS2.out] at h
          cases h
          rfl
      | ok y =>
        obtain ⟨d, r⟩ := y
        go_wp2_with fail
        refine (hC _ hB2 (HE.out _ hgB)).mono ?_
        rintro e w9 ⟨hok, -, hg9⟩
        obtain ⟨pv, s9, rfl, hO9, hs9, hB9⟩ := hok d r hS
        have hg10 := hgB.trans hg9
        have hW9 := Blk.grown hWB hg9 (by simp; omega)
        have hz9 := hgB.size
        have HS2 := Lib.hid (HS.out.trans hS)
        obtain ⟨sa, sc, rfl⟩ := hO9.slice
        obtain ⟨nl, hnl⟩ : ∃ nl, nl = d.path.length := ⟨_, rfl⟩
        rw [← hnl] at hO9 ⊢
        have HNL := Lib.hid hnl
        obtain ⟨tx, htx⟩ : ∃ tx : ByteArray, tx = ⟨d.text.toArray⟩ := ⟨_, rfl⟩
        have HTX := Lib.hid htx
        unfold wdV
        rw [← htx]
        clear hok hS hnl htx
        have k0 := hW9.cell 0 _ rfl
        have f0 := hW9.free 0
        have k1 := hW9.cell 1 _ rfl
        have f1 := hW9.free 1
        have k2 := hW9.cell 2 _ rfl
        have f2 := hW9.free 2
        have k3 := hW9.cell 3 _ rfl
        have f3 := hW9.free 3
        have hW4 : Blk w.heap.size 112 [.int .i64 d.kind, .string tx, .slice sa nl sc, .int .i64 d.num] ((((w9.setCell ⟨w.heap.size, 0, none⟩ (.int .i64 d.kind)).setCell ⟨w.heap.size, 1, none⟩ (.string tx)).setCell ⟨w.heap.size, 2, none⟩ (.slice sa nl sc)).setCell ⟨w.heap.size, 3, none⟩ (.int .i64 d.num)) := (((hW9.set 0 _).set 1 _).set 2 _).set 3 _
        have hg4 : w.grownBy ((((w9.setCell ⟨w.heap.size, 0, none⟩ (.int .i64 d.kind)).setCell ⟨w.heap.size, 1, none⟩ (.string tx)).setCell ⟨w.heap.size, 2, none⟩ (.slice sa nl sc)).setCell ⟨w.heap.size, 3, none⟩ (.int .i64 d.num)) (some g) := grown_put4 hg10 w.heap.size (Nat.le_refl _) _ _ _ _
        have hB4 : Rd g s9 o ((((w9.setCell ⟨w.heap.size, 0, none⟩ (.int .i64 d.kind)).setCell ⟨w.heap.size, 1, none⟩ (.string tx)).setCell ⟨w.heap.size, 2, none⟩ (.slice sa nl sc)).setCell ⟨w.heap.size, 3, none⟩ (.int .i64 d.num)) := blk_put4 hB9 w.heap.size (by omega) _ _ _ _
        have hO4 := own_put4 hO9 w.heap.size (by omega) (.int .i64 d.kind) (.string tx) (.slice sa nl sc) (.int .i64 d.num)
        go_wp2
        clear k0 k1 k2 k3 f0 f1 f2 f3
        change Strs _ _ _ ((((w9.setCell ⟨w.heap.size, 0, none⟩ (.int .i64 d.kind)).setCell ⟨w.heap.size, 1, none⟩ (.string tx)).setCell ⟨w.heap.size, 2, none⟩ (.slice sa nl sc)).setCell ⟨w.heap.size, 3, none⟩ (.int .i64 d.num)) at hO4
        generalize (((w9.setCell ⟨w.heap.size, 0, none⟩ (.int .i64 d.kind)).setCell ⟨w.heap.size, 1, none⟩ (.string tx)).setCell ⟨w.heap.size, 2, none⟩ (.slice sa nl sc)).setCell ⟨w.heap.size, 3, none⟩ (.int .i64 d.num) = w40 at *
        have d0 := hW4.cell 0 _ rfl
        have d1 := hW4.cell 1 _ rfl
        have d2 := hW4.cell 2 _ rfl
        have d3 := hW4.cell 3 _ rfl
        refine bodyPost_ret (v := .agg #[.int .i64 d.kind, .string tx, .slice sa nl sc, .int .i64 d.num]) (by simp [results, Tryz.results112, go_sem, d0, d1, d2, d3]) rfl ?_
        refine ⟨fun d' r' h => ?_, fun c' h => ?_, hg4⟩
        · rw [HS2.out] at h
          cases h
          exact ⟨.slice sa nl sc, s9, by rw [HTX.out]; rfl, World.ownsRow.mono hO4 (by omega), hs9, hB4⟩
        · rw [HS2.out] at h
          cases h
    | false =>
      rw [hp2, if_neg (by simp)] at hwl
      rw [show cutP (⟨#[34]⟩ : ByteArray).data.toList l = l from cutP_no hp2] at hs2
      have hsz2 : s2.size = s.size := by rw [hs2.size, hll]
      cases h3 : (c == 45 || digitI c) with
      | true =>
        rw [h3, if_pos rfl] at hwl
        obtain ⟨S, hS0⟩ : ∃ S, S = (numL l).map fun x => ((⟨3, [], [], x.1⟩ : Wd), x.2) := ⟨_, rfl⟩
        have hC := fun W hW => wnumber_calls g s2 o l W hW hs2 (by omega)
        rw [← hS0] at hwl hC
        have HS := Lib.hid hwl
        clear hwl HWL1 hp2 hS0 hsz2
        go_upto_region 6 with (fail)
        go_cut [19] (fun v19 wx => v19 = .bool true ∧ w2 = wx)
        case first =>
          by_cases h45 : c = 45
          · have h45b : ((c : Int) == 45) = true := beq_iff_eq.2 (by omega)
            go_wp2
            go_meet
            exact ⟨rfl, rfl⟩
          · have h45b : ((c : Int) == 45) = false := beq_eq_false_iff_ne.2 (by omega)
            have hd : digitI c = true := by rw [show (c == 45) = false from beq_eq_false_iff_ne.2 h45, Bool.false_or] at h3; exact h3
            go_wp2_with (go_at_call 69; refine (digit_calls c _ (by omega) (by omega)).mono ?_; rw [hd]; rintro e w3 ⟨rfl, rfl⟩)
            go_meet
            exact ⟨rfl, rfl⟩
        case rest =>
        obtain ⟨rfl, rfl⟩ := hcut
        clear h3
        cases hS : S with
        | error c =>
          go_wp2_with fail
          refine (hC _ hB2).mono ?_
          rintro e w9 ⟨-, he, hg9⟩
          obtain rfl := he c hS
          have hg10 := hgB.trans hg9
          unfold pan
          have HS2 := Lib.hid (HS.out.trans hS)
          go_wp2
          refine ⟨rfl, fun d' r' h => ?_, fun c' h => ?_, hg10⟩
          · rw [HS2.out] at h
            cases h
          · rw [HS2.out] at h
            cases h
            rfl
        | ok y =>
          obtain ⟨d, r⟩ := y
          go_wp2_with fail
          refine (hC _ hB2).mono ?_
          rintro e w9 ⟨hok, -, hg9⟩
          obtain ⟨pv, s9, rfl, hO9, hs9, hB9⟩ := hok d r hS
          have hg10 := hgB.trans hg9
          have hW9 := Blk.grown hWB hg9 (by simp; omega)
          have hz9 := hgB.size
          have HS2 := Lib.hid (HS.out.trans hS)
          obtain ⟨sa, sc, rfl⟩ := hO9.slice
          obtain ⟨nl, hnl⟩ : ∃ nl, nl = d.path.length := ⟨_, rfl⟩
          rw [← hnl] at hO9 ⊢
          have HNL := Lib.hid hnl
          obtain ⟨tx, htx⟩ : ∃ tx : ByteArray, tx = ⟨d.text.toArray⟩ := ⟨_, rfl⟩
          have HTX := Lib.hid htx
          unfold wdV
          rw [← htx]
          clear hok hS hnl htx
          have k0 := hW9.cell 0 _ rfl
          have f0 := hW9.free 0
          have k1 := hW9.cell 1 _ rfl
          have f1 := hW9.free 1
          have k2 := hW9.cell 2 _ rfl
          have f2 := hW9.free 2
          have k3 := hW9.cell 3 _ rfl
          have f3 := hW9.free 3
          have hW4 : Blk w.heap.size 112 [.int .i64 d.kind, .string tx, .slice sa nl sc, .int .i64 d.num] ((((w9.setCell ⟨w.heap.size, 0, none⟩ (.int .i64 d.kind)).setCell ⟨w.heap.size, 1, none⟩ (.string tx)).setCell ⟨w.heap.size, 2, none⟩ (.slice sa nl sc)).setCell ⟨w.heap.size, 3, none⟩ (.int .i64 d.num)) := (((hW9.set 0 _).set 1 _).set 2 _).set 3 _
          have hg4 : w.grownBy ((((w9.setCell ⟨w.heap.size, 0, none⟩ (.int .i64 d.kind)).setCell ⟨w.heap.size, 1, none⟩ (.string tx)).setCell ⟨w.heap.size, 2, none⟩ (.slice sa nl sc)).setCell ⟨w.heap.size, 3, none⟩ (.int .i64 d.num)) (some g) := grown_put4 hg10 w.heap.size (Nat.le_refl _) _ _ _ _
          have hB4 : Rd g s9 o ((((w9.setCell ⟨w.heap.size, 0, none⟩ (.int .i64 d.kind)).setCell ⟨w.heap.size, 1, none⟩ (.string tx)).setCell ⟨w.heap.size, 2, none⟩ (.slice sa nl sc)).setCell ⟨w.heap.size, 3, none⟩ (.int .i64 d.num)) := blk_put4 hB9 w.heap.size (by omega) _ _ _ _
          have hO4 := own_put4 hO9 w.heap.size (by omega) (.int .i64 d.kind) (.string tx) (.slice sa nl sc) (.int .i64 d.num)
          go_wp2
          clear k0 k1 k2 k3 f0 f1 f2 f3
          change Strs _ _ _ ((((w9.setCell ⟨w.heap.size, 0, none⟩ (.int .i64 d.kind)).setCell ⟨w.heap.size, 1, none⟩ (.string tx)).setCell ⟨w.heap.size, 2, none⟩ (.slice sa nl sc)).setCell ⟨w.heap.size, 3, none⟩ (.int .i64 d.num)) at hO4
          generalize (((w9.setCell ⟨w.heap.size, 0, none⟩ (.int .i64 d.kind)).setCell ⟨w.heap.size, 1, none⟩ (.string tx)).setCell ⟨w.heap.size, 2, none⟩ (.slice sa nl sc)).setCell ⟨w.heap.size, 3, none⟩ (.int .i64 d.num) = w40 at *
          have d0 := hW4.cell 0 _ rfl
          have d1 := hW4.cell 1 _ rfl
          have d2 := hW4.cell 2 _ rfl
          have d3 := hW4.cell 3 _ rfl
          refine bodyPost_ret (v := .agg #[.int .i64 d.kind, .string tx, .slice sa nl sc, .int .i64 d.num]) (by simp [results, Tryz.results112, go_sem, d0, d1, d2, d3]) rfl ?_
          refine ⟨fun d' r' h => ?_, fun c' h => ?_, hg4⟩
          · rw [HS2.out] at h
            cases h
            exact ⟨.slice sa nl sc, s9, by rw [HTX.out]; rfl, World.ownsRow.mono hO4 (by omega), hs9, hB4⟩
          · rw [HS2.out] at h
            cases h
      | false =>
        rw [h3, if_neg (by simp)] at hwl
        rw [Bool.or_eq_false_iff] at h3
        obtain ⟨h45, hd⟩ := h3
        have h45' : c ≠ 45 := fun h => by rw [h] at h45; cases h45
        have h45b : ((c : Int) == 45) = false := beq_eq_false_iff_ne.2 (by omega)
        have HWL2 := Lib.hid hwl
        clear hwl HWL1 hp2 h45
        by_cases h46 : c = 46
        · have h46b : ((c : Int) == 46) = true := beq_iff_eq.2 (by omega)
          have hwl := HWL2.out
          rw [show (c == 46) = true from beq_iff_eq.2 h46, if_pos rfl] at hwl
          obtain ⟨S, hS0⟩ : ∃ S, S = fieldL l := ⟨_, rfl⟩
          have hC := fun W hW => wfield_calls g s2 o l W hW hs2 (by omega) (by omega)
          rw [← hS0] at hwl hC
          have HS := Lib.hid hwl
          clear hwl HWL2 hS0 hsz2 h46
          go_upto_region 9 with (go_at_call 69; refine (digit_calls c _ (by omega) (by omega)).mono ?_; rw [hd]; rintro e w3 ⟨rfl, rfl⟩)
          clear hd h45' h45b h46b
          cases hS : S with
          | error c =>
            go_wp2_with fail
            refine (hC _ hB2).mono ?_
            rintro e w9 ⟨-, he, hg9⟩
            obtain rfl := he c hS
            have hg10 := hgB.trans hg9
            unfold pan
            have HS2 := Lib.hid (HS.out.trans hS)
            go_wp2
            refine ⟨rfl, fun d' r' h => ?_, fun c' h => ?_, hg10⟩
            · rw [HS2.out] at h
              cases h
            · rw [HS2.out] at h
              cases h
              rfl
          | ok y =>
            obtain ⟨d, r⟩ := y
            go_wp2_with fail
            refine (hC _ hB2).mono ?_
            rintro e w9 ⟨hok, -, hg9⟩
            obtain ⟨pv, s9, rfl, hO9, hs9, hB9⟩ := hok d r hS
            have hg10 := hgB.trans hg9
            have hW9 := Blk.grown hWB hg9 (by simp; omega)
            have hz9 := hgB.size
            have HS2 := Lib.hid (HS.out.trans hS)
            obtain ⟨sa, sc, rfl⟩ := hO9.slice
            obtain ⟨nl, hnl⟩ : ∃ nl, nl = d.path.length := ⟨_, rfl⟩
            rw [← hnl] at hO9 ⊢
            have HNL := Lib.hid hnl
            obtain ⟨tx, htx⟩ : ∃ tx : ByteArray, tx = ⟨d.text.toArray⟩ := ⟨_, rfl⟩
            have HTX := Lib.hid htx
            unfold wdV
            rw [← htx]
            clear hok hS hnl htx
            have k0 := hW9.cell 0 _ rfl
            have f0 := hW9.free 0
            have k1 := hW9.cell 1 _ rfl
            have f1 := hW9.free 1
            have k2 := hW9.cell 2 _ rfl
            have f2 := hW9.free 2
            have k3 := hW9.cell 3 _ rfl
            have f3 := hW9.free 3
            have hW4 : Blk w.heap.size 112 [.int .i64 d.kind, .string tx, .slice sa nl sc, .int .i64 d.num] ((((w9.setCell ⟨w.heap.size, 0, none⟩ (.int .i64 d.kind)).setCell ⟨w.heap.size, 1, none⟩ (.string tx)).setCell ⟨w.heap.size, 2, none⟩ (.slice sa nl sc)).setCell ⟨w.heap.size, 3, none⟩ (.int .i64 d.num)) := (((hW9.set 0 _).set 1 _).set 2 _).set 3 _
            have hg4 : w.grownBy ((((w9.setCell ⟨w.heap.size, 0, none⟩ (.int .i64 d.kind)).setCell ⟨w.heap.size, 1, none⟩ (.string tx)).setCell ⟨w.heap.size, 2, none⟩ (.slice sa nl sc)).setCell ⟨w.heap.size, 3, none⟩ (.int .i64 d.num)) (some g) := grown_put4 hg10 w.heap.size (Nat.le_refl _) _ _ _ _
            have hB4 : Rd g s9 o ((((w9.setCell ⟨w.heap.size, 0, none⟩ (.int .i64 d.kind)).setCell ⟨w.heap.size, 1, none⟩ (.string tx)).setCell ⟨w.heap.size, 2, none⟩ (.slice sa nl sc)).setCell ⟨w.heap.size, 3, none⟩ (.int .i64 d.num)) := blk_put4 hB9 w.heap.size (by omega) _ _ _ _
            have hO4 := own_put4 hO9 w.heap.size (by omega) (.int .i64 d.kind) (.string tx) (.slice sa nl sc) (.int .i64 d.num)
            go_wp2
            clear k0 k1 k2 k3 f0 f1 f2 f3
            change Strs _ _ _ ((((w9.setCell ⟨w.heap.size, 0, none⟩ (.int .i64 d.kind)).setCell ⟨w.heap.size, 1, none⟩ (.string tx)).setCell ⟨w.heap.size, 2, none⟩ (.slice sa nl sc)).setCell ⟨w.heap.size, 3, none⟩ (.int .i64 d.num)) at hO4
            generalize (((w9.setCell ⟨w.heap.size, 0, none⟩ (.int .i64 d.kind)).setCell ⟨w.heap.size, 1, none⟩ (.string tx)).setCell ⟨w.heap.size, 2, none⟩ (.slice sa nl sc)).setCell ⟨w.heap.size, 3, none⟩ (.int .i64 d.num) = w40 at *
            have d0 := hW4.cell 0 _ rfl
            have d1 := hW4.cell 1 _ rfl
            have d2 := hW4.cell 2 _ rfl
            have d3 := hW4.cell 3 _ rfl
            refine bodyPost_ret (v := .agg #[.int .i64 d.kind, .string tx, .slice sa nl sc, .int .i64 d.num]) (by simp [results, Tryz.results112, go_sem, d0, d1, d2, d3]) rfl ?_
            refine ⟨fun d' r' h => ?_, fun c' h => ?_, hg4⟩
            · rw [HS2.out] at h
              cases h
              exact ⟨.slice sa nl sc, s9, by rw [HTX.out]; rfl, World.ownsRow.mono hO4 (by omega), hs9, hB4⟩
            · rw [HS2.out] at h
              cases h
        · have h46b : ((c : Int) == 46) = false := beq_eq_false_iff_ne.2 (by omega)
          have hwl := HWL2.out
          rw [show (c == 46) = false from beq_eq_false_iff_ne.2 h46, if_neg (by simp)] at hwl
          have HWL3 := Lib.hid hwl
          clear hwl HWL2
          go_wp2_with (go_at_call 69; refine (digit_calls c _ (by omega) (by omega)).mono ?_; rw [hd]; rintro e w3 ⟨rfl, rfl⟩)
          clear hd h45' h46 h45b h46b
          refine (whas_calls g s2 ⟨#[36]⟩ o l _ hB2 hs2).mono ?_
          rintro e w3 ⟨s3, rfl, hs3, hB3, hg3⟩
          have hgC := hgB.trans hg3
          have hWC := Blk.grown hWB hg3 (by simp; omega)
          have hzC := Nat.lt_of_lt_of_le hzB hg3.size
          have hwl := HWL3.out
          clear hB2 hWB hg3 HWL3
          cases hp3 : List.isPrefixOf [36] l with
          | true =>
            rw [hp3, if_pos rfl] at hwl
            rw [show cutP (⟨#[36]⟩ : ByteArray).data.toList l = l.drop 1 from cutP_yes hp3] at hs3
            clear hp3
            have hN := wname_calls g s3 o (l.drop 1) _ hB3 hs3 (by rw [hs3.size, List.length_drop]; omega)
            cases hnm : nameL (l.drop 1) with
            | error e0 =>
              rw [hnm] at hwl
              have HS2 := Lib.hid hwl
              have HNM := Lib.hid hnm
              clear hwl hnm
              go_wp2_with fail
              refine hN.mono ?_
              rintro e w9 ⟨-, he, hg9⟩
              obtain rfl := he e0 HNM.out
              have hg10 := hgC.trans hg9
              unfold pan
              go_wp2
              refine ⟨rfl, fun d' r' h => ?_, fun c' h => ?_, hg10⟩
              · rw [HS2.out] at h
                cases h
              · rw [HS2.out] at h
                cases h
                rfl
            | ok y =>
              obtain ⟨x, r⟩ := y
              rw [hnm] at hwl
              have hrl := nameL_len hnm
              have HWL4 := Lib.hid hwl
              have HNM := Lib.hid hnm
              clear hwl hnm
              go_wp2_with fail
              refine hN.mono ?_
              rintro e w4 ⟨hok, -, hg9⟩
              obtain ⟨t, s4, rfl, ht, hs4, hB4'⟩ := hok x r HNM.out
              have hg10 := hgC.trans hg9
              have hW9 := Blk.grown hWC hg9 (by simp; omega)
              have HTX := Lib.hid ht.eq
              clear hok ht hN
              have hV : Blk w4.heap.size 112 [.int .i64 2, .string t, .slice none 0 0, .int .i64 0] (w4.alloc (.cells #[.int .i64 2, .string t, .slice none 0 0, .int .i64 0] 112)) := Blk.new w4 _ _
              have hb5 : Below w4.heap.size w4 (w4.alloc (.cells #[.int .i64 2, .string t, .slice none 0 0, .int .i64 0] 112)) := (Below.refl _ w4).alloc (Nat.le_refl _) _
              go_upto_region 12 with (fail)
              have hB5 := hB4'.below hb5
              have hW5 := hW9.below hb5
              have hg5 := hg10.trans (grownBy_below (row := some g) hb5)
              have hz4 : w.heap.size < w4.heap.size := Nat.lt_of_lt_of_le hzC hg9.size
              have hz5 : w4.heap.size < (w4.alloc (.cells #[.int .i64 2, .string t, .slice none 0 0, .int .i64 0] 112)).heap.size := by simp
              generalize w4.alloc (.cells #[.int .i64 2, .string t, .slice none 0 0, .int .i64 0] 112) = w5 at *
              obtain ⟨G2, hG2⟩ : ∃ G2, G2 = w4.heap.size := ⟨_, rfl⟩
              rw [← hG2] at hV hz4 hz5 ⊢
              have hP := wpath_calls g s4 o r _ hB5 hs4 (by rw [hs4.size]; rw [List.length_drop] at hrl; omega)
              clear hG2 hb5 hg9 hB4' hW9 hg10
              cases hpp : pathL r with
              | error e0 =>
                have HS2 := Lib.hid (HWL4.out.trans (by rw [hpp]; rfl : _ = (.error e0 : Except Nat (Wd × List UInt8))))
                have HPP := Lib.hid hpp
                clear hpp
                go_wp2_with fail
                refine hP.mono ?_
                rintro e w6 ⟨-, he, hg6⟩
                obtain rfl := he e0 HPP.out
                have hg10 := hg5.trans hg6
                unfold pan
                go_wp2
                refine ⟨rfl, fun d' r' h => ?_, fun c' h => ?_, hg10⟩
                · rw [HS2.out] at h
                  cases h
                · rw [HS2.out] at h
                  cases h
                  rfl
              | ok y =>
                obtain ⟨xs, r2⟩ := y
                have HS2 := Lib.hid (HWL4.out.trans (by rw [hpp]; rfl : _ = (.ok ((⟨2, x, xs, 0⟩ : Wd), r2) : Except Nat (Wd × List UInt8))))
                have HPP := Lib.hid hpp
                clear hpp
                go_wp2_with fail
                refine hP.mono ?_
                rintro e w6 ⟨hok, -, hg6⟩
                obtain ⟨pv, s6, rfl, hO6, hs6, hB6⟩ := hok xs r2 HPP.out
                have hg10 := hg5.trans hg6
                have hW6 := Blk.grown hW5 hg6 (by simp; omega)
                have hV6 := Blk.grown hV hg6 (by simp; omega)
                obtain ⟨sa, sc, rfl⟩ := hO6.slice
                obtain ⟨nl, hnl⟩ : ∃ nl, nl = xs.length := ⟨_, rfl⟩
                rw [← hnl] at hO6 ⊢
                have HNL := Lib.hid hnl
                have e2 := hV6.cell 2 _ rfl
                have q2 := hV6.free 2
                have hV7 := hV6.set 2 (.slice sa nl sc)
                have hg7 := grown_set hg10 G2 2 (by omega) (.slice sa nl sc)
                have hB7 := Blk.grown hB6 (grownBy_set w6 G2 2 (.slice sa nl sc)) (by simp; omega)
                have hW7 := Blk.grown hW6 (grownBy_set w6 G2 2 (.slice sa nl sc)) (by simp; omega)
                have hO7 : Strs w5.heap.size (.slice sa nl sc) xs (w6.setCell ⟨G2, 2, none⟩ (.slice sa nl sc)) := own_set hO6 (fun k => by have := own_base hO6 G2 k; omega) 2 _
                have e0 := hV6.cell 0 _ rfl
                have e1 := hV6.cell 1 _ rfl
                have e3 := hV6.cell 3 _ rfl
                have hne1 : G2 ≠ w.heap.size := by omega
                have hne2 : w.heap.size ≠ G2 := by omega
                have w60 := hW6.cell 0 _ rfl
                have w61 := hW6.cell 1 _ rfl
                have w62 := hW6.cell 2 _ rfl
                have w63 := hW6.cell 3 _ rfl
                have g60 := hW6.free 0
                have g61 := hW6.free 1
                have g62 := hW6.free 2
                have g63 := hW6.free 3
                clear hok hnl hP hV6 hW6 hB6 hO6 hg6 hg10 hg5 hW5 hB5 hV
                have hW4 : Blk w.heap.size 112 [.int .i64 2, .string t, .slice sa nl sc, .int .i64 0] (((((w6.setCell ⟨G2, 2, none⟩ (.slice sa nl sc)).setCell ⟨w.heap.size, 0, none⟩ (.int .i64 2)).setCell ⟨w.heap.size, 1, none⟩ (.string t)).setCell ⟨w.heap.size, 2, none⟩ (.slice sa nl sc)).setCell ⟨w.heap.size, 3, none⟩ (.int .i64 0)) := (((hW7.set 0 _).set 1 _).set 2 _).set 3 _
                have hg4 : w.grownBy (((((w6.setCell ⟨G2, 2, none⟩ (.slice sa nl sc)).setCell ⟨w.heap.size, 0, none⟩ (.int .i64 2)).setCell ⟨w.heap.size, 1, none⟩ (.string t)).setCell ⟨w.heap.size, 2, none⟩ (.slice sa nl sc)).setCell ⟨w.heap.size, 3, none⟩ (.int .i64 0)) (some g) := grown_put4 hg7 w.heap.size (Nat.le_refl _) _ _ _ _
                have hB4 : Rd g s6 o (((((w6.setCell ⟨G2, 2, none⟩ (.slice sa nl sc)).setCell ⟨w.heap.size, 0, none⟩ (.int .i64 2)).setCell ⟨w.heap.size, 1, none⟩ (.string t)).setCell ⟨w.heap.size, 2, none⟩ (.slice sa nl sc)).setCell ⟨w.heap.size, 3, none⟩ (.int .i64 0)) := blk_put4 hB7 w.heap.size (by omega) _ _ _ _
                have hO4 := own_put4 hO7 w.heap.size (by omega) (.int .i64 2) (.string t) (.slice sa nl sc) (.int .i64 0)
                go_wp2
                clear e0 e1 e2 e3 q2 w60 w61 w62 w63 g60 g61 g62 g63
                change Strs _ _ _ (((((w6.setCell ⟨G2, 2, none⟩ (.slice sa nl sc)).setCell ⟨w.heap.size, 0, none⟩ (.int .i64 2)).setCell ⟨w.heap.size, 1, none⟩ (.string t)).setCell ⟨w.heap.size, 2, none⟩ (.slice sa nl sc)).setCell ⟨w.heap.size, 3, none⟩ (.int .i64 0)) at hO4
                generalize ((((w6.setCell ⟨G2, 2, none⟩ (.slice sa nl sc)).setCell ⟨w.heap.size, 0, none⟩ (.int .i64 2)).setCell ⟨w.heap.size, 1, none⟩ (.string t)).setCell ⟨w.heap.size, 2, none⟩ (.slice sa nl sc)).setCell ⟨w.heap.size, 3, none⟩ (.int .i64 0) = w40 at *
                have d0 := hW4.cell 0 _ rfl
                have d1 := hW4.cell 1 _ rfl
                have d2 := hW4.cell 2 _ rfl
                have d3 := hW4.cell 3 _ rfl
                refine bodyPost_ret (v := .agg #[.int .i64 2, .string t, .slice sa nl sc, .int .i64 0]) (by simp [results, Tryz.results112, go_sem, d0, d1, d2, d3]) rfl ?_
                refine ⟨fun d' r' h => ?_, fun c' h => ?_, hg4⟩
                · rw [HS2.out] at h
                  cases h
                  exact ⟨.slice sa nl sc, s6, by rw [HTX.out]; rfl, World.ownsRow.mono hO4 (by omega), hs6, hB4⟩
                · rw [HS2.out] at h
                  cases h
          | false =>
            rw [hp3, if_neg (by simp)] at hwl
            rw [show cutP (⟨#[36]⟩ : ByteArray).data.toList l = l from cutP_no hp3] at hs3
            clear hp3
            cases hf : wfirst c with
            | true =>
              rw [hf, if_pos rfl] at hwl
              have hN := wname_calls g s3 o l _ hB3 hs3 (by rw [hs3.size]; omega)
              cases hnm : nameL l with
              | error e0 =>
                rw [hnm] at hwl
                have HS2 := Lib.hid hwl
                have HNM := Lib.hid hnm
                clear hwl hnm
                go_wp2_with (go_at_call 126; refine (wfirst_calls c _ hlt).mono ?_; rw [hf]; rintro e w9 ⟨rfl, rfl⟩)
                refine hN.mono ?_
                rintro e w9 ⟨-, he, hg9⟩
                obtain rfl := he e0 HNM.out
                have hg10 := hgC.trans hg9
                unfold pan
                go_wp2
                refine ⟨rfl, fun d' r' h => ?_, fun c' h => ?_, hg10⟩
                · rw [HS2.out] at h
                  cases h
                · rw [HS2.out] at h
                  cases h
                  rfl
              | ok y =>
                obtain ⟨x, r⟩ := y
                rw [hnm] at hwl
                have HS2 := Lib.hid hwl
                have HNM := Lib.hid hnm
                clear hwl hnm
                go_wp2_with (go_at_call 126; refine (wfirst_calls c _ hlt).mono ?_; rw [hf]; rintro e w9 ⟨rfl, rfl⟩)
                refine hN.mono ?_
                rintro e w9 ⟨hok, -, hg9⟩
                obtain ⟨t, s9, rfl, ht, hs9, hB9⟩ := hok x r HNM.out
                have hg10 := hgC.trans hg9
                have hW9 := Blk.grown hWC hg9 (by simp; omega)
                have HTX := Lib.hid ht.eq
                clear hok ht
                have k0 := hW9.cell 0 _ rfl
                have f0 := hW9.free 0
                have k1 := hW9.cell 1 _ rfl
                have f1 := hW9.free 1
                have k2 := hW9.cell 2 _ rfl
                have f2 := hW9.free 2
                have k3 := hW9.cell 3 _ rfl
                have f3 := hW9.free 3
                have hW4 : Blk w.heap.size 112 [.int .i64 0, .string t, .slice none 0 0, .int .i64 0] ((((w9.setCell ⟨w.heap.size, 0, none⟩ (.int .i64 0)).setCell ⟨w.heap.size, 1, none⟩ (.string t)).setCell ⟨w.heap.size, 2, none⟩ (.slice none 0 0)).setCell ⟨w.heap.size, 3, none⟩ (.int .i64 0)) := (((hW9.set 0 _).set 1 _).set 2 _).set 3 _
                have hg4 : w.grownBy ((((w9.setCell ⟨w.heap.size, 0, none⟩ (.int .i64 0)).setCell ⟨w.heap.size, 1, none⟩ (.string t)).setCell ⟨w.heap.size, 2, none⟩ (.slice none 0 0)).setCell ⟨w.heap.size, 3, none⟩ (.int .i64 0)) (some g) := grown_put4 hg10 w.heap.size (Nat.le_refl _) _ _ _ _
                have hB4 : Rd g s9 o ((((w9.setCell ⟨w.heap.size, 0, none⟩ (.int .i64 0)).setCell ⟨w.heap.size, 1, none⟩ (.string t)).setCell ⟨w.heap.size, 2, none⟩ (.slice none 0 0)).setCell ⟨w.heap.size, 3, none⟩ (.int .i64 0)) := blk_put4 hB9 w.heap.size (by omega) _ _ _ _
                go_wp2
                clear k0 k1 k2 k3 f0 f1 f2 f3
                generalize (((w9.setCell ⟨w.heap.size, 0, none⟩ (.int .i64 0)).setCell ⟨w.heap.size, 1, none⟩ (.string t)).setCell ⟨w.heap.size, 2, none⟩ (.slice none 0 0)).setCell ⟨w.heap.size, 3, none⟩ (.int .i64 0) = w40 at *
                have d0 := hW4.cell 0 _ rfl
                have d1 := hW4.cell 1 _ rfl
                have d2 := hW4.cell 2 _ rfl
                have d3 := hW4.cell 3 _ rfl
                refine bodyPost_ret (v := .agg #[.int .i64 0, .string t, .slice none 0 0, .int .i64 0]) (by simp [results, Tryz.results112, go_sem, d0, d1, d2, d3]) rfl ?_
                refine ⟨fun d' r' h => ?_, fun c' h => ?_, hg4⟩
                · rw [HS2.out] at h
                  cases h
                  exact ⟨.slice none 0 0, s9, by rw [HTX.out]; rfl, strs_nil _ _, hs9, hB4⟩
                · rw [HS2.out] at h
                  cases h
            | false =>
              rw [hf, if_neg (by simp)] at hwl
              have HS2 := Lib.hid hwl
              clear hwl
              go_wp2_with (go_at_call 126; refine (wfirst_calls c _ hlt).mono ?_; rw [hf]; rintro e w9 ⟨rfl, rfl⟩)
              refine ⟨rfl, fun d' r' h => ?_, fun c' h => ?_, hgC⟩
              · rw [HS2.out] at h
                cases h
              · rw [HS2.out] at h
                cases h
                rfl
end Go.Proofs.YtbcddlheikdlkaaGreatDoor.S
/-
  THE WALK of package words' all.
-/
set_option linter.unusedVariables false
set_option linter.unusedSimpArgs false
namespace Go.Proofs.YtbcddlheikdlkaaGreatDoor.S
open Go.RowKit

/-- rows of words, each with its path's row -/
def wdCells (d : Wd) (pv : Value) : List Value := [.int .i64 d.kind, .string ⟨d.text.toArray⟩, pv, .int .i64 d.num]
def zsCells (zs : List (Wd × Value)) : List Value := zs.flatMap fun z => wdCells z.1 z.2
structure WdsZ (base : Nat) (v : Value) (zs : List (Wd × Value)) (W : World) : Prop where
  row : W.ownsRow base 112 4 v zs.length (zsCells zs)
  paths : ∀ z ∈ zs, Strs base z.2 z.1.path W
def Wds (base : Nat) (v : Value) (ds : List Wd) (W : World) : Prop := ∃ zs, zs.map Prod.fst = ds ∧ WdsZ base v zs W
theorem wdInfo : (Tryz.prog.info? 112).map (fun i => (i.zero, i.size, i.bytes)) = some (some (.agg #[.int .i64 0, .string ⟨#[]⟩, .slice none 0 0, .int .i64 0]), 4, 56) := by kernel_rfl
theorem wds_nil (base : Nat) (W : World) : Wds base (.slice none 0 0) [] W := ⟨[], rfl, ⟨by simp [zsCells], .inl ⟨rfl, rfl⟩⟩, fun z hz => by cases hz⟩
theorem Wds.grown {base g : Nat} {v : Value} {ds : List Wd} {w w' : World} (h : Wds base v ds w) (hg : w.grownBy w' (some g)) (hb : g < base) : Wds base v ds w' :=
  let ⟨zs, hz, hr, hp⟩ := h
  ⟨zs, hz, World.ownsRow.kept hr hg (.inr fun e => by have := own_base hr g e; omega), fun z hz => (hp z hz).grown hg hb⟩
theorem Wds.below {base : Nat} {v : Value} {ds : List Wd} {w w' : World} (h : Wds base v ds w) (hb : Below w.heap.size w w') : Wds base v ds w' :=
  let ⟨zs, hz, hr, hp⟩ := h
  ⟨zs, hz, own_below hr hb, fun z hz => own_below (hp z hz) hb⟩
theorem Wds.slice {base : Nat} {v : Value} {ds : List Wd} {w : World} (h : Wds base v ds w) : ∃ a c, v = .slice a ds.length c := by
  obtain ⟨zs, rfl, hr, _⟩ := h
  obtain ⟨a, c, h, _⟩ := own_slice hr
  exact ⟨a, c, by rw [List.length_map]; exact h⟩
theorem Wds.base_le {base : Nat} {v : Value} {ds : List Wd} {w : World} (h : Wds base v ds w) (k : Nat) (hk : v.ownBlock = some k) : base ≤ k := by
  obtain ⟨zs, rfl, hr, _⟩ := h
  exact own_base hr k hk
theorem wds_more {w w2 w3 : World} {base : Nat} {v : Value} {ds : List Wd} {row : Option Nat} (h : w.grownBy w2 row) (hO : Wds base v ds w2) (hb : w.heap.size ≤ base) (hg : w2.grownBy w3 v.ownBlock) : w.grownBy w3 row :=
  let ⟨zs, _, hr, _⟩ := hO
  grown_more h hr hb hg
theorem paths_ne {base base' : Nat} {v pv : Value} {zs : List (Wd × Value)} {xs : List (List UInt8)} {W : World} (hr : W.ownsRow base 112 4 v zs.length (zsCells zs)) (hp : Strs base' pv xs W) : pv.ownBlock = none ∨ pv.ownBlock ≠ v.ownBlock := by
  rcases hp.2 with ⟨rfl, _⟩ | ⟨g', cap', cur', rfl, _, hh', _⟩
  · exact .inl rfl
  · refine .inr fun e => ?_
    rcases hr.2 with ⟨rfl, _⟩ | ⟨g, cap, cur, rfl, _, hh, _⟩
    · simp [Value.ownBlock] at e
    · have : g' = g := by simpa [Value.ownBlock] using e
      subst this
      rw [hh] at hh'
      injection hh' with hh'
      injection hh' with _ h2
      exact absurd h2 (by decide)
section
variable {ops : Array Oper} {rest : List Oper} {o : Oper} {a : Act} {Q : Exit → Act → World → Prop}
theorem wds_snoc {base : Nat} {v v1 : Value} {ds : List Wd} {d : Wd} {pv : Value} {W w1 : World} {zs : List (Wd × Value)} (hz : zs.map Prod.fst = ds) (hW : WdsZ base v zs W) (hP : Strs base pv d.path W)
    (hown : w1.ownsRow base 112 4 v1 (zs.length + 1) (zsCells zs ++ wdCells d pv)) (hg : W.grownBy w1 v.ownBlock) : Wds base v1 (ds ++ [d]) w1 := by
  refine ⟨zs ++ [(d, pv)], by rw [List.map_append, hz]; rfl, ?_, ?_⟩
  · rw [List.length_append]
    unfold zsCells at *
    rw [List.flatMap_append]
    simpa using hown
  · intro z hzm
    rcases List.mem_append.1 hzm with h | h
    · exact World.ownsRow.kept (hW.paths z h) hg (paths_ne hW.row (hW.paths z h))
    · rw [List.mem_singleton.1 h]
      exact World.ownsRow.kept hP hg (paths_ne hW.row hP)
/-- append(ws, w): the literal's block has just been laid -/
theorem wp_appWord {W : World} (base : Nat) (hgd : o.guard = none) (s x : Operand)
    (ho : o.op = .call { callee := .builtin .append, args := #[s, x], argTypes := #[108, 108] })
    (v : Value) (ds : List Wd) (d : Wd) (pv : Value) (cs : Array Value) (hcs : cs.toList = wdCells d pv) (h1 : pv.oneCell' = true) (c : Nat) (hs : a.eval s = v) (hx : a.eval x = .slice (some ⟨W.heap.size, 0, none⟩) 1 c)
    (HO : Wds base v ds W) (HP : Strs base pv d.path W) (hbase : base ≤ W.heap.size) (hl : ds.length ≤ 1099511627776)
    (h : ∀ v1 w1, Wds base v1 (ds ++ [d]) w1 → W.grownBy w1 v.ownBlock → wpList Tryz.prog ops Q rest (a.put o.dst v1) w1) :
    wpList Tryz.prog ops Q (o :: rest) a (W.alloc (.cells cs 112)) := by
  obtain ⟨i0, hi, hz0, hz1, hz2⟩ := info_parts wdInfo
  obtain ⟨zs, rfl, hr, hp⟩ := HO
  have hb := (Below.refl _ W).alloc (Nat.le_refl _) (.cells cs 112)
  rw [List.length_map] at hl
  refine wpList_append_own (W.alloc (.cells cs 112)) hgd s x 108 ho base 112 i0 (.agg #[.int .i64 0, .string ⟨#[]⟩, .slice none 0 0, .int .i64 0]) 4 56 Tryz.underlying108 hi hz0 hz1 hz2 rfl (by decide) v zs.length (zsCells zs) hs (own_below hr hb)
    ⟨W.heap.size, 0, none⟩ 1 c (wdCells d pv) hx rfl ?_ ?_ (by simp only [maxLen]; omega) (by omega) (by simp; omega) ?_
  · rw [← hcs]
    exact World.news_of_block (cs := cs) (t := 112) (fr := (0, 0)) (heap_new W _)
  · intro u hu
    simp only [wdCells, List.mem_cons, List.not_mem_nil, or_false] at hu
    rcases hu with rfl | rfl | rfl | rfl
    · rfl
    · rfl
    · exact h1
    · rfl
  · intro v1 w1 hown hg _
    have hga := (World.grownBy_alloc W _ _).trans hg
    exact h v1 w1 (wds_snoc rfl ⟨hr, hp⟩ HP hown hga) hga
/-- append(ws, w) as a step of a region that draws its order -/
theorem step_appWord {K : Act → World → Prop} {E : Prop} {W : World} (base : Nat) (hgd : o.guard = none) (s x : Operand)
    (ho : o.op = .call { callee := .builtin .append, args := #[s, x], argTypes := #[108, 108] })
    (v : Value) (ds : List Wd) (d : Wd) (pv : Value) (L : Nat) (cs : Array Value) (fr : Nat × Nat) (hcs : cs.toList = wdCells d pv) (h1 : pv.oneCell' = true) (c : Nat) (hs : a.eval s = v) (hx : a.eval x = .slice (some ⟨L, 0, none⟩) 1 c)
    (hL : W.heap[L]? = some (.cells cs 112 fr)) (HO : Wds base v ds W) (HP : Strs base pv d.path W) (hbase : base ≤ W.heap.size) (hl : ds.length ≤ 1099511627776)
    (h : ∀ a1 c1 w1, Wds base (.slice a1 (ds.length + 1) c1) (ds ++ [d]) w1 → W.grownBy w1 v.ownBlock → K (a.put o.dst (.slice a1 (ds.length + 1) c1)) w1) :
    if Region.wanted o (yielded ops a.tmps) = true then Oper.wp Tryz.prog o a W K Q else E := by
  obtain ⟨i0, hi, hz0, hz1, hz2⟩ := info_parts wdInfo
  obtain ⟨zs, rfl, hr, hp⟩ := HO
  rw [List.length_map] at hl
  refine step_append_lies W hgd s x 108 ho base 112 i0 (.agg #[.int .i64 0, .string ⟨#[]⟩, .slice none 0 0, .int .i64 0]) 4 56 Tryz.underlying108 hi hz0 hz1 hz2 rfl (by decide) v zs.length (zsCells zs) hs hr
    ⟨L, 0, none⟩ 1 c (wdCells d pv) hx rfl ?_ ?_ (by decide) (by simp only [maxLen]; omega) (by omega) hbase _ rfl ?_
  · rw [← hcs]
    exact World.news_of_block hL
  · intro u hu
    simp only [wdCells, List.mem_cons, List.not_mem_nil, or_false] at hu
    rcases hu with rfl | rfl | rfl | rfl
    · rfl
    · rfl
    · exact h1
    · rfl
  · intro g cap w1 hown hg _ _
    have hw := wds_snoc rfl ⟨hr, hp⟩ HP hown hg
    rw [List.length_map] at h
    exact h _ _ w1 hw hg
end
set_option maxRecDepth 100000 in
set_option maxHeartbeats 8000000 in
theorem wall_calls (g : Nat) (s : ByteArray) (l : List UInt8) (w : World) (hE : EnvAt g w) (hB : Rd g s (.slice none 0 0) w) (hl : StrIs s l) (hs : s.size ≤ 1073741824) :
    Calls Tryz.prog 85 #[.pointer (some ⟨g, 0, none⟩)] w fun e w' =>
      (∀ ds, allF (l.length + 1) l = .ok ds → ∃ (s' : ByteArray) (v : Value), e = .returned (.tuple #[]) ∧ Rd g s' v w' ∧ Wds w.heap.size v ds w') ∧ (∀ c, allF (l.length + 1) l = .error c → e = pan c) ∧ w.grownBy w' (some g) := by
  have hgl := hB.lt
  have hll : l.length = s.size := hl.size.symm
  obtain ⟨T, hT⟩ : ∃ T, T = allF (l.length + 1) l := ⟨_, rfl⟩
  rw [← hT]
  have hT' : AllAt T [] (l.length + 1) l := by
    unfold AllAt
    rw [hT]
    cases allF (l.length + 1) l <;> rfl
  have HE := Lib.hid (fun W (h : w.grownBy W (some g)) => hE.below (Below.grow1 h (by omega) (Nat.le_refl g)))
  clear hT hE
  go_enter Tryz.func85, Tryz.ntmps85
  go_wp2
  go_loopg [16] (l.length + 1) (fun gk _ wr => ∃ (acc : List Wd) (s' : ByteArray) (l' : List UInt8) (v : Value), l'.length + 1 ≤ gk ∧ acc.length + gk ≤ l.length + 1 ∧ StrIs s' l' ∧ Rd g s' v wr ∧ Wds w.heap.size v acc wr ∧ w.grownBy wr (some g) ∧ Hid (AllAt T acc gk l'))
  case atStart => exact ⟨[], s, l, _, Nat.le_refl _, by simp, hl, hB, wds_nil _ _, World.grownBy.refl _ _, hT'⟩
  case round =>
    obtain ⟨acc, s', l', v, hlg, hag, hs', hBr, hO, hgr, hA⟩ := hrel
    obtain ⟨n, rfl⟩ : ∃ n, gk = n + 1 := ⟨gk - 1, by omega⟩
    have HLG := Lib.hid hlg
    have HAG := Lib.hid hag
    clear hlg hag hT'
    have c0 := hBr.cell 0 _ rfl
    go_wp2_with fail
    refine (trimLeft_calls s' l' hs' _).mono ?_
    rintro e w1 ⟨s1, rfl, hs1, hb1⟩
    have hB1 := hBr.below hb1
    have hB2 := hB1.set 0 (.string s1)
    have hg2 := (hgr.trans (grownBy_below hb1)).trans (grownBy_set w1 g 0 (.string s1))
    have hO2 := (hO.below hb1).grown (grownBy_set w1 g 0 (.string s1)) hgl
    have c0 := hB1.cell 0 _ rfl
    have f0 := hB1.free 0
    have htl := trimL_len l'
    go_upto_region 1 with (fail)
    clear hBr hO hgr hs' hb1 hB1 c0 f0
    generalize w1.setCell ⟨g, 0, none⟩ (.string s1) = w2 at *
    have c0 := hB2.cell 0 _ rfl
    by_cases ht : trimL l' = []
    · have hT := all_end hA.out ht
      have HT := Lib.hid hT
      have h1 := empty_test (t := s1) (by rw [hs1.size, ht]; rfl)
      clear hT hA ht
      go_wp2
      refine bodyPost_ret (v := .tuple #[]) (by simp [results, Tryz.results85, go_sem]) rfl ?_
      refine ⟨fun ds h => ?_, fun c h => ?_, hg2⟩
      · rw [HT.out] at h
        cases h
        exact ⟨s1, v, rfl, hB2, hO2⟩
      · rw [HT.out] at h
        cases h
    · have h1 := nonempty_test (t := s1) (fun h0 => ht (List.eq_nil_of_length_eq_zero (by rw [← hs1.size]; exact h0)))
      have htl2 : (trimL l').length = s1.size := hs1.size.symm
      have hs1z : 0 < s1.size ∧ s1.size ≤ s.size := ⟨by rw [← htl2]; exact List.length_pos_iff.2 ht, by have h5 := HLG.out; have h6 := HAG.out; omega⟩
      have hAP := fun hp => all_pipe hA.out ht hp
      have hAE := fun hp e hw => all_err (e := e) hA.out ht hp hw
      have hAN := fun hp d r hw he => all_ends (d := d) (r := r) hA.out ht hp hw he
      have hAG := fun hp d r hw he => all_go (d := d) (r := r) hA.out ht hp hw he
      have hWL := fun d r h => wordL_len (d := d) (r := r) ht h
      generalize trimL l' = l1 at *
      have HT := Lib.hid ht
      have HAP := Lib.hid hAP
      have HAE := Lib.hid hAE
      have HAN := Lib.hid hAN
      have HAGO := Lib.hid hAG
      have HWL := Lib.hid hWL
      have HTL := Lib.hid htl
      have HTL2 := Lib.hid htl2
      clear ht hAP hAE hAN hAG hWL hA htl htl2
      go_wp2_with fail
      refine (whas_calls g s1 ⟨#[124]⟩ v l1 _ hB2 hs1).mono ?_
      rintro e w3 ⟨s3, rfl, hs3, hB3, hg3⟩
      have hgr3 := hg2.trans hg3
      have hO3 := hO2.grown hg3 hgl
      have hne : some g ≠ v.ownBlock := fun e => by have := hO3.base_le g e.symm; omega
      have hz3 := hgr3.size
      clear c0 hB2 hg2 hO2 hg3
      have c0 := hB3.cell 0 _ rfl
      have c1 := hB3.cell 1 _ rfl
      obtain ⟨va, vc, rfl⟩ := hO3.slice
      have hal : acc.length ≤ 1099511627776 := by have := HAG.out; omega
      cases hp : List.isPrefixOf [124] l1 with
      | true =>
        rw [show cutP (⟨#[124]⟩ : ByteArray).data.toList l1 = l1.drop 1 from cutP_yes hp] at hs3
        have hA2 := HAP.out hp
        have HA := Lib.hid hA2
        clear hp hA2 HAP HAE HAN HAGO HWL
        go_wp2_with (at_builtin; refine wp_appWord w.heap.size rfl (.tmp 21) (.tmp 23) rfl (.slice va acc.length vc) acc ⟨5, [], [], 0⟩ (.slice none 0 0) _ rfl rfl 1 rfl rfl hO3 (strs_nil _ _) hz3 hal ?_; intro v1 w5 hO5 hg5; obtain ⟨sa, sc, rfl⟩ := hO5.slice; have hB5 := Blk.grown hB3 hg5 hne; have c1 := hB5.cell 1 _ rfl; have f1 := hB5.free 1; have hgr5 := wds_more hgr3 hO3 (Nat.le_refl _) hg5)
        go_roundg n
        case measure => omega
        case rel =>
          have hd : (l1.drop 1).length + 1 ≤ n := by have h5 := HLG.out; have h6 := HTL.out; have h7 := HTL2.out; rw [List.length_drop]; omega
          refine ⟨acc ++ [(⟨5, [], [], 0⟩ : Wd)], s3, _, _, hd, by have := HAG.out; simp only [List.length_append, List.length_cons, List.length_nil]; omega, hs3, hB5.set 1 _, ?_, hgr5.trans (grownBy_set _ g 1 _), HA.out⟩
          have hx := hO5.grown (grownBy_set w5 g 1 (.slice sa (acc ++ [(⟨5, [], [], 0⟩ : Wd)]).length sc)) hgl
          simpa using hx
      | false =>
        rw [show cutP (⟨#[124]⟩ : ByteArray).data.toList l1 = l1 from cutP_no hp] at hs3
        have hs3z : s3.size = s1.size := by rw [hs3.size, HTL2.out]
        have hC := fun W hW hE => wword_calls g s3 (.slice va acc.length vc) l1 W hE hW hs3 (by omega) (by omega)
        cases hS : wordL l1 with
        | error c =>
          have hT := HAE.out hp c hS
          have HTT := Lib.hid hT
          clear hT hp HAP HAE HAN HAGO HWL
          go_upto_region 4 with (fail)
          have hgd : w.grownBy w3.drew (some g) := ⟨hgr3.os, hgr3.tape, hgr3.output, hgr3.size, hgr3.block⟩
          have hCC := hC w3.drew hB3 (HE.out _ hgd)
          have hEND : ∀ w5, w3.drew.grownBy w5 (some g) → (∀ ds, T = .ok ds → ∃ (s' : ByteArray) (v : Value), (pan c) = .returned (.tuple #[]) ∧ Rd g s' v w5 ∧ Wds w.heap.size v ds w5) ∧ (∀ c', T = .error c' → pan c = pan c') ∧ w.grownBy w5 (some g) := fun w5 h5 => by
            refine ⟨fun ds h => ?_, fun c' h => ?_, hgd.trans h5⟩
            · rw [HTT.out] at h
              cases h
            · rw [HTT.out] at h
              cases h
              rfl
          have HEND := Lib.hid hEND
          clear hEND
          refine wp_region_any (by kernel_rfl) ?_
          change wpAny _ _ _ _ _ _ _ (World.drew _)
          refine wpAny_take (i := 0) (v := ?vv0) rfl (by kernel_rfl) (by kernel_rfl) (by kernel_rfl) (fun _ _ _ h => h) (Or.inl ⟨by rfl, ?hy0⟩) ?rest0
          case hy0 =>
            intro w
            first | (go_simp; done) | (go_simp; with_reducible rfl)
          refine wpAny_take (i := 1) (v := ?vv1) rfl (by kernel_rfl) (by kernel_rfl) (by kernel_rfl) (fun _ _ _ h => h) (Or.inl ⟨by rfl, ?hy1⟩) ?rest1
          case hy1 =>
            intro w
            first | (go_simp; done) | (go_simp; with_reducible rfl)
          refine wpAny_take (i := 2) (v := ?vv2) rfl (by kernel_rfl) (by kernel_rfl) (by kernel_rfl) (fun _ _ _ h => h) (Or.inl ⟨by rfl, ?hy2⟩) ?rest2
          case hy2 =>
            intro w
            first | (go_simp; done) | (go_simp; with_reducible rfl)
          refine wpAny_take (i := 3) (v := ?vv3) rfl (by kernel_rfl) (by kernel_rfl) (by kernel_rfl) (fun _ _ _ h => h) (Or.inl ⟨by rfl, ?hy3⟩) ?rest3
          case hy3 =>
            intro w
            first | (go_simp; done) | (go_simp; with_reducible rfl)
          refine wpAny_take (i := 5) (v := ?vv5) rfl (by kernel_rfl) (by kernel_rfl) (by kernel_rfl) (fun _ _ _ h => h) (Or.inl ⟨by rfl, ?hy5⟩) ?rest5
          case hy5 =>
            intro w
            first | (go_simp; done) | (go_simp; with_reducible rfl)
          refine wpAny_ready (rs := [4, 6]) (by kernel_rfl) (by simp) ?_
          refine AllReady.cons rfl (fun K hK => ?_) ?_
          · go_simp
            refine hK _ _ ?_
            clear hK K
            refine wpAny_ready (rs := [6]) (by kernel_rfl) (by simp) ?_
            refine AllReady.cons rfl (fun K hK => ?_) AllReady.nil
            go_simp
            go_at_call 112
            refine hCC.mono ?_
            rintro e w5 ⟨-, he, hg5⟩
            obtain rfl := he c hS
            unfold pan
            exact ⟨rfl, HEND.out w5 hg5⟩
          · refine AllReady.cons rfl (fun K hK => ?_) AllReady.nil
            go_simp
            go_at_call 112
            refine hCC.mono ?_
            rintro e w5 ⟨-, he, hg5⟩
            obtain rfl := he c hS
            unfold pan
            exact ⟨rfl, HEND.out w5 hg5⟩
        | ok y =>
          obtain ⟨d, r⟩ := y
          have hlr := HWL.out d r hS
          have hGO := HAGO.out hp d r hS
          have hNO := HAN.out hp d r hS
          have HLR := Lib.hid hlr
          have HGO := Lib.hid hGO
          have HNO := Lib.hid hNO
          clear hlr hGO hNO hp HAP HAE HAN HAGO HWL
          go_upto_region 4 with (fail)
          have hgd : w.grownBy w3.drew (some g) := ⟨hgr3.os, hgr3.tape, hgr3.output, hgr3.size, hgr3.block⟩
          have hCC := hC w3.drew hB3 (HE.out _ hgd)
          have hO3d : Wds w.heap.size (.slice va acc.length vc) acc w3.drew := hO3.below ⟨rfl, rfl, rfl, Nat.le_refl _, fun _ _ => rfl⟩
          have hf : ∀ (w5 : World) (pv : Value) (s5 : ByteArray), Strs w3.drew.heap.size pv d.path w5 → Rd g s5 (.slice va acc.length vc) w5 → w3.drew.grownBy w5 (some g) →
              ∃ pa pc, pv = .slice pa d.path.length pc ∧ w5.cell? ⟨g, 1, none⟩ = some (.slice va acc.length vc) ∧ (∀ o, (w5.alloc o).cell? ⟨g, 1, none⟩ = some (.slice va acc.length vc)) ∧ (∀ o, Rd g s5 (.slice va acc.length vc) (w5.alloc o)) ∧ (∀ o, Wds w.heap.size (.slice va acc.length vc) acc (w5.alloc o)) ∧ (∀ o, Strs w.heap.size pv d.path (w5.alloc o)) ∧ (∀ o, w.grownBy (w5.alloc o) (some g)) ∧ (∀ o, w.heap.size ≤ (w5.alloc o).heap.size) := by
            intro w5 pv s5 hP hR hG
            obtain ⟨pa, pc, rfl⟩ := hP.slice
            have hba := fun o => (Below.refl _ w5).alloc (Nat.le_refl _) o
            have hRa : ∀ o, Rd g s5 (.slice va acc.length vc) (w5.alloc o) := fun o => hR.below (hba o)
            have hz5 : w.heap.size ≤ w5.heap.size := Nat.le_trans hz3 hG.size
            exact ⟨pa, pc, rfl, hR.cell 1 _ rfl, fun o => (hRa o).cell 1 _ rfl, hRa, fun o => (hO3d.grown hG hgl).below (hba o), fun o => own_below (World.ownsRow.mono hP hz3) (hba o), fun o => (hgd.trans hG).trans (World.grownBy_alloc w5 o _), fun o => Nat.le_trans hz5 (hba o).size⟩
          have HF := Lib.hid hf
          clear hf hC
          go_cut [35] (fun v35 wx => ∃ (s5 : ByteArray) (v5 : Value), Rd g s5 v5 wx ∧ StrIs s5 r ∧ Wds w.heap.size v5 (acc ++ [d]) wx ∧ w.grownBy wx (some g))
          case first =>
            go_region_law (first | (go_simp; go_at_call 112; refine hCC.mono ?_; rintro e w5 ⟨hok, -, hg5⟩; obtain ⟨pv, s5, rfl, hP5, hs5, hB5⟩ := hok d r hS; obtain ⟨pa, pc, rfl, c5, c5', hRa, hWa, hPa, hGa, hZa⟩ := HF.out w5 pv s5 hP5 hB5 hg5; unfold wdV; clear hok) | (refine step_appWord w.heap.size rfl (.tmp 31) (.tmp 34) rfl (.slice va acc.length vc) acc d (.slice pa d.path.length pc) w5.heap.size _ (0, 0) ?hcs rfl 1 rfl rfl (heap_new w5 _) (hWa _) (hPa _) (hZa _) hal ?_; (case hcs => rfl); intro sa sc w6 hO6 hg6; have hB6 := Blk.grown (hRa _) hg6 hne; have f6 := hB6.free 1; have c6 := hB6.cell 1 _ rfl; have hgr6 := wds_more (hGa _) (hWa _) (Nat.le_refl _) hg6))
            all_goals go_wp2_with fail
            all_goals go_meet
            all_goals refine ⟨s5, _, hB6.set 1 _, hs5, ?_, hgr6.trans (grownBy_set _ g 1 _)⟩
            all_goals exact hO6.grown (grownBy_set w6 g 1 (.slice sa (acc.length + 1) sc)) hgl
          case rest =>
          obtain ⟨s5, v5, hB5, hs5, hO5, hg5⟩ := hcut
          clear hCC hO3 hO3d HF hB3 c0 c1 hgd hS
          have c0 := hB5.cell 0 _ rfl
          obtain rfl : s5.data.toList = r := hs5
          have hs5 : StrIs s5 s5.data.toList := rfl
          by_cases h0 : s5.size = 0
          · have h1 := empty_test h0
            have he : ends s5.data.toList = true := by rw [nil_of_size h0]; rfl
            have HA := Lib.hid (HGO.out he)
            clear he HGO HNO
            go_wp2_with (go_at_call 113; refine (fail_ok _ _).mono ?_; rintro e w9 ⟨rfl, rfl⟩)
            go_roundg n
            case measure => omega
            case rel => exact ⟨acc ++ [d], s5, s5.data.toList, v5, by have h5 := HLG.out; have h6 := HTL.out; have h7 := HLR.out; omega, by have := HAG.out; simp only [List.length_append, List.length_cons, List.length_nil]; omega, hs5, hB5, hO5, hg5, HA.out⟩
          · have h1 := nonempty_test h0
            have hn0 : 0 < s5.size := by omega
            have hen : ends s5.data.toList = ((s5[0]'hn0).toNat == 124 || blk (s5[0]'hn0).toNat) := by
              have := getD_byte s5 0 hn0
              unfold ends
              rw [← this]
              cases hd : s5.data.toList with
              | nil => exact absurd (congrArg List.length hd) (by rw [size_list]; exact h0)
              | cons x y => rfl
            obtain ⟨b, hb⟩ : ∃ b : UInt8, b = s5[0]'hn0 := ⟨_, rfl⟩
            have hbt : ∀ h', ((s5[0]'h').toNat : Nat) = b.toNat := fun h' => by rw [hb]
            rw [← hb] at hen
            have hlt := b.toNat_lt
            clear hb
            generalize b.toNat = c at *
            by_cases h124 : c = 124
            · have hcb : ((c : Int) == 124) = true := beq_iff_eq.2 (by omega)
              have he : ends s5.data.toList = true := by rw [hen, show (c == 124) = true from beq_iff_eq.2 h124]; rfl
              have HA := Lib.hid (HGO.out he)
              clear he HGO HNO hen h124
              go_wp2_with (go_at_call 113; refine (fail_ok _ _).mono ?_; rintro e w9 ⟨rfl, rfl⟩)
              go_roundg n
              case measure => omega
              case rel => exact ⟨acc ++ [d], s5, s5.data.toList, v5, by have h5 := HLG.out; have h6 := HTL.out; have h7 := HLR.out; omega, by have := HAG.out; simp only [List.length_append, List.length_cons, List.length_nil]; omega, hs5, hB5, hO5, hg5, HA.out⟩
            · have hcb : ((c : Int) == 124) = false := beq_eq_false_iff_ne.2 (by omega)
              rw [show (c == 124) = false from beq_eq_false_iff_ne.2 h124, Bool.false_or] at hen
              cases hbk : blk c with
              | true =>
                rw [hbk] at hen
                have HA := Lib.hid (HGO.out hen)
                clear hen HGO HNO h124
                go_wp2_with (first | (go_at_call 107; refine (blank_calls c _ hlt).mono ?_; rw [hbk]; rintro e w9 ⟨rfl, rfl⟩) | (go_at_call 113; refine (fail_ok _ _).mono ?_; rintro e w9 ⟨rfl, rfl⟩))
                go_roundg n
                case measure => omega
                case rel => exact ⟨acc ++ [d], s5, s5.data.toList, v5, by have h5 := HLG.out; have h6 := HTL.out; have h7 := HLR.out; omega, by have := HAG.out; simp only [List.length_append, List.length_cons, List.length_nil]; omega, hs5, hB5, hO5, hg5, HA.out⟩
              | false =>
                rw [hbk] at hen
                have HTT := Lib.hid (HNO.out hen)
                clear hen HGO HNO h124
                go_wp2_with (first | (go_at_call 107; refine (blank_calls c _ hlt).mono ?_; rw [hbk]; rintro e w9 ⟨rfl, rfl⟩) | (go_at_call 113; refine (fail_no 1400 _).mono ?_; unfold pan; rintro e w9 ⟨rfl, rfl⟩))
                refine ⟨rfl, fun ds h => ?_, fun c' h => ?_, hg5⟩
                · rw [HTT.out] at h
                  cases h
                · rw [HTT.out] at h
                  cases h
                  rfl
end Go.Proofs.YtbcddlheikdlkaaGreatDoor.S
/-
  THE WALK of package words' Words: its deferred closure recovers.
-/
set_option linter.unusedVariables false
set_option linter.unusedSimpArgs false
namespace Go.Proofs.YtbcddlheikdlkaaGreatDoor.S
open Go.RowKit

theorem wassert_nil (W : World) : (Instr.typeAssert .nilIface 20 23 true).run Tryz.prog W = .ok (.tuple #[.int .i64 0, .bool false]) W := by kernel_rfl
theorem wassert_yes (n : Int) (W : World) : (Instr.typeAssert (.iface 23 (.int .i64 n)) 20 23 true).run Tryz.prog W = .ok (.tuple #[.int .i64 n, .bool true]) W := by kernel_rfl
theorem wcatch_idle (p q : Addr) (w : World) :
    CallsD Tryz.prog 84 #[.pointer (some p), .pointer (some q)] .returning w fun e u' w' => e = .returned (.tuple #[]) ∧ u' = .returning ∧ w = w' := by
  refine callsD_of_wpS Tryz.func84 rfl fun c₀ cs hu => ?_
  apply wpS_seq
  apply wpS_region
  simp [wpOpsS, go_sem, recoverD, hu, Tryz.ntmps84, Exit.thenS, wassert_nil, wassert_yes, List.replicate]
  apply wpS_seq
  apply wpS_region
  simp [wpOpsS, go_sem, Exit.thenS]
  refine wpS_cond (t := false) (by simp [Act.eval, Array.replicate]) ?_
  simp only [Bool.false_eq_true, if_false]
  refine wpS_of_wp (wp_skip ?_)
  cases c₀
  simp_all [bodyPostS, results, Tryz.results84]
theorem wcatch_panicking (p q : Addr) (c : Nat) (w : World) (v0 v1 : Value) (hp : w.cell? p = some v0) (hq : w.cell? q = some v1) (hpz : w.frozen? p = false) (hqz : w.frozen? q = false) (hpq : p ≠ q) :
    CallsD Tryz.prog 84 #[.pointer (some p), .pointer (some q)] (.panicking [{ v := .iface 23 (.int .i64 c), recovered := false }]) w fun e u' w' => e = .returned (.tuple #[]) ∧ u' = .panicking [{ v := .iface 23 (.int .i64 c), recovered := true }] ∧ w' = (w.setCell p (.slice none 0 0)).setCell q (.int .i64 c) := by
  refine callsD_of_wpS Tryz.func84 rfl fun c₀ cs hu => ?_
  apply wpS_seq
  apply wpS_region
  simp [wpOpsS, go_sem, recoverD, hu, Tryz.ntmps84, Exit.thenS, wassert_nil, wassert_yes, List.replicate]
  apply wpS_seq
  apply wpS_region
  simp [wpOpsS, go_sem, Exit.thenS]
  refine wpS_cond (t := true) (by simp [Act.eval, Array.replicate]) ?_
  simp only [if_true]
  apply wpS_region
  simp [wpOpsS, go_sem, hp, hq, hpz, hqz, hpq, bodyPostS, results, Tryz.results84]
theorem Wds.mono {base base' : Nat} {v : Value} {ds : List Wd} {w : World} (h : Wds base v ds w) (hb : base' ≤ base) : Wds base' v ds w :=
  let ⟨zs, hz, hr, hp⟩ := h
  ⟨zs, hz, World.ownsRow.mono hr hb, fun z hz => World.ownsRow.mono (hp z hz) hb⟩
theorem EnvAt.mono {B B' : Nat} {w : World} (h : EnvAt B w) (hb : B ≤ B') : EnvAt B' w := ⟨h.env, Nat.lt_of_lt_of_le h.b0 hb, Nat.lt_of_lt_of_le h.b1 hb, Nat.lt_of_lt_of_le h.b2 hb⟩
theorem wordsL_ok {l : List UInt8} {ds : List Wd} (h : allF (l.length + 1) l = .ok ds) : wordsL l = (ds, 0) := by unfold wordsL; rw [h]
theorem wordsL_err {l : List UInt8} {c : Nat} (h : allF (l.length + 1) l = .error c) : wordsL l = ([], c) := by unfold wordsL; rw [h]
set_option maxRecDepth 100000 in
set_option maxHeartbeats 4000000 in
theorem words_calls (s : ByteArray) (w : World) (hE : Env w) (hs : s.size ≤ 1073741824) :
    Calls Tryz.prog 50 #[.string s] w fun e w' => ∃ v ds n, e = .returned (.tuple #[v, .int .i64 (n : Nat)]) ∧ Wds w.heap.size v ds w' ∧ Below w.heap.size w w' ∧ wordsL s.data.toList = (ds, n) := by
  have hmf : ∀ (fn : Fn) (first cap : Array Value) (w : World), (Instr.makeFunc fn first cap).run Tryz.prog w = .ok (.func fn first cap) w := fun _ _ _ _ => rfl
  go_enter_defers Tryz.func50, Tryz.ntmps50
  go_wp2_with fail
  have hA1 := Blk.new w [.slice none 0 0] 108
  have hb1 : Below w.heap.size w (w.alloc (.cells #[.slice none 0 0] 108)) := (Below.refl _ w).alloc (Nat.le_refl _) _
  have hz1 : (w.alloc (.cells #[.slice none 0 0] 108)).heap.size = w.heap.size + 1 := by simp
  change Blk w.heap.size 108 [.slice none 0 0] (w.alloc (.cells #[.slice none 0 0] 108)) at hA1
  generalize w.alloc (.cells #[.slice none 0 0] 108) = w1 at *
  have hB2 := Blk.new w1 [.int .i64 0] 23
  have hb2 : Below w1.heap.size w1 (w1.alloc (.cells #[.int .i64 0] 23)) := (Below.refl _ w1).alloc (Nat.le_refl _) _
  have hz2 : (w1.alloc (.cells #[.int .i64 0] 23)).heap.size = w1.heap.size + 1 := by simp
  change Blk w1.heap.size 23 [.int .i64 0] (w1.alloc (.cells #[.int .i64 0] 23)) at hB2
  have hA2 := hA1.below hb2
  generalize w1.alloc (.cells #[.int .i64 0] 23) = w2 at *
  have hR3 := Blk.new w2 [.string s, .slice none 0 0] 140
  have hb3 : Below w2.heap.size w2 (w2.alloc (.cells #[.string s, .slice none 0 0] 140)) := (Below.refl _ w2).alloc (Nat.le_refl _) _
  change Blk w2.heap.size 140 [.string s, .slice none 0 0] (w2.alloc (.cells #[.string s, .slice none 0 0] 140)) at hR3
  have hA3 := hA2.below hb3
  have hB3 := hB2.below hb3
  generalize w2.alloc (.cells #[.string s, .slice none 0 0] 140) = w3 at *
  obtain ⟨g, hg⟩ : ∃ g, g = w.heap.size + 1 + 1 := ⟨_, rfl⟩
  rw [hz2, hz1, ← hg] at hR3
  rw [hz1] at hB3
  rw [← hg]
  have hbA := (hb1.trans (hb2.mono (by omega))).trans (hb3.mono (by omega))
  have hE3 : EnvAt g w3 := (hE.at.below hbA).mono (by omega)
  have hzg : g < w3.heap.size := hR3.lt
  clear hA1 hA2 hB2 hb1 hb2 hb3 hz1 hz2
  refine (wall_calls g s s.data.toList w3 hE3 hR3 rfl hs).mono ?_
  rintro e w4 ⟨hok, her, hg4⟩
  have hA4 := Blk.grown hA3 hg4 (by simp; omega)
  have hB4 := Blk.grown hB3 hg4 (by simp; omega)
  have hbB := hbA.trans (Below.grow1 hg4 (by omega) (by omega : w.heap.size ≤ g))
  have a0 := hA4.cell 0 _ rfl
  have a1 := hA4.free 0
  have b0 := hB4.cell 0 _ rfl
  have b1 := hB4.free 0
  have hne : (⟨w.heap.size, 0, none⟩ : Addr) ≠ ⟨w.heap.size + 1, 0, none⟩ := by simp
  cases hr : allF (s.data.toList.length + 1) s.data.toList with
  | error c =>
    obtain rfl := her c hr
    have HW := Lib.hid (wordsL_err hr)
    clear hr hok her
    unfold pan
    go_wp2
    refine leaves_cons (f := 84) (args := #[.pointer (some ⟨w.heap.size, 0, none⟩), .pointer (some ⟨w.heap.size + 1, 0, none⟩)]) (by simp) (by simp [go_sem]) ?_
    refine (wcatch_panicking ⟨w.heap.size, 0, none⟩ ⟨w.heap.size + 1, 0, none⟩ c _ _ _ a0 b0 a1 b1 hne).mono ?_
    rintro e u' w'' ⟨rfl, rfl, rfl⟩
    have hbC := (hbB.trans (Below.grow1 (grownBy_set w4 w.heap.size 0 (.slice none 0 0)) hbB.size (Nat.le_refl _))).trans (Below.grow1 (grownBy_set _ (w.heap.size + 1) 0 (.int .i64 c)) (by simp [World.setCell]; exact hbB.size) (Nat.le_succ _))
    simp [Leaves, settle, results, Tryz.results50, go_sem, a0, a1, b0, b1]
    exact ⟨_, [], c, ⟨rfl, rfl⟩, wds_nil _ _, hbC, HW.out⟩
  | ok ds =>
    obtain ⟨s', v', rfl, hR4, hO4⟩ := hok ds hr
    have HW := Lib.hid (wordsL_ok hr)
    obtain ⟨va, vc, rfl⟩ := hO4.slice
    obtain ⟨nl, hnl⟩ : ∃ nl, nl = ds.length := ⟨_, rfl⟩
    rw [← hnl] at hO4 hR4
    have c1 := hR4.cell 1 _ rfl
    have hO5 : Wds w3.heap.size (.slice va nl vc) ds (w4.setCell ⟨w.heap.size, 0, none⟩ (.slice va nl vc)) := hO4.grown (grownBy_set w4 w.heap.size 0 _) (by omega)
    have hO6 := hO5.grown (grownBy_set _ (w.heap.size + 1) 0 (.int .i64 0)) (by omega)
    have hO7 : Wds w.heap.size (.slice va nl vc) ds _ := hO6.mono (by omega)
    have hbC := (hbB.trans (Below.grow1 (grownBy_set w4 w.heap.size 0 (.slice va nl vc)) hbB.size (Nat.le_refl _))).trans (Below.grow1 (grownBy_set _ (w.heap.size + 1) 0 (.int .i64 0)) (by simp [World.setCell]; exact hbB.size) (Nat.le_succ _))
    subst hg
    clear hok her hr hnl hO4 hO5 hO6
    go_wp2
    refine leaves_cons (f := 84) (args := #[.pointer (some ⟨w.heap.size, 0, none⟩), .pointer (some ⟨w.heap.size + 1, 0, none⟩)]) (by simp) (by simp [go_sem]) ?_
    refine (wcatch_idle ⟨w.heap.size, 0, none⟩ ⟨w.heap.size + 1, 0, none⟩ _).mono ?_
    rintro e u' w'' ⟨rfl, rfl, rfl⟩
    simp [Leaves, settle, results, Tryz.results50, go_sem, a0, a1, b0, b1]
    exact ⟨_, ds, 0, ⟨rfl, rfl⟩, hO7, hbC, HW.out⟩
end Go.Proofs.YtbcddlheikdlkaaGreatDoor.S
/-
  THE WALKS of SameTexts, SameWords where the rows are alike.
-/
set_option linter.unusedVariables false
set_option linter.unusedSimpArgs false
namespace Go.Proofs.YtbcddlheikdlkaaGreatDoor.S
open Go.RowKit

theorem stflat_get : ∀ (xs : List (List UInt8)) (k : Nat) (h : k < xs.length), (xs.flatMap stCells)[k]? = some (.string ⟨xs[k].toArray⟩)
  | x :: xs, 0, _ => rfl
  | x :: xs, k + 1, h => by
    rw [List.flatMap_cons]
    show ([_] ++ xs.flatMap stCells)[k + 1]? = _
    rw [List.singleton_append, List.getElem?_cons_succ, stflat_get xs k (by simpa using h)]
    rfl
theorem Strs.form {base : Nat} {v : Value} {xs : List (List UInt8)} {w : World} (h : Strs base v xs w) (hn : 0 < xs.length) : ∃ b cap, v = .slice (some ⟨b, 0, none⟩) xs.length cap := by
  rcases h.2 with ⟨rfl, h0⟩ | ⟨g, cap, cur, rfl, hb, _⟩
  · omega
  · exact ⟨g, cap, rfl⟩
theorem Strs.at {base b cap : Nat} {xs : List (List UInt8)} {w : World} (h : Strs base (.slice (some ⟨b, 0, none⟩) xs.length cap) xs w) (k : Nat) (hk : k < xs.length) : w.cell? ⟨b, k, none⟩ = some (.string ⟨xs[k].toArray⟩) :=
  (World.ownsRow.cellAt h k (by omega)).trans (stflat_get xs k hk)
theorem Strs.len_le {base : Nat} {v : Value} {xs : List (List UInt8)} {w : World} (h : Strs base v xs w) : xs.length ≤ 9223372036854775807 := by
  rcases h.2 with ⟨rfl, h0⟩ | ⟨g, cap, cur, rfl, hb, _, hc, hm, _⟩
  · omega
  · simp only [maxLen] at hm; omega
theorem Strs.drewN {base : Nat} {v : Value} {xs : List (List UInt8)} {w : World} (h : Strs base v xs w) (n : Nat) : Strs base v xs (w.drewN n) := own_below h (Below.drewN (Below.refl _ _) n)
set_option maxHeartbeats 4000000 in
theorem sameTexts_q (b1 b2 : Nat) (v u : Value) (xs : List (List UInt8)) (w : World) (hP : Strs b1 v xs w) (hQ : Strs b2 u xs w) :
    Calls Tryz.prog 65 #[v, u] w fun e w' => e = .returned (.bool true) ∧ ∃ m, w' = w.drewN m := by
  obtain ⟨sa, sc, rfl⟩ := hP.slice
  obtain ⟨ra, rc, rfl⟩ := hQ.slice
  have hpl := hP.len_le
  go_enter Tryz.func65, Tryz.ntmps65
  go_wp2
  go_loopg [5] xs.length (fun gk v5 wr => ∃ k m : Nat, k + gk = xs.length ∧ v5 = .int .i64 k ∧ wr = w.drewN m)
  case atStart => exact ⟨0, 0, by omega, rfl, rfl⟩
  case round =>
    obtain ⟨k, m, hkg, rfl, hwr⟩ := hrel
    have hPr : Strs b1 (.slice sa xs.length sc) xs wr := by rw [hwr]; exact hP.drewN m
    have hQr : Strs b2 (.slice ra xs.length rc) xs wr := by rw [hwr]; exact hQ.drewN m
    have HWR := Lib.hid hwr
    clear hwr
    have HKG := Lib.hid hkg
    have hkl : k ≤ xs.length := by omega
    clear hkg
    by_cases hk : k < xs.length
    · obtain ⟨b, cap, hv⟩ := hP.form (by omega)
      obtain ⟨rfl, -, rfl⟩ := Value.slice.inj hv
      obtain ⟨b', cap', hv'⟩ := hQ.form (by omega)
      obtain ⟨rfl, -, rfl⟩ := Value.slice.inj hv'
      have d0 := hPr.at k hk
      have e0 := hQr.at k hk
      have hb : decide ((k : Int) < (xs.length : Int)) = true := decide_eq_true (by omega)
      generalize (⟨xs[k].toArray⟩ : ByteArray) = x at *
      clear hv hv'
      go_upto_region 6 with (fail)
      go_cut [25] (fun v25 wx => v25 = .bool false ∧ ∃ m, wx = w.drewN m)
      case first =>
        go_quiet (fail)
        go_wp2_with fail
        go_meet
        exact ⟨by simp, m + nq, by rw [HWR.out, World.drewN_drewN]⟩
      case rest =>
      obtain ⟨rfl, m', rfl⟩ := hcut
      clear d0 e0
      go_wp2
      go_roundg (gk - 1)
      case measure => have := HKG.out; omega
      case rel => exact ⟨k + 1, m', by have := HKG.out; omega, by go_num, rfl⟩
    · have hb : decide ((k : Int) < (xs.length : Int)) = false := decide_eq_false (by omega)
      go_wp2
      go_ret
      exact ⟨rfl, m, HWR.out⟩
theorem zsflat_get : ∀ (zs : List (Wd × Value)) (k : Nat) (h : k < zs.length) (r : Nat), r < 4 → (zsCells zs)[k * 4 + r]? = (wdCells zs[k].1 zs[k].2)[r]?
  | z :: zs, 0, _, r, hr => by
    unfold zsCells
    rw [List.flatMap_cons, Nat.zero_mul, Nat.zero_add, List.getElem?_append_left (by simpa [wdCells] using hr)]
    rfl
  | z :: zs, k + 1, h, r, hr => by
    have ih := zsflat_get zs k (by simpa using h) r hr
    unfold zsCells at *
    rw [List.flatMap_cons, List.getElem?_append_right (by simp [wdCells]; omega)]
    have e : (k + 1) * 4 + r - (wdCells z.1 z.2).length = k * 4 + r := by simp [wdCells]; omega
    rw [e, ih]
    rfl
/-- a row of words at one of its words -/
theorem Wds.at {base : Nat} {v : Value} {ds : List Wd} {w : World} (h : Wds base v ds w) (k : Nat) (hk : k < ds.length) : ∃ b cap pv, v = .slice (some ⟨b, 0, none⟩) ds.length cap ∧
    w.cell? ⟨b, k * 4, none⟩ = some (.int .i64 ds[k].kind) ∧ w.cell? ⟨b, k * 4 + 1, none⟩ = some (.string ⟨ds[k].text.toArray⟩) ∧ w.cell? ⟨b, k * 4 + 2, none⟩ = some pv ∧ w.cell? ⟨b, k * 4 + 3, none⟩ = some (.int .i64 ds[k].num) ∧ Strs base pv ds[k].path w := by
  obtain ⟨zs, rfl, hr, hp⟩ := h
  rw [List.length_map] at hk
  rcases hr.2 with ⟨rfl, h0⟩ | ⟨g, cap, cur, rfl, hb, hh, hc, hm, hcs, htk⟩
  · omega
  · have hr' : w.ownsRow base 112 4 (.slice (some ⟨g, 0, none⟩) zs.length cap) zs.length (zsCells zs) := hr
    have e : (zs.map Prod.fst)[k]'(by rw [List.length_map]; exact hk) = zs[k].1 := by simp
    simp only [e]
    refine ⟨g, cap, zs[k].2, by rw [List.length_map], ?_, ?_, ?_, ?_, hp _ (List.getElem_mem hk)⟩
    · exact (World.ownsRow.cellAt hr' (k * 4 + 0) (by omega)).trans (zsflat_get zs k hk 0 (by omega))
    · exact (World.ownsRow.cellAt hr' (k * 4 + 1) (by omega)).trans (zsflat_get zs k hk 1 (by omega))
    · exact (World.ownsRow.cellAt hr' (k * 4 + 2) (by omega)).trans (zsflat_get zs k hk 2 (by omega))
    · exact (World.ownsRow.cellAt hr' (k * 4 + 3) (by omega)).trans (zsflat_get zs k hk 3 (by omega))
theorem Wds.len_le {base : Nat} {v : Value} {ds : List Wd} {w : World} (h : Wds base v ds w) : ds.length ≤ 9223372036854775807 := by
  obtain ⟨zs, rfl, hr, hp⟩ := h
  rw [List.length_map]
  rcases hr.2 with ⟨rfl, h0⟩ | ⟨g, cap, cur, rfl, hb, _, hc, hm, _⟩
  · omega
  · simp only [maxLen] at hm; omega
theorem Wds.drewN {base : Nat} {v : Value} {ds : List Wd} {w : World} (h : Wds base v ds w) (n : Nat) : Wds base v ds (w.drewN n) := h.below (Below.drewN (Below.refl _ _) n)
end Go.Proofs.YtbcddlheikdlkaaGreatDoor.S
