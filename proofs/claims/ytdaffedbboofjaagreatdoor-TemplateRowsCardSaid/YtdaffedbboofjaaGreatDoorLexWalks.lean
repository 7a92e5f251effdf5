/-
  THE WALKS of package lex, its cursor: Blank, rest, skip, mark.
-/
import Derived.Test.YtdaffedbboofjaaGreatDoorUtfWalks
import Derived.Test.YtdaffedbboofjaaGreatDoorByteWalks
import Derived.Test.YtdaffedbboofjaaGreatDoorRefNorm
import Derived.Test.YtdaffedbboofjaaGreatDoorState
import Derived.Test.YtdaffedbboofjaaGreatDoorPlainL2
import Derived.RegionTactic
import Derived.BigRegion
import Derived.BigQuiet
import Derived.StillTailTactics
import Derived.Deep.QuietTactic
import Derived.BigQuiet
set_option linter.unusedVariables false
set_option linter.unusedSimpArgs false
namespace Go.Proofs.YtdaffedbboofjaaGreatDoor.S
open Go.RowKit

theorem index_blank (c : Nat) (h : c < 256) : decide (0 ≤ Lib.indexByte [32, 9, 10] (c : Int).toNat.toUInt8) = blk c := by
  have e := (by decide +kernel : ∀ c : Fin 256, decide (0 ≤ Lib.indexByte [32, 9, 10] (c.val : Int).toNat.toUInt8) = blk c.val)
  exact e ⟨c, h⟩
theorem blank_calls (c : Nat) (w : World) (h : c < 256) :
    Calls Tryz.prog 111 #[.int .u8 c] w fun e w' => e = .returned (.bool (blk c)) ∧ w = w' := by
  have hb := index_blank c h
  go_enter Tryz.func111, Tryz.ntmps111
  go_wp2_with fail
  refine (Tryz.strings_IndexByte _ _ _).mono ?_
  rintro e w1 ⟨rfl, hw⟩
  subst hw
  go_wp2
  go_ret
  exact ⟨ret_bool (by simpa using hb), rfl⟩

theorem blank_q (c : Nat) (w : World) (h : c < 256) :
    Calls Tryz.prog 111 #[.int .u8 c] w fun e w' => e = .returned (.bool (blk c)) ∧ w' = w := (blank_calls c w h).mono fun _ _ ⟨he, hw⟩ => ⟨he, hw.symm⟩

/-- the cursor's block -/
abbrev CurB (g : Nat) (s : ByteArray) (i : Nat) (tr : Bool) (v : Value) (w : World) : Prop := Blk g 110 [.string s, .int .i64 i, .bool tr, v] w

theorem _root_.Go.Proofs.YtdaffedbboofjaaGreatDoor.S.Blk.goto {g : Nat} {s : ByteArray} {i : Nat} {tr : Bool} {v : Value} {w : World} (h : CurB g s i tr v w) (x : Int) (j : Nat) (hx : x = j) : CurB g s j tr v (w.setCell ⟨g, 1, none⟩ (.int .i64 x)) := by
  subst hx
  exact h.set 1 _
theorem _root_.Go.Proofs.YtdaffedbboofjaaGreatDoor.S.Blk.untrim {g : Nat} {s : ByteArray} {i : Nat} {tr : Bool} {v : Value} {w : World} (h : CurB g s i tr v w) : CurB g s i false v (w.setCell ⟨g, 2, none⟩ (.bool false)) := h.set 2 _
theorem _root_.Go.Proofs.YtdaffedbboofjaaGreatDoor.S.Blk.trims {g : Nat} {s : ByteArray} {i : Nat} {tr : Bool} {v : Value} {w : World} (h : CurB g s i tr v w) : CurB g s i true v (w.setCell ⟨g, 2, none⟩ (.bool true)) := h.set 2 _
theorem _root_.Go.Proofs.YtdaffedbboofjaaGreatDoor.S.Blk.puts {g : Nat} {s : ByteArray} {i : Nat} {tr : Bool} {v : Value} {w : World} (h : CurB g s i tr v w) (v' : Value) : CurB g s i tr v' (w.setCell ⟨g, 3, none⟩ v') := h.set 3 _
theorem rest_q (g : Nat) (s : ByteArray) (i : Nat) (tr : Bool) (v : Value) (w : World) (hB : CurB g s i tr v w) (hi : i ≤ s.size) (hs : s.size ≤ 4611686018427387904) :
    Calls Tryz.prog 82 #[.pointer (some ⟨g, 0, none⟩)] w fun e w' => e = .returned (.string (s.extract i s.size)) ∧ ∃ m, w' = w.drewN m := by
  have c0 := hB.cell 0 _ rfl
  have c1 := hB.cell 1 _ rfl
  have hsl := fun W => run_slice_string (P := Tryz.prog) (w := W) 9 s .i64 .i64 (i : Int) (s.size : Int) Tryz.underlying9 (by omega) (by omega) (by omega)
  simp only [Int.toNat_natCast] at hsl
  go_enter Tryz.func82, Tryz.ntmps82
  go_wp2
  go_region
  go_wp2
  go_ret
  exact ⟨rfl, 1, rfl⟩
theorem extract_end (s : ByteArray) (i : Nat) : StrIs (s.extract i s.size) (s.data.toList.drop i) := by
  show _ = _
  rw [Lib.extract_data, List.take_of_length_le]
  simp
theorem Below.drewN {B : Nat} {a w : World} (h : Below B a w) (n : Nat) : Below B a (w.drewN n) := ⟨h.os, h.tape, h.output, h.size, h.block⟩
theorem rest_calls (g : Nat) (s : ByteArray) (i : Nat) (tr : Bool) (v : Value) (w : World) (hB : CurB g s i tr v w) (hi : i ≤ s.size) (hs : s.size ≤ 4611686018427387904) :
    Calls Tryz.prog 82 #[.pointer (some ⟨g, 0, none⟩)] w fun e w' => ∃ r : ByteArray, e = .returned (.string r) ∧ StrIs r (s.data.toList.drop i) ∧ Below w.heap.size w w' :=
  (rest_q g s i tr v w hB hi hs).mono fun _ _ ⟨he, m, hm⟩ => ⟨_, he, extract_end s i, hm ▸ Below.drewN (Below.refl _ _) m⟩

theorem grownBy_drewN (w : World) (row : Option Nat) (n : Nat) : w.grownBy (w.drewN n) row := ⟨rfl, rfl, rfl, Nat.le_refl _, fun _ _ _ => rfl⟩
theorem grownBy_setd (w : World) (g j : Nat) (x : Value) (n : Nat) : w.grownBy ((w.drewN n).setCell ⟨g, j, none⟩ x) (some g) := (grownBy_drewN w _ n).trans (grownBy_set _ g j x)

set_option maxHeartbeats 2000000 in
theorem skip_calls (g : Nat) (s : ByteArray) (i : Nat) (tr : Bool) (v : Value) (w : World) (hB : CurB g s i tr v w) (hi : i ≤ s.size) (hs : s.size ≤ 4611686018427387904) :
    Calls Tryz.prog 84 #[.pointer (some ⟨g, 0, none⟩)] w fun e w' => e = .returned (.bool (decide (0 < blkN (s.data.toList.drop i)))) ∧ CurB g s (i + blkN (s.data.toList.drop i)) tr v w' ∧ w.grownBy w' (some g) := by
  have c1 := hB.cell 1 _ rfl
  go_enter Tryz.func84, Tryz.ntmps84
  go_wp2
  clear c1
  go_loopg [] (s.size - i) (fun gk wr => ∃ j, CurB g s j tr v wr ∧ w.grownBy wr (some g) ∧ i ≤ j ∧ gk = s.size - j ∧ j ≤ s.size ∧ Hid (j + blkN (s.data.toList.drop j) = i + blkN (s.data.toList.drop i)))
  case atStart => exact ⟨i, hB, World.grownBy.refl _ _, Nat.le_refl _, rfl, hi, rfl⟩
  case round =>
    obtain ⟨j, hBj, hg, hij, hgk, hjs, hH⟩ := hrel
    have HGK := Lib.hid hgk
    clear hgk
    have c0 := hBj.cell 0 _ rfl
    have c1 := hBj.cell 1 _ rfl
    have f1 := hBj.free 1
    by_cases h : j < s.size
    · have hdc := drop_cons s j h
      obtain ⟨b, hb⟩ : ∃ b : UInt8, b = s[j]'h := ⟨_, rfl⟩
      have hbt : ∀ h', ((s[j]'h').toNat : Nat) = b.toNat := fun h' => by rw [hb]
      rw [← hb] at hdc
      have hlt := b.toNat_lt
      have hn : blkN (s.data.toList.drop j) = if blk b.toNat = true then blkN (s.data.toList.drop (j + 1)) + 1 else 0 := by rw [hdc]; rfl
      have HN := Lib.hid hn
      have HB := Lib.hid hB
      clear hn hdc hb hB
      generalize b.toNat = c at *
      have hjb : decide ((j : Int) < (s.size : Int)) = true := decide_eq_true (by omega)
      cases hbl : blk c with
      | true =>
        go_wp2_with fail
        go_quiet ((go_at_call 111; refine Calls.quiet_of_same (blank_q c _ hlt)))
        go_wp2
        go_roundg (gk - 1)
        case measure => have := HGK.out; omega
        case rel =>
          refine ⟨j + 1, hBj.set 1 (.int .i64 (j + 1 : Nat)), hg.trans (grownBy_setd wr g 1 _ nq), by omega, by have := HGK.out; omega, by omega, ?_⟩
          have e := HN.out
          rw [hbl, if_pos rfl] at e
          have := hH.out
          show _ = _
          omega
      | false =>
        go_wp2_with fail
        go_quiet ((go_at_call 111; refine Calls.quiet_of_same (blank_q c _ hlt)))
        go_wp2
        go_ret
        have e := HN.out
        rw [hbl, if_neg (by simp)] at e
        have e2 : j = i + blkN (s.data.toList.drop i) := by have := hH.out; omega
        refine ⟨ret_bool ?_, e2 ▸ hBj, hg.trans (grownBy_drewN wr _ _)⟩
        simp only [decide_eq_decide]
        omega
    · obtain rfl : j = s.size := by omega
      have hjb : decide ((s.size : Int) < (s.size : Int)) = false := decide_eq_false (by omega)
      have e : blkN (s.data.toList.drop s.size) = 0 := by rw [List.drop_eq_nil_of_le (Nat.le_of_eq (size_list s))]; rfl
      have e2 : s.size = i + blkN (s.data.toList.drop i) := by have := hH.out; omega
      have E2 := Lib.hid e2
      clear e e2
      go_wp2_with fail
      go_quiet (fail)
      go_wp2
      go_ret
      refine ⟨ret_bool ?_, E2.out ▸ hBj, hg.trans (grownBy_drewN wr _ _)⟩
      have e2 := E2.out
      simp only [decide_eq_decide]
      omega
theorem getD_byte (s : ByteArray) (i : Nat) : ∀ h : i < s.size, ((s[i]'h).toNat : Nat) = (s.data.toList.getD i 0).toNat := fun h => by rw [byte_getD s i h]
theorem markL_eq (l : List UInt8) : markL l = (decide (2 ≤ l.length) && ((l.getD 0 0).toNat == 45 && blk (l.getD 1 0).toNat)) := by
  match l with
  | [] => rfl
  | [a] => simp [markL]
  | a :: b :: r => simp [markL]

/-- how many bytes a trim mark takes -/
def markN (l : List UInt8) : Nat := if markL l = true then 1 else 0
theorem markN_eq {l : List UInt8} {m : Bool} (h : markL l = m) : markN l = if m = true then 1 else 0 := by rw [← h]; rfl

set_option maxHeartbeats 2000000 in
theorem mark_calls (g : Nat) (s : ByteArray) (i : Nat) (tr : Bool) (v : Value) (w : World) (hB : CurB g s i tr v w) (hi : i ≤ s.size) (hs : s.size ≤ 4611686018427387904) :
    Calls Tryz.prog 109 #[.pointer (some ⟨g, 0, none⟩)] w fun e w' => e = .returned (.bool (markL (s.data.toList.drop i))) ∧ CurB g s (i + markN (s.data.toList.drop i)) tr v w' ∧ w.grownBy w' (some g) := by
  go_enter Tryz.func109, Tryz.ntmps109
  go_wp2_with fail
  refine (rest_calls g s i tr v _ hB hi hs).mono ?_
  rintro e w1 ⟨r, rfl, hr, hb1⟩
  have hB1 := hB.below hb1
  have hg1 := grownBy_below (row := some g) hb1
  have hr' : r.data.toList = s.data.toList.drop i := hr
  have hme := markL_eq r.data.toList
  have hmn := fun m (h : markL r.data.toList = m) => markN_eq h
  rw [size_list] at hme
  have h0 := getD_byte r 0
  have h1 := getD_byte r 1
  rw [hr'] at hme h0 h1 hmn
  have l0 := ((s.data.toList.drop i).getD 0 0).toNat_lt
  have l1 := ((s.data.toList.drop i).getD 1 0).toNat_lt
  generalize ((s.data.toList.drop i).getD 0 0).toNat = a at *
  generalize ((s.data.toList.drop i).getD 1 0).toNat = b at *
  have c1 := hB1.cell 1 _ rfl
  have f1 := hB1.free 1
  have hrs := hr.size
  rw [List.length_drop, size_list] at hrs
  have HB := Lib.hid hB
  have HR := Lib.hid hr'
  have HRS := Lib.hid hrs
  have HM := Lib.hid hmn
  clear hB hr hr' hrs hmn
  by_cases hz : r.size < 2
  · rw [show decide (2 ≤ r.size) = false from decide_eq_false (by omega), Bool.false_and] at hme
    have hzb : decide ((r.size : Int) < 2) = true := decide_eq_true (by omega)
    have HE := Lib.hid hme
    clear hme
    go_wp2_with (go_at_call 111; refine (blank_calls b _ l1).mono ?_; rintro e w' ⟨rfl, rfl⟩)
    go_ret
    rw [HM.out _ HE.out]
    exact ⟨ret_bool HE.out.symm, hB1, hg1⟩
  · have hzb : decide ((r.size : Int) < 2) = false := decide_eq_false (by omega)
    rw [show decide (2 ≤ r.size) = true from decide_eq_true (by omega), Bool.true_and] at hme
    by_cases ha : a = 45
    · have hab : ((a : Int) == 45) = true := beq_iff_eq.2 (by omega)
      rw [show (a == 45) = true from beq_iff_eq.2 ha, Bool.true_and] at hme
      cases hbl : blk b with
      | true =>
        have HE := Lib.hid (hme.trans hbl)
        clear hme
        go_wp2_with (go_at_call 111; refine (blank_calls b _ l1).mono ?_; rintro e w' ⟨rfl, rfl⟩)
        go_ret
        rw [HM.out _ HE.out]
        exact ⟨ret_bool HE.out.symm, hB1.set 1 (.int .i64 (i + 1 : Nat)), hg1.trans (grownBy_set _ g 1 _)⟩
      | false =>
        have HE := Lib.hid (hme.trans hbl)
        clear hme
        go_wp2_with (go_at_call 111; refine (blank_calls b _ l1).mono ?_; rintro e w' ⟨rfl, rfl⟩)
        go_ret
        rw [HM.out _ HE.out]
        exact ⟨ret_bool HE.out.symm, hB1, hg1⟩
    · have hab : ((a : Int) == 45) = false := beq_eq_false_iff_ne.2 (by omega)
      rw [show (a == 45) = false from beq_eq_false_iff_ne.2 ha, Bool.false_and] at hme
      have HE := Lib.hid hme
      clear hme
      go_wp2_with (go_at_call 111; refine (blank_calls b _ l1).mono ?_; rintro e w' ⟨rfl, rfl⟩)
      go_ret
      rw [HM.out _ HE.out]
      exact ⟨ret_bool HE.out.symm, hB1, hg1⟩
end Go.Proofs.YtdaffedbboofjaaGreatDoor.S
