/-
  THE WALKS of package json's small readers: must, blanks, has, sixteens, sign, escape.
-/
import Derived.Test.YthmcacgkhpigaaaDoorPlainJ2
import Derived.Test.YthmcacgkhpigaaaDoorState
import Derived.Test.YthmcacgkhpigaaaDoorShelf
import Derived.Test.YthmcacgkhpigaaaDoorByteWalks
import Derived.Test.YthmcacgkhpigaaaDoorUtfWalks
import Derived.Test.YthmcacgkhpigaaaDoorBuilder
import Derived.Shelf.Strings.SlTrimAscii
import Derived.Laws.Runes
import Derived.WalkLawsBesides
import Derived.Deep.Onto
import Derived.Deep.RegionLaw
import Derived.StillTailTactics
import Derived.Deep.RegionWith
import Derived.Laws.Pointers
set_option linter.unusedVariables false
set_option linter.unusedSimpArgs false
namespace Go.Proofs.YthmcacgkhpigaaaDoor.S
open Go.RowKit

/-- the panic of a text that is none -/
def panJ : Ending := .panicked [{ v := .iface 58 (.agg #[]), recovered := false }]
theorem must_ok (w : World) :
    Calls Tryd.prog 33 #[.bool true] w fun e w' => e = .returned (.tuple #[]) ∧ w = w' := by
  go_enter Tryd.func33, Tryd.ntmps33
  go_wp2
  go_end0
  exact ⟨rfl, rfl⟩
theorem must_no (w : World) :
    Calls Tryd.prog 33 #[.bool false] w fun e w' => e = panJ ∧ w = w' := by
  go_enter Tryd.func33, Tryd.ntmps33
  go_wp2
  exact ⟨rfl, rfl, rfl⟩
/-- the reader's block -/
abbrev JRd (g : Nat) (s : ByteArray) (w : World) : Prop := Blk g 62 [.string s] w
theorem trimLeft_set (l : List UInt8) : Lib.trimLeftS l [32, 9, 10, 13] = blJ l := by
  unfold Lib.trimLeftS blJ
  congr 1
  funext x
  exact all_bytes (fun x => ([32, 9, 10, 13] : List UInt8).contains x = isBl x) (by decide +kernel) x
theorem jblanks_calls (g : Nat) (s : ByteArray) (l : List UInt8) (w : World) (hB : JRd g s w) (hl : StrIs s l) :
    Calls Tryd.prog 26 #[.pointer (some ⟨g, 0, none⟩)] w fun e w' => ∃ s' : ByteArray, e = .returned (.tuple #[]) ∧ StrIs s' (blJ l) ∧ JRd g s' w' ∧ w.grownBy w' (some g) := by
  have c0 := hB.cell 0 _ rfl
  have hgl := hB.lt
  obtain rfl : s.data.toList = l := hl
  go_enter Tryd.func26, Tryd.ntmps26
  go_wp2_with fail
  refine (Any.strings_TrimLeft_laid Tryd.lays161 (by kernel_rfl) s ⟨#[32, 9, 10, 13]⟩ _ (by decide) (ascii_of_all (by decide))).mono ?_
  rintro e w1 ⟨rfl, hb⟩
  rw [trimLeft_set]
  have HS := Lib.hid (show StrIs (⟨(blJ s.data.toList).toArray⟩ : ByteArray) (blJ s.data.toList) from rfl)
  generalize (⟨(blJ s.data.toList).toArray⟩ : ByteArray) = s' at *
  have hB1 := hB.below hb
  have hg1 := grownBy_below (row := some g) hb
  have f1 := hB1.free 0
  have c1 := hB1.cell 0 _ rfl
  go_wp2
  go_end0
  exact ⟨s', rfl, HS.out, hB1.set 0 _, hg1.trans (grownBy_set _ _ _ _)⟩
theorem cutJ_yes {p l : List UInt8} (h : List.isPrefixOf p l = true) : cutJ p l = l.drop p.length := if_pos h
theorem cutJ_no {p l : List UInt8} (h : List.isPrefixOf p l = false) : cutJ p l = l := if_neg (by rw [h]; simp)
theorem jhas_calls (g : Nat) (s p : ByteArray) (l : List UInt8) (w : World) (hB : JRd g s w) (hl : StrIs s l) :
    Calls Tryd.prog 34 #[.pointer (some ⟨g, 0, none⟩), .string p] w fun e w' => ∃ s' : ByteArray, e = .returned (.bool (List.isPrefixOf p.data.toList l)) ∧ StrIs s' (cutJ p.data.toList l) ∧ JRd g s' w' ∧ w.grownBy w' (some g) := by
  have c0 := hB.cell 0 _ rfl
  have f0 := hB.free 0
  obtain rfl : s.data.toList = l := hl
  go_enter Tryd.func34, Tryd.ntmps34
  go_wp2_with fail
  refine (Tryd.strings_CutPrefix s p _).mono ?_
  rintro e w1 ⟨rfl, rfl⟩
  obtain ⟨s', hs'⟩ : ∃ s' : ByteArray, s' = ⟨(Lib.trimPrefix s.data.toList p.data.toList).toArray⟩ := ⟨_, rfl⟩
  rw [← hs']
  have HS := Lib.hid (show StrIs s' (cutJ p.data.toList s.data.toList) by rw [hs']; rfl)
  clear hs'
  have hp : Lib.hasPrefix s.data.toList p.data.toList = List.isPrefixOf p.data.toList s.data.toList := rfl
  obtain ⟨B, hBB⟩ : ∃ B, B = List.isPrefixOf p.data.toList s.data.toList := ⟨_, rfl⟩
  rw [hp, ← hBB]
  have HBB := Lib.hid hBB
  clear hp hBB
  go_wp2
  go_ret
  exact ⟨s', by rw [← HBB.out]; rfl, HS.out, hB.set 0 _, grownBy_set _ _ _ _⟩
theorem jslice_to (s : ByteArray) (x : Int) (n : Nat) (hx : x = n) (hn : n ≤ s.size) (W : World) :
    (Instr.slice 9 (.string s) none (some (.int .i64 x)) none).run Tryd.prog W = .ok (.string (s.extract 0 n)) W := by
  subst hx
  have h := run_slice_string_h (P := Tryd.prog) (t := 9) (s := s) (w := W) Tryd.underlying9 .i64 (n : Int) (by omega) (by omega)
  simpa using h
theorem jslice_from (s : ByteArray) (x : Int) (n : Nat) (hx : x = n) (hn : n ≤ s.size) (W : World) :
    (Instr.slice 9 (.string s) (some (.int .i64 x)) none none).run Tryd.prog W = .ok (.string (s.extract n s.size)) W := by
  subst hx
  have h := run_slice_string_l (P := Tryd.prog) (t := 9) (s := s) (w := W) Tryd.underlying9 .i64 (n : Int) (by omega) (by omega)
  simpa using h
theorem jext_from (s : ByteArray) (n : Nat) : StrIs (s.extract n s.size) (s.data.toList.drop n) := by show _ = _; rw [Lib.extract_data]; simp [List.take_of_length_le]
theorem jext_to (s : ByteArray) (n : Nat) : StrIs (s.extract 0 n) (s.data.toList.take n) := by show _ = _; rw [Lib.extract_data]; simp
/-- where a digit of sixteen stands; -1: it is none -/
def hexI (b : UInt8) : Int := match hexV b with
  | some d => (d : Int)
  | none => -1
theorem hex_at (b : UInt8) : Lib.indexByte [48, 49, 50, 51, 52, 53, 54, 55, 56, 57, 97, 98, 99, 100, 101, 102] (lowI b.toNat).toNat.toUInt8 = hexI b :=
  all_bytes (fun b => Lib.indexByte [48, 49, 50, 51, 52, 53, 54, 55, 56, 57, 97, 98, 99, 100, 101, 102] (lowI b.toNat).toNat.toUInt8 = hexI b) (by decide +kernel) b
theorem hexV_lt {b : UInt8} {d : Nat} (h : hexV b = some d) : d < 16 := by
  unfold hexV at h
  split at h
  · simp at h; omega
  · split at h
    · simp at h; omega
    · split at h
      · simp at h; omega
      · cases h
theorem jdrop_cons {s : ByteArray} (i : Nat) (h : i < s.size) : s.data.toList.drop i = s[i] :: s.data.toList.drop (i + 1) := by
  have h' : i < s.data.toList.length := h
  rw [List.drop_eq_getElem_cons h']
  rfl
theorem sixF_some {n x : Nat} {b : UInt8} {r : List UInt8} {d : Nat} (h : hexV b = some d) : sixF (n + 1) x (b :: r) = sixF n (16 * x + d) r := by rw [sixF, h]
theorem sixF_none {n x : Nat} {b : UInt8} {r : List UInt8} (h : hexV b = none) : sixF (n + 1) x (b :: r) = none := by rw [sixF, h]
set_option maxRecDepth 100000 in
set_option maxHeartbeats 4000000 in
theorem jsix_calls (g : Nat) (s : ByteArray) (l : List UInt8) (w : World) (hB : JRd g s w) (hl : StrIs s l) (hs : s.size ≤ 4611686018427387900) :
    Calls Tryd.prog 68 #[.pointer (some ⟨g, 0, none⟩)] w fun e w' =>
      (∀ x r, sixL l = some (x, r) → ∃ s' : ByteArray, e = .returned (.int .i64 (x : Nat)) ∧ StrIs s' r ∧ JRd g s' w') ∧ (sixL l = none → e = panJ) ∧ w.grownBy w' (some g) := by
  have c0 := hB.cell 0 _ rfl
  have f0 := hB.free 0
  obtain rfl : s.data.toList = l := hl
  have hsl : s.data.toList.length = s.size := rfl
  obtain ⟨T, hT⟩ : ∃ T, T = sixL s.data.toList := ⟨_, rfl⟩
  rw [← hT]
  unfold sixL at hT
  rw [hsl] at hT
  go_enter Tryd.func68, Tryd.ntmps68
  by_cases h4 : s.size < 4
  · have hb : decide ((4 : Int) ≤ (s.size : Int)) = false := decide_eq_false (by omega)
    rw [if_pos h4] at hT
    have HT := Lib.hid hT
    clear hT hsl h4
    go_wp2_with (go_at_call 33; refine (must_no _).mono ?_; unfold panJ; rintro e w3 ⟨rfl, rfl⟩)
    refine ⟨rfl, fun x r h => ?_, fun _ => rfl, World.grownBy.refl _ _⟩
    rw [HT.out] at h
    cases h
  · have hb : decide ((4 : Int) ≤ (s.size : Int)) = true := decide_eq_true (by omega)
    rw [if_neg h4] at hT
    have HT := Lib.hid hT
    have hsz : 4 ≤ s.size := by omega
    clear hT hsl h4
    go_wp2_with (go_at_call 33; refine (must_ok _).mono ?_; rintro e w3 ⟨rfl, rfl⟩)
    go_loopg [3, 13] 4 (fun gk v3 v13 wr => ∃ k x : Nat, v3 = .int .i64 x ∧ v13 = .int .i64 k ∧ k + gk = 4 ∧ x < 65536 ∧ (x + 1) * 16 ^ gk ≤ 65536 ∧ Hid (sixF 4 0 s.data.toList = sixF gk x (s.data.toList.drop k)) ∧ w = wr)
    case atStart => exact ⟨0, 0, rfl, rfl, rfl, by omega, by omega, rfl, rfl⟩
    case round =>
      obtain ⟨k, x, rfl, rfl, hkg, hx, hx2, hH, rfl⟩ := hrel
      have HKG := Lib.hid hkg
      have HX2 := Lib.hid hx2
      by_cases hk : k < 4
      · have hkb : decide ((k : Int) < 4) = true := decide_eq_true (by omega)
        obtain ⟨n, rfl⟩ : ∃ n, gk = n + 1 := ⟨gk - 1, by omega⟩
        have hks : k < s.size := by omega
        have hst := hH.out
        rw [jdrop_cons k hks] at hst
        obtain ⟨b, hbb⟩ : ∃ b : UInt8, b = s[k]'hks := ⟨_, rfl⟩
        have hbt : ∀ h', ((s[k]'h').toNat : Nat) = b.toNat := fun h' => by rw [hbb]
        rw [← hbb] at hst
        have hlt := b.toNat_lt
        have hix := hex_at b
        have hlo := lowI_range (c := (b.toNat : Int)) (by omega) (by omega)
        clear hbb hkg hx2 hH
        cases hv : hexV b with
        | none =>
          rw [sixF_none hv] at hst
          have hi : hexI b = -1 := by unfold hexI; rw [hv]
          rw [hi] at hix
          have HST := Lib.hid hst
          have HIX := Lib.hid hix
          clear hst hix hi hv
          generalize b.toNat = c at *
          go_wp2_with (first | (go_at_call 21; refine (lower_calls c _ (by omega) (by omega)).mono ?_; rintro e w3 ⟨rfl, rfl⟩) | (go_at_call 48; refine (Tryd.strings_IndexByte _ _ _).mono ?_; rintro e w3 ⟨rfl, rfl⟩; rw [HIX.out]) | (go_at_call 33; refine (must_no _).mono ?_; unfold panJ; rintro e w3 ⟨rfl, rfl⟩))
          refine ⟨rfl, fun x r h => ?_, fun _ => rfl, World.grownBy.refl _ _⟩
          have := HT.out
          rw [HST.out] at this
          rw [this] at h
          cases h
        | some d =>
          rw [sixF_some hv] at hst
          have hd := hexV_lt hv
          have hi : hexI b = (d : Int) := by unfold hexI; rw [hv]
          rw [hi] at hix
          have HST := Lib.hid hst
          have HIX := Lib.hid hix
          have hge : decide ((0 : Int) ≤ (d : Int)) = true := decide_eq_true (by omega)
          have hp : 1 ≤ 16 ^ n := Nat.one_le_pow _ _ (by omega)
          have hx16 : (x + 1) * 16 ≤ 65536 ∧ (16 * x + d + 1) * 16 ^ n ≤ 65536 := by
            have h2 := HX2.out
            rw [Nat.pow_succ, Nat.mul_comm (16 ^ n), ← Nat.mul_assoc] at h2
            exact ⟨Nat.le_trans (Nat.le_mul_of_pos_right _ hp) h2, Nat.le_trans (Nat.mul_le_mul_right _ (by omega)) h2⟩
          have HX16 := Lib.hid hx16
          clear hst hix hi hv hp hx16
          generalize b.toNat = c at *
          go_wp2_with (first | (go_at_call 21; refine (lower_calls c _ (by omega) (by omega)).mono ?_; rintro e w3 ⟨rfl, rfl⟩) | (go_at_call 48; refine (Tryd.strings_IndexByte _ _ _).mono ?_; rintro e w3 ⟨rfl, rfl⟩; rw [HIX.out]) | (go_at_call 33; refine (must_ok _).mono ?_; rintro e w3 ⟨rfl, rfl⟩))
          go_roundg n
          case measure => omega
          case rel => exact ⟨k + 1, 16 * x + d, by go_num, by go_num, by have := HKG.out; omega, by have := HX16.out.1; omega, HX16.out.2, HST.out, rfl⟩
      · have hkb : decide ((k : Int) < 4) = false := decide_eq_false (by omega)
        obtain rfl : gk = 0 := by omega
        have hst := hH.out
        rw [sixF] at hst
        have HST := Lib.hid hst
        have hsl4 := fun W => jslice_from s 4 4 rfl hsz W
        have hx4 := jext_from s 4
        generalize s.extract 4 s.size = s4 at *
        have HX4 := Lib.hid hx4
        clear hst hx4 hkg hx2 hH
        go_wp2
        go_ret
        refine ⟨fun x' r h => ?_, fun h => ?_, grownBy_set _ _ _ _⟩
        · have := HT.out
          rw [HST.out] at this
          rw [this] at h
          simp at h
          obtain ⟨rfl, rfl⟩ := h
          exact ⟨s4, rfl, HX4.out, hB.set 0 _⟩
        · have := HT.out
          rw [HST.out] at this
          rw [this] at h
          cases h
end Go.Proofs.YthmcacgkhpigaaaDoor.S
