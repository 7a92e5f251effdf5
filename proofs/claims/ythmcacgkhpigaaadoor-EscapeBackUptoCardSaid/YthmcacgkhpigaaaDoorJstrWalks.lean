/-
  THE WALKS of package jstr: bits, Escape.
-/
import Derived.Test.YthmcacgkhpigaaaDoorUtfWalks
import Derived.Test.YthmcacgkhpigaaaDoorByteWalks
import Derived.Test.YthmcacgkhpigaaaDoorPlainR
import Derived.RegionTactic
import Derived.ChangeAlike
import Derived.BigRegion
import Derived.BigQuiet
import Derived.StillTailTactics
set_option linter.unusedVariables false
set_option linter.unusedSimpArgs false
namespace Go.Proofs.YthmcacgkhpigaaaDoor.S
open Go.RowKit

theorem css {w : World} {a : Addr} {u v : Value} (h : w.cell? a = some u) : (w.setCell a v).cell? a = some v := by apply World.cell?_setCell_same; exact h
theorem cso {w : World} {a b : Addr} {u v : Value} (h : w.cell? b = some u) (hne : a ≠ b) : (w.setCell a v).cell? b = some u := by refine Eq.trans ?_ h; apply World.cell?_setCell_other; exact hne
def signsJ : List Nat := [32, 33, 35, 36, 37, 40, 41, 42, 43, 44, 45, 46, 47, 58, 59, 61, 63, 64, 91, 93, 94, 95, 123, 124, 125, 126]
def bitsLo : Nat → Int
  | 0 => 0
  | k + 1 => if signsJ.getD k 0 < 64 then bits .or .u64 (bitsLo k) (IntKind.u64.wrap (2 ^ (signsJ.getD k 0 % 64))) else bitsLo k
def bitsHi : Nat → Int
  | 0 => 0
  | k + 1 => if signsJ.getD k 0 < 64 then bitsHi k else bits .or .u64 (bitsHi k) (IntKind.u64.wrap (2 ^ (signsJ.getD k 0 % 64)))
theorem signsJ_lt : ∀ k, k < 26 → signsJ.getD k 0 < 128 := by decide
theorem signsJ_byte (k : Nat) (h : k < 26) : ∀ h : k < (⟨#[32, 33, 35, 36, 37, 40, 41, 42, 43, 44, 45, 46, 47, 58, 59, 61, 63, 64, 91, 93, 94, 95, 123, 124, 125, 126]⟩ : ByteArray).size, (((⟨#[32, 33, 35, 36, 37, 40, 41, 42, 43, 44, 45, 46, 47, 58, 59, 61, 63, 64, 91, 93, 94, 95, 123, 124, 125, 126]⟩ : ByteArray)[k]'h).toNat : Nat) = signsJ.getD k 0 := by
  have := (by decide : ∀ k : Fin 26, ((⟨#[32, 33, 35, 36, 37, 40, 41, 42, 43, 44, 45, 46, 47, 58, 59, 61, 63, 64, 91, 93, 94, 95, 123, 124, 125, 126]⟩ : ByteArray)[k.val]'(k.isLt)).toNat = signsJ.getD k.val 0)
  exact fun _ => this ⟨k, h⟩

set_option maxRecDepth 100000 in
set_option maxHeartbeats 4000000 in
theorem bits_calls (w : World) :
    Calls Tryd.prog 10 #[] w fun e w' => e = .returned (.agg #[.int .u64 (bitsLo 26), .int .u64 (bitsHi 26)]) ∧ Below w.heap.size w w' := by
  go_enter Tryd.func10, Tryd.ntmps10
  go_wp2
  go_loopw [2, 3] (fun v2 v3 wr => ∃ k : Nat, k ≤ 26 ∧ v3 = .int .i64 k ∧ wr.cell? ⟨w.heap.size + 1, 0, none⟩ = some (.int .u64 (bitsLo k)) ∧ wr.cell? ⟨w.heap.size + 1, 1, none⟩ = some (.int .u64 (bitsHi k)) ∧ wr.frozen? ⟨w.heap.size + 1, 0, none⟩ = false ∧ wr.frozen? ⟨w.heap.size + 1, 1, none⟩ = false ∧ (∃ a b, wr.cell? ⟨w.heap.size, 0, none⟩ = some a ∧ wr.cell? ⟨w.heap.size, 1, none⟩ = some b) ∧ wr.frozen? ⟨w.heap.size, 0, none⟩ = false ∧ wr.frozen? ⟨w.heap.size, 1, none⟩ = false ∧ Below w.heap.size w wr) (fun _ v3 _ => 26 - (intOf v3).toNat)
  case atStart =>
    refine ⟨0, by omega, rfl, ?_, ?_, ?_, ?_, ⟨.int .u64 0, .int .u64 0, ?_, ?_⟩, ?_, ?_, ((Below.refl _ _).alloc (Nat.le_refl _) _).alloc (by simp) _⟩
    all_goals simp [bitsLo, bitsHi]
  case round =>
    obtain ⟨k, hk, rfl, hc0, hc1, hf0, hf1, ⟨ra, rb, hr0, hr1⟩, hg0, hg1, hb⟩ := hrel
    by_cases h : k < 26
    · have hbt := signsJ_byte k h
      have hlt := signsJ_lt k h
      have hs0 : bitsLo (k + 1) = if signsJ.getD k 0 < 64 then bits .or .u64 (bitsLo k) (IntKind.u64.wrap (2 ^ (signsJ.getD k 0 % 64))) else bitsLo k := rfl
      have hs1 : bitsHi (k + 1) = if signsJ.getD k 0 < 64 then bitsHi k else bits .or .u64 (bitsHi k) (IntKind.u64.wrap (2 ^ (signsJ.getD k 0 % 64))) := rfl
      generalize signsJ.getD k 0 = c at *
      by_cases hc : c < 64
      · rw [if_pos hc] at hs0 hs1
        have HS0 := Lib.hid hs0
        have HS1 := Lib.hid hs1
        clear hs0 hs1
        have hd : ((c : Int) / 64).toNat = 0 := by omega
        have hd2 : (c : Int) / 64 < 2 := by omega
        have hd3 : 0 ≤ (c : Int) / 64 := by omega
        go_wp2
        go_region
        go_wp2
        go_roundw
        case rel =>
          refine ⟨k + 1, by omega, by go_num, ?_, ?_, ?_, ?_, ⟨ra, rb, ?_, ?_⟩, ?_, ?_, ?_⟩
          · rw [HS0.out]; exact css hc0
          · rw [HS1.out]; exact cso hc1 (by simp)
          · exact (World.frozen?_setCell ..).trans hf0
          · exact (World.frozen?_setCell ..).trans hf1
          · exact cso hr0 (by simp)
          · exact cso hr1 (by simp)
          · exact (World.frozen?_setCell ..).trans hg0
          · exact (World.frozen?_setCell ..).trans hg1
          · exact (hb.setCell (by simp) _).drew
        case measure => simp [intOf]; omega
      · rw [if_neg hc] at hs0 hs1
        have HS0 := Lib.hid hs0
        have HS1 := Lib.hid hs1
        clear hs0 hs1
        have hd : ((c : Int) / 64).toNat = 1 := by omega
        have hd2 : (c : Int) / 64 < 2 := by omega
        have hd3 : 0 ≤ (c : Int) / 64 := by omega
        go_wp2
        go_region
        go_wp2
        go_roundw
        case rel =>
          refine ⟨k + 1, by omega, by go_num, ?_, ?_, ?_, ?_, ⟨ra, rb, ?_, ?_⟩, ?_, ?_, ?_⟩
          · rw [HS0.out]; exact cso hc0 (by simp)
          · rw [HS1.out]; exact css hc1
          · exact (World.frozen?_setCell ..).trans hf0
          · exact (World.frozen?_setCell ..).trans hf1
          · exact cso hr0 (by simp)
          · exact cso hr1 (by simp)
          · exact (World.frozen?_setCell ..).trans hg0
          · exact (World.frozen?_setCell ..).trans hg1
          · exact (hb.setCell (by simp) _).drew
        case measure => simp [intOf]; omega
    · obtain rfl : k = 26 := by omega
      go_wp2
      refine bodyPost_ret (v := .agg #[.int .u64 (bitsLo 26), .int .u64 (bitsHi 26)]) ?_ rfl ⟨rfl, ?_⟩
      · simp [results, Tryd.results10, go_sem, hg0, hg1, hr0, hr1]
        done
      · exact (hb.setCell (by simp) _).setCell (by simp) _
theorem digit_slice (n : Nat) (h : n < 16) : (⟨#[48, 49, 50, 51, 52, 53, 54, 55, 56, 57, 97, 98, 99, 100, 101, 102]⟩ : ByteArray).extract n (n + 1) = ⟨#[hexd n]⟩ := by
  have e := (by decide +kernel : ∀ n : Fin 16, ((⟨#[48, 49, 50, 51, 52, 53, 54, 55, 56, 57, 97, 98, 99, 100, 101, 102]⟩ : ByteArray).extract n.val (n.val + 1)).data.toList = [hexd n.val]) ⟨n, h⟩
  exact StrIs.eq e
theorem digit_run (P : Program) (W : World) (x : Int) (n : Nat) (ht : P.underlying 9 = some .string) (hx : x = n) (h : n < 16) :
    (Instr.slice 9 (.string ⟨#[48, 49, 50, 51, 52, 53, 54, 55, 56, 57, 97, 98, 99, 100, 101, 102]⟩) (some (.int .u8 x)) (some (.int .u8 (x + 1))) none).run P W = .ok (.string ⟨#[hexd n]⟩) W := by
  subst hx
  rw [run_slice_string _ _ _ _ _ _ _ ht (by omega) (by omega) (by rw [show (⟨#[48, 49, 50, 51, 52, 53, 54, 55, 56, 57, 97, 98, 99, 100, 101, 102]⟩ : ByteArray).size = 16 from rfl]; omega)]
  rw [show ((n : Int) + 1).toNat = n + 1 by omega, Int.toNat_natCast, digit_slice n h]
theorem and_15 (c : Nat) (h : c < 256) : bits .and .u8 (c : Int) 15 = (c : Int) % 16 := by
  have e := (by decide +kernel : ∀ c : Fin 256, bits .and .u8 (c.val : Int) 15 = (c.val : Int) % 16)
  exact e ⟨c, h⟩
theorem six_list (x y : UInt8) : ByteArray.data ((⟨#[92, 117, 48, 48]⟩ : ByteArray) ++ ⟨#[x]⟩ ++ ⟨#[y]⟩) = #[92, 117, 48, 48, x, y] := by
  simp [ByteArray.data_append]
theorem six_size (x y : UInt8) : ((⟨#[92, 117, 48, 48]⟩ : ByteArray) ++ ⟨#[x]⟩ ++ ⟨#[y]⟩).size = 6 := by
  rw [ByteArray.size, six_list]; rfl
/-- the mask in which a byte below 128 is asked -/
def maskJ (c : Nat) : Int := if c < 64 then bitsLo 26 else bitsHi 26
theorem mask_cell {w : World} {b c : Nat} (h0 : w.cell? ⟨b, 0, none⟩ = some (.int .u64 (bitsLo 26))) (h1 : w.cell? ⟨b, 1, none⟩ = some (.int .u64 (bitsHi 26))) (hc : c < 128) :
    w.cell? ⟨b, c / 64, none⟩ = some (.int .u64 (maskJ c)) := by
  unfold maskJ
  split
  · rw [show c / 64 = 0 by omega]; exact h0
  · rw [show c / 64 = 1 by omega]; exact h1
theorem mask_bit (c : Nat) (hc : c < 128) : (bits .and .u64 (maskJ c / 2 ^ (c % 64)) 1 == 1) = signJ c := by
  have h := (by decide +kernel : ∀ c : Fin 128, (bits .and .u64 (maskJ c.val / 2 ^ (c.val % 64)) 1 == 1) = signJ c.val)
  exact h ⟨c, hc⟩
/-- P11.1 -/
def escapeL (l : List UInt8) : List UInt8 := Lib.replaceAll (Lib.replaceAll ((norm l).flatMap escJ) [226, 128, 168] [92, 117, 50, 48, 50, 56]) [226, 128, 169] [92, 117, 50, 48, 50, 57]

set_option maxRecDepth 100000 in
set_option maxHeartbeats 4000000 in
theorem escape_calls (s : ByteArray) (w : World) (hE : Env w) (hs : s.size ≤ 16777216) :
    Calls Tryd.prog 5 #[.string s] w fun e w' => e = .returned (.string ⟨(escapeL s.data.toList).toArray⟩) ∧ Below w.heap.size w w' := by
  go_enter Tryd.func5, Tryd.ntmps5
  go_wp2_with (first | (go_at_call 9; refine (norm_calls' s _ hE (by omega)).mono ?_; rintro e w1 ⟨t, rfl, ht, hb1⟩) | (go_at_call 10; refine (bits_calls _).mono ?_; rintro e w2 ⟨rfl, hb2⟩))
  have hts : t.size ≤ 3 * s.size := by have := norm_len s.data.toList; rw [← ht.size] at this; exact this
  have hz : w.heap.size ≤ w2.heap.size := Nat.le_trans hb1.size hb2.size
  go_loopw [5, 6, 12] (fun _ _ v12 wr => ∃ (k : Nat), k ≤ t.size ∧ v12 = .int .i64 k ∧ Tryd.BuilderHas (w2.heap.size + 1) (w2.heap.size + 1) ((t.data.toList.take k).flatMap escJ) wr ∧ wr.cell? ⟨w2.heap.size, 0, none⟩ = some (.int .u64 (bitsLo 26)) ∧ wr.cell? ⟨w2.heap.size, 1, none⟩ = some (.int .u64 (bitsHi 26)) ∧ Below w2.heap.size w2 wr ∧ w2.heap.size + 2 ≤ wr.heap.size) (fun _ _ v12 _ => t.size - (intOf v12).toNat)
  case atStart =>
    refine ⟨0, by omega, rfl, ?_, ?_, ?_, ((Below.refl _ _).alloc (Nat.le_refl _) _).alloc (by simp) _, by simp⟩
    · have := Tryd.freshBuilder (w2.alloc (.cells #[.int .u64 (bitsLo 26), .int .u64 (bitsHi 26)] 34))
      simpa using this
    · simp
    · simp
  case round =>
    obtain ⟨k, hk, rfl, hI, hc0, hc1, hbw, hsz⟩ := hrel
    by_cases h : k < t.size
    · have hsn := flatMap_snoc escJ t.data.toList k h
      obtain ⟨b, hb⟩ : ∃ b : UInt8, b = t[k]'h := ⟨_, rfl⟩
      have hsn' : (t.data.toList.take (k + 1)).flatMap escJ = (t.data.toList.take k).flatMap escJ ++ escJ b := by rw [hb]; exact hsn
      have hbt : ∀ h', ((t[k]'h').toNat : Nat) = b.toNat := fun h' => by rw [hb]
      have hlt := b.toNat_lt
      have HS := Lib.hid hsn'
      have HB := Lib.hid hb
      have hl1 := flatMap_len escJ 6 escJ_len (t.data.toList.take k)
      simp only [List.length_take] at hl1
      clear hsn hsn' hb
      generalize hbc : b.toNat = c at *
      have HBC := Lib.hid hbc
      clear hbc
      by_cases hst : stayJ c = true
      · have he : escJ b = [b] := by unfold escJ; rw [HBC.out, if_pos hst]
        have HE := Lib.hid he
        clear he
        by_cases h128 : 128 ≤ c
        · go_wp2_with (go_at_call 13; rw [← HBC.out]; refine (Tryd.writeByte _ _ _ b _ hI (by omega) (by omega)).mono ?_; rintro e w3 ⟨rfl, hI3, hb3⟩)
          go_roundw
          case rel => exact ⟨k + 1, by omega, by go_num, by rw [HS.out, HE.out]; exact hI3, (hb3.cell (p := ⟨w2.heap.size, 0, none⟩) (by simp)).trans hc0, (hb3.cell (p := ⟨w2.heap.size, 1, none⟩) (by simp)).trans hc1, hbw.trans (hb3.mono (by omega)), by have := hb3.size; omega⟩
          case measure => simp [intOf]; omega
        · by_cases hL : letterI c = true
          · go_wp2_with (first | (go_at_call 11; refine (letter_calls c _ (by omega) (by omega)).mono ?_; rintro e w3 ⟨rfl, rfl⟩) | (go_at_call 13; rw [← HBC.out]; refine (Tryd.writeByte _ _ _ b _ hI (by omega) (by omega)).mono ?_; rintro e w3 ⟨rfl, hI3, hb3⟩))
            go_roundw
            case rel => exact ⟨k + 1, by omega, by go_num, by rw [HS.out, HE.out]; exact hI3, (hb3.cell (p := ⟨w2.heap.size, 0, none⟩) (by simp)).trans hc0, (hb3.cell (p := ⟨w2.heap.size, 1, none⟩) (by simp)).trans hc1, hbw.trans (hb3.mono (by omega)), by have := hb3.size; omega⟩
            case measure => simp [intOf]; omega
          · have hL' : letterI c = false := by simpa using hL
            clear hL
            by_cases hD : digitI c = true
            · go_wp2_with (first | (go_at_call 11; refine (letter_calls c _ (by omega) (by omega)).mono ?_; rintro e w3 ⟨rfl, rfl⟩) | (go_at_call 12; refine (digit_calls c _ (by omega) (by omega)).mono ?_; rintro e w3 ⟨rfl, rfl⟩) | (go_at_call 13; rw [← HBC.out]; refine (Tryd.writeByte _ _ _ b _ hI (by omega) (by omega)).mono ?_; rintro e w3 ⟨rfl, hI3, hb3⟩))
              go_roundw
              case rel => exact ⟨k + 1, by omega, by go_num, by rw [HS.out, HE.out]; exact hI3, (hb3.cell (p := ⟨w2.heap.size, 0, none⟩) (by simp)).trans hc0, (hb3.cell (p := ⟨w2.heap.size, 1, none⟩) (by simp)).trans hc1, hbw.trans (hb3.mono (by omega)), by have := hb3.size; omega⟩
              case measure => simp [intOf]; omega
            · have hD' : digitI c = false := by simpa using hD
              clear hD
              have hM : wr.cell? ⟨w2.heap.size, c / 64, none⟩ = some (.int .u64 (maskJ c)) := mask_cell hc0 hc1 (by omega)
              have h1b : decide (128 ≤ (c : Int)) = false := decide_eq_false (by omega)
              have hS : (bits .and .u64 (maskJ c / 2 ^ (c % 64)) 1 == 1) = true := by
                rw [mask_bit c (by omega)]
                simpa [stayJ, h1b, hL', hD'] using hst
              go_wp2_with (first | (go_at_call 11; refine (letter_calls c _ (by omega) (by omega)).mono ?_; rintro e w3 ⟨rfl, rfl⟩) | (go_at_call 12; refine (digit_calls c _ (by omega) (by omega)).mono ?_; rintro e w3 ⟨rfl, rfl⟩) | (go_at_call 13; rw [← HBC.out]; refine (Tryd.writeByte _ _ _ b _ hI (by omega) (by omega)).mono ?_; rintro e w3 ⟨rfl, hI3, hb3⟩))
              go_roundw
              case rel => exact ⟨k + 1, by omega, by go_num, by rw [HS.out, HE.out]; exact hI3, (hb3.cell (p := ⟨w2.heap.size, 0, none⟩) (by simp)).trans hc0, (hb3.cell (p := ⟨w2.heap.size, 1, none⟩) (by simp)).trans hc1, hbw.trans (hb3.mono (by omega)), by have := hb3.size; omega⟩
              case measure => simp [intOf]; omega
      · have hst' : stayJ c = false := by simpa using hst
        have hq := hst'
        simp only [stayJ, Bool.or_eq_false_iff] at hq
        obtain ⟨⟨⟨h1b, hL'⟩, hD'⟩, hS'⟩ := hq
        have h128 : c < 128 := by have := of_decide_eq_false h1b; omega
        have hM : wr.cell? ⟨w2.heap.size, c / 64, none⟩ = some (.int .u64 (maskJ c)) := mask_cell hc0 hc1 (by omega)
        have hS : (bits .and .u64 (maskJ c / 2 ^ (c % 64)) 1 == 1) = false := by rw [mask_bit c h128]; exact hS'
        have he : escJ b = [92, 117, 48, 48, hexd (c / 16), hexd (c % 16)] := by unfold escJ; rw [HBC.out, if_neg (by simp [hst'])]
        have HE := Lib.hid he
        clear he hst hst' hS'
        go_wp2_with (first | (go_at_call 11; refine (letter_calls c _ (by omega) (by omega)).mono ?_; rintro e w3 ⟨rfl, rfl⟩) | (go_at_call 12; refine (digit_calls c _ (by omega) (by omega)).mono ?_; rintro e w3 ⟨rfl, rfl⟩))
        clear hS hM hL' hD'
        have hw0 := and_15 c (by omega)
        have hw1 : IntKind.u8.wrap ((c : Int) / 16 + 1) = (c : Int) / 16 + 1 := by exact IntWalk.u8_in _ (by omega)
        have hw2 : IntKind.u8.wrap ((c : Int) % 16 + 1) = (c : Int) % 16 + 1 := by exact IntWalk.u8_in _ (by omega)
        have hw3 := fun W => digit_run Tryd.prog W ((c : Int) / 16) (c / 16) Tryd.underlying9 (by omega) (by omega)
        have hw4 := fun W => digit_run Tryd.prog W ((c : Int) % 16) (c % 16) Tryd.underlying9 (by omega) (by omega)
        go_still_tail 14, (by kernel_rfl)
        clear hw0 hw1 hw2 hw3 hw4
        change wpList _ _ _ _ _ wr.drew
        have hI' := Tryd.builderBelow hI (Below.refl wr.heap.size wr).drew
        go_wp2_with (go_at_call 14; refine (Tryd.writeString _ _ _ _ _ hI' (by rw [six_size]; omega) (by simp; omega)).mono ?_; rintro e w3 ⟨rfl, hI3, hb3'⟩)
        have hb3 := ((Below.refl (w2.heap.size + 1) wr).drew).trans hb3'
        rw [six_list] at hI3
        go_roundw
        case rel => exact ⟨k + 1, by omega, by go_num, by rw [HS.out, HE.out]; exact hI3, (hb3.cell (p := ⟨w2.heap.size, 0, none⟩) (by simp)).trans hc0, (hb3.cell (p := ⟨w2.heap.size, 1, none⟩) (by simp)).trans hc1, hbw.trans (hb3.mono (by omega)), by have := hb3.size; omega⟩
        case measure => simp [intOf]; omega
    · obtain rfl : k = t.size := by omega
      have HW := (hb1.trans (hb2.mono hb1.size)).trans (hbw.mono hz)
      have hl1 := flatMap_len escJ 6 escJ_len t.data.toList
      rw [size_list] at hl1
      go_wp2_with (go_at_call 16; refine (Tryd.builderString' _ _ _ _ hI (by omega)).mono ?_; rintro e w3 ⟨x, rfl, hx, hb3⟩)
      have ex := List.take_of_length_le (Nat.le_of_eq (size_list t))
      rw [ex] at hx
      clear ex
      have hxs := hx.size
      have HW3 := HW.trans (hb3.mono (by omega))
      have hE3 := hE.below HW3
      have hl2 := replaceAll_len x.data.toList [226, 128, 168] [92, 117, 50, 48, 50, 56]
      rw [size_list] at hl2
      simp only [List.length_cons, List.length_nil] at hl2
      refine (replaceAll_calls x ⟨#[226, 128, 168]⟩ ⟨#[92, 117, 50, 48, 50, 56]⟩ _ hE3 (by omega) (by decide) (by rw [show (⟨#[92, 117, 50, 48, 50, 56]⟩ : ByteArray).size = 6 from rfl]; omega)).mono ?_
      rintro e w4 ⟨y, rfl, hy, hb4⟩
      have hys := hy.size
      have HW4 := HW3.trans (hb4.mono HW3.size)
      have hE4 := hE.below HW4
      have hl3 : y.size ≤ x.size + (x.size + 1) * 6 := by rw [hys]; exact hl2
      clear hys hl2
      go_wp2_with fail
      refine (replaceAll_calls y ⟨#[226, 128, 169]⟩ ⟨#[92, 117, 50, 48, 50, 57]⟩ _ hE4 (by omega) (by decide) (by rw [show (⟨#[92, 117, 50, 48, 50, 57]⟩ : ByteArray).size = 6 from rfl]; omega)).mono ?_
      rintro e w5 ⟨z, rfl, hz5, hb5⟩
      go_wp2
      go_ret
      refine ⟨ret_str ?_, HW4.trans (hb5.mono HW4.size)⟩
      unfold StrIs at *
      rw [hz5, hy, hx, ht]
      rfl
theorem escape_calls' (s : ByteArray) (w : World) (hE : Env w) (hs : s.size ≤ 16777216) :
    Calls Tryd.prog 5 #[.string s] w fun e w' => ∃ r : ByteArray, e = .returned (.string r) ∧ StrIs r (escapeL s.data.toList) ∧ Below w.heap.size w w' :=
  (escape_calls s w hE hs).mono fun _ _ ⟨he, hb⟩ => ⟨_, he, rfl, hb⟩

end Go.Proofs.YthmcacgkhpigaaaDoor.S
