/-
  THE WALKS of package stolelaw11: awake, EscapeBytes.
-/
import Derived.Test.YtblkbhomlblfnaaDoorJstrWalks
import Derived.Test.YtblkbhomlblfnaaDoorPlainM
import Derived.Laws.BytesArg
import Derived.Deep.DeepCutAuto
set_option linter.unusedVariables false
set_option linter.unusedSimpArgs false
namespace Go.Proofs.YtblkbhomlblfnaaDoor.S
open Go.RowKit

theorem awake11_eval : escapeL [97, 39, 92, 10, 226, 128, 169] = [97, 92, 117, 48, 48, 50, 55, 92, 117, 48, 48, 53, 99, 92, 117, 48, 48, 48, 97, 92, 117, 50, 48, 50, 57] := by decide +kernel
theorem awake11_calls (w : World) (hE : Env w) :
    Calls Tryd.prog 17 #[] w fun e w' => e = .returned (.bool true) ∧ Below w.heap.size w w' := by
  go_enter Tryd.func17, Tryd.ntmps17
  go_wp2_with fail
  refine (escape_calls' _ _ hE (by decide)).mono ?_
  rintro e w1 ⟨t, rfl, ht, hb⟩
  obtain rfl : t = ⟨#[97, 92, 117, 48, 48, 50, 55, 92, 117, 48, 48, 53, 99, 92, 117, 48, 48, 48, 97, 92, 117, 50, 48, 50, 57]⟩ := ht.eq.trans (by rw [show escapeL _ = _ from awake11_eval])
  go_wp2_with (go_at_call 18; go_in)
  go_ret
  exact ⟨rfl, hb⟩
theorem one_cell (w : World) (v : Value) (t : TypeId) : (w.alloc (.cells #[v] t)).cell? ⟨w.heap.size, 0 + 0, none⟩ = some v := by simp
theorem three_list (b : UInt8) : ((⟨#[97]⟩ : ByteArray) ++ ⟨#[b]⟩ ++ ⟨#[122]⟩).data.toList = [97, b, 122] := by simp [ByteArray.data_append]
theorem three_size (b : UInt8) : ((⟨#[97]⟩ : ByteArray) ++ ⟨#[b]⟩ ++ ⟨#[122]⟩).size = 3 := congrArg List.length (three_list b)
theorem hex_byte (n : Nat) (h : n < 16) : ∀ h : n < (⟨#[48, 49, 50, 51, 52, 53, 54, 55, 56, 57, 97, 98, 99, 100, 101, 102]⟩ : ByteArray).size, (((⟨#[48, 49, 50, 51, 52, 53, 54, 55, 56, 57, 97, 98, 99, 100, 101, 102]⟩ : ByteArray)[n]'h).toNat : Nat) = (hexd n).toNat := by
  have := (by decide : ∀ k : Fin 16, ((⟨#[48, 49, 50, 51, 52, 53, 54, 55, 56, 57, 97, 98, 99, 100, 101, 102]⟩ : ByteArray)[k.val]'(k.isLt)).toNat = (hexd k.val).toNat)
  exact fun _ => this ⟨n, h⟩
theorem hex_byte' (x : Int) (m : Nat) (hx : x.toNat = m) (h : m < 16) : ∀ h : x.toNat < (⟨#[48, 49, 50, 51, 52, 53, 54, 55, 56, 57, 97, 98, 99, 100, 101, 102]⟩ : ByteArray).size, (((⟨#[48, 49, 50, 51, 52, 53, 54, 55, 56, 57, 97, 98, 99, 100, 101, 102]⟩ : ByteArray)[x.toNat]'h).toNat : Nat) = (hexd m).toNat := by
  subst hx
  exact hex_byte _ h
theorem two_nums (a b : UInt8) : strOfNums [(a.toNat : Int), (b.toNat : Int)] = ⟨#[a, b]⟩ := by simp [strOfNums]
theorem mask15 (n : Nat) : bits .and .i64 (n : Int) 15 = ((n % 16 : Nat) : Int) := (i64_mask 4 (by decide) n).trans (by show (n : Int) % 16 = _; omega)
theorem two_cells (w : World) (x y : Int) (t : TypeId) : ∀ i, i < 2 → ((w.alloc (.cells #[.int .u8 x, .int .u8 y] t)).drew).cell? ⟨w.heap.size, 0 + i, none⟩ = some (.int .u8 ([x, y].getD i 0)) := by
  intro i hi
  obtain rfl | rfl : i = 0 ∨ i = 1 := by omega
  · simp
  · simp
/-- letters and digits below 128, as the law asks them -/
def baseB (n : Nat) : Bool := decide (48 ≤ n ∧ n ≤ 57) || decide (65 ≤ n ∧ n ≤ 90) || decide (97 ≤ n ∧ n ≤ 122)
def plB (n i : Nat) : Bool := baseB n || (signsJ.take i).contains n
theorem plB_succ (n i : Nat) (h : i < 26) : plB n (i + 1) = (plB n i || decide (signsJ.getD i 0 = n)) := by
  unfold plB
  have : signsJ.take (i + 1) = signsJ.take i ++ [signsJ.getD i 0] := by
    rw [List.take_succ_eq_append_getElem (show i < signsJ.length from h)]
    simp [List.getD_eq_getElem?_getD, List.getElem?_eq_getElem (show i < signsJ.length from h)]
  rw [this, List.contains_eq_mem, List.contains_eq_mem]
  simp [Bool.or_assoc, eq_comm]
theorem byte_table : ∀ n : Fin 128, escapeL [97, UInt8.ofNat n.val, 122] = if n.val = 0 then [97, 239, 191, 189, 122] else if plB n.val 26 then [97, UInt8.ofNat n.val, 122] else [97, 92, 117, 48, 48, hexd (n.val / 16), hexd (n.val % 16), 122] := by decide +kernel

set_option maxRecDepth 100000 in
set_option maxHeartbeats 4000000 in
theorem escapeBytes_calls (c : Int) (w : World) (hE : Env w) :
    Calls Tryd.prog 4 #[.int .i64 c] w fun e w' => e = .returned (.bool true) ∧ Below w.heap.size w w' := by
  go_enter Tryd.func4, Tryd.ntmps4
  go_wp2_with fail
  refine (awake11_calls _ hE).mono ?_
  rintro e w1 ⟨rfl, hb1⟩
  have hE1 := hE.below hb1
  obtain ⟨n, hn, hm⟩ := mask127 c
  have hmod : (n : Int) % 256 = n := by omega
  have hcv := run_convert_bytes_arg (P := Tryd.prog) (w := w1.alloc (.cells #[.int .u8 n] 5)) 25 5 Tryd.underlying25 Tryd.underlying5 w1.heap.size 0 1 1 [(n : Int)] rfl (by intro i hi; obtain rfl : i = 0 := (by omega); exact one_cell _ _ _) 9 Tryd.underlying9
  rw [show strOfNums [(n : Int)] = ⟨#[UInt8.ofNat n]⟩ from rfl] at hcv
  have hE2 := hE1.below ((Below.refl _ w1).alloc (Nat.le_refl _) (.cells #[.int .u8 n] 5))
  go_wp2_with fail
  refine (escape_calls' _ _ hE2 (by rw [three_size]; decide)).mono ?_
  rintro e w2 ⟨t, rfl, ht0, hb2⟩
  rw [three_list, byte_table ⟨n, hn⟩] at ht0
  have HT := Lib.hid ht0
  have HB := Lib.hid ((hb1.alloc hb1.size (.cells #[.int .u8 n] 5)).trans (hb2.mono (by have := hb1.size; simp; omega)))
  clear hcv hm hmod ht0 hE1 hE2 hb1 hb2
  go_upto_region 6 with (fail)
  go_cut [6] (fun s6 wx => s6 = .bool (baseB n) ∧ wx = w2)
  case first =>
    have hr : n < 48 ∨ (48 ≤ n ∧ n ≤ 57) ∨ (57 < n ∧ n < 65) ∨ (65 ≤ n ∧ n ≤ 90) ∨ (90 < n ∧ n < 97) ∨ (97 ≤ n ∧ n ≤ 122) ∨ 122 < n := by omega
    rcases hr with h | h | h | h | h | h | h
    all_goals go_wp2
    all_goals go_meet
    all_goals exact ⟨congrArg Value.bool (by unfold baseB; first | (simp; done) | (rw [Bool.eq_iff_iff]; simp; omega)), rfl⟩
  case rest =>
    obtain ⟨rfl, rfl⟩ := hcut
    go_wp2
    go_loopw [6, 8] (fun v6 v8 wr => ∃ i : Nat, i ≤ 26 ∧ v8 = .int .i64 i ∧ v6 = .bool (plB n i) ∧ wr = wc) (fun _ v8 _ => 26 - (intOf v8).toNat)
    case atStart => exact ⟨0, by omega, rfl, by simp [plB], rfl⟩
    case round =>
      obtain ⟨i, hi, rfl, rfl, rfl⟩ := hrel
      by_cases h : i < 26
      · have hbt := signsJ_byte i h
        have hs := plB_succ n i h
        have hlt := signsJ_lt i h
        generalize signsJ.getD i 0 = q at *
        have HS := Lib.hid hs
        clear hs
        cases hpl : plB n i
        · by_cases hq : q = n
          · have hqb : ((q : Int) == (n : Int)) = true := beq_iff_eq.2 (by omega)
            have HQ := Lib.hid hq
            clear hq
            go_wp2
            go_roundw
            case rel => exact ⟨i + 1, by omega, by go_num, by rw [HS.out, hpl, decide_eq_true HQ.out]; rfl, by first | trivial | rfl⟩
            case measure => simp [intOf]; omega
          · have hqb : ((q : Int) == (n : Int)) = false := beq_eq_false_iff_ne.2 (by omega)
            have HQ := Lib.hid hq
            clear hq
            go_wp2
            go_roundw
            case rel => exact ⟨i + 1, by omega, by go_num, by rw [HS.out, hpl, decide_eq_false HQ.out]; rfl, by first | trivial | rfl⟩
            case measure => simp [intOf]; omega
        · go_wp2
          go_roundw
          case rel => exact ⟨i + 1, by omega, by go_num, by rw [HS.out, hpl]; rfl, by first | trivial | rfl⟩
          case measure => simp [intOf]; omega
      · obtain rfl : i = 26 := by omega
        by_cases hz : n = 0
        · have e := HT.out
          rw [if_pos hz] at e
          obtain rfl := e.eq
          clear e HT
          go_wp2_with (go_at_call 18; go_in)
          go_ret
          exact ⟨rfl, HB.out⟩
        · have hzb : ((n : Int) == 0) = false := by simpa using hz
          cases hp : plB n 26
          · have e := HT.out
            rw [if_neg hz, hp, if_neg (by simp)] at e
            obtain rfl := e.eq
            clear e HT
            have hd1 := hex_byte' ((n : Int) / 16) (n / 16) (by omega) (by omega)
            have hd2 := hex_byte' ((n : Int) % 16) (n % 16) (by omega) (by omega)
            have hb1 : 0 ≤ (n : Int) / 16 := by omega
            have hb2 : (n : Int) / 16 < 16 := by omega
            have hb3 : 0 ≤ (n : Int) % 16 := by omega
            have hb4 : (n : Int) % 16 < 16 := by omega
            have hand := mask15 n
            have hcv2 := fun (W : World) => run_convert_bytes_arg (P := Tryd.prog) (w := (W.alloc (.cells #[.int .u8 (hexd (n / 16)).toNat, .int .u8 (hexd (n % 16)).toNat] 5)).drew) 25 5 Tryd.underlying25 Tryd.underlying5 W.heap.size 0 2 2 [((hexd (n / 16)).toNat : Int), ((hexd (n % 16)).toNat : Int)] rfl (two_cells _ _ _ _) 9 Tryd.underlying9
            rw [two_nums] at hcv2
            go_wp2
            go_region
            clear hd1 hd2 hand hcv2
            go_wp2
            go_ret
            refine ⟨ret_bool ?_, (HB.out.alloc HB.out.size _).drew⟩
            rw [Lib.toList_data]
            simp [ByteArray.data_append]
          · have e := HT.out
            rw [if_neg hz, hp, if_pos rfl] at e
            obtain rfl := e.eq
            clear e HT
            go_wp2
            go_ret
            refine ⟨ret_bool ?_, HB.out⟩
            rw [Lib.toList_data]
            simp [ByteArray.data_append]
end Go.Proofs.YtblkbhomlblfnaaDoor.S
