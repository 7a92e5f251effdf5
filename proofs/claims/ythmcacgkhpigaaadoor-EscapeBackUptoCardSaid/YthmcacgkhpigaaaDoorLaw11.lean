/-
  THE WALKS of package stolelaw11: awake, EscapeBytes.
-/
import Derived.Test.YthmcacgkhpigaaaDoorJstrWalks
import Derived.Test.YthmcacgkhpigaaaDoorPlainM
import Derived.Laws.BytesArg
import Derived.Deep.DeepCutAuto
set_option linter.unusedVariables false
set_option linter.unusedSimpArgs false
namespace Go.Proofs.YthmcacgkhpigaaaDoor.S
open Go.RowKit

theorem awake11_eval : escapeL [97, 39, 92, 10, 226, 128, 169] = [97, 92, 117, 48, 48, 50, 55, 92, 117, 48, 48, 53, 99, 92, 117, 48, 48, 48, 97, 92, 117, 50, 48, 50, 57] := by decide +kernel
theorem awake11_calls (w : World) (hE : Env w) :
    Calls Tryd.prog 4 #[] w fun e w' => e = .returned (.bool true) ∧ Below w.heap.size w w' := by
  go_enter Tryd.func4, Tryd.ntmps4
  go_wp2_with fail
  refine (escape_calls' _ _ hE (by decide)).mono ?_
  rintro e w1 ⟨t, rfl, ht, hb⟩
  obtain rfl : t = ⟨#[97, 92, 117, 48, 48, 50, 55, 92, 117, 48, 48, 53, 99, 92, 117, 48, 48, 48, 97, 92, 117, 50, 48, 50, 57]⟩ := ht.eq.trans (by rw [show escapeL _ = _ from awake11_eval])
  go_wp2_with (go_at_call 8; go_in)
  go_ret
  exact ⟨rfl, hb⟩
theorem one_cell (w : World) (v : Value) (t : TypeId) : (w.alloc (.cells #[v] t)).cell? ⟨w.heap.size, 0 + 0, none⟩ = some v := by simp
theorem three_list (b : UInt8) : ((⟨#[97]⟩ : ByteArray) ++ ⟨#[b]⟩ ++ ⟨#[122]⟩).data.toList = [97, b, 122] := by simp [ByteArray.data_append]
theorem three_size (b : UInt8) : ((⟨#[97]⟩ : ByteArray) ++ ⟨#[b]⟩ ++ ⟨#[122]⟩).size = 3 := congrArg List.length (three_list b)
theorem hex_byte (n : Nat) (h : n < 16) : ∀ h : n < (⟨#[48, 49, 50, 51, 52, 53, 54, 55, 56, 57, 97, 98, 99, 100, 101, 102]⟩ : ByteArray).size, (((⟨#[48, 49, 50, 51, 52, 53, 54, 55, 56, 57, 97, 98, 99, 100, 101, 102]⟩ : ByteArray)[n]'h).toNat : Nat) = (hexd n).toNat := by
  have := (by decide : ∀ k : Fin 16, ((⟨#[48, 49, 50, 51, 52, 53, 54, 55, 56, 57, 97, 98, 99, 100, 101, 102]⟩ : ByteArray)[k.val]'(k.isLt)).toNat = (hexd k.val).toNat)
  exact fun _ => this ⟨n, h⟩
theorem hex_byte' (x : Int) (m : Nat) (hx : x.toNat = m) (h : m < 16) : ∀ h : x.toNat < (⟨#[48, 49, 50, 51, 52, 53, 54, 55, 56, 57, 97, 98, 99, 100, 101, 102]⟩ : ByteArray).size, (((⟨#[48, 49, 50, 51, 52, 53, 54, 55, 56, 57, 97, 98, 99, 100, 101, 102]⟩ : ByteArray)[x.toNat]'h).toNat : Nat) = (hexd m).toNat := by
  subst hx
  exact hex_byte _ h
theorem two_nums (a b : UInt8) : strOfNums [(a.toNat : Int), (b.toNat : Int)] = ⟨#[a, b]⟩ := by simp [strOfNums]
theorem mask15 (n : Nat) : bits .and .i64 (n : Int) 15 = ((n % 16 : Nat) : Int) := (i64_mask 4 (by decide) n).trans (by show (n : Int) % 16 = _; omega)
theorem two_cells (w : World) (x y : Int) (t : TypeId) : ∀ i, i < 2 → ((w.alloc (.cells #[.int .u8 x, .int .u8 y] t)).drew).cell? ⟨w.heap.size, 0 + i, none⟩ = some (.int .u8 ([x, y].getD i 0)) := by
  intro i hi
  obtain rfl | rfl : i = 0 ∨ i = 1 := by omega
  · simp
  · simp
/-- letters and digits below 128, as the law asks them -/
def baseB (n : Nat) : Bool := decide (48 ≤ n ∧ n ≤ 57) || decide (65 ≤ n ∧ n ≤ 90) || decide (97 ≤ n ∧ n ≤ 122)
def plB (n i : Nat) : Bool := baseB n || (signsJ.take i).contains n
theorem plB_succ (n i : Nat) (h : i < 26) : plB n (i + 1) = (plB n i || decide (signsJ.getD i 0 = n)) := by
  unfold plB
  have : signsJ.take (i + 1) = signsJ.take i ++ [signsJ.getD i 0] := by
    rw [List.take_succ_eq_append_getElem (show i < signsJ.length from h)]
    simp [List.getD_eq_getElem?_getD, List.getElem?_eq_getElem (show i < signsJ.length from h)]
  rw [this, List.contains_eq_mem, List.contains_eq_mem]
  simp [Bool.or_assoc, eq_comm]
theorem byte_table : ∀ n : Fin 128, escapeL [97, UInt8.ofNat n.val, 122] = if n.val = 0 then [97, 239, 191, 189, 122] else if plB n.val 26 then [97, UInt8.ofNat n.val, 122] else [97, 92, 117, 48, 48, hexd (n.val / 16), hexd (n.val % 16), 122] := by decide +kernel

end Go.Proofs.YthmcacgkhpigaaaDoor.S
