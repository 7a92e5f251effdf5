/-
  PLAIN LEAN: c & (2^i - 1) of an int, whatever its sign, is c mod 2^i.
-/
import Derived.Laws.BitsLemmas
namespace Go.Proofs.YthmcacgkhpigaaaDoor.S
theorem i64_mask (i : Nat) (hi : i ≤ 62) (c : Int) : bits .and .i64 c (2 ^ i - 1) = c % 2 ^ i := by
  have hp : 0 < 2 ^ i := Nat.two_pow_pos i
  have hle : 2 ^ i ≤ 4611686018427387904 := Nat.pow_le_pow_right (n := 2) (by decide) hi
  have e0 : ((2 : Int) ^ i) = ((2 ^ i : Nat) : Int) := by simp
  have e1 : ((2 : Int) ^ i - 1) = ((2 ^ i - 1 : Nat) : Int) := by rw [Int.natCast_sub hp]; simp
  have e2 : (BitVec.ofInt 64 ((2 ^ i - 1 : Nat) : Int)).toNat = 2 ^ i - 1 := by
    rw [BitVec.toNat_ofInt]
    rw [show ((2 ^ 64 : Nat) : Int) = 18446744073709551616 from rfl]
    have : ((2 ^ i - 1 : Nat) : Int) < 18446744073709551616 := by omega
    rw [Int.emod_eq_of_lt (by omega) this]
    rfl
  have e3 : (BitVec.ofInt 64 c &&& BitVec.ofInt 64 ((2 ^ i - 1 : Nat) : Int)).toNat = ((c % 18446744073709551616).toNat) % 2 ^ i := by
    rw [BitVec.toNat_and, e2, Nat.and_two_pow_sub_one_eq_mod, BitVec.toNat_ofInt]
    rfl
  have e4 : (((c % 18446744073709551616).toNat % 2 ^ i : Nat) : Int) = c % 2 ^ i := by
    have h0 : 0 ≤ c % 18446744073709551616 := Int.emod_nonneg _ (by decide)
    rw [Int.natCast_emod, Int.toNat_of_nonneg h0]
    have hd : ((2 ^ i : Nat) : Int) ∣ 18446744073709551616 := by
      refine ⟨((2 ^ (64 - i) : Nat) : Int), ?_⟩
      have h : 2 ^ i * 2 ^ (64 - i) = 2 ^ 64 := by rw [← Nat.pow_add]; congr 1; omega
      rw [← Int.natCast_mul, h]
      rfl
    rw [Int.emod_emod_of_dvd _ hd, e0]
  rw [e1]
  unfold bits
  show IntKind.i64.wrap ((BitVec.ofInt 64 c &&& BitVec.ofInt 64 ((2 ^ i - 1 : Nat) : Int)).toNat : Int) = _
  rw [e3, e4, IntKind.wrap_i64, e0]
  generalize 2 ^ i = m at *
  have a := Int.emod_nonneg c (show ((m : Nat) : Int) ≠ 0 by omega)
  have b := Int.emod_lt_of_pos c (show (0 : Int) < ((m : Nat) : Int) by omega)
  omega
theorem mask127 (c : Int) : ∃ n : Nat, n < 128 ∧ bits .and .i64 c 127 = (n : Int) :=
  ⟨(c % 128).toNat, by omega, (i64_mask 7 (by decide) c).trans (by show c % 128 = _; omega)⟩
end Go.Proofs.YthmcacgkhpigaaaDoor.S
