/-
  TEXTS: cutting, joining; a text without some of its bytes (chapter 20).
-/
import Derived.Test.YtafkfamfhagokaaGreatDoorAt20
set_option linter.unusedVariables false
set_option linter.unusedSimpArgs false
namespace Go.Proofs.YtafkfamfhagokaaGreatDoor.S
open Go.RowKit

theorem slice20 (s : ByteArray) (x y : Int) (i j : Nat) (hx : x = i) (hy : y = j) (hij : i ≤ j) (hj : j ≤ s.size) (W : World) :
    (Instr.slice 9 (.string s) (some (.int .i64 x)) (some (.int .i64 y)) none).run Tryz.prog W = .ok (.string (s.extract i j)) W := by
  subst hx hy
  have h := run_slice_string (P := Tryz.prog) (w := W) 9 s .i64 .i64 (i : Int) (j : Int) Tryz.underlying9 (by omega) (by omega) (by omega)
  simpa using h
theorem cat20 (a b : ByteArray) (h : a.size + b.size ≤ 9223372036854775807) (W : World) : (Op.stringOp .add a b).run Tryz.prog W = .ok (.string (a ++ b)) W := run_string_add_sum W a b h
theorem StrIs.cat20 {a b : ByteArray} {l r : List UInt8} (h1 : StrIs a l) (h2 : StrIs b r) : StrIs (a ++ b) (l ++ r) := by
  unfold StrIs at *
  rw [← h1, ← h2]
  simp [ByteArray.data_append]
theorem drop20 (s : ByteArray) (i : Nat) (h : i < s.size) : s.data.toList.drop i = s[i] :: s.data.toList.drop (i + 1) := by
  rw [List.drop_eq_getElem_cons (by rw [size_list]; exact h)]
  rfl
theorem one20 (s : ByteArray) (i : Nat) (h : i < s.size) : StrIs (s.extract i (i + 1)) [s[i]] := by
  show _ = _
  rw [Lib.extract_data, show i + 1 - i = 1 by omega, drop20 s i h]
  rfl
/-- two texts as one, by a name of its own -/
theorem join20 (a b : ByteArray) (l r : List UInt8) (h1 : StrIs a l) (h2 : StrIs b r) (h : l.length + r.length ≤ 100000) : ∃ c : ByteArray, StrIs c (l ++ r) ∧ c.size ≤ 100000 ∧ ∀ W, (Op.stringOp .add a b).run Tryz.prog W = .ok (.string c) W :=
  ⟨a ++ b, h1.cat20 h2, by rw [(h1.cat20 h2).size, List.length_append]; exact h, fun W => cat20 a b (by rw [h1.size, h2.size]; omega) W⟩
/-- what stands ahead of i and is let stay -/
def sieveL (p : UInt8 → Bool) (l : List UInt8) (i : Nat) : List UInt8 := (l.take i).filter p
theorem sieve_zero (p : UInt8 → Bool) (l : List UInt8) : sieveL p l 0 = [] := rfl
theorem sieve_succ (p : UInt8 → Bool) (s : ByteArray) (i : Nat) (h : i < s.size) : sieveL p s.data.toList (i + 1) = if p s[i] = true then sieveL p s.data.toList i ++ [s[i]] else sieveL p s.data.toList i := by
  unfold sieveL
  have hl : i < s.data.toList.length := by rw [size_list]; exact h
  rw [List.take_succ_eq_append_getElem hl, List.filter_append]
  have e : s.data.toList[i] = s[i] := by rw [Array.getElem_toList]; rfl
  rw [e]
  split
  · rename_i hz; simp [hz]
  · rename_i hz; simp [hz]
theorem sieve_len (p : UInt8 → Bool) (l : List UInt8) (i : Nat) : (sieveL p l i).length ≤ i := by
  unfold sieveL
  exact Nat.le_trans (List.length_filter_le _ _) (by simp; omega)
theorem sieve_all (p : UInt8 → Bool) (l : List UInt8) (i : Nat) : ∀ b ∈ sieveL p l i, p b = true := fun b hb => (List.mem_filter.1 hb).2
end Go.Proofs.YtafkfamfhagokaaGreatDoor.S
