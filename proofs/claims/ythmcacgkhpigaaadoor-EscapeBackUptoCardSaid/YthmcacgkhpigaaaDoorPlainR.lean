/-
  PLAIN LEAN: how long what strings.ReplaceAll gives may be; lists that grow by bytes.
-/
import Derived.Lib.ReplaceLaws
import Derived.Test.YthmcacgkhpigaaaDoorPlainB
namespace Go.Proofs.YthmcacgkhpigaaaDoor.S
open Go.Lib
theorem replaceK_len (old new : List UInt8) : ∀ (k : Nat) (s : List UInt8), (replaceK old new k s).length ≤ s.length + k * new.length := by
  intro k
  induction k with
  | zero => intro s; simp [replaceK]
  | succ k ih =>
    intro s
    simp only [replaceK]
    split
    · omega
    · have := ih (s.drop ((index s old).toNat + old.length))
      rw [Nat.succ_mul]
      simp only [List.length_append, List.length_take, List.length_drop] at *
      omega
theorem replaceAll_len (s old new : List UInt8) : (replaceAll s old new).length ≤ s.length + (s.length + 1) * new.length := by
  unfold replaceAll replace
  split
  · omega
  · have h := replaceK_len old new (replaceNum s old (-1)) s
    have h2 : replaceNum s old (-1) ≤ s.length + 1 := by
      unfold replaceNum
      rw [if_pos (.inl (by decide))]
      exact count_le s old
    have := Nat.mul_le_mul_right new.length h2
    omega
theorem flatMap_len (f : UInt8 → List UInt8) (m : Nat) (hf : ∀ c, (f c).length ≤ m) (l : List UInt8) : (l.flatMap f).length ≤ m * l.length := by
  induction l with
  | nil => simp
  | cons c l ih =>
    have := hf c
    simp only [List.flatMap_cons, List.length_append, List.length_cons, Nat.mul_add]
    omega
theorem flatMap_snoc (f : UInt8 → List UInt8) (l : List UInt8) (k : Nat) (h : k < l.length) : (l.take (k + 1)).flatMap f = (l.take k).flatMap f ++ f l[k] := by
  rw [List.take_succ_eq_append_getElem h, List.flatMap_append]
  simp
end Go.Proofs.YthmcacgkhpigaaaDoor.S
