/-
  PLAIN LEAN: bytes that are a text (chapter 1): 'sign' (how long the first sign is), 'norm'; and that the reference's sizes are the same. No program in sight.
-/
import Derived.Lib.DecodeN
set_option linter.unusedVariables false
namespace Go.Proofs.YthmcacgkhpigaaaDoor.S

/-- what the model's decode tells of a first sign: its length; 0: there is none -/
def signN (n b0 b1 b2 b3 : Nat) : Nat :=
  if (Lib.decodeN n b0 b1 b2 b3).1 = 0 ∨ ((Lib.decodeN n b0 b1 b2 b3).1 = 65533 ∧ (Lib.decodeN n b0 b1 b2 b3).2 = 1) then 0 else (Lib.decodeN n b0 b1 b2 b3).2

/-- the reference's size, by numbers -/
def sizeN (n b0 b1 b2 b3 : Nat) : Nat :=
  if b0 < 128 then 1
  else if 194 ≤ b0 ∧ b0 ≤ 223 then (if n < 2 ∨ b1 < 128 ∨ 191 < b1 then 0 else 2)
  else if 224 ≤ b0 ∧ b0 ≤ 239 then (if n < 3 ∨ b1 < 128 ∨ 191 < b1 ∨ b2 < 128 ∨ 191 < b2 ∨ b0 = 224 ∧ b1 < 160 ∨ b0 = 237 ∧ 159 < b1 then 0 else 3)
  else if 240 ≤ b0 ∧ b0 ≤ 244 then (if n < 4 ∨ b1 < 128 ∨ 191 < b1 ∨ b2 < 128 ∨ 191 < b2 ∨ b3 < 128 ∨ 191 < b3 ∨ b0 = 240 ∧ b1 < 144 ∨ b0 = 244 ∧ 143 < b1 then 0 else 4)
  else 0

set_option maxRecDepth 100000 in
set_option maxHeartbeats 8000000 in
theorem sign_size (n b0 b1 b2 b3 : Nat) (hn : 1 ≤ n) (h0 : b0 < 256) (h1 : b1 < 256) (h2 : b2 < 256) (h3 : b3 < 256) :
    signN n b0 b1 b2 b3 = if b0 = 0 then 0 else sizeN n b0 b1 b2 b3 := by
  unfold signN
  generalize hd : Lib.decodeN n b0 b1 b2 b3 = d
  unfold Lib.decodeN at hd
  repeat' split at hd
  all_goals subst hd
  all_goals dsimp only
  all_goals unfold sizeN
  all_goals repeat' split
  all_goals omega

theorem signN_le (n b0 b1 b2 b3 : Nat) (hn : 1 ≤ n) (h0 : b0 < 256) (h1 : b1 < 256) (h2 : b2 < 256) (h3 : b3 < 256) : signN n b0 b1 b2 b3 ≤ n ∧ signN n b0 b1 b2 b3 ≤ 4 := by
  rw [sign_size n b0 b1 b2 b3 hn h0 h1 h2 h3]
  unfold sizeN
  repeat' split
  all_goals omega

/-- of a text's bytes -/
def sign (l : List UInt8) : Nat :=
  match l with
  | [] => 0
  | b0 :: r => signN (r.length + 1) b0.toNat (r.getD 0 0).toNat (r.getD 1 0).toNat (r.getD 2 0).toNat
theorem sign_le (l : List UInt8) : sign l ≤ l.length ∧ sign l ≤ 4 := by
  cases l with
  | nil => simp [sign]
  | cons b r => exact signN_le _ _ _ _ _ (by omega) (UInt8.toNat_lt _) (UInt8.toNat_lt _) (UInt8.toNat_lt _) (UInt8.toNat_lt _)

/-- U+FFFD -/
def bad : List UInt8 := [239, 191, 189]
def normF : Nat → List UInt8 → List UInt8
  | 0, _ => []
  | f + 1, l => if l = [] then [] else if sign l = 0 then bad ++ normF f (l.drop 1) else l.take (sign l) ++ normF f (l.drop (sign l))
def norm (l : List UInt8) : List UInt8 := normF l.length l
theorem normF_nil (f : Nat) : normF f [] = [] := by cases f <;> simp [normF]
theorem normF_any (f : Nat) : ∀ g, ∀ l : List UInt8, l.length ≤ f → l.length ≤ g → normF f l = normF g l := by
  induction f with
  | zero => intro g l h _; obtain rfl := List.eq_nil_of_length_eq_zero (Nat.le_zero.1 h); rw [normF_nil, normF_nil]
  | succ f ih =>
    intro g l h h'
    cases l with
    | nil => rw [normF_nil, normF_nil]
    | cons b r =>
      simp only [List.length_cons] at h h'
      obtain ⟨g, rfl⟩ : ∃ k, g = k + 1 := ⟨g - 1, by omega⟩
      have hs := sign_le (b :: r)
      simp only [normF, reduceCtorEq, if_false]
      split
      · rw [ih g _ (by simp; omega) (by simp; omega)]
      · rw [ih g _ (by simp; omega) (by simp; omega)]
theorem norm_cons (b : UInt8) (r : List UInt8) : norm (b :: r) = if sign (b :: r) = 0 then bad ++ norm r else (b :: r).take (sign (b :: r)) ++ norm ((b :: r).drop (sign (b :: r))) := by
  have hs := sign_le (b :: r)
  simp only [List.length_cons] at hs
  unfold norm
  simp only [List.length_cons, normF, reduceCtorEq, if_false]
  split
  · rw [normF_any r.length (List.drop 1 (b :: r)).length _ (by simp) (by simp)]; rfl
  · rw [normF_any r.length _ _ (by simp; omega) (Nat.le_refl _)]
theorem norm_nil : norm [] = [] := rfl
theorem normF_len (f : Nat) : ∀ l, (normF f l).length ≤ 3 * l.length := by
  induction f with
  | zero => intro l; simp [normF]
  | succ f ih =>
    intro l
    simp only [normF]
    split
    · simp
    · rename_i hl
      have hp : 0 < l.length := List.length_pos_iff.2 hl
      have hs := sign_le l
      split
      · have := ih (l.drop 1); simp [bad] at *; omega
      · have := ih (l.drop (sign l)); simp at *; omega
theorem norm_len (l : List UInt8) : (norm l).length ≤ 3 * l.length := normF_len _ _

/-! the reference's size by classes of the first byte -/
def clsB (c k : Nat) : Prop := (k = 2 ∧ 194 ≤ c ∧ c ≤ 223) ∨ (k = 3 ∧ 224 ≤ c ∧ c ≤ 239) ∨ (k = 4 ∧ 240 ≤ c ∧ c ≤ 244)
def oddB (c d : Nat) : Prop := c = 224 ∧ d < 160 ∨ c = 237 ∧ 159 < d ∨ c = 240 ∧ d < 144 ∨ c = 244 ∧ 143 < d
theorem sizeN_none (n c b1 b2 b3 : Nat) (h : (128 ≤ c ∧ c < 194) ∨ 244 < c) : sizeN n c b1 b2 b3 = 0 := by
  unfold sizeN; repeat' split
  all_goals omega
theorem size_short (n c k : Nat) (B : Nat → Nat) (hc : clsB c k) (h : n < k) : sizeN n c (B 1) (B 2) (B 3) = 0 := by
  unfold clsB at hc
  unfold sizeN; repeat' split
  all_goals omega
theorem size_bad (n c k m : Nat) (B : Nat → Nat) (hc : clsB c k) (h1 : 1 ≤ m) (h2 : m < k) (h : B m < 128 ∨ 191 < B m) : sizeN n c (B 1) (B 2) (B 3) = 0 := by
  unfold clsB at hc
  obtain rfl | rfl | rfl : m = 1 ∨ m = 2 ∨ m = 3 := by omega
  all_goals unfold sizeN; repeat' split
  all_goals omega
theorem size_odd (n c k : Nat) (B : Nat → Nat) (hc : clsB c k) (h : oddB c (B 1)) : sizeN n c (B 1) (B 2) (B 3) = 0 := by
  unfold clsB at hc
  unfold oddB at h
  unfold sizeN; repeat' split
  all_goals omega
theorem size_ok (n c k : Nat) (B : Nat → Nat) (hc : clsB c k) (hn : k ≤ n) (hm : ∀ m, 1 ≤ m → m < k → 128 ≤ B m ∧ B m ≤ 191) (h : ¬ oddB c (B 1)) : sizeN n c (B 1) (B 2) (B 3) = k := by
  unfold clsB at hc
  unfold oddB at h
  have h1 := hm 1 (by omega) (by omega)
  obtain ⟨rfl, hc⟩ | ⟨rfl, hc⟩ | ⟨rfl, hc⟩ := hc
  · unfold sizeN; repeat' split
    all_goals omega
  · have h2 := hm 2 (by omega) (by omega)
    unfold sizeN; repeat' split
    all_goals omega
  · have h2 := hm 2 (by omega) (by omega)
    have h3 := hm 3 (by omega) (by omega)
    unfold sizeN; repeat' split
    all_goals omega
def sizeL (l : List UInt8) : Nat :=
  match l with
  | [] => 0
  | b0 :: r => sizeN (r.length + 1) b0.toNat (r.getD 0 0).toNat (r.getD 1 0).toNat (r.getD 2 0).toNat
theorem sign_sizeL (b : UInt8) (r : List UInt8) : sign (b :: r) = if b = 0 then 0 else sizeL (b :: r) := by
  have h := sign_size (r.length + 1) b.toNat (r.getD 0 0).toNat (r.getD 1 0).toNat (r.getD 2 0).toNat (by omega) (UInt8.toNat_lt _) (UInt8.toNat_lt _) (UInt8.toNat_lt _) (UInt8.toNat_lt _)
  have e : (b.toNat = 0) = (b = 0) := propext ⟨fun h => UInt8.toNat_inj.1 h, fun h => by rw [h]; rfl⟩
  simp only [e] at h
  exact h
end Go.Proofs.YthmcacgkhpigaaaDoor.S
