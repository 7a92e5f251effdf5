/-
  PLAIN LEAN: chapter 11's two ways to write a text in a script's text are one: bytes one by one and strings.ReplaceAll twice (the program's), one scan (the reference's).
-/
import Derived.Test.YthmcacgkhpigaaaDoorPlainR
import Derived.Test.YthmcacgkhpigaaaDoorPlainU
import Derived.Lib.CountLaws
import Derived.Lib.ReplaceLaws
set_option linter.unusedVariables false
set_option linter.unusedSimpArgs false
namespace Go.Proofs.YthmcacgkhpigaaaDoor.S
open Go.Lib

/-! strings.ReplaceAll, byte by byte -/
theorem replaceAll_nil (old new : List UInt8) (h : old ≠ []) : replaceAll [] old new = [] := by
  have hi : index [] old = -1 := by unfold index; cases old <;> simp_all
  unfold replaceAll replace
  split
  · rfl
  · cases replaceNum [] old (-1) with
    | zero => rfl
    | succ k => simp [replaceK, hi]
theorem num_count (s old : List UInt8) : replaceNum s old (-1) = count s old := by unfold replaceNum; rw [if_pos (.inl (by decide))]
theorem index_nat {s old : List UInt8} (h : index s old ≠ -1) : ∃ i : Nat, index s old = i := ⟨(index s old).toNat, by have := index_ge s old; omega⟩
theorem replaceAll_cons (old new : List UInt8) (ho : old ≠ []) (hn : old ≠ new) (c : UInt8) (r : List UInt8) :
    replaceAll (c :: r) old new = if old.isPrefixOf (c :: r) then new ++ replaceAll ((c :: r).drop old.length) old new else c :: replaceAll r old new := by
  have hne : ¬ (old == new) = true := by simpa using hn
  unfold replaceAll replace
  rw [if_neg hne, if_neg hne, if_neg hne, num_count, num_count, num_count]
  by_cases hp : old.isPrefixOf (c :: r) = true
  · rw [if_pos hp]
    have hi : index (c :: r) old = ((0 : Nat) : Int) := by rw [index, if_pos hp]; rfl
    rw [count_hit ho hi, Nat.zero_add, Nat.add_comm 1, replaceK_hit _ _ _ _ 0 hi]
    simp
  · rw [if_neg hp]
    by_cases hm : index r old = -1
    · have hi : index (c :: r) old = -1 := by rw [index, if_neg hp, if_pos (by rw [hm]; rfl)]
      rw [count_miss hi, count_miss hm]
      rfl
    · obtain ⟨i, hi⟩ := index_nat hm
      have hi' : index (c :: r) old = ((i + 1 : Nat) : Int) := by rw [index, if_neg hp, if_neg (by simpa using hm), hi]; rfl
      have hd : (c :: r).drop (i + 1 + old.length) = r.drop (i + old.length) := by rw [show i + 1 + old.length = (i + old.length) + 1 by omega, List.drop_succ_cons]
      rw [count_hit ho hi', count_hit ho hi, hd, Nat.add_comm 1, replaceK_hit _ _ _ _ _ hi', replaceK_hit _ _ _ _ _ hi, hd]
      simp
/-- where no instance can begin -/
theorem replaceAll_past (a : UInt8) (o new : List UInt8) (hn : a :: o ≠ new) (y : List UInt8) : ∀ x : List UInt8, (∀ b ∈ x, b ≠ a) → replaceAll (x ++ y) (a :: o) new = x ++ replaceAll y (a :: o) new := by
  intro x
  induction x with
  | nil => intro _; rfl
  | cons b x ih =>
    intro h
    have hb := h b (by simp)
    rw [List.cons_append, replaceAll_cons _ _ (by simp) hn, if_neg (by simp [List.isPrefixOf, hb.symm]), ih (fun c hc => h c (by simp [hc]))]
    rfl

/-! the reference's scan -/
def escR : List UInt8 → List UInt8
  | [] => []
  | 226 :: 128 :: 168 :: r => [92, 117, 50, 48, 50, 56] ++ escR r
  | 226 :: 128 :: 169 :: r => [92, 117, 50, 48, 50, 57] ++ escR r
  | c :: r => escJ c ++ escR r
theorem all_bytes (p : UInt8 → Prop) (h : ∀ n : Fin 256, p (UInt8.ofNat n.val)) (c : UInt8) : p c := by
  have e : UInt8.ofNat c.toNat = c := by simp
  exact e ▸ h ⟨c.toNat, c.toNat_lt⟩
theorem escJ_no (c : UInt8) : c ≠ 226 → ∀ b ∈ escJ c, b ≠ 226 :=
  all_bytes (fun c => c ≠ 226 → ∀ b ∈ escJ c, b ≠ 226) (by decide +kernel) c
theorem escJ_high (c : UInt8) : 128 ≤ c.toNat → escJ c = [c] :=
  all_bytes (fun c => 128 ≤ c.toNat → escJ c = [c]) (by decide +kernel) c
theorem escJ_head (c : UInt8) : (escJ c).head? = some c ∨ (escJ c).head? = some 92 :=
  all_bytes (fun c => (escJ c).head? = some c ∨ (escJ c).head? = some 92) (by decide +kernel) c
theorem escJ_cons (c : UInt8) : ∃ h x, escJ c = h :: x ∧ (h = c ∨ h = 92) := by
  cases he : escJ c with
  | nil => have := escJ_head c; rw [he] at this; simp at this
  | cons h x => refine ⟨h, x, rfl, ?_⟩; have := escJ_head c; rw [he] at this; simpa using this
def A8 : List UInt8 := [226, 128, 168]
def A9 : List UInt8 := [226, 128, 169]
def N8 : List UInt8 := [92, 117, 50, 48, 50, 56]
def N9 : List UInt8 := [92, 117, 50, 48, 50, 57]
/-- how a text begins that was written byte by byte, behind the first ReplaceAll -/
def fstA (t : List UInt8) : List UInt8 := replaceAll (t.flatMap escJ) A8 N8
theorem fstA_nil : fstA [] = [] := replaceAll_nil _ _ (by decide)
theorem fstA_past (x : List UInt8) (hx : ∀ b ∈ x, b ≠ 226) (y : List UInt8) : replaceAll (x ++ y) A8 N8 = x ++ replaceAll y A8 N8 := replaceAll_past 226 [128, 168] N8 (by decide) y x hx
theorem sndA_past (x : List UInt8) (hx : ∀ b ∈ x, b ≠ 226) (y : List UInt8) : replaceAll (x ++ y) A9 N9 = x ++ replaceAll y A9 N9 := replaceAll_past 226 [128, 169] N9 (by decide) y x hx
theorem fstA_cons (c : UInt8) (hc : c ≠ 226) (r : List UInt8) : fstA (c :: r) = escJ c ++ fstA r := by
  unfold fstA
  rw [List.flatMap_cons, fstA_past _ (escJ_no c hc)]
theorem raw226 (r : List UInt8) : (226 :: r).flatMap escJ = 226 :: r.flatMap escJ := by
  rw [List.flatMap_cons, escJ_high 226 (by decide)]; rfl
/-- the head of what was written is the byte's own or a backslash -/
theorem flat_head (c : UInt8) (r : List UInt8) : ∃ h x, (c :: r).flatMap escJ = h :: x ∧ (h = c ∨ h = 92) := by
  obtain ⟨h, x, e, hh⟩ := escJ_cons c
  exact ⟨h, x ++ r.flatMap escJ, by rw [List.flatMap_cons, e]; rfl, hh⟩
theorem fstA_head (c : UInt8) (r : List UInt8) : ∃ h x, fstA (c :: r) = h :: x ∧ (h = c ∨ h = 92) := by
  by_cases hc : c = 226
  · subst hc
    unfold fstA
    rw [raw226, A8, replaceAll_cons _ _ (by simp) (by decide)]
    split
    · exact ⟨92, _, rfl, .inr rfl⟩
    · exact ⟨226, _, rfl, .inl rfl⟩
  · obtain ⟨h, x, e, hh⟩ := escJ_cons c
    exact ⟨h, x ++ fstA r, by rw [fstA_cons c hc, e]; rfl, hh⟩
/-- does 226 stand alone? -/
theorem pre8 (r : List UInt8) (h : ∀ r', r ≠ 128 :: 168 :: r') : A8.isPrefixOf (226 :: r.flatMap escJ) = false := by
  cases r with
  | nil => rfl
  | cons d r2 =>
    by_cases hd : d = 128
    · subst hd
      rw [List.flatMap_cons, escJ_high 128 (by decide)]
      cases r2 with
      | nil => rfl
      | cons e r3 =>
        have he : e ≠ 168 := fun he => h r3 (by rw [he])
        obtain ⟨k, x, ek, hk⟩ := flat_head e r3
        rw [ek]
        have : k ≠ 168 := hk.elim (fun h => by rw [h]; exact he) (fun h => by rw [h]; decide)
        simp [A8, List.isPrefixOf, this.symm]
    · obtain ⟨k, x, ek, hk⟩ := flat_head d r2
      rw [ek]
      have : k ≠ 128 := hk.elim (fun h => by rw [h]; exact hd) (fun h => by rw [h]; decide)
      simp [A8, List.isPrefixOf, this.symm]
theorem pre9 (r : List UInt8) (h : ∀ r', r ≠ 128 :: 169 :: r') : A9.isPrefixOf (226 :: fstA r) = false := by
  cases r with
  | nil => rw [fstA_nil]; rfl
  | cons d r2 =>
    by_cases hd : d = 128
    · subst hd
      rw [fstA_cons 128 (by decide), escJ_high 128 (by decide)]
      cases r2 with
      | nil => rw [fstA_nil]; rfl
      | cons e r3 =>
        have he : e ≠ 169 := fun he => h r3 (by rw [he])
        obtain ⟨k, x, ek, hk⟩ := fstA_head e r3
        rw [ek]
        have : k ≠ 169 := hk.elim (fun h => by rw [h]; exact he) (fun h => by rw [h]; decide)
        simp [A9, List.isPrefixOf, this.symm]
    · obtain ⟨k, x, ek, hk⟩ := fstA_head d r2
      rw [ek]
      have : k ≠ 128 := hk.elim (fun h => by rw [h]; exact hd) (fun h => by rw [h]; decide)
      simp [A9, List.isPrefixOf, this.symm]
theorem fstA_hit (r : List UInt8) : fstA (226 :: 128 :: 168 :: r) = N8 ++ fstA r := by
  unfold fstA
  rw [raw226, List.flatMap_cons, escJ_high 128 (by decide), List.flatMap_cons, escJ_high 168 (by decide), A8, replaceAll_cons _ _ (by simp) (by decide), if_pos (by rfl)]
  rfl
theorem fstA_miss (r : List UInt8) (h : ∀ r', r ≠ 128 :: 168 :: r') : fstA (226 :: r) = 226 :: fstA r := by
  have hp := pre8 r h
  unfold fstA
  rw [raw226, A8, replaceAll_cons _ _ (by simp) (by decide), if_neg (by rw [← A8, hp]; simp)]
theorem esc_law (t : List UInt8) : replaceAll (fstA t) A9 N9 = escR t := by
  fun_induction escR t with
  | case1 => rw [fstA_nil]; exact replaceAll_nil _ _ (by decide)
  | case2 r ih => rw [fstA_hit, sndA_past _ (by decide), ih]; rfl
  | case3 r ih =>
    rw [fstA_miss _ (by intro r'; simp), fstA_cons 128 (by decide), escJ_high 128 (by decide), fstA_cons 169 (by decide), escJ_high 169 (by decide), ← ih]
    rw [A9, List.cons_append, List.nil_append, List.cons_append, List.nil_append, replaceAll_cons _ _ (by simp) (by decide), if_pos (by rfl)]
    rfl
  | case4 c r h8 h9 ih =>
    by_cases hc : c = 226
    · subst hc
      have h1 : ∀ r', r ≠ 128 :: 168 :: r' := fun r' e => h8 r' rfl e
      have h2 : ∀ r', r ≠ 128 :: 169 :: r' := fun r' e => h9 r' rfl e
      have hp := pre9 r h2
      rw [fstA_miss r h1, escJ_high 226 (by decide), ← ih, A9, replaceAll_cons _ _ (by simp) (by decide), if_neg (by rw [← A9, hp]; simp)]
      rfl
    · rw [fstA_cons c hc, sndA_past _ (escJ_no c hc), ih]
end Go.Proofs.YthmcacgkhpigaaaDoor.S
