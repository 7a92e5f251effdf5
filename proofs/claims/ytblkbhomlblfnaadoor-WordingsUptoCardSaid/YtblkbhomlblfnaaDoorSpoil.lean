/-
  MEMORY THAT IS WRITTEN OVER: within the blocks lo .. hi numbers turn into numbers, texts into texts that are a little longer; all else stays.
-/
import Derived.Test.YtblkbhomlblfnaaDoorSameW
set_option linter.unusedVariables false
set_option linter.unusedSimpArgs false
namespace Go.Proofs.YtblkbhomlblfnaaDoor.S
open Go.RowKit

inductive Kin (k : Nat) : Value → Value → Prop
  | same (v : Value) : Kin k v v
  | int (κ : IntKind) (m n : Int) : Kin k (.int κ m) (.int κ n)
  | str (s t : ByteArray) (h : t.size ≤ s.size + k) : Kin k (.string s) (.string t)
theorem Kin.trans {k m : Nat} {a b c : Value} (h : Kin k a b) (g : Kin m b c) : Kin (k + m) a c := by
  cases h with
  | same => cases g with
    | same => exact .same _
    | int => exact .int _ _ _
    | str s t h => exact .str _ _ (by omega)
  | int κ x y => cases g with
    | same => exact .int _ _ _
    | int => exact .int _ _ _
  | str s t h => cases g with
    | same => exact .str _ _ (by omega)
    | str s t h2 => exact .str _ _ (by omega)
structure Spoilt (lo hi k : Nat) (w w' : World) : Prop where
  os : w'.os = w.os
  tape : w'.tape = w.tape
  output : w'.output = w.output
  size : w.heap.size ≤ w'.heap.size
  out : ∀ b, b < w.heap.size → b < lo ∨ hi ≤ b → w'.heap[b]? = w.heap[b]?
  into : ∀ (b : Nat) (cs : Array Value) (t : TypeId) (fr : Nat × Nat), lo ≤ b → b < hi → w.heap[b]? = some (.cells cs t fr) → ∃ cs' : Array Value, w'.heap[b]? = some (.cells cs' t fr) ∧ cs'.size = cs.size ∧ ∀ (j : Nat) v, cs[j]? = some v → ∃ v', cs'[j]? = some v' ∧ Kin k v v'
variable {lo hi k m : Nat} {w w1 w2 : World}
theorem Spoilt.refl (lo hi : Nat) (w : World) (k : Nat) : Spoilt lo hi k w w :=
  ⟨rfl, rfl, rfl, Nat.le_refl _, fun b _ _ => rfl, fun b cs t fr _ _ h => ⟨cs, h, rfl, fun j v hv => ⟨v, hv, .same v⟩⟩⟩
theorem Spoilt.trans (h : Spoilt lo hi k w w1) (g : Spoilt lo hi m w1 w2) : Spoilt lo hi (k + m) w w2 := by
  refine ⟨g.os.trans h.os, g.tape.trans h.tape, g.output.trans h.output, Nat.le_trans h.size g.size, fun b hb ho => (g.out b (Nat.lt_of_lt_of_le hb h.size) ho).trans (h.out b hb ho), ?_⟩
  intro b cs t fr hl hh hc
  obtain ⟨c1, h1, s1, k1⟩ := h.into b cs t fr hl hh hc
  obtain ⟨c2, h2, s2, k2⟩ := g.into b c1 t fr hl hh h1
  refine ⟨c2, h2, s2.trans s1, fun j v hv => ?_⟩
  obtain ⟨v1, e1, q1⟩ := k1 j v hv
  obtain ⟨v2, e2, q2⟩ := k2 j v1 e1
  exact ⟨v2, e2, q1.trans q2⟩
theorem Spoilt.mono (h : Spoilt lo hi k w w1) (hk : k ≤ m) : Spoilt lo hi m w w1 := by
  have := h.trans (Spoilt.refl lo hi w1 (m - k))
  rwa [show k + (m - k) = m by omega] at this
theorem Spoilt.drewN (h : Spoilt lo hi k w w1) (n : Nat) : Spoilt lo hi k w (w1.drewN n) := by
  have hb := Below.drewN (Below.refl w1.heap.size w1) n
  refine ⟨hb.os.trans h.os, hb.tape.trans h.tape, hb.output.trans h.output, Nat.le_trans h.size hb.size, fun b hb' ho => (hb.block b (Nat.lt_of_lt_of_le hb' h.size)).trans (h.out b hb' ho), fun b cs t fr hl hh hc => ?_⟩
  obtain ⟨c1, h1, s1, k1⟩ := h.into b cs t fr hl hh hc
  exact ⟨c1, (hb.block b (Array.getElem?_eq_some_iff.1 h1).1).trans h1, s1, k1⟩
/-- a cell within is written by one of its kind -/
theorem Spoilt.set {b j : Nat} {v v' : Value} (hl : lo ≤ b) (hh : b < hi) (hc : w.cell? ⟨b, j, none⟩ = some v) (hk : Kin k v v') : Spoilt lo hi k w (w.setCell ⟨b, j, none⟩ v') := by
  refine ⟨rfl, rfl, rfl, by simp [World.setCell], fun c hc' ho => Below.heap_setCell _ _ _ _ (by rintro rfl; omega), ?_⟩
  intro c cs t fr h1 h2 hcs
  by_cases e : c = b
  · subst e
    refine ⟨cs.setIfInBounds j v', by simp [World.setCell, Array.getElem?_modify, hcs], by simp, fun i x hx => ?_⟩
    by_cases e : i = j
    · subst e
      have hxv : x = v := by
        have : w.cell? ⟨c, i, none⟩ = some x := by simp [World.cell?, hcs, hx]
        rw [this] at hc
        exact Option.some.inj hc
      subst hxv
      exact ⟨v', by rw [Array.getElem?_setIfInBounds_self_of_lt]; exact (Array.getElem?_eq_some_iff.1 hx).1, hk⟩
    · exact ⟨x, by rw [Array.getElem?_setIfInBounds_ne (Ne.symm e)]; exact hx, .same x⟩
  · exact ⟨cs, by rw [Below.heap_setCell _ _ _ _ e]; exact hcs, rfl, fun i x hx => ⟨x, hx, .same x⟩⟩
theorem Spoilt.below (h : Spoilt lo hi k w w1) (hl : lo ≤ w.heap.size) : Below lo w w1 := ⟨h.os, h.tape, h.output, h.size, fun b hb => h.out b (Nat.lt_of_lt_of_le hb hl) (.inl hb)⟩
/-- rows that lie behind stay -/
theorem Spoilt.own {base e size n : Nat} {v : Value} {xs : List Value} (h : Spoilt lo hi k w w1) (ho : w.ownsRow base e size v n xs) (hb : hi ≤ base) : w1.ownsRow base e size v n xs := by
  refine ⟨ho.1, ?_⟩
  rcases ho.2 with ⟨rfl, h0⟩ | ⟨g, cap, cur, rfl, hg, hh, h1⟩
  · exact .inl ⟨rfl, h0⟩
  · exact .inr ⟨g, cap, cur, rfl, hg, (h.out g (Array.getElem?_eq_some_iff.1 hh).1 (.inr (by omega))).trans hh, h1⟩
/-- a row within: its block, whose cells are of the kinds of these -/
def Within (lo hi k : Nat) (size : Nat) (v : Value) (xs : List Value) (w : World) : Prop :=
  (xs = [] ∧ ∃ a c, v = .slice a 0 c) ∨ ∃ (g n cap : Nat) (cs : Array Value) (t : TypeId), v = .slice (some ⟨g, 0, none⟩) n cap ∧ xs.length = n * size ∧ lo ≤ g ∧ g < hi ∧ w.heap[g]? = some (.cells cs t (0, 0)) ∧ ∀ (j : Nat) x, xs[j]? = some x → ∃ y, cs[j]? = some y ∧ Kin k x y
theorem within_of {base e size n : Nat} {v : Value} {xs : List Value} (ho : w.ownsRow base e size v n xs) (hs : 0 < size) (hl : lo ≤ base) (hh : w.heap.size ≤ hi) : Within lo hi 0 size v xs w := by
  rcases ho.2 with ⟨rfl, rfl⟩ | ⟨g, cap, cur, rfl, hg, hb, h1, h2, h3, h4⟩
  · exact .inl ⟨List.eq_nil_of_length_eq_zero (by rw [ho.1, Nat.zero_mul]), none, 0, rfl⟩
  · refine .inr ⟨g, n, cap, cur, e, rfl, ho.1, by omega, by have := (Array.getElem?_eq_some_iff.1 hb).1; omega, hb, fun j x hx => ⟨x, ?_, .same x⟩⟩
    subst h4
    rw [List.getElem?_take] at hx
    split at hx
    · simpa using hx
    · cases hx
theorem Within.spoilt {size : Nat} {v : Value} {xs : List Value} (h : Within lo hi k size v xs w) (g : Spoilt lo hi m w w1) : Within lo hi (k + m) size v xs w1 := by
  rcases h with h | ⟨b, n, cap, cs, t, rfl, hx, hl, hh, hc, hk⟩
  · exact .inl h
  · obtain ⟨c1, h1, s1, k1⟩ := g.into b cs t (0, 0) hl hh hc
    refine .inr ⟨b, n, cap, c1, t, rfl, hx, hl, hh, h1, fun j x hx => ?_⟩
    obtain ⟨y, hy, q⟩ := hk j x hx
    obtain ⟨z, hz, q2⟩ := k1 j y hy
    exact ⟨z, hz, q.trans q2⟩
theorem Within.slice {size : Nat} {v : Value} {xs : List Value} (h : Within lo hi k size v xs w) (hs : 0 < size) : ∃ a c, v = .slice a (xs.length / size) c := by
  rcases h with ⟨rfl, a, c, rfl⟩ | ⟨b, n, cap, cs, t, rfl, hx, hl, hh, hc, hk⟩
  · exact ⟨a, c, by simp⟩
  · exact ⟨_, cap, by rw [hx, Nat.mul_div_cancel _ hs]⟩
/-- one of its cells -/
theorem Within.at {size : Nat} {v : Value} {xs : List Value} (h : Within lo hi k size v xs w) (j : Nat) (x : Value) (hj : xs[j]? = some x) : ∃ g n cap y, v = .slice (some ⟨g, 0, none⟩) n cap ∧ lo ≤ g ∧ g < hi ∧ w.cell? ⟨g, j, none⟩ = some y ∧ w.frozen? ⟨g, j, none⟩ = false ∧ Kin k x y := by
  rcases h with ⟨rfl, _⟩ | ⟨b, n, cap, cs, t, rfl, hx, hl, hh, hc, hk⟩
  · simp at hj
  · obtain ⟨y, hy, q⟩ := hk j x hj
    exact ⟨b, n, cap, y, rfl, hl, hh, by simp [World.cell?, hc, hy], by simp [World.frozen?, hc], q⟩
theorem Within.below {size : Nat} {v : Value} {xs : List Value} (h : Within lo hi k size v xs w) (hb : Below w.heap.size w w1) : Within lo hi k size v xs w1 := by
  rcases h with h | ⟨b, n, cap, cs, t, rfl, hx, hl, hh, hc, hk⟩
  · exact .inl h
  · exact .inr ⟨b, n, cap, cs, t, rfl, hx, hl, hh, (hb.block b (Array.getElem?_eq_some_iff.1 hc).1).trans hc, hk⟩
end Go.Proofs.YtblkbhomlblfnaaDoor.S
