/-
  A BLOCK THAT IS KNOWN WHOLE: a struct behind a pointer; rows of a struct's cells.
-/
import Derived.Test.YthmcacgkhpigaaaDoorEnv
import Derived.WalkKit
import Derived.OwnWalk
import Derived.Laws.AppendOwn
import Derived.Below
import Derived.Maps.AppendAt
set_option linter.unusedVariables false
namespace Go.Proofs.YthmcacgkhpigaaaDoor.S
open Go.RowKit

/-- block g is a variable of type T with these cells, not frozen -/
def Blk (g : Nat) (T : TypeId) (cs : List Value) (w : World) : Prop := w.heap[g]? = some (.cells cs.toArray T (0, 0))
variable {g : Nat} {T : TypeId} {cs : List Value} {w w' : World}
theorem Blk.lt (h : Blk g T cs w) : g < w.heap.size := (Array.getElem?_eq_some_iff.1 h).1
theorem Blk.cell (h : Blk g T cs w) (j : Nat) (v : Value) (hv : cs[j]? = some v) : w.cell? ⟨g, j, none⟩ = some v := by
  unfold Blk at h
  simp [World.cell?, h, hv]
theorem Blk.free (h : Blk g T cs w) (j : Nat) : w.frozen? ⟨g, j, none⟩ = false := by
  unfold Blk at h
  simp [World.frozen?, h]
theorem Blk.set (h : Blk g T cs w) (j : Nat) (x : Value) : Blk g T (cs.set j x) (w.setCell ⟨g, j, none⟩ x) := by
  unfold Blk at *
  simp [World.setCell, Array.getElem?_modify, h]
theorem Blk.below (h : Blk g T cs w) (hb : Below w.heap.size w w') : Blk g T cs w' := (hb.block g h.lt).trans h
theorem Blk.grown (h : Blk g T cs w) {row : Option Nat} (hg : w.grownBy w' row) (hne : some g ≠ row) : Blk g T cs w' := (hg.block g h.lt hne).trans h
theorem Blk.drew (h : Blk g T cs w) : Blk g T cs w.drew := h

theorem Blk.new (w : World) (cs : List Value) (T : TypeId) : Blk w.heap.size T cs (w.alloc (.cells cs.toArray T)) := by
  show (w.heap.push _)[w.heap.size]? = _
  simp
theorem grownBy_set (w : World) (g j : Nat) (x : Value) : w.grownBy (w.setCell ⟨g, j, none⟩ x) (some g) := by
  refine ⟨rfl, rfl, rfl, by simp [World.setCell], fun k _ hk => ?_⟩
  have : g ≠ k := fun e => hk (by rw [e])
  simp [World.setCell, Array.getElem?_modify, this]
theorem grownBy_below {row : Option Nat} (hb : Below w.heap.size w w') : w.grownBy w' row := ⟨hb.os, hb.tape, hb.output, hb.size, fun i hi _ => hb.block i hi⟩

/-- an owned row lives on where only another block is written -/
theorem own_set {base e size n : Nat} {v : Value} {xs : List Value} (h : w.ownsRow base e size v n xs) (hne : v.ownBlock ≠ some g) (j : Nat) (x : Value) : (w.setCell ⟨g, j, none⟩ x).ownsRow base e size v n xs :=
  World.ownsRow.kept h (grownBy_set w g j x) (.inr hne)
theorem own_below {base e size n : Nat} {v : Value} {xs : List Value} (h : w.ownsRow base e size v n xs) (hb : Below w.heap.size w w') : w'.ownsRow base e size v n xs :=
  World.ownsRow.kept h (grownBy_below (row := none) hb) (by cases v.ownBlock <;> simp)
theorem own_base {base e size n : Nat} {v : Value} {xs : List Value} (h : w.ownsRow base e size v n xs) (k : Nat) (hk : v.ownBlock = some k) : base ≤ k := by
  rcases h.2 with ⟨rfl, _⟩ | ⟨g, cap, cur, rfl, hb, _⟩
  · simp [Value.ownBlock] at hk
  · have : g = k := by simpa [Value.ownBlock] using hk
    omega
theorem own_lt {base e size n : Nat} {v : Value} {xs : List Value} (h : w.ownsRow base e size v n xs) (k : Nat) (hk : v.ownBlock = some k) : k < w.heap.size := by
  rcases h.2 with ⟨rfl, _⟩ | ⟨g, cap, cur, rfl, _, hh, _⟩
  · simp [Value.ownBlock] at hk
  · have : g = k := by simpa [Value.ownBlock] using hk
    subst this
    exact (Array.getElem?_eq_some_iff.1 hh).1
theorem own_nil (base e size : Nat) (w : World) : w.ownsRow base e size (.slice none 0 0) 0 [] := ⟨by simp, .inl ⟨rfl, rfl⟩⟩
theorem own_slice {base e size n : Nat} {v : Value} {xs : List Value} (h : w.ownsRow base e size v n xs) : ∃ a c, v = .slice a n c ∧ n ≤ c := by
  rcases h.2 with ⟨rfl, rfl⟩ | ⟨g, cap, cur, rfl, _, _, h1, _⟩
  · exact ⟨none, 0, rfl, Nat.le_refl _⟩
  · exact ⟨_, cap, rfl, h1⟩
/-- the world that the walks ask for, its blocks below B -/
structure EnvAt (B : Nat) (w : World) : Prop where
  env : Env w
  b0 : 0 < B
  b1 : 1 < B
  b2 : 2 < B
theorem EnvAt.below {B : Nat} {w w' : World} (h : EnvAt B w) (hb : Below B w w') : EnvAt B w' := by
  obtain ⟨m, hm⟩ := h.env.maxLen
  exact ⟨⟨⟨fun c hc => (hb.cell h.b0).trans (h.env.tabs.1 c hc), fun i hi => ⟨(hb.cell h.b1).trans (h.env.tabs.2 i hi).1, (hb.cell h.b1).trans (h.env.tabs.2 i hi).2⟩⟩, m, (hb.cell h.b2).trans hm⟩, h.b0, h.b1, h.b2⟩
theorem Env.at {w : World} (h : Env w) : EnvAt w.heap.size w := by
  obtain ⟨m, hm⟩ := h.maxLen
  exact ⟨h, World.block_lt_of_cell? w _ (h.tabs.1 0 (by omega)), World.block_lt_of_cell? w _ (h.tabs.2 0 (by omega)).1, World.block_lt_of_cell? w _ hm⟩
theorem EnvAt.grown {B : Nat} {w w' : World} (h : EnvAt B w) {row : Option Nat} (hg : w.grownBy w' row) (hB : B ≤ w.heap.size) (hr : ∀ k, row = some k → B ≤ k) : EnvAt B w' := h.below ((Below.refl B w).grown hg hB hr)
theorem Below.grow1 {B g : Nat} {w w' : World} (hg : w.grownBy w' (some g)) (hB : B ≤ w.heap.size) (hr : B ≤ g) : Below B w w' := (Below.refl B w).grown hg hB fun k hk => by cases hk; exact hr
end Go.Proofs.YthmcacgkhpigaaaDoor.S
