/-
  ITEMS in memory: a tree of rows.
-/
import Derived.Test.YtdaffedbboofjaaGreatDoorPipeMem
import Derived.WalkSmall
set_option linter.unusedVariables false
set_option linter.unusedSimpArgs false
namespace Go.Proofs.YtdaffedbboofjaaGreatDoor.S
open Go.RowKit

/-- an item with its rows' values -/
structure Ic where
  it : It
  pv : Value
  tv : Value
  ev : Value
def Ic.cells (z : Ic) : List Value := [.int .i64 z.it.kind, .string ⟨z.it.text.toArray⟩, z.pv, z.tv, z.ev]
def icsCells (zs : List Ic) : List Value := zs.flatMap Ic.cells
/-- a row of items whose own rows of items lie in blocks of F's -/
inductive Its (base : Nat) (F : Nat → Prop) (W : World) : Value → List It → Prop
  | mk (v : Value) (zs : List Ic) (hr : W.ownsRow base 37 5 v zs.length (icsCells zs)) (hF : ∀ g, v.ownBlock = some g → F g) (hp : ∀ z ∈ zs, Cms base z.pv z.it.pipe W)
      (ht : ∀ z ∈ zs, Its base F W z.tv z.it.th) (he : ∀ z ∈ zs, Its base F W z.ev z.it.el) : Its base F W v (zs.map Ic.it)
/-- a row that may grow: its own block may be any -/
def Rw (base : Nat) (F : Nat → Prop) (v : Value) (is : List It) (W : World) : Prop :=
  ∃ zs : List Ic, zs.map Ic.it = is ∧ W.ownsRow base 37 5 v zs.length (icsCells zs) ∧ ∀ z ∈ zs, Cms base z.pv z.it.pipe W ∧ Its base F W z.tv z.it.th ∧ Its base F W z.ev z.it.el
theorem itInfo : (Tryz.prog.info? 37).map (fun i => (i.zero, i.size, i.bytes)) = some (some (.agg #[.int .i64 0, .string ⟨#[]⟩, .slice none 0 0, .slice none 0 0, .slice none 0 0]), 5, 96) := by kernel_rfl
variable {base : Nat} {F F' : Nat → Prop} {v : Value} {is : List It} {W W' : World}
theorem icsCells_len (zs : List Ic) : (icsCells zs).length = zs.length * 5 := by
  induction zs with
  | nil => rfl
  | cons z zs ih =>
    unfold icsCells at *
    rw [List.flatMap_cons, List.length_append, ih]; simp [Ic.cells]; omega
theorem Its.rw (h : Its base F W v is) : Rw base F v is W := by
  cases h with
  | mk _ zs hr hF hp ht he => exact ⟨zs, rfl, hr, fun z hz => ⟨hp z hz, ht z hz, he z hz⟩⟩
theorem Rw.its (h : Rw base F v is W) (hF : ∀ g, v.ownBlock = some g → F g) : Its base F W v is := by
  obtain ⟨zs, rfl, hr, hc⟩ := h
  exact .mk v zs hr hF (fun z hz => (hc z hz).1) (fun z hz => (hc z hz).2.1) (fun z hz => (hc z hz).2.2)
theorem its_nil (base : Nat) (F : Nat → Prop) (W : World) : Its base F W (.slice none 0 0) [] :=
  .mk (.slice none 0 0) [] ⟨by simp [icsCells], .inl ⟨rfl, rfl⟩⟩ (fun g h => by simp [Value.ownBlock] at h) (fun z hz => by cases hz) (fun z hz => by cases hz) (fun z hz => by cases hz)
theorem rw_nil (base : Nat) (F : Nat → Prop) (W : World) : Rw base F (.slice none 0 0) [] W := (its_nil base F W).rw
theorem Its.fact (h : Its base F W v is) (g : Nat) (hg : v.ownBlock = some g) : F g ∧ base ≤ g ∧ g < W.heap.size ∧ ∃ cs, W.heap[g]? = some (.cells cs 37 (0, 0)) := by
  cases h with
  | mk _ zs hr hF hp ht he => exact ⟨hF g hg, own_base hr g hg, own_lt hr g hg, own_type hr g hg⟩
theorem Rw.slice (h : Rw base F v is W) : ∃ a c, v = .slice a is.length c := by
  obtain ⟨zs, rfl, hr, _⟩ := h
  obtain ⟨a, c, h, _⟩ := own_slice hr
  exact ⟨a, c, by rw [List.length_map]; exact h⟩
theorem Its.slice (h : Its base F W v is) : ∃ a c, v = .slice a is.length c := h.rw.slice
theorem Rw.fact (h : Rw base F v is W) (g : Nat) (hg : v.ownBlock = some g) : base ≤ g ∧ g < W.heap.size ∧ ∃ cs, W.heap[g]? = some (.cells cs 37 (0, 0)) := by
  obtain ⟨zs, rfl, hr, _⟩ := h
  exact ⟨own_base hr g hg, own_lt hr g hg, own_type hr g hg⟩
theorem Its.mono (h : Its base F W v is) (hm : ∀ g, g < W.heap.size → F g → F' g) : Its base F' W v is := by
  induction h with
  | mk v zs hr hF hp ht he iht ihe => exact .mk v zs hr (fun g hg => hm g (own_lt hr g hg) (hF g hg)) hp iht ihe
theorem Rw.mono (h : Rw base F v is W) (hm : ∀ g, g < W.heap.size → F g → F' g) : Rw base F' v is W := by
  obtain ⟨zs, hz, hr, hc⟩ := h
  exact ⟨zs, hz, hr, fun z hz => ⟨(hc z hz).1, (hc z hz).2.1.mono hm, (hc z hz).2.2.mono hm⟩⟩
/-- what lives on -/
structure Kp (base : Nat) (F : Nat → Prop) (W W' : World) : Prop where
  items : ∀ g cs, W.heap[g]? = some (.cells cs 37 (0, 0)) → F g → W'.heap[g]? = W.heap[g]?
  cms : ∀ v cs, Cms base v cs W → Cms base v cs W'
theorem own_block {base e size n : Nat} {xs : List Value} (h : W.ownsRow base e size v n xs) (hb : ∀ g, v.ownBlock = some g → W'.heap[g]? = W.heap[g]?) : W'.ownsRow base e size v n xs := by
  refine ⟨h.1, ?_⟩
  rcases h.2 with h0 | ⟨g, cap, cur, rfl, hg, hh, h1⟩
  · exact .inl h0
  · exact .inr ⟨g, cap, cur, rfl, hg, (hb g rfl).trans hh, h1⟩
theorem Its.keep (h : Its base F W v is) (k : Kp base F W W') : Its base F W' v is := by
  induction h with
  | mk v zs hr hF hp ht he iht ihe =>
    exact .mk v zs (own_block hr fun g hg => let ⟨cs, hc⟩ := own_type hr g hg; k.items g cs hc (hF g hg)) hF (fun z hz => k.cms _ _ (hp z hz)) iht ihe
theorem Rw.keep (h : Rw base F v is W) (k : Kp base F W W') (hb : ∀ g, v.ownBlock = some g → W'.heap[g]? = W.heap[g]?) : Rw base F v is W' := by
  obtain ⟨zs, hz, hr, hc⟩ := h
  exact ⟨zs, hz, own_block hr hb, fun z hz => ⟨k.cms _ _ (hc z hz).1, (hc z hz).2.1.keep k, (hc z hz).2.2.keep k⟩⟩
theorem Kp.below (hb : Below W.heap.size W W') : Kp base F W W' := ⟨fun g cs h _ => hb.block g (Array.getElem?_eq_some_iff.1 h).1, fun v cs h => h.below hb⟩
theorem Kp.of {row : Option Nat} (hg : W.grownBy W' row) (hi : ∀ k, row = some k → (¬ F k) ∨ ∃ cs t fr, W.heap[k]? = some (.cells cs t fr) ∧ t ≠ 37) (ho : Off base W row) : Kp base F W W' := by
  refine ⟨fun g cs h hF => hg.block g (Array.getElem?_eq_some_iff.1 h).1 fun e => ?_, fun v cs h => h.off hg ho⟩
  rcases hi g e.symm with h1 | ⟨cs', t, fr, h1, h2⟩
  · exact h1 hF
  · rw [h1] at h
    injection h with h
    injection h with _ h
    exact h2 h
theorem Its.blw (h : Its base F W v is) (hb : Below W.heap.size W W') : Its base F W' v is := h.keep (.below hb)
theorem Rw.below (h : Rw base F v is W) (hb : Below W.heap.size W W') : Rw base F v is W' := h.keep (.below hb) fun g hg => hb.block g (h.fact g hg).2.1
/-- five cells behind a row's last element are written: a new element -/
theorem own_snoc5 {base e n g cap : Nat} {xs : List Value} {z0 z1 z2 z3 z4 : Value} (h : W.ownsRow base e 5 (.slice (some ⟨g, 0, none⟩) (n + 1) cap) (n + 1) (xs ++ [z0, z1, z2, z3, z4])) (hx : xs.length = n * 5) (a b c d f : Value) :
    (((((W.setCell ⟨g, n * 5, none⟩ a).setCell ⟨g, n * 5 + 1, none⟩ b).setCell ⟨g, n * 5 + 2, none⟩ c).setCell ⟨g, n * 5 + 3, none⟩ d).setCell ⟨g, n * 5 + 4, none⟩ f).ownsRow base e 5 (.slice (some ⟨g, 0, none⟩) (n + 1) cap) (n + 1) (xs ++ [a, b, c, d, f]) := by
  have h1 := (((((h.stored (n * 5) a).1.stored (n * 5 + 1) b).1.stored (n * 5 + 2) c).1.stored (n * 5 + 3) d).1.stored (n * 5 + 4) f).1
  have e : (((((xs ++ [z0, z1, z2, z3, z4]).set (n * 5) a).set (n * 5 + 1) b).set (n * 5 + 2) c).set (n * 5 + 3) d).set (n * 5 + 4) f = xs ++ [a, b, c, d, f] := by
    rw [← hx]
    simp [List.set_append]
  rw [e] at h1
  exact h1
theorem its_snoc {i : It} {pv tv ev v1 : Value} {w1 : World} {zs : List Ic} (hk : Kp base F W w1) (hr : ∀ z ∈ zs, Cms base z.pv z.it.pipe W ∧ Its base F W z.tv z.it.th ∧ Its base F W z.ev z.it.el) (hp : Cms base pv i.pipe W) (ht : Its base F W tv i.th) (he : Its base F W ev i.el)
    (hown : w1.ownsRow base 37 5 v1 (zs.length + 1) (icsCells zs ++ [.int .i64 i.kind, .string ⟨i.text.toArray⟩, pv, tv, ev])) : Rw base F v1 (zs.map Ic.it ++ [i]) w1 := by
  refine ⟨zs ++ [⟨i, pv, tv, ev⟩], by simp, ?_, ?_⟩
  · unfold icsCells at *
    rw [List.length_append, List.flatMap_append]
    simpa [Ic.cells] using hown
  · intro z hz
    rcases List.mem_append.1 hz with hz | hz
    · obtain ⟨h1, h2, h3⟩ := hr z hz
      exact ⟨hk.cms _ _ h1, h2.keep hk, h3.keep hk⟩
    · rw [List.mem_singleton.1 hz]
      exact ⟨hk.cms _ _ hp, ht.keep hk, he.keep hk⟩
end Go.Proofs.YtdaffedbboofjaaGreatDoor.S
