/-
  ONE STORE into a row of items, into a row of templates that are read (chapter 17).
-/
import Derived.Test.YtbcddlheikdlkaaGreatDoorAwake17
set_option linter.unusedVariables false
set_option linter.unusedSimpArgs false
namespace Go.Proofs.YtbcddlheikdlkaaGreatDoor.S
open Go.RowKit

theorem flat_set {α : Type} (f : α → List Value) (m : Nat) (hf : ∀ z, (f z).length = m) : ∀ (zs : List α) (k : Nat) (h : k < zs.length) (r : Nat), r < m → ∀ (x : Value) (z' : α), (f zs[k]).set r x = f z' → (zs.flatMap f).set (k * m + r) x = (zs.set k z').flatMap f
  | z :: zs, 0, _, r, hr, x, z', he => by
    rw [List.flatMap_cons, Nat.zero_mul, Nat.zero_add, List.set_append, if_pos (by rw [hf]; exact hr)]
    have he : (f z).set r x = f z' := he
    rw [he]
    rfl
  | z :: zs, k + 1, h, r, hr, x, z', he => by
    rw [List.flatMap_cons, List.set_append, if_neg (by rw [hf, Nat.succ_mul]; omega), hf]
    have e : (k + 1) * m + r - m = k * m + r := by rw [Nat.succ_mul]; omega
    rw [e, flat_set f m hf zs k (by simpa using h) r hr x z' he]
    rfl
/-- a row's blocks lie behind its base -/
theorem Its.based {base : Nat} {F : Nat → Prop} {v : Value} {is : List It} {W : World} (h : Its base F W v is) : Its base (fun b => F b ∧ base ≤ b) W v is := by
  induction h with
  | mk v zs hr hF hp ht he iht ihe => exact .mk v zs hr (fun g hg => ⟨hF g hg, own_base hr g hg⟩) hp iht ihe
theorem cell_other (W : World) (g g' i j : Nat) (x : Value) (h : g ≠ g') : (W.setCell ⟨g', j, none⟩ x).cell? ⟨g, i, none⟩ = W.cell? ⟨g, i, none⟩ := by
  have h2 : ¬ g' = g := fun e => h e.symm
  simp [World.cell?, World.setCell, Array.getElem?_modify, h2]
theorem item_store {lo : Nat} {F : Nat → Prop} {g n cap : Nat} {is : List It} {W : World} (h : Rw lo F (.slice (some ⟨g, 0, none⟩) n cap) is W) (hF : ¬ F g) (k f : Nat) (hk : k < is.length) (hf : f < 5) (x : Value) (i' : It)
    (hz : (∀ v cs, Cms lo v cs W → Cms 0 v cs (W.setCell ⟨g, k * 5 + f, none⟩ x)) → ∀ z : Ic, z.it = is[k] → Cms 0 z.pv is[k].pipe (W.setCell ⟨g, k * 5 + f, none⟩ x) → Its 0 (fun _ => True) (W.setCell ⟨g, k * 5 + f, none⟩ x) z.tv is[k].th → Its 0 (fun _ => True) (W.setCell ⟨g, k * 5 + f, none⟩ x) z.ev is[k].el →
      ∃ z' : Ic, z'.it = i' ∧ (Ic.cells z).set f x = Ic.cells z' ∧ Cms 0 z'.pv i'.pipe (W.setCell ⟨g, k * 5 + f, none⟩ x) ∧ Its 0 (fun _ => True) (W.setCell ⟨g, k * 5 + f, none⟩ x) z'.tv i'.th ∧ Its 0 (fun _ => True) (W.setCell ⟨g, k * 5 + f, none⟩ x) z'.ev i'.el) :
    Its 0 (fun _ => True) (W.setCell ⟨g, k * 5 + f, none⟩ x) (.slice (some ⟨g, 0, none⟩) n cap) (is.set k i') := by
  obtain ⟨zs, rfl, hr, hc⟩ := h
  have hk' : k < zs.length := by simpa using hk
  obtain ⟨a', c', hv, -⟩ := own_slice hr
  obtain ⟨-, rfl, -⟩ := Value.slice.inj hv
  clear hv
  obtain ⟨cs, hcs⟩ := own_type hr g rfl
  have hg := grownBy_set W g (k * 5 + f) x
  have kp : Kp lo F W (W.setCell ⟨g, k * 5 + f, none⟩ x) := Kp.of hg (fun j hj => .inl (by cases hj; exact hF)) (off_type hcs (by decide) (by decide) (by decide))
  have hst := (hr.stored (k * 5 + f) x).1
  have hall : ∀ z ∈ zs, Cms 0 z.pv z.it.pipe (W.setCell ⟨g, k * 5 + f, none⟩ x) ∧ Its 0 (fun _ => True) (W.setCell ⟨g, k * 5 + f, none⟩ x) z.tv z.it.th ∧ Its 0 (fun _ => True) (W.setCell ⟨g, k * 5 + f, none⟩ x) z.ev z.it.el := fun z hz =>
    ⟨(kp.cms _ _ (hc z hz).1).mono (Nat.zero_le _), (((hc z hz).2.1.keep kp).mono fun _ _ _ => trivial).tobase (Nat.zero_le _), (((hc z hz).2.2.keep kp).mono fun _ _ _ => trivial).tobase (Nat.zero_le _)⟩
  have ek : (zs.map Ic.it)[k] = zs[k].it := by simp
  have ha := hall zs[k] (List.getElem_mem hk')
  obtain ⟨z', h1, h2, h3, h4, h5⟩ := hz (fun v cs h => (kp.cms v cs h).mono (Nat.zero_le _)) zs[k] ek.symm (by rw [ek]; exact ha.1) (by rw [ek]; exact ha.2.1) (by rw [ek]; exact ha.2.2)
  have hcell : (icsCells zs).set (k * 5 + f) x = icsCells (zs.set k z') := flat_set Ic.cells 5 (fun _ => rfl) zs k hk' f hf x z' h2
  rw [hcell] at hst
  have hres := Its.mk (base := 0) (F := fun _ => True) (W := W.setCell ⟨g, k * 5 + f, none⟩ x) (.slice (some ⟨g, 0, none⟩) zs.length cap) (zs.set k z') (by rw [List.length_set]; exact hst.mono (Nat.zero_le _)) (fun _ _ => trivial)
    (fun z hz => by
      rcases List.mem_or_eq_of_mem_set hz with hz | rfl
      · exact (hall z hz).1
      · rw [h1]; exact h3)
    (fun z hz => by
      rcases List.mem_or_eq_of_mem_set hz with hz | rfl
      · exact (hall z hz).2.1
      · rw [h1]; exact h4)
    (fun z hz => by
      rcases List.mem_or_eq_of_mem_set hz with hz | rfl
      · exact (hall z hz).2.2
      · rw [h1]; exact h5)
  rw [List.map_set, h1] at hres
  exact hres
/-- two templates that are read, laid open -/
structure Op2 (base : Nat) (nv : Value) (n0 n1 : Nm) (gN cap : Nat) (iv0 iv1 : Value) (lo0 hi0 lo1 hi1 : Nat) (W : World) : Prop where
  nv_eq : nv = .slice (some ⟨gN, 0, none⟩) 2 cap
  cap2 : 2 ≤ cap
  capm : cap ≤ 9223372036854775807
  typ : ∃ cs, W.heap[gN]? = some (.cells cs 47 (0, 0))
  c0 : W.cell? ⟨gN, 0, none⟩ = some (.string ⟨n0.1.toArray⟩)
  c1 : W.cell? ⟨gN, 1, none⟩ = some iv0
  c2 : W.cell? ⟨gN, 2, none⟩ = some (.string ⟨n1.1.toArray⟩)
  c3 : W.cell? ⟨gN, 3, none⟩ = some iv1
  r0 : Rw lo0 (fun b => iv0.ownBlock ≠ some b ∧ b < hi0) iv0 n0.2 W
  r1 : Rw lo1 (fun b => iv1.ownBlock ≠ some b ∧ b < hi1) iv1 n1.2 W
  own0 : ∀ g, iv0.ownBlock = some g → g < hi0
  apart : hi0 ≤ lo1
  b0 : base ≤ lo0
  bN : base ≤ gN
theorem NmO.open2 {base : Nat} {nv : Value} {n0 n1 : Nm} {W : World} (h : NmO base nv [n0, n1] W) : ∃ gN cap iv0 iv1 lo0 hi0 lo1 hi1, Op2 base nv n0 n1 gN cap iv0 iv1 lo0 hi0 lo1 hi1 W := by
  obtain ⟨zs, hz, hr, hc, hh, hp, hlo⟩ := h
  match zs, hz with
  | [z0, z1], hz =>
    injection hz with e0 hz
    injection hz with e1 hz
    subst e0
    subst e1
    have hr' := hr
    rcases hr.2 with ⟨rfl, h0⟩ | ⟨g, cap, cur, rfl, hb, hhp, h1, h2, h3⟩
    · cases h0
    · have k0 := hc z0 (by simp)
      have k1 := hc z1 (by simp)
      have hpp : z0.hi ≤ z1.lo := (List.pairwise_cons.1 hp).1 z1 (by simp)
      exact ⟨g, cap, z0.iv, z1.iv, z0.lo, z0.hi, z1.lo, z1.hi, rfl, h1, by unfold maxLen at h2; omega, own_type hr' g rfl, World.ownsRow.cellAt hr' 0 (by simp), World.ownsRow.cellAt hr' 1 (by simp), World.ownsRow.cellAt hr' 2 (by simp), World.ownsRow.cellAt hr' 3 (by simp), k0.row, k1.row, k0.own, hpp, hlo z0 (by simp), hb⟩
theorem Op2.below {base : Nat} {nv : Value} {n0 n1 : Nm} {gN cap : Nat} {iv0 iv1 : Value} {lo0 hi0 lo1 hi1 : Nat} {W W' : World} (h : Op2 base nv n0 n1 gN cap iv0 iv1 lo0 hi0 lo1 hi1 W) (hb : Below W.heap.size W W') : Op2 base nv n0 n1 gN cap iv0 iv1 lo0 hi0 lo1 hi1 W' := by
  obtain ⟨cs, hcs⟩ := h.typ
  exact ⟨h.nv_eq, h.cap2, h.capm, ⟨cs, (hb.block gN (Array.getElem?_eq_some_iff.1 hcs).1).trans hcs⟩, cell_keep hb h.c0, cell_keep hb h.c1, cell_keep hb h.c2, cell_keep hb h.c3, h.r0.below hb, h.r1.below hb, h.own0, h.apart, h.b0, h.bN⟩
theorem Op2.nmV {base : Nat} {nv : Value} {n0 n1 : Nm} {gN cap : Nat} {iv0 iv1 : Value} {lo0 hi0 lo1 hi1 : Nat} {W W' : World} (h : Op2 base nv n0 n1 gN cap iv0 iv1 lo0 hi0 lo1 hi1 W) (m0 m1 : Nm)
    (c0 : W'.cell? ⟨gN, 0, none⟩ = some (.string ⟨m0.1.toArray⟩)) (c1 : W'.cell? ⟨gN, 1, none⟩ = some iv0) (c2 : W'.cell? ⟨gN, 2, none⟩ = some (.string ⟨m1.1.toArray⟩)) (c3 : W'.cell? ⟨gN, 3, none⟩ = some iv1)
    (h0 : Its 0 (fun _ => True) W' iv0 m0.2) (h1 : Its 0 (fun _ => True) W' iv1 m1.2) : NmV nv [m0, m1] W' := by
  refine ⟨some ⟨gN, 0, none⟩, cap, h.nv_eq, h.cap2, h.capm, fun k hk => ?_⟩
  match k, hk with
  | 0, _ => exact ⟨gN, 0, iv0, rfl, c0, c1, h0⟩
  | 1, _ => exact ⟨gN, 0, iv1, rfl, c2, c3, h1⟩
/-- one field of one item of the first template is written over -/
theorem Op2.item {base : Nat} {nv : Value} {n0 n1 : Nm} {gN cap g n c : Nat} {iv1 : Value} {lo0 hi0 lo1 hi1 : Nat} {W : World} (h : Op2 base nv n0 n1 gN cap (.slice (some ⟨g, 0, none⟩) n c) iv1 lo0 hi0 lo1 hi1 W)
    (k f : Nat) (hk : k < n0.2.length) (hf : f < 5) (x : Value) (i' : It)
    (hz : (∀ v cs, Cms lo0 v cs W → Cms 0 v cs (W.setCell ⟨g, k * 5 + f, none⟩ x)) → ∀ z : Ic, z.it = n0.2[k] → Cms 0 z.pv n0.2[k].pipe (W.setCell ⟨g, k * 5 + f, none⟩ x) → Its 0 (fun _ => True) (W.setCell ⟨g, k * 5 + f, none⟩ x) z.tv n0.2[k].th → Its 0 (fun _ => True) (W.setCell ⟨g, k * 5 + f, none⟩ x) z.ev n0.2[k].el →
      ∃ z' : Ic, z'.it = i' ∧ (Ic.cells z).set f x = Ic.cells z' ∧ Cms 0 z'.pv i'.pipe (W.setCell ⟨g, k * 5 + f, none⟩ x) ∧ Its 0 (fun _ => True) (W.setCell ⟨g, k * 5 + f, none⟩ x) z'.tv i'.th ∧ Its 0 (fun _ => True) (W.setCell ⟨g, k * 5 + f, none⟩ x) z'.ev i'.el) :
    NmV nv [(n0.1, n0.2.set k i'), n1] (W.setCell ⟨g, k * 5 + f, none⟩ x) ∧ base ≤ g := by
  have hI := item_store h.r0 (fun hF => hF.1 rfl) k f hk hf x i' hz
  obtain ⟨_, _, cs, hcs⟩ := h.r0.fact g rfl
  obtain ⟨ds, hds⟩ := h.typ
  have hne : gN ≠ g := fun e => by
    rw [e, hcs] at hds
    injection hds with hds
    injection hds with _ hds
    revert hds
    decide
  have hgl : g < lo1 := Nat.lt_of_lt_of_le (h.own0 g rfl) h.apart
  have kp : Kp lo1 (fun b => True ∧ lo1 ≤ b) W (W.setCell ⟨g, k * 5 + f, none⟩ x) := Kp.of (grownBy_set W g (k * 5 + f) x) (fun j hj => .inl (by cases hj; intro hh; omega)) (off_type hcs (by decide) (by decide) (by decide))
  have h1 : Its 0 (fun _ => True) (W.setCell ⟨g, k * 5 + f, none⟩ x) iv1 n1.2 := (((((h.r1.mono fun _ _ _ => trivial).its fun _ _ => trivial).based).keep kp).mono fun _ _ _ => trivial).tobase (Nat.zero_le _)
  exact ⟨h.nmV _ _ ((cell_other _ _ _ _ _ _ hne).trans h.c0) ((cell_other _ _ _ _ _ _ hne).trans h.c1) ((cell_other _ _ _ _ _ _ hne).trans h.c2) ((cell_other _ _ _ _ _ _ hne).trans h.c3) hI h1, Nat.le_trans h.b0 (h.r0.fact g rfl).1⟩
/-- the second template's name is written over -/
theorem Op2.name {base : Nat} {nv : Value} {n0 n1 : Nm} {gN cap : Nat} {iv0 iv1 : Value} {lo0 hi0 lo1 hi1 : Nat} {W : World} (h : Op2 base nv n0 n1 gN cap iv0 iv1 lo0 hi0 lo1 hi1 W) (t : List UInt8) :
    NmV nv [n0, (t, n1.2)] (W.setCell ⟨gN, 2, none⟩ (.string ⟨t.toArray⟩)) := by
  obtain ⟨ds, hds⟩ := h.typ
  have hg := grownBy_set W gN 2 (.string ⟨t.toArray⟩)
  have kp : ∀ lo, Kp lo (fun _ => True) W (W.setCell ⟨gN, 2, none⟩ (.string ⟨t.toArray⟩)) := fun lo => Kp.of hg (fun j hj => .inr (by cases hj; exact ⟨ds, _, _, hds, by decide⟩)) (off_type hds (by decide) (by decide) (by decide))
  have k0 := (((h.r0.mono fun _ _ _ => trivial).its fun _ _ => trivial).keep (kp _)).tobase (Nat.zero_le _)
  have k1 := (((h.r1.mono fun _ _ _ => trivial).its fun _ _ => trivial).keep (kp _)).tobase (Nat.zero_le _)
  have hx : ∀ i, i ≠ 2 → (W.setCell ⟨gN, 2, none⟩ (.string ⟨t.toArray⟩)).cell? ⟨gN, i, none⟩ = W.cell? ⟨gN, i, none⟩ := fun i hi => by
    have h2 : ¬ 2 = i := fun e => hi e.symm
    simp [World.cell?, World.setCell, Array.getElem?_modify, hds, Array.getElem?_set, h2]
  have hy : (W.setCell ⟨gN, 2, none⟩ (.string ⟨t.toArray⟩)).cell? ⟨gN, 2, none⟩ = some (.string ⟨t.toArray⟩) := by
    have h3 := h.c2
    simp [World.cell?, hds] at h3
    have h4 : 2 < ds.size := (Array.getElem?_eq_some_iff.1 h3).1
    simp [World.cell?, World.setCell, Array.getElem?_modify, hds, h4]
  exact h.nmV _ _ ((hx 0 (by decide)).trans h.c0) ((hx 1 (by decide)).trans h.c1) hy ((hx 3 (by decide)).trans h.c3) k0 k1
end Go.Proofs.YtbcddlheikdlkaaGreatDoor.S
