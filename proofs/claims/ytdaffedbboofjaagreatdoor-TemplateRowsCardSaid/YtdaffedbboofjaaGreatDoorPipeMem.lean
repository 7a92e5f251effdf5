/-
  ROWS in memory: arguments, commands; append of one element, whatever its type.
-/
import Derived.Test.YtdaffedbboofjaaGreatDoorWordAll
import Derived.Test.YtdaffedbboofjaaGreatDoorPlainP
import Derived.Test.YtdaffedbboofjaaGreatDoorSameW
set_option linter.unusedVariables false
set_option linter.unusedSimpArgs false
namespace Go.Proofs.YtdaffedbboofjaaGreatDoor.S
open Go.RowKit

section
variable {ops : Array Oper} {rest : List Oper} {o : Oper} {a : Act} {Q : Exit → Act → World → Prop}
/-- append(xs, x): the literal's block has just been laid -/
theorem wp_app1 {W : World} {T ST size bytes : Nat} {z0 : Value} (hinfo : (Tryz.prog.info? T).map (fun i => (i.zero, i.size, i.bytes)) = some (some z0, size, bytes)) (hu : Tryz.prog.underlying ST = some (.slice T)) (hzs : z0.cells.size = size) (hsz : 0 < size)
    (base : Nat) (hgd : o.guard = none) (s x : Operand) (ho : o.op = .call { callee := .builtin .append, args := #[s, x], argTypes := #[ST, ST] })
    (v : Value) (n : Nat) (xs : List Value) (cs : Array Value) (c : Nat) (hs : a.eval s = v) (hx : a.eval x = .slice (some ⟨W.heap.size, 0, none⟩) 1 c) (hl : cs.toList.length = size) (h1 : ∀ u ∈ cs.toList, u.oneCell' = true)
    (HO : W.ownsRow base T size v n xs) (hbase : base ≤ W.heap.size) (hn : n + 1 ≤ maxLen) (hb : (n + 1) * bytes ≤ 140737488355328)
    (h : ∀ v1 w1, w1.ownsRow base T size v1 (n + 1) (xs ++ cs.toList) → W.grownBy w1 v.ownBlock → wpList Tryz.prog ops Q rest (a.put o.dst v1) w1) :
    wpList Tryz.prog ops Q (o :: rest) a (W.alloc (.cells cs T)) := by
  obtain ⟨i0, hi, hz0, hz1, hz2⟩ := info_parts hinfo
  refine wpList_append_own (W.alloc (.cells cs T)) hgd s x ST ho base T i0 z0 size bytes hu hi hz0 hz1 hz2 hzs hsz v n xs hs (own_below HO ((Below.refl _ W).alloc (Nat.le_refl _) _))
    ⟨W.heap.size, 0, none⟩ 1 c cs.toList hx (by rw [hl, Nat.one_mul]) (World.news_of_block (cs := cs) (t := T) (fr := (0, 0)) (heap_new W _)) h1 hn hb (by simp; omega) ?_
  intro v1 w1 hown hg _
  exact h v1 w1 hown ((World.grownBy_alloc W _ _).trans hg)
/-- append(xs, x) as a step of a region that draws its order; the literal's block L is known whole -/
theorem step_app1 {K : Act → World → Prop} {E : Prop} {W : World} {T ST size bytes : Nat} {z0 : Value} (hinfo : (Tryz.prog.info? T).map (fun i => (i.zero, i.size, i.bytes)) = some (some z0, size, bytes)) (hu : Tryz.prog.underlying ST = some (.slice T)) (hzs : z0.cells.size = size) (hsz : 0 < size)
    (base : Nat) (hgd : o.guard = none) (s x : Operand) (ho : o.op = .call { callee := .builtin .append, args := #[s, x], argTypes := #[ST, ST] })
    (v : Value) (n : Nat) (xs : List Value) (L : Nat) (cs : Array Value) (fr : Nat × Nat) (c : Nat) (hs : a.eval s = v) (hx : a.eval x = .slice (some ⟨L, 0, none⟩) 1 c) (hl : cs.toList.length = size) (h1 : ∀ u ∈ cs.toList, u.oneCell' = true)
    (hL : W.heap[L]? = some (.cells cs T fr)) (HO : W.ownsRow base T size v n xs) (hbase : base ≤ W.heap.size) (hn : n + 1 ≤ maxLen) (hb : (n + 1) * bytes ≤ 140737488355328)
    (h : ∀ g1 c1 w1, w1.ownsRow base T size (.slice (some ⟨g1, 0, none⟩) (n + 1) c1) (n + 1) (xs ++ cs.toList) → W.grownBy w1 v.ownBlock → (v.ownBlock = some g1 ∨ g1 = W.heap.size) → K (a.put o.dst (.slice (some ⟨g1, 0, none⟩) (n + 1) c1)) w1) :
    if Region.wanted o (yielded ops a.tmps) = true then Oper.wp Tryz.prog o a W K Q else E := by
  obtain ⟨i0, hi, hz0, hz1, hz2⟩ := info_parts hinfo
  refine step_append_lies W hgd s x ST ho base T i0 z0 size bytes hu hi hz0 hz1 hz2 hzs hsz v n xs hs HO
    ⟨L, 0, none⟩ 1 c cs.toList hx (by rw [hl, Nat.one_mul]) (World.news_of_block hL) h1 (by decide) hn hb hbase _ rfl ?_
  intro g cap w1 hown hg hgb _
  exact h g cap w1 hown hg hgb
end
theorem own_type {base e size n : Nat} {v : Value} {xs : List Value} {w : World} (h : w.ownsRow base e size v n xs) (k : Nat) (hk : v.ownBlock = some k) : ∃ cs, w.heap[k]? = some (.cells cs e (0, 0)) := by
  rcases h.2 with ⟨rfl, _⟩ | ⟨g, cap, cur, rfl, _, hh, _⟩
  · simp [Value.ownBlock] at hk
  · have : g = k := by simpa [Value.ownBlock] using hk
    exact ⟨cur, by rw [← this]; exact hh⟩
/-- what is written is none of a pipe's rows from base on -/
def Off (base : Nat) (W : World) (row : Option Nat) : Prop := ∀ g, row = some g → g < base ∨ ∃ cs t fr, W.heap[g]? = some (.cells cs t fr) ∧ t ≠ 9 ∧ t ≠ 43 ∧ t ≠ 46
theorem off_low {base g : Nat} {W : World} (h : g < base) : Off base W (some g) := fun k hk => by cases hk; exact .inl h
theorem off_none (base : Nat) (W : World) : Off base W none := fun k hk => by cases hk
theorem off_type {base g : Nat} {W : World} {cs : Array Value} {t : TypeId} {fr : Nat × Nat} (h : W.heap[g]? = some (.cells cs t fr)) (h1 : t ≠ 9) (h2 : t ≠ 43) (h3 : t ≠ 46) : Off base W (some g) := fun k hk => by cases hk; exact .inr ⟨cs, t, fr, h, h1, h2, h3⟩
theorem own_off {base e size n : Nat} {v : Value} {xs : List Value} {w w' : World} {row : Option Nat} (h : w.ownsRow base e size v n xs) (hg : w.grownBy w' row) (ho : Off base w row) (he : e = 9 ∨ e = 43 ∨ e = 46) : w'.ownsRow base e size v n xs := by
  refine World.ownsRow.kept h hg ?_
  cases hb : v.ownBlock with
  | none => exact .inl rfl
  | some k =>
    refine .inr fun hk => ?_
    subst hk
    have h1 := own_base h k hb
    obtain ⟨cs, hc⟩ := own_type h k hb
    rcases ho k rfl with h2 | ⟨cs', t, fr, h2, h3, h4, h5⟩
    · omega
    · rw [h2] at hc
      injection hc with hc
      injection hc with _ hc
      rcases he with he | he | he <;> subst he <;> subst hc <;> contradiction
/-- rows of texts that are done: an empty one may lie anywhere -/
def Txs (base : Nat) (v : Value) (xs : List (List UInt8)) (w : World) : Prop := (xs = [] ∧ ∃ a c, v = .slice a 0 c) ∨ Strs base v xs w
theorem Txs.slice {base : Nat} {v : Value} {xs : List (List UInt8)} {w : World} (h : Txs base v xs w) : ∃ a c, v = .slice a xs.length c := by
  rcases h with ⟨rfl, a, c, rfl⟩ | h
  · exact ⟨a, c, rfl⟩
  · exact h.slice
theorem Txs.off {base : Nat} {v : Value} {xs : List (List UInt8)} {w w' : World} {row : Option Nat} (h : Txs base v xs w) (hg : w.grownBy w' row) (ho : Off base w row) : Txs base v xs w' := by
  rcases h with h | h
  · exact .inl h
  · exact .inr (own_off h hg ho (.inl rfl))
theorem Txs.mono {base base' : Nat} {v : Value} {xs : List (List UInt8)} {w : World} (h : Txs base v xs w) (hb : base' ≤ base) : Txs base' v xs w := by
  rcases h with h | h
  · exact .inl h
  · exact .inr (World.ownsRow.mono h hb)
def arCells (d : Ar) (pv : Value) : List Value := [.int .i64 d.kind, .string ⟨d.name.toArray⟩, pv, .int .i64 d.num, .string ⟨d.text.toArray⟩]
def arsCells (zs : List (Ar × Value)) : List Value := zs.flatMap fun z => arCells z.1 z.2
/-- a row of arguments, each with its path's row -/
def Ars (base : Nat) (v : Value) (ds : List Ar) (W : World) : Prop := ∃ zs : List (Ar × Value), zs.map Prod.fst = ds ∧ W.ownsRow base 43 5 v zs.length (arsCells zs) ∧ ∀ z ∈ zs, Txs base z.2 z.1.path W
theorem arInfo : (Tryz.prog.info? 43).map (fun i => (i.zero, i.size, i.bytes)) = some (some (.agg #[.int .i64 0, .string ⟨#[]⟩, .slice none 0 0, .int .i64 0, .string ⟨#[]⟩]), 5, 72) := by kernel_rfl
theorem ars_nil (base : Nat) (W : World) : Ars base (.slice none 0 0) [] W := ⟨[], rfl, ⟨by simp [arsCells], .inl ⟨rfl, rfl⟩⟩, fun z hz => by cases hz⟩
theorem Ars.off {base : Nat} {v : Value} {ds : List Ar} {w w' : World} {row : Option Nat} (h : Ars base v ds w) (hg : w.grownBy w' row) (ho : Off base w row) : Ars base v ds w' :=
  let ⟨zs, hz, hr, hp⟩ := h
  ⟨zs, hz, own_off hr hg ho (.inr (.inl rfl)), fun z hz => (hp z hz).off hg ho⟩
theorem Ars.below {base : Nat} {v : Value} {ds : List Ar} {w w' : World} (h : Ars base v ds w) (hb : Below w.heap.size w w') : Ars base v ds w' := h.off (grownBy_below (row := none) hb) (off_none _ _)
theorem Txs.below {base : Nat} {v : Value} {xs : List (List UInt8)} {w w' : World} (h : Txs base v xs w) (hb : Below w.heap.size w w') : Txs base v xs w' := h.off (grownBy_below (row := none) hb) (off_none _ _)
theorem Ars.mono {base base' : Nat} {v : Value} {ds : List Ar} {w : World} (h : Ars base v ds w) (hb : base' ≤ base) : Ars base' v ds w :=
  let ⟨zs, hz, hr, hp⟩ := h
  ⟨zs, hz, World.ownsRow.mono hr hb, fun z hz => (hp z hz).mono hb⟩
theorem Ars.slice {base : Nat} {v : Value} {ds : List Ar} {w : World} (h : Ars base v ds w) : ∃ a c, v = .slice a ds.length c := by
  obtain ⟨zs, rfl, hr, _⟩ := h
  obtain ⟨a, c, h, _⟩ := own_slice hr
  exact ⟨a, c, by rw [List.length_map]; exact h⟩
theorem Ars.base_le {base : Nat} {v : Value} {ds : List Ar} {w : World} (h : Ars base v ds w) (k : Nat) (hk : v.ownBlock = some k) : base ≤ k := by
  obtain ⟨zs, rfl, hr, _⟩ := h
  exact own_base hr k hk
/-- a row of another type is written: its own -/
theorem own_other {base base' e e' size size' n n' : Nat} {v v' : Value} {xs xs' : List Value} {w w' : World} (h : w.ownsRow base e size v n xs) (h' : w.ownsRow base' e' size' v' n' xs') (hne : e ≠ e') (hg : w.grownBy w' v'.ownBlock) : w'.ownsRow base e size v n xs := by
  refine World.ownsRow.kept h hg ?_
  cases hb : v.ownBlock with
  | none => exact .inl rfl
  | some k =>
    refine .inr fun hk => ?_
    obtain ⟨cs, hc⟩ := own_type h k hb
    obtain ⟨cs', hc'⟩ := own_type h' k hk.symm
    rw [hc] at hc'
    injection hc' with hc'
    injection hc' with _ h2
    exact hne h2
theorem Txs.other {base base' e' size' n' : Nat} {v v' : Value} {xs : List (List UInt8)} {xs' : List Value} {w w' : World} (h : Txs base v xs w) (h' : w.ownsRow base' e' size' v' n' xs') (hne : 9 ≠ e') (hg : w.grownBy w' v'.ownBlock) : Txs base v xs w' := by
  rcases h with h | h
  · exact .inl h
  · exact .inr (own_other h h' hne hg)
theorem Ars.other {base base' e' size' n' : Nat} {v v' : Value} {ds : List Ar} {xs' : List Value} {w w' : World} (h : Ars base v ds w) (h' : w.ownsRow base' e' size' v' n' xs') (hne : 9 ≠ e') (hne2 : 43 ≠ e') (hg : w.grownBy w' v'.ownBlock) : Ars base v ds w' :=
  let ⟨zs, hz, hr, hp⟩ := h
  ⟨zs, hz, own_other hr h' hne2 hg, fun z hz => (hp z hz).other h' hne hg⟩
theorem ars_snoc {base : Nat} {v v1 : Value} {ds : List Ar} {d : Ar} {pv : Value} {W w1 : World} {zs : List (Ar × Value)} (hz : zs.map Prod.fst = ds) (hr : W.ownsRow base 43 5 v zs.length (arsCells zs)) (hp : ∀ z ∈ zs, Txs base z.2 z.1.path W) (hP : Txs base pv d.path W)
    (hown : w1.ownsRow base 43 5 v1 (zs.length + 1) (arsCells zs ++ arCells d pv)) (hg : W.grownBy w1 v.ownBlock) : Ars base v1 (ds ++ [d]) w1 := by
  refine ⟨zs ++ [(d, pv)], by rw [List.map_append, hz]; rfl, ?_, ?_⟩
  · rw [List.length_append]
    unfold arsCells at *
    rw [List.flatMap_append]
    simpa using hown
  · intro z hzm
    rcases List.mem_append.1 hzm with h | h
    · exact (hp z h).other hr (by decide) hg
    · rw [List.mem_singleton.1 h]
      exact hP.other hr (by decide) hg
def cmCells (d : Cm) (pv : Value) : List Value := [.string ⟨d.fn.toArray⟩, pv]
def cmsCells (zs : List (Cm × Value)) : List Value := zs.flatMap fun z => cmCells z.1 z.2
/-- a row of commands, each with its arguments' row -/
def Cms (base : Nat) (v : Value) (ds : List Cm) (W : World) : Prop := ∃ zs : List (Cm × Value), zs.map Prod.fst = ds ∧ W.ownsRow base 46 2 v zs.length (cmsCells zs) ∧ ∀ z ∈ zs, Ars base z.2 z.1.args W
theorem cmInfo : (Tryz.prog.info? 46).map (fun i => (i.zero, i.size, i.bytes)) = some (some (.agg #[.string ⟨#[]⟩, .slice none 0 0]), 2, 40) := by kernel_rfl
theorem cms_nil (base : Nat) (W : World) : Cms base (.slice none 0 0) [] W := ⟨[], rfl, ⟨by simp [cmsCells], .inl ⟨rfl, rfl⟩⟩, fun z hz => by cases hz⟩
theorem Cms.off {base : Nat} {v : Value} {ds : List Cm} {w w' : World} {row : Option Nat} (h : Cms base v ds w) (hg : w.grownBy w' row) (ho : Off base w row) : Cms base v ds w' :=
  let ⟨zs, hz, hr, hp⟩ := h
  ⟨zs, hz, own_off hr hg ho (.inr (.inr rfl)), fun z hz => (hp z hz).off hg ho⟩
theorem Cms.below {base : Nat} {v : Value} {ds : List Cm} {w w' : World} (h : Cms base v ds w) (hb : Below w.heap.size w w') : Cms base v ds w' := h.off (grownBy_below (row := none) hb) (off_none _ _)
theorem Cms.mono {base base' : Nat} {v : Value} {ds : List Cm} {w : World} (h : Cms base v ds w) (hb : base' ≤ base) : Cms base' v ds w :=
  let ⟨zs, hz, hr, hp⟩ := h
  ⟨zs, hz, World.ownsRow.mono hr hb, fun z hz => (hp z hz).mono hb⟩
theorem Cms.slice {base : Nat} {v : Value} {ds : List Cm} {w : World} (h : Cms base v ds w) : ∃ a c, v = .slice a ds.length c := by
  obtain ⟨zs, rfl, hr, _⟩ := h
  obtain ⟨a, c, h, _⟩ := own_slice hr
  exact ⟨a, c, by rw [List.length_map]; exact h⟩
theorem Cms.base_le {base : Nat} {v : Value} {ds : List Cm} {w : World} (h : Cms base v ds w) (k : Nat) (hk : v.ownBlock = some k) : base ≤ k := by
  obtain ⟨zs, rfl, hr, _⟩ := h
  exact own_base hr k hk
theorem cms_snoc {base : Nat} {v v1 : Value} {ds : List Cm} {d : Cm} {pv : Value} {W w1 : World} {zs : List (Cm × Value)} (hz : zs.map Prod.fst = ds) (hr : W.ownsRow base 46 2 v zs.length (cmsCells zs)) (hp : ∀ z ∈ zs, Ars base z.2 z.1.args W) (hP : Ars base pv d.args W)
    (hown : w1.ownsRow base 46 2 v1 (zs.length + 1) (cmsCells zs ++ cmCells d pv)) (hg : W.grownBy w1 v.ownBlock) : Cms base v1 (ds ++ [d]) w1 := by
  refine ⟨zs ++ [(d, pv)], by rw [List.map_append, hz]; rfl, ?_, ?_⟩
  · rw [List.length_append]
    unfold cmsCells at *
    rw [List.flatMap_append]
    simpa using hown
  · intro z hzm
    rcases List.mem_append.1 hzm with h | h
    · exact (hp z h).other hr (by decide) (by decide) hg
    · rw [List.mem_singleton.1 h]
      exact hP.other hr (by decide) (by decide) hg
section
variable {ops : Array Oper} {rest : List Oper} {o : Oper} {a : Act} {Q : Exit → Act → World → Prop}
theorem wp_appAr {W : World} (base : Nat) (hgd : o.guard = none) (s x : Operand) (ho : o.op = .call { callee := .builtin .append, args := #[s, x], argTypes := #[44, 44] })
    (v : Value) (ds : List Ar) (d : Ar) (pv : Value) (cs : Array Value) (hcs : cs.toList = arCells d pv) (h1 : pv.oneCell' = true) (c : Nat) (hs : a.eval s = v) (hx : a.eval x = .slice (some ⟨W.heap.size, 0, none⟩) 1 c)
    (HO : Ars base v ds W) (HP : Txs base pv d.path W) (hbase : base ≤ W.heap.size) (hl : ds.length ≤ 1099511627776)
    (h : ∀ v1 w1, Ars base v1 (ds ++ [d]) w1 → W.grownBy w1 v.ownBlock → wpList Tryz.prog ops Q rest (a.put o.dst v1) w1) :
    wpList Tryz.prog ops Q (o :: rest) a (W.alloc (.cells cs 43)) := by
  obtain ⟨zs, rfl, hr, hp⟩ := HO
  rw [List.length_map] at hl
  refine wp_app1 arInfo Tryz.underlying44 rfl (by decide) base hgd s x ho v _ _ cs c hs hx (by rw [hcs]; rfl) ?_ hr hbase (by simp only [maxLen]; omega) (by omega) ?_
  · rw [hcs]
    intro u hu
    simp only [arCells, List.mem_cons, List.not_mem_nil, or_false] at hu
    rcases hu with rfl | rfl | rfl | rfl | rfl
    · rfl
    · rfl
    · exact h1
    · rfl
    · rfl
  · intro v1 w1 hown hg
    rw [hcs] at hown
    exact h v1 w1 (ars_snoc rfl hr hp HP hown hg) hg
theorem wp_appCm {W : World} (base : Nat) (hgd : o.guard = none) (s x : Operand) (ho : o.op = .call { callee := .builtin .append, args := #[s, x], argTypes := #[35, 35] })
    (v : Value) (ds : List Cm) (d : Cm) (pv : Value) (cs : Array Value) (hcs : cs.toList = cmCells d pv) (h1 : pv.oneCell' = true) (c : Nat) (hs : a.eval s = v) (hx : a.eval x = .slice (some ⟨W.heap.size, 0, none⟩) 1 c)
    (HO : Cms base v ds W) (HP : Ars base pv d.args W) (hbase : base ≤ W.heap.size) (hl : ds.length ≤ 1099511627776)
    (h : ∀ v1 w1, Cms base v1 (ds ++ [d]) w1 → W.grownBy w1 v.ownBlock → wpList Tryz.prog ops Q rest (a.put o.dst v1) w1) :
    wpList Tryz.prog ops Q (o :: rest) a (W.alloc (.cells cs 46)) := by
  obtain ⟨zs, rfl, hr, hp⟩ := HO
  rw [List.length_map] at hl
  refine wp_app1 cmInfo Tryz.underlying35 rfl (by decide) base hgd s x ho v _ _ cs c hs hx (by rw [hcs]; rfl) ?_ hr hbase (by simp only [maxLen]; omega) (by omega) ?_
  · rw [hcs]
    intro u hu
    simp only [cmCells, List.mem_cons, List.not_mem_nil, or_false] at hu
    rcases hu with rfl | rfl
    · rfl
    · exact h1
  · intro v1 w1 hown hg
    rw [hcs] at hown
    exact h v1 w1 (cms_snoc rfl hr hp HP hown hg) hg
end
end Go.Proofs.YtdaffedbboofjaaGreatDoor.S
