import Derived.Test.YtbcddlheikdlkaaGreatDoorWordG
import Derived.Test.YtbcddlheikdlkaaGreatDoorPlainP
import Derived.Test.YtbcddlheikdlkaaGreatDoorPlainW4
import Derived.Laws.Pointers
import Derived.Lib.SliceRun
import Derived.Deep.RegionWith
import Derived.Deep.RegionHeld3
/-
  ROWS in memory: arguments, commands; append of one element, whatever its type.
-/
set_option linter.unusedVariables false
set_option linter.unusedSimpArgs false
namespace Go.Proofs.YtbcddlheikdlkaaGreatDoor.S
open Go.RowKit

section
variable {ops : Array Oper} {rest : List Oper} {o : Oper} {a : Act} {Q : Exit → Act → World → Prop}
/-- append(xs, x): the literal's block has just been laid -/
theorem wp_app1 {W : World} {T ST size bytes : Nat} {z0 : Value} (hinfo : (Tryz.prog.info? T).map (fun i => (i.zero, i.size, i.bytes)) = some (some z0, size, bytes)) (hu : Tryz.prog.underlying ST = some (.slice T)) (hzs : z0.cells.size = size) (hsz : 0 < size)
    (base : Nat) (hgd : o.guard = none) (s x : Operand) (ho : o.op = .call { callee := .builtin .append, args := #[s, x], argTypes := #[ST, ST] })
    (v : Value) (n : Nat) (xs : List Value) (cs : Array Value) (c : Nat) (hs : a.eval s = v) (hx : a.eval x = .slice (some ⟨W.heap.size, 0, none⟩) 1 c) (hl : cs.toList.length = size) (h1 : ∀ u ∈ cs.toList, u.oneCell' = true)
    (HO : W.ownsRow base T size v n xs) (hbase : base ≤ W.heap.size) (hn : n + 1 ≤ maxLen) (hb : (n + 1) * bytes ≤ 140737488355328)
    (h : ∀ v1 w1, w1.ownsRow base T size v1 (n + 1) (xs ++ cs.toList) → W.grownBy w1 v.ownBlock → wpList Tryz.prog ops Q rest (a.put o.dst v1) w1) :
    wpList Tryz.prog ops Q (o :: rest) a (W.alloc (.cells cs T)) := by
  obtain ⟨i0, hi, hz0, hz1, hz2⟩ := info_parts hinfo
  refine wpList_append_own (W.alloc (.cells cs T)) hgd s x ST ho base T i0 z0 size bytes hu hi hz0 hz1 hz2 hzs hsz v n xs hs (own_below HO ((Below.refl _ W).alloc (Nat.le_refl _) _))
    ⟨W.heap.size, 0, none⟩ 1 c cs.toList hx (by rw [hl, Nat.one_mul]) (World.news_of_block (cs := cs) (t := T) (fr := (0, 0)) (heap_new W _)) h1 hn hb (by simp; omega) ?_
  intro v1 w1 hown hg _
  exact h v1 w1 hown ((World.grownBy_alloc W _ _).trans hg)
/-- append(xs, x) as a step of a region that draws its order; the literal's block L is known whole -/
theorem step_app1 {K : Act → World → Prop} {E : Prop} {W : World} {T ST size bytes : Nat} {z0 : Value} (hinfo : (Tryz.prog.info? T).map (fun i => (i.zero, i.size, i.bytes)) = some (some z0, size, bytes)) (hu : Tryz.prog.underlying ST = some (.slice T)) (hzs : z0.cells.size = size) (hsz : 0 < size)
    (base : Nat) (hgd : o.guard = none) (s x : Operand) (ho : o.op = .call { callee := .builtin .append, args := #[s, x], argTypes := #[ST, ST] })
    (v : Value) (n : Nat) (xs : List Value) (L : Nat) (cs : Array Value) (fr : Nat × Nat) (c : Nat) (hs : a.eval s = v) (hx : a.eval x = .slice (some ⟨L, 0, none⟩) 1 c) (hl : cs.toList.length = size) (h1 : ∀ u ∈ cs.toList, u.oneCell' = true)
    (hL : W.heap[L]? = some (.cells cs T fr)) (HO : W.ownsRow base T size v n xs) (hbase : base ≤ W.heap.size) (hn : n + 1 ≤ maxLen) (hb : (n + 1) * bytes ≤ 140737488355328)
    (h : ∀ g1 c1 w1, w1.ownsRow base T size (.slice (some ⟨g1, 0, none⟩) (n + 1) c1) (n + 1) (xs ++ cs.toList) → W.grownBy w1 v.ownBlock → (v.ownBlock = some g1 ∨ g1 = W.heap.size) → K (a.put o.dst (.slice (some ⟨g1, 0, none⟩) (n + 1) c1)) w1) :
    if Region.wanted o (yielded ops a.tmps) = true then Oper.wp Tryz.prog o a W K Q else E := by
  obtain ⟨i0, hi, hz0, hz1, hz2⟩ := info_parts hinfo
  refine step_append_lies W hgd s x ST ho base T i0 z0 size bytes hu hi hz0 hz1 hz2 hzs hsz v n xs hs HO
    ⟨L, 0, none⟩ 1 c cs.toList hx (by rw [hl, Nat.one_mul]) (World.news_of_block hL) h1 (by decide) hn hb hbase _ rfl ?_
  intro g cap w1 hown hg hgb _
  exact h g cap w1 hown hg hgb
end
theorem own_type {base e size n : Nat} {v : Value} {xs : List Value} {w : World} (h : w.ownsRow base e size v n xs) (k : Nat) (hk : v.ownBlock = some k) : ∃ cs, w.heap[k]? = some (.cells cs e (0, 0)) := by
  rcases h.2 with ⟨rfl, _⟩ | ⟨g, cap, cur, rfl, _, hh, _⟩
  · simp [Value.ownBlock] at hk
  · have : g = k := by simpa [Value.ownBlock] using hk
    exact ⟨cur, by rw [← this]; exact hh⟩
/-- what is written is none of a pipe's rows from base on -/
def Off (base : Nat) (W : World) (row : Option Nat) : Prop := ∀ g, row = some g → g < base ∨ ∃ cs t fr, W.heap[g]? = some (.cells cs t fr) ∧ t ≠ 9 ∧ t ≠ 87 ∧ t ≠ 61
theorem off_low {base g : Nat} {W : World} (h : g < base) : Off base W (some g) := fun k hk => by cases hk; exact .inl h
theorem off_none (base : Nat) (W : World) : Off base W none := fun k hk => by cases hk
theorem off_type {base g : Nat} {W : World} {cs : Array Value} {t : TypeId} {fr : Nat × Nat} (h : W.heap[g]? = some (.cells cs t fr)) (h1 : t ≠ 9) (h2 : t ≠ 87) (h3 : t ≠ 61) : Off base W (some g) := fun k hk => by cases hk; exact .inr ⟨cs, t, fr, h, h1, h2, h3⟩
theorem own_off {base e size n : Nat} {v : Value} {xs : List Value} {w w' : World} {row : Option Nat} (h : w.ownsRow base e size v n xs) (hg : w.grownBy w' row) (ho : Off base w row) (he : e = 9 ∨ e = 87 ∨ e = 61) : w'.ownsRow base e size v n xs := by
  refine World.ownsRow.kept h hg ?_
  cases hb : v.ownBlock with
  | none => exact .inl rfl
  | some k =>
    refine .inr fun hk => ?_
    subst hk
    have h1 := own_base h k hb
    obtain ⟨cs, hc⟩ := own_type h k hb
    rcases ho k rfl with h2 | ⟨cs', t, fr, h2, h3, h4, h5⟩
    · omega
    · rw [h2] at hc
      injection hc with hc
      injection hc with _ hc
      rcases he with he | he | he <;> subst he <;> subst hc <;> contradiction
/-- rows of texts that are done: an empty one may lie anywhere -/
def Txs (base : Nat) (v : Value) (xs : List (List UInt8)) (w : World) : Prop := (xs = [] ∧ ∃ a c, v = .slice a 0 c) ∨ Strs base v xs w
theorem Txs.slice {base : Nat} {v : Value} {xs : List (List UInt8)} {w : World} (h : Txs base v xs w) : ∃ a c, v = .slice a xs.length c := by
  rcases h with ⟨rfl, a, c, rfl⟩ | h
  · exact ⟨a, c, rfl⟩
  · exact h.slice
theorem Txs.off {base : Nat} {v : Value} {xs : List (List UInt8)} {w w' : World} {row : Option Nat} (h : Txs base v xs w) (hg : w.grownBy w' row) (ho : Off base w row) : Txs base v xs w' := by
  rcases h with h | h
  · exact .inl h
  · exact .inr (own_off h hg ho (.inl rfl))
theorem Txs.mono {base base' : Nat} {v : Value} {xs : List (List UInt8)} {w : World} (h : Txs base v xs w) (hb : base' ≤ base) : Txs base' v xs w := by
  rcases h with h | h
  · exact .inl h
  · exact .inr (World.ownsRow.mono h hb)
def arCells (d : Ar) (pv : Value) : List Value := [.int .i64 d.kind, .string ⟨d.name.toArray⟩, pv, .int .i64 d.num, .string ⟨d.text.toArray⟩]
def arsCells (zs : List (Ar × Value)) : List Value := zs.flatMap fun z => arCells z.1 z.2
/-- a row of arguments, each with its path's row -/
def Ars (base : Nat) (v : Value) (ds : List Ar) (W : World) : Prop := ∃ zs : List (Ar × Value), zs.map Prod.fst = ds ∧ W.ownsRow base 87 5 v zs.length (arsCells zs) ∧ ∀ z ∈ zs, Txs base z.2 z.1.path W
theorem arInfo : (Tryz.prog.info? 87).map (fun i => (i.zero, i.size, i.bytes)) = some (some (.agg #[.int .i64 0, .string ⟨#[]⟩, .slice none 0 0, .int .i64 0, .string ⟨#[]⟩]), 5, 72) := by kernel_rfl
theorem ars_nil (base : Nat) (W : World) : Ars base (.slice none 0 0) [] W := ⟨[], rfl, ⟨by simp [arsCells], .inl ⟨rfl, rfl⟩⟩, fun z hz => by cases hz⟩
theorem Ars.off {base : Nat} {v : Value} {ds : List Ar} {w w' : World} {row : Option Nat} (h : Ars base v ds w) (hg : w.grownBy w' row) (ho : Off base w row) : Ars base v ds w' :=
  let ⟨zs, hz, hr, hp⟩ := h
  ⟨zs, hz, own_off hr hg ho (.inr (.inl rfl)), fun z hz => (hp z hz).off hg ho⟩
theorem Ars.below {base : Nat} {v : Value} {ds : List Ar} {w w' : World} (h : Ars base v ds w) (hb : Below w.heap.size w w') : Ars base v ds w' := h.off (grownBy_below (row := none) hb) (off_none _ _)
theorem Txs.below {base : Nat} {v : Value} {xs : List (List UInt8)} {w w' : World} (h : Txs base v xs w) (hb : Below w.heap.size w w') : Txs base v xs w' := h.off (grownBy_below (row := none) hb) (off_none _ _)
theorem Ars.mono {base base' : Nat} {v : Value} {ds : List Ar} {w : World} (h : Ars base v ds w) (hb : base' ≤ base) : Ars base' v ds w :=
  let ⟨zs, hz, hr, hp⟩ := h
  ⟨zs, hz, World.ownsRow.mono hr hb, fun z hz => (hp z hz).mono hb⟩
theorem Ars.slice {base : Nat} {v : Value} {ds : List Ar} {w : World} (h : Ars base v ds w) : ∃ a c, v = .slice a ds.length c := by
  obtain ⟨zs, rfl, hr, _⟩ := h
  obtain ⟨a, c, h, _⟩ := own_slice hr
  exact ⟨a, c, by rw [List.length_map]; exact h⟩
theorem Ars.base_le {base : Nat} {v : Value} {ds : List Ar} {w : World} (h : Ars base v ds w) (k : Nat) (hk : v.ownBlock = some k) : base ≤ k := by
  obtain ⟨zs, rfl, hr, _⟩ := h
  exact own_base hr k hk
/-- a row of another type is written: its own -/
theorem own_other {base base' e e' size size' n n' : Nat} {v v' : Value} {xs xs' : List Value} {w w' : World} (h : w.ownsRow base e size v n xs) (h' : w.ownsRow base' e' size' v' n' xs') (hne : e ≠ e') (hg : w.grownBy w' v'.ownBlock) : w'.ownsRow base e size v n xs := by
  refine World.ownsRow.kept h hg ?_
  cases hb : v.ownBlock with
  | none => exact .inl rfl
  | some k =>
    refine .inr fun hk => ?_
    obtain ⟨cs, hc⟩ := own_type h k hb
    obtain ⟨cs', hc'⟩ := own_type h' k hk.symm
    rw [hc] at hc'
    injection hc' with hc'
    injection hc' with _ h2
    exact hne h2
theorem Txs.other {base base' e' size' n' : Nat} {v v' : Value} {xs : List (List UInt8)} {xs' : List Value} {w w' : World} (h : Txs base v xs w) (h' : w.ownsRow base' e' size' v' n' xs') (hne : 9 ≠ e') (hg : w.grownBy w' v'.ownBlock) : Txs base v xs w' := by
  rcases h with h | h
  · exact .inl h
  · exact .inr (own_other h h' hne hg)
theorem Ars.other {base base' e' size' n' : Nat} {v v' : Value} {ds : List Ar} {xs' : List Value} {w w' : World} (h : Ars base v ds w) (h' : w.ownsRow base' e' size' v' n' xs') (hne : 9 ≠ e') (hne2 : 87 ≠ e') (hg : w.grownBy w' v'.ownBlock) : Ars base v ds w' :=
  let ⟨zs, hz, hr, hp⟩ := h
  ⟨zs, hz, own_other hr h' hne2 hg, fun z hz => (hp z hz).other h' hne hg⟩
theorem ars_snoc {base : Nat} {v v1 : Value} {ds : List Ar} {d : Ar} {pv : Value} {W w1 : World} {zs : List (Ar × Value)} (hz : zs.map Prod.fst = ds) (hr : W.ownsRow base 87 5 v zs.length (arsCells zs)) (hp : ∀ z ∈ zs, Txs base z.2 z.1.path W) (hP : Txs base pv d.path W)
    (hown : w1.ownsRow base 87 5 v1 (zs.length + 1) (arsCells zs ++ arCells d pv)) (hg : W.grownBy w1 v.ownBlock) : Ars base v1 (ds ++ [d]) w1 := by
  refine ⟨zs ++ [(d, pv)], by rw [List.map_append, hz]; rfl, ?_, ?_⟩
  · rw [List.length_append]
    unfold arsCells at *
    rw [List.flatMap_append]
    simpa using hown
  · intro z hzm
    rcases List.mem_append.1 hzm with h | h
    · exact (hp z h).other hr (by decide) hg
    · rw [List.mem_singleton.1 h]
      exact hP.other hr (by decide) hg
def cmCells (d : Cm) (pv : Value) : List Value := [.string ⟨d.fn.toArray⟩, pv]
def cmsCells (zs : List (Cm × Value)) : List Value := zs.flatMap fun z => cmCells z.1 z.2
/-- a row of commands, each with its arguments' row -/
def Cms (base : Nat) (v : Value) (ds : List Cm) (W : World) : Prop := ∃ zs : List (Cm × Value), zs.map Prod.fst = ds ∧ W.ownsRow base 61 2 v zs.length (cmsCells zs) ∧ ∀ z ∈ zs, Ars base z.2 z.1.args W
theorem cmInfo : (Tryz.prog.info? 61).map (fun i => (i.zero, i.size, i.bytes)) = some (some (.agg #[.string ⟨#[]⟩, .slice none 0 0]), 2, 40) := by kernel_rfl
theorem cms_nil (base : Nat) (W : World) : Cms base (.slice none 0 0) [] W := ⟨[], rfl, ⟨by simp [cmsCells], .inl ⟨rfl, rfl⟩⟩, fun z hz => by cases hz⟩
theorem Cms.off {base : Nat} {v : Value} {ds : List Cm} {w w' : World} {row : Option Nat} (h : Cms base v ds w) (hg : w.grownBy w' row) (ho : Off base w row) : Cms base v ds w' :=
  let ⟨zs, hz, hr, hp⟩ := h
  ⟨zs, hz, own_off hr hg ho (.inr (.inr rfl)), fun z hz => (hp z hz).off hg ho⟩
theorem Cms.below {base : Nat} {v : Value} {ds : List Cm} {w w' : World} (h : Cms base v ds w) (hb : Below w.heap.size w w') : Cms base v ds w' := h.off (grownBy_below (row := none) hb) (off_none _ _)
theorem Cms.mono {base base' : Nat} {v : Value} {ds : List Cm} {w : World} (h : Cms base v ds w) (hb : base' ≤ base) : Cms base' v ds w :=
  let ⟨zs, hz, hr, hp⟩ := h
  ⟨zs, hz, World.ownsRow.mono hr hb, fun z hz => (hp z hz).mono hb⟩
theorem Cms.slice {base : Nat} {v : Value} {ds : List Cm} {w : World} (h : Cms base v ds w) : ∃ a c, v = .slice a ds.length c := by
  obtain ⟨zs, rfl, hr, _⟩ := h
  obtain ⟨a, c, h, _⟩ := own_slice hr
  exact ⟨a, c, by rw [List.length_map]; exact h⟩
theorem Cms.base_le {base : Nat} {v : Value} {ds : List Cm} {w : World} (h : Cms base v ds w) (k : Nat) (hk : v.ownBlock = some k) : base ≤ k := by
  obtain ⟨zs, rfl, hr, _⟩ := h
  exact own_base hr k hk
theorem cms_snoc {base : Nat} {v v1 : Value} {ds : List Cm} {d : Cm} {pv : Value} {W w1 : World} {zs : List (Cm × Value)} (hz : zs.map Prod.fst = ds) (hr : W.ownsRow base 61 2 v zs.length (cmsCells zs)) (hp : ∀ z ∈ zs, Ars base z.2 z.1.args W) (hP : Ars base pv d.args W)
    (hown : w1.ownsRow base 61 2 v1 (zs.length + 1) (cmsCells zs ++ cmCells d pv)) (hg : W.grownBy w1 v.ownBlock) : Cms base v1 (ds ++ [d]) w1 := by
  refine ⟨zs ++ [(d, pv)], by rw [List.map_append, hz]; rfl, ?_, ?_⟩
  · rw [List.length_append]
    unfold cmsCells at *
    rw [List.flatMap_append]
    simpa using hown
  · intro z hzm
    rcases List.mem_append.1 hzm with h | h
    · exact (hp z h).other hr (by decide) (by decide) hg
    · rw [List.mem_singleton.1 h]
      exact hP.other hr (by decide) (by decide) hg
section
variable {ops : Array Oper} {rest : List Oper} {o : Oper} {a : Act} {Q : Exit → Act → World → Prop}
theorem wp_appAr {W : World} (base : Nat) (hgd : o.guard = none) (s x : Operand) (ho : o.op = .call { callee := .builtin .append, args := #[s, x], argTypes := #[59, 59] })
    (v : Value) (ds : List Ar) (d : Ar) (pv : Value) (cs : Array Value) (hcs : cs.toList = arCells d pv) (h1 : pv.oneCell' = true) (c : Nat) (hs : a.eval s = v) (hx : a.eval x = .slice (some ⟨W.heap.size, 0, none⟩) 1 c)
    (HO : Ars base v ds W) (HP : Txs base pv d.path W) (hbase : base ≤ W.heap.size) (hl : ds.length ≤ 1099511627776)
    (h : ∀ v1 w1, Ars base v1 (ds ++ [d]) w1 → W.grownBy w1 v.ownBlock → wpList Tryz.prog ops Q rest (a.put o.dst v1) w1) :
    wpList Tryz.prog ops Q (o :: rest) a (W.alloc (.cells cs 87)) := by
  obtain ⟨zs, rfl, hr, hp⟩ := HO
  rw [List.length_map] at hl
  refine wp_app1 arInfo Tryz.underlying59 rfl (by decide) base hgd s x ho v _ _ cs c hs hx (by rw [hcs]; rfl) ?_ hr hbase (by simp only [maxLen]; omega) (by omega) ?_
  · rw [hcs]
    intro u hu
    simp only [arCells, List.mem_cons, List.not_mem_nil, or_false] at hu
    rcases hu with rfl | rfl | rfl | rfl | rfl
    · rfl
    · rfl
    · exact h1
    · rfl
    · rfl
  · intro v1 w1 hown hg
    rw [hcs] at hown
    exact h v1 w1 (ars_snoc rfl hr hp HP hown hg) hg
theorem wp_appCm {W : World} (base : Nat) (hgd : o.guard = none) (s x : Operand) (ho : o.op = .call { callee := .builtin .append, args := #[s, x], argTypes := #[56, 56] })
    (v : Value) (ds : List Cm) (d : Cm) (pv : Value) (cs : Array Value) (hcs : cs.toList = cmCells d pv) (h1 : pv.oneCell' = true) (c : Nat) (hs : a.eval s = v) (hx : a.eval x = .slice (some ⟨W.heap.size, 0, none⟩) 1 c)
    (HO : Cms base v ds W) (HP : Ars base pv d.args W) (hbase : base ≤ W.heap.size) (hl : ds.length ≤ 1099511627776)
    (h : ∀ v1 w1, Cms base v1 (ds ++ [d]) w1 → W.grownBy w1 v.ownBlock → wpList Tryz.prog ops Q rest (a.put o.dst v1) w1) :
    wpList Tryz.prog ops Q (o :: rest) a (W.alloc (.cells cs 61)) := by
  obtain ⟨zs, rfl, hr, hp⟩ := HO
  rw [List.length_map] at hl
  refine wp_app1 cmInfo Tryz.underlying56 rfl (by decide) base hgd s x ho v _ _ cs c hs hx (by rw [hcs]; rfl) ?_ hr hbase (by simp only [maxLen]; omega) (by omega) ?_
  · rw [hcs]
    intro u hu
    simp only [cmCells, List.mem_cons, List.not_mem_nil, or_false] at hu
    rcases hu with rfl | rfl
    · rfl
    · exact h1
  · intro v1 w1 hown hg
    rw [hcs] at hown
    exact h v1 w1 (cms_snoc rfl hr hp HP hown hg) hg
end
end Go.Proofs.YtbcddlheikdlkaaGreatDoor.S
/-
  THE WALKS of package pipe's Fn, path, wordMay (and the reference's Function).
-/
set_option linter.unusedVariables false
set_option linter.unusedSimpArgs false
namespace Go.Proofs.YtbcddlheikdlkaaGreatDoor.S
open Go.RowKit

theorem str_test {s : ByteArray} {l : List UInt8} (hl : StrIs s l) (x : List UInt8) (b : Bool) (h : (l == x) = b) : (s.toList == x) = b := by rw [Lib.toList_data, hl]; exact h
set_option maxRecDepth 100000 in
set_option maxHeartbeats 4000000 in
theorem fn_calls (s : ByteArray) (l : List UInt8) (hl : StrIs s l) (w : World) :
    Calls Tryz.prog 124 #[.string s] w fun e w' => e = .returned (.bool (isFn l)) ∧ w = w' := by
  cases h0 : (l == [108, 101, 110]) with
  | true =>
    have t0 := str_test hl [108, 101, 110] true h0
    have hf : isFn l = true := by unfold isFn; rw [h0]; simp
    have HF := Lib.hid hf
    clear hf h0
    go_enter Tryz.func124, Tryz.ntmps124
    go_wp2
    go_ret
    exact ⟨by rw [HF.out]; rfl, rfl⟩
  | false =>
    have t0 := str_test hl [108, 101, 110] false h0
    cases h1 : (l == [105, 110, 100, 101, 120]) with
    | true =>
      have t1 := str_test hl [105, 110, 100, 101, 120] true h1
      have hf : isFn l = true := by unfold isFn; rw [h1]; simp
      have HF := Lib.hid hf
      clear hf h0 h1
      go_enter Tryz.func124, Tryz.ntmps124
      go_wp2
      go_ret
      exact ⟨by rw [HF.out]; rfl, rfl⟩
    | false =>
      have t1 := str_test hl [105, 110, 100, 101, 120] false h1
      cases h2 : (l == [101, 113]) with
      | true =>
        have t2 := str_test hl [101, 113] true h2
        have hf : isFn l = true := by unfold isFn; rw [h2]; simp
        have HF := Lib.hid hf
        clear hf h0 h1 h2
        go_enter Tryz.func124, Tryz.ntmps124
        go_wp2
        go_ret
        exact ⟨by rw [HF.out]; rfl, rfl⟩
      | false =>
        have t2 := str_test hl [101, 113] false h2
        cases h3 : (l == [108, 116]) with
        | true =>
          have t3 := str_test hl [108, 116] true h3
          have hf : isFn l = true := by unfold isFn; rw [h3]; simp
          have HF := Lib.hid hf
          clear hf h0 h1 h2 h3
          go_enter Tryz.func124, Tryz.ntmps124
          go_wp2
          go_ret
          exact ⟨by rw [HF.out]; rfl, rfl⟩
        | false =>
          have t3 := str_test hl [108, 116] false h3
          cases h4 : (l == [110, 111, 116]) with
          | true =>
            have t4 := str_test hl [110, 111, 116] true h4
            have hf : isFn l = true := by unfold isFn; rw [h4]; simp
            have HF := Lib.hid hf
            clear hf h0 h1 h2 h3 h4
            go_enter Tryz.func124, Tryz.ntmps124
            go_wp2
            go_ret
            exact ⟨by rw [HF.out]; rfl, rfl⟩
          | false =>
            have t4 := str_test hl [110, 111, 116] false h4
            cases h5 : (l == [97, 110, 100]) with
            | true =>
              have t5 := str_test hl [97, 110, 100] true h5
              have hf : isFn l = true := by unfold isFn; rw [h5]; simp
              have HF := Lib.hid hf
              clear hf h0 h1 h2 h3 h4 h5
              go_enter Tryz.func124, Tryz.ntmps124
              go_wp2
              go_ret
              exact ⟨by rw [HF.out]; rfl, rfl⟩
            | false =>
              have t5 := str_test hl [97, 110, 100] false h5
              cases h6 : (l == [111, 114]) with
              | true =>
                have t6 := str_test hl [111, 114] true h6
                have hf : isFn l = true := by unfold isFn; rw [h6]; simp
                have HF := Lib.hid hf
                clear hf h0 h1 h2 h3 h4 h5 h6
                go_enter Tryz.func124, Tryz.ntmps124
                go_wp2
                go_ret
                exact ⟨by rw [HF.out]; rfl, rfl⟩
              | false =>
                have t6 := str_test hl [111, 114] false h6
                cases h7 : (l == [99, 97, 116]) with
                | true =>
                  have t7 := str_test hl [99, 97, 116] true h7
                  have hf : isFn l = true := by unfold isFn; rw [h7]; simp
                  have HF := Lib.hid hf
                  clear hf h0 h1 h2 h3 h4 h5 h6 h7
                  go_enter Tryz.func124, Tryz.ntmps124
                  go_wp2
                  go_ret
                  exact ⟨by rw [HF.out]; rfl, rfl⟩
                | false =>
                  have t7 := str_test hl [99, 97, 116] false h7
                  have hf : isFn l = false := by unfold isFn; rw [h0, h1, h2, h3, h4, h5, h6, h7]; rfl
                  have HF := Lib.hid hf
                  clear hf h0 h1 h2 h3 h4 h5 h6 h7
                  go_enter Tryz.func124, Tryz.ntmps124
                  go_wp2
                  go_ret
                  exact ⟨by rw [HF.out]; rfl, rfl⟩
set_option maxRecDepth 100000 in
set_option maxHeartbeats 4000000 in
theorem rfn_calls (s : ByteArray) (l : List UInt8) (hl : StrIs s l) (w : World) :
    Calls Tryz.prog 128 #[.string s] w fun e w' => e = .returned (.bool (isFn l)) ∧ w = w' := by
  cases h0 : (l == [108, 101, 110]) with
  | true =>
    have t0 := str_test hl [108, 101, 110] true h0
    have hf : isFn l = true := by unfold isFn; rw [h0]; simp
    have HF := Lib.hid hf
    clear hf h0
    go_enter Tryz.func128, Tryz.ntmps128
    go_wp2
    go_ret
    exact ⟨by rw [HF.out]; rfl, rfl⟩
  | false =>
    have t0 := str_test hl [108, 101, 110] false h0
    cases h1 : (l == [105, 110, 100, 101, 120]) with
    | true =>
      have t1 := str_test hl [105, 110, 100, 101, 120] true h1
      have hf : isFn l = true := by unfold isFn; rw [h1]; simp
      have HF := Lib.hid hf
      clear hf h0 h1
      go_enter Tryz.func128, Tryz.ntmps128
      go_wp2
      go_ret
      exact ⟨by rw [HF.out]; rfl, rfl⟩
    | false =>
      have t1 := str_test hl [105, 110, 100, 101, 120] false h1
      cases h2 : (l == [101, 113]) with
      | true =>
        have t2 := str_test hl [101, 113] true h2
        have hf : isFn l = true := by unfold isFn; rw [h2]; simp
        have HF := Lib.hid hf
        clear hf h0 h1 h2
        go_enter Tryz.func128, Tryz.ntmps128
        go_wp2
        go_ret
        exact ⟨by rw [HF.out]; rfl, rfl⟩
      | false =>
        have t2 := str_test hl [101, 113] false h2
        cases h3 : (l == [108, 116]) with
        | true =>
          have t3 := str_test hl [108, 116] true h3
          have hf : isFn l = true := by unfold isFn; rw [h3]; simp
          have HF := Lib.hid hf
          clear hf h0 h1 h2 h3
          go_enter Tryz.func128, Tryz.ntmps128
          go_wp2
          go_ret
          exact ⟨by rw [HF.out]; rfl, rfl⟩
        | false =>
          have t3 := str_test hl [108, 116] false h3
          cases h4 : (l == [110, 111, 116]) with
          | true =>
            have t4 := str_test hl [110, 111, 116] true h4
            have hf : isFn l = true := by unfold isFn; rw [h4]; simp
            have HF := Lib.hid hf
            clear hf h0 h1 h2 h3 h4
            go_enter Tryz.func128, Tryz.ntmps128
            go_wp2
            go_ret
            exact ⟨by rw [HF.out]; rfl, rfl⟩
          | false =>
            have t4 := str_test hl [110, 111, 116] false h4
            cases h5 : (l == [97, 110, 100]) with
            | true =>
              have t5 := str_test hl [97, 110, 100] true h5
              have hf : isFn l = true := by unfold isFn; rw [h5]; simp
              have HF := Lib.hid hf
              clear hf h0 h1 h2 h3 h4 h5
              go_enter Tryz.func128, Tryz.ntmps128
              go_wp2
              go_ret
              exact ⟨by rw [HF.out]; rfl, rfl⟩
            | false =>
              have t5 := str_test hl [97, 110, 100] false h5
              cases h6 : (l == [111, 114]) with
              | true =>
                have t6 := str_test hl [111, 114] true h6
                have hf : isFn l = true := by unfold isFn; rw [h6]; simp
                have HF := Lib.hid hf
                clear hf h0 h1 h2 h3 h4 h5 h6
                go_enter Tryz.func128, Tryz.ntmps128
                go_wp2
                go_ret
                exact ⟨by rw [HF.out]; rfl, rfl⟩
              | false =>
                have t6 := str_test hl [111, 114] false h6
                cases h7 : (l == [99, 97, 116]) with
                | true =>
                  have t7 := str_test hl [99, 97, 116] true h7
                  have hf : isFn l = true := by unfold isFn; rw [h7]; simp
                  have HF := Lib.hid hf
                  clear hf h0 h1 h2 h3 h4 h5 h6 h7
                  go_enter Tryz.func128, Tryz.ntmps128
                  go_wp2
                  go_ret
                  exact ⟨by rw [HF.out]; rfl, rfl⟩
                | false =>
                  have t7 := str_test hl [99, 97, 116] false h7
                  have hf : isFn l = false := by unfold isFn; rw [h0, h1, h2, h3, h4, h5, h6, h7]; rfl
                  have HF := Lib.hid hf
                  clear hf h0 h1 h2 h3 h4 h5 h6 h7
                  go_enter Tryz.func128, Tryz.ntmps128
                  go_wp2
                  go_ret
                  exact ⟨by rw [HF.out]; rfl, rfl⟩
theorem vint_calls (x : Int) (h : x.natAbs ≤ 9007199254740991) (w : World) :
    Calls Tryz.prog 152 #[.int .i64 x] w fun e w' => e = .returned (.bool true) ∧ w = w' := by
  have h1 : decide (-9007199254740991 ≤ x) = true := decide_eq_true (by omega)
  have h2 : decide (x ≤ 9007199254740991) = true := decide_eq_true (by omega)
  go_enter Tryz.func152, Tryz.ntmps152
  go_wp2
  go_ret
  exact ⟨rfl, rfl⟩
theorem bad_calls (s : ByteArray) (l : List UInt8) (hl : StrIs s l) (w : World) :
    Calls Tryz.prog 170 #[.string s] w fun e w' => e = .returned (.bool (!nameOk l)) ∧ w = w' := by
  go_enter Tryz.func170, Tryz.ntmps170
  go_wp2_with fail
  refine (wName_calls s l hl _).mono ?_
  rintro e w' ⟨rfl, rfl⟩
  cases h : nameOk l with
  | true =>
    have H := Lib.hid h
    clear h
    go_wp2
    go_ret
    exact ⟨by rw [H.out]; rfl, rfl⟩
  | false =>
    have H := Lib.hid h
    clear h
    go_wp2
    go_ret
    exact ⟨by rw [H.out]; rfl, rfl⟩
set_option maxRecDepth 100000 in
set_option maxHeartbeats 4000000 in
theorem indexBad_calls (base : Nat) (v : Value) (xs : List (List UInt8)) (w : World) (hP : Txs base v xs w) (hn : ∀ x ∈ xs, nameOk x = true) :
    Calls Tryz.prog 178 #[v, .func (Fn.func 170) #[] #[]] w fun e w' => e = .returned (.int .i64 (-1)) ∧ w = w' := by
  obtain ⟨sa, sc, rfl⟩ := hP.slice
  have hxl : xs.length ≤ 9223372036854775807 := by
    rcases hP with ⟨rfl, _⟩ | h
    · simp
    · exact h.len_le
  go_enter Tryz.func178, Tryz.ntmps178
  go_wp2
  go_loopg [8] xs.length (fun gk v8 wr => ∃ k : Nat, k + gk = xs.length ∧ v8 = .int .i64 k ∧ w = wr)
  case atStart => exact ⟨0, by omega, rfl, rfl⟩
  case round =>
    obtain ⟨k, hkg, rfl, rfl⟩ := hrel
    have HKG := Lib.hid hkg
    have hkl : k ≤ xs.length := by omega
    clear hkg
    by_cases hk : k < xs.length
    · have hS : Strs base (.slice sa xs.length sc) xs w := by
        rcases hP with ⟨h, _⟩ | h
        · subst h; simp at hk
        · exact h
      obtain ⟨b, cap, hv⟩ := hS.form (by omega)
      obtain ⟨rfl, -, rfl⟩ := Value.slice.inj hv
      have d0 := hS.at k hk
      have hnk := hn _ (List.getElem_mem hk)
      have hst : StrIs (⟨xs[k].toArray⟩ : ByteArray) xs[k] := rfl
      have hb : decide ((k : Int) < (xs.length : Int)) = true := decide_eq_true (by omega)
      generalize (⟨xs[k].toArray⟩ : ByteArray) = x at *
      have HC := Lib.hid (fun W => bad_calls x xs[k] hst W)
      rw [hnk] at HC
      clear hv hnk hst hn hP hS
      go_wp2_with fail
      refine (HC.out _).mono ?_
      rintro e w' ⟨rfl, rfl⟩
      go_wp2
      go_roundg (gk - 1)
      case measure => have := HKG.out; omega
      case rel => exact ⟨k + 1, by have := HKG.out; omega, by go_num, rfl⟩
    · have hb : decide ((k : Int) < (xs.length : Int)) = false := decide_eq_false (by omega)
      go_wp2
      go_ret
      exact ⟨rfl, rfl⟩
theorem path_calls (base : Nat) (v : Value) (xs : List (List UInt8)) (w : World) (hP : Txs base v xs w) (hn : ∀ x ∈ xs, nameOk x = true) (hl : xs.length ≤ 8) :
    Calls Tryz.prog 151 #[v] w fun e w' => e = .returned (.bool true) ∧ w = w' := by
  have hC := fun W => indexBad_calls base v xs W
  obtain ⟨sa, sc, rfl⟩ := hP.slice
  have hb : decide ((xs.length : Int) ≤ 8) = true := decide_eq_true (by omega)
  go_enter Tryz.func151, Tryz.ntmps151
  go_wp2_with (go_at_call 171; go_in)
  refine (hC _ hP hn).mono ?_
  rintro e w' ⟨rfl, rfl⟩
  go_wp2
  go_ret
  exact ⟨rfl, rfl⟩
end Go.Proofs.YtbcddlheikdlkaaGreatDoor.S
/-
  THE WALKS of package pipe's wordMay, cut.
-/
set_option linter.unusedVariables false
set_option linter.unusedSimpArgs false
namespace Go.Proofs.YtbcddlheikdlkaaGreatDoor.S
open Go.RowKit

set_option maxRecDepth 100000 in
set_option maxHeartbeats 8000000 in
theorem wordMay_calls (g off base : Nat) (d : Wd) (pv : Value) (w : World) (hd : WdOk d) (ht : d.text.length ≤ 65536) (c0 : w.cell? ⟨g, off, none⟩ = some (.int .i64 d.kind)) (c1 : w.cell? ⟨g, off + 1, none⟩ = some (.string ⟨d.text.toArray⟩))
    (c2 : w.cell? ⟨g, off + 2, none⟩ = some pv) (c3 : w.cell? ⟨g, off + 3, none⟩ = some (.int .i64 d.num)) (hp : Txs base pv d.path w) :
    Calls Tryz.prog 115 #[.pointer (some ⟨g, off, none⟩)] w fun e w' => e = .returned (.bool true) ∧ w = w' := by
  obtain ⟨pa, pc, rfl⟩ := hp.slice
  have hnl : ∀ x, nameOk x = true → x.length ≤ 65536 := fun x hx => by
    simp only [nameOk, Bool.and_eq_true, decide_eq_true_eq] at hx
    omega
  cases hd with
  | name x h =>
    have hs : StrIs (⟨x.toArray⟩ : ByteArray) x := rfl
    have h5 := hs.size
    have h6 := hnl x h
    have hC := wName_calls _ _ hs w
    rw [h] at hC
    have hP := path_calls base _ _ _ hp (fun x hx => by cases hx) (Nat.zero_le _)
    dsimp only at c0 c1 c2 c3 hP
    generalize (⟨x.toArray⟩ : ByteArray) = t at *
    have h7 : decide ((t.size : Int) ≤ 65536) = true := decide_eq_true (by omega)
    clear h hs hnl hp ht h5 h6
    go_enter Tryz.func115, Tryz.ntmps115
    go_wp2_with (first | (go_at_call 99; refine hC.mono ?_; rintro e w' ⟨rfl, rfl⟩) | (go_at_call 151; refine hP.mono ?_; rintro e w' ⟨rfl, rfl⟩) | (go_at_call 152; refine (vint_calls 0 (by decide) _).mono ?_; rintro e w' ⟨rfl, rfl⟩))
    go_ret
    exact ⟨rfl, rfl⟩
  | field xs h hl =>
    have hP := path_calls base _ _ _ hp h hl
    dsimp only at c0 c1 c2 c3 hP
    clear h hnl hp ht
    go_enter Tryz.func115, Tryz.ntmps115
    go_wp2_with (first | (go_at_call 151; refine hP.mono ?_; rintro e w' ⟨rfl, rfl⟩) | (go_at_call 152; refine (vint_calls 0 (by decide) _).mono ?_; rintro e w' ⟨rfl, rfl⟩))
    go_ret
    exact ⟨rfl, rfl⟩
  | var x xs h hx hl =>
    have hs : StrIs (⟨x.toArray⟩ : ByteArray) x := rfl
    have h5 := hs.size
    have h6 := hnl x h
    have hC := wName_calls _ _ hs w
    rw [h] at hC
    have hP := path_calls base _ _ _ hp hx hl
    dsimp only at c0 c1 c2 c3 hP
    generalize (⟨x.toArray⟩ : ByteArray) = t at *
    have h7 : decide ((t.size : Int) ≤ 65536) = true := decide_eq_true (by omega)
    clear h hs hnl hp ht h5 h6 hx
    go_enter Tryz.func115, Tryz.ntmps115
    go_wp2_with (first | (go_at_call 99; refine hC.mono ?_; rintro e w' ⟨rfl, rfl⟩) | (go_at_call 151; refine hP.mono ?_; rintro e w' ⟨rfl, rfl⟩) | (go_at_call 152; refine (vint_calls 0 (by decide) _).mono ?_; rintro e w' ⟨rfl, rfl⟩))
    go_ret
    exact ⟨rfl, rfl⟩
  | num z h =>
    have hP := path_calls base _ _ _ hp (fun x hx => by cases hx) (Nat.zero_le _)
    have hZ := vint_calls z h w
    dsimp only at c0 c1 c2 c3 hP
    clear h hnl hp ht
    go_enter Tryz.func115, Tryz.ntmps115
    go_wp2_with (first | (go_at_call 151; refine hP.mono ?_; rintro e w' ⟨rfl, rfl⟩) | (go_at_call 152; refine hZ.mono ?_; rintro e w' ⟨rfl, rfl⟩))
    go_ret
    exact ⟨rfl, rfl⟩
  | text x =>
    have hs : StrIs (⟨x.toArray⟩ : ByteArray) x := rfl
    have h5 := hs.size
    have hP := path_calls base _ _ _ hp (fun x hx => by cases hx) (Nat.zero_le _)
    dsimp only at c0 c1 c2 c3 hP ht
    generalize (⟨x.toArray⟩ : ByteArray) = t at *
    have h7 : decide ((t.size : Int) ≤ 65536) = true := decide_eq_true (by omega)
    clear hs hnl hp ht h5
    go_enter Tryz.func115, Tryz.ntmps115
    go_wp2_with (first | (go_at_call 151; refine hP.mono ?_; rintro e w' ⟨rfl, rfl⟩) | (go_at_call 152; refine (vint_calls 0 (by decide) _).mono ?_; rintro e w' ⟨rfl, rfl⟩))
    go_ret
    exact ⟨rfl, rfl⟩
  | pipe =>
    have hP := path_calls base _ _ _ hp (fun x hx => by cases hx) (Nat.zero_le _)
    dsimp only at c0 c1 c2 c3 hP
    clear hnl hp ht
    go_enter Tryz.func115, Tryz.ntmps115
    go_wp2_with (first | (go_at_call 151; refine hP.mono ?_; rintro e w' ⟨rfl, rfl⟩) | (go_at_call 152; refine (vint_calls 0 (by decide) _).mono ?_; rintro e w' ⟨rfl, rfl⟩))
    go_ret
    exact ⟨rfl, rfl⟩
  | set =>
    have hP := path_calls base _ _ _ hp (fun x hx => by cases hx) (Nat.zero_le _)
    dsimp only at c0 c1 c2 c3 hP
    clear hnl hp ht
    go_enter Tryz.func115, Tryz.ntmps115
    go_wp2_with (first | (go_at_call 151; refine hP.mono ?_; rintro e w' ⟨rfl, rfl⟩) | (go_at_call 152; refine (vint_calls 0 (by decide) _).mono ?_; rintro e w' ⟨rfl, rfl⟩))
    go_ret
    exact ⟨rfl, rfl⟩
/-- words that are read at a slice, each with its path's row -/
def WdV (v : Value) (ds : List Wd) (W : World) : Prop :=
  ∃ a c, v = .slice a ds.length c ∧ ds.length ≤ c ∧ c ≤ 9223372036854775807 ∧ ∀ (k : Nat) (hk : k < ds.length), ∃ g off pv, a = some ⟨g, off, none⟩ ∧
    W.cell? ⟨g, off + k * 4, none⟩ = some (.int .i64 ds[k].kind) ∧ W.cell? ⟨g, off + k * 4 + 1, none⟩ = some (.string ⟨ds[k].text.toArray⟩) ∧ W.cell? ⟨g, off + k * 4 + 2, none⟩ = some pv ∧ W.cell? ⟨g, off + k * 4 + 3, none⟩ = some (.int .i64 ds[k].num) ∧ Txs 0 pv ds[k].path W
theorem Wds.view {base : Nat} {v : Value} {ds : List Wd} {w : World} (h : Wds base v ds w) : WdV v ds w := by
  have hl := h.len_le
  have h' := h
  obtain ⟨zs, hz, hr, hp⟩ := h'
  have hcap : ∃ a c, v = .slice a ds.length c ∧ ds.length ≤ c ∧ c ≤ 9223372036854775807 := by
    rcases hr.2 with ⟨rfl, h0⟩ | ⟨g, cap, cur, rfl, hb, hh, hc, hm, hcs, htk⟩
    · exact ⟨none, 0, by rw [← hz, List.length_map, h0], by rw [← hz, List.length_map, h0]; exact Nat.le_refl _, by decide⟩
    · exact ⟨_, cap, by rw [← hz, List.length_map], by rw [← hz, List.length_map]; exact hc, by simp only [maxLen] at hm; omega⟩
  obtain ⟨a, c, rfl, h1, h2⟩ := hcap
  refine ⟨a, c, rfl, h1, h2, fun k hk => ?_⟩
  obtain ⟨b, cap, pv, hv, e0, e1, e2, e3, hq⟩ := h.at k hk
  obtain ⟨rfl, -, rfl⟩ := Value.slice.inj hv
  exact ⟨b, 0, pv, rfl, by rw [Nat.zero_add]; exact e0, by rw [Nat.zero_add]; exact e1, by rw [Nat.zero_add]; exact e2, by rw [Nat.zero_add]; exact e3, .inr (World.ownsRow.mono hq (Nat.zero_le _))⟩
theorem WdV.below {v : Value} {ds : List Wd} {w w' : World} (h : WdV v ds w) (hb : Below w.heap.size w w') : WdV v ds w' := by
  obtain ⟨a, c, rfl, h1, h2, hc⟩ := h
  refine ⟨a, c, rfl, h1, h2, fun k hk => ?_⟩
  obtain ⟨g, off, pv, rfl, e0, e1, e2, e3, hp⟩ := hc k hk
  have hk' : ∀ {p v}, w.cell? p = some v → w'.cell? p = some v := fun {p v} hv => (hb.cell (World.block_lt_of_cell? w p hv)).trans hv
  exact ⟨g, off, pv, rfl, hk' e0, hk' e1, hk' e2, hk' e3, hp.below hb⟩
theorem WdV.slice {v : Value} {ds : List Wd} {w : World} (h : WdV v ds w) : ∃ a c, v = .slice a ds.length c := let ⟨a, c, h, _⟩ := h; ⟨a, c, h⟩
/-- words from the k-th on, and the first k -/
theorem WdV.drop {a : Option Addr} {n c : Nat} {ds : List Wd} {w : World} (h : WdV (.slice a n c) ds w) (k : Nat) (hk : k ≤ ds.length) : WdV (sliced a k n c 4) (ds.drop k) w := by
  obtain ⟨a', c', hv, h1, h2, hc⟩ := h
  obtain ⟨rfl, rfl, rfl⟩ := Value.slice.inj hv
  unfold sliced
  refine ⟨_, _, by rw [List.length_drop], by rw [List.length_drop]; omega, by omega, fun j hj => ?_⟩
  rw [List.length_drop] at hj
  obtain ⟨g, off, pv, rfl, e0, e1, e2, e3, hp⟩ := hc (k + j) (by omega)
  have e : off + (k + j) * 4 = off + k * 4 + j * 4 := by omega
  rw [e] at e0 e1 e2 e3
  simp only [List.getElem_drop]
  exact ⟨g, off + k * 4, pv, by rw [if_neg (by omega)]; simp [Addr.add_lit], e0, e1, e2, e3, hp⟩
theorem WdV.take {a : Option Addr} {n c : Nat} {ds : List Wd} {w : World} (h : WdV (.slice a n c) ds w) (k : Nat) (hk : k ≤ ds.length) : WdV (sliced a 0 k c 4) (ds.take k) w := by
  obtain ⟨a', c', hv, h1, h2, hc⟩ := h
  obtain ⟨rfl, rfl, rfl⟩ := Value.slice.inj hv
  unfold sliced
  refine ⟨_, _, by rw [List.length_take, Nat.min_eq_left hk]; rfl, by rw [List.length_take]; omega, by omega, fun j hj => ?_⟩
  rw [List.length_take] at hj
  obtain ⟨g, off, pv, rfl, e0, e1, e2, e3, hp⟩ := hc j (by omega)
  simp only [List.getElem_take]
  refine ⟨g, off, pv, ?_, e0, e1, e2, e3, hp⟩
  split
  · rfl
  · simp [Addr.add_lit]
theorem wdSize (w : World) : (sizeOf (Tryz.prog.elem 108)).run Tryz.prog w = .ok 4 w := by kernel_rfl
theorem run_drop {a : Option Addr} {n c : Nat} (k : Nat) (hk : k ≤ n) (hn : n ≤ 9223372036854775807) (w : World) : (Instr.slice 108 (.slice a n c) (some (.int .i64 k)) none none).run Tryz.prog w = .ok (sliced a k n c 4) w := by
  rw [run_slice_l (P := Tryz.prog) w 108 a n c (by kernel_rfl) .i64 (k : Int) (by omega) (by omega), wdSize, Int.toNat_natCast]
  rfl
theorem run_take {a : Option Addr} {n c : Nat} (k : Nat) (hk : k ≤ c) (w : World) : (Instr.slice 108 (.slice a n c) none (some (.int .i64 k)) none).run Tryz.prog w = .ok (sliced a 0 k c 4) w := by
  rw [run_slice_h (P := Tryz.prog) w 108 a n c (by kernel_rfl) .i64 (k : Int) (by omega) (by omega), wdSize, Int.toNat_natCast]
  rfl
end Go.Proofs.YtbcddlheikdlkaaGreatDoor.S
/-
  THE WALKS of slices.Clone over texts, package pipe's cut, arg.
-/
set_option linter.unusedVariables false
set_option linter.unusedSimpArgs false
namespace Go.Proofs.YtbcddlheikdlkaaGreatDoor.S
open Go.RowKit Instr

set_option maxHeartbeats 2000000 in
set_option maxRecDepth 100000 in
theorem clone_calls (base : Nat) (v : Value) (xs : List (List UInt8)) (w : World) (hP : Txs base v xs w) (hl : xs.length ≤ 1099511627776) :
    Calls Tryz.prog 172 #[v] w fun e w' => ∃ v', e = .returned v' ∧ Strs w.heap.size v' xs w' ∧ Below w.heap.size w w' := by
  obtain ⟨i0, hi, hz0, hz1, hz2⟩ := info_parts strInfo
  have q33 : ∀ (w : World) (a : Option Addr) (n c n' c' : Nat), (binOp .eql 53 (.slice a n c) (.slice none n' c')).run Tryz.prog w = .ok (.bool a.isNone) w := fun w a n c n' c' => Lib.run_eql_slice_nil w _ _ a n c n' c' Tryz.underlying53
  obtain ⟨a, c, rfl⟩ := hP.slice
  cases a with
  | none =>
    have h0 : xs = [] := by
      rcases hP with ⟨h, _⟩ | h
      · exact h
      · rcases h.2 with ⟨_, h0⟩ | ⟨g, cap, cur, hv, _⟩
        · exact List.eq_nil_of_length_eq_zero h0
        · cases hv
    subst h0
    go_enter Tryz.func172, Tryz.ntmps172
    go_wp2
    go_ret
    exact ⟨_, rfl, strs_nil _ _, Below.refl _ _⟩
  | some ad =>
    have hnews : ∀ j u, (xs.flatMap stCells)[j]? = some u → w.cell? (ad.add j) = some u := by
      intro j u hj
      rcases hP with ⟨h, _⟩ | h
      · subst h; simp at hj
      · have hlt : 0 < xs.length := by
          cases xs with
          | nil => simp at hj
          | cons x t => simp
        obtain ⟨b, cap, hv⟩ := h.form hlt
        obtain ⟨h1, -, -⟩ := Value.slice.inj hv
        injection h1 with h1
        subst h1
        exact World.ownsRow.cells h rfl j u hj
    have hln : (xs.flatMap stCells).length = xs.length := by
      clear hP hnews hl
      induction xs with
      | nil => rfl
      | cons x xs ih => rw [List.flatMap_cons, List.length_append, ih]; simp [stCells]; omega
    have HN := Lib.hid hnews
    have HL := Lib.hid hln
    clear hnews hP hln
    go_enter Tryz.func172, Tryz.ntmps172
    go_wp2_with (at_builtin; refine wpList_append_own _ rfl _ _ 53 rfl w.heap.size 9 i0 (.string { data := #[] }) 1 16 Tryz.underlying53 hi hz0 hz1 hz2 rfl (by decide) _ _ _ rfl (World.ownsRow_made w #[] 0 (Nat.le_refl _) (Nat.zero_le _) rfl) ad xs.length c (xs.flatMap stCells) rfl ?qc1 ?qc2 ?qc3 ?qc4 ?qc5 ?qc6 ?_)
    case qc1 => rw [HL.out]; simp
    case qc2 => exact fun j u hj => Lib.cell?_alloc_some _ (HN.out j u hj)
    case qc3 =>
      intro u hu
      obtain ⟨x, _, hx⟩ := List.mem_flatMap.1 hu
      simp only [stCells, List.mem_singleton] at hx
      subst hx
      rfl
    case qc4 => unfold maxLen; omega
    case qc5 => omega
    case qc6 => simp
    intro v' w1 hown hgrow hnil
    go_wp2
    go_ret
    refine ⟨v', rfl, ?_, ((Below.refl _ w).alloc (Nat.le_refl _) _).grown hgrow (by simp) (by intro k hk; simp [Value.ownBlock] at hk; omega)⟩
    unfold Strs
    simpa using hown
theorem cutI_at : ∀ (ds : List Wd) (k : Nat) (hk : k < ds.length), k ≤ cutN ds → (ds[k].kind = 5 → cutN ds = k) ∧ (ds[k].kind ≠ 5 → k + 1 ≤ cutN ds)
  | d :: ds, 0, _, _ => by
    unfold cutN
    constructor
    · intro h
      rw [if_pos (by simpa using h)]
    · intro h
      rw [if_neg (by simpa using h)]
      omega
  | d :: ds, k + 1, hk, h => by
    rw [cutN] at h ⊢
    split at h
    · omega
    · rename_i hd
      rw [if_neg hd]
      have ih := cutI_at ds k (by simpa using hk) (by omega)
      simp only [List.getElem_cons_succ]
      exact ⟨fun e => by rw [ih.1 e], fun e => by have := ih.2 e; omega⟩
theorem isPipe_calls (kd : Nat) (t : ByteArray) (pv : Value) (nm : Int) (w : World) (b : Bool) (hb : ((kd : Int) == 5) = b) :
    Calls Tryz.prog 154 #[.agg #[.int .i64 kd, .string t, pv, .int .i64 nm]] w fun e w' => e = .returned (.bool b) ∧ Below w.heap.size w w' := by
  have HB := Lib.hid hb
  clear hb
  go_enter Tryz.func154, Tryz.ntmps154
  go_wp2
  go_ret
  exact ⟨by rw [← HB.out]; rfl, (Below.refl _ _).alloc (Nat.le_refl _) _⟩
set_option maxRecDepth 100000 in
set_option maxHeartbeats 4000000 in
theorem indexPipe_calls (v : Value) (ds : List Wd) (w : World) (hV : WdV v ds w) :
    Calls Tryz.prog 153 #[v, .func (Fn.func 154) #[] #[]] w fun e w' => ∃ i : Int, e = .returned (.int .i64 i) ∧ (cutN ds < ds.length → i = cutN ds) ∧ (¬ cutN ds < ds.length → i = -1) ∧ Below w.heap.size w w' := by
  have hV' := hV
  obtain ⟨a, c, rfl, hc1, hc2, hc⟩ := hV
  have hle := cutN_le ds
  have hA := fun k hk h => cutI_at ds k hk h
  have HA := Lib.hid hA
  have HLE := Lib.hid hle
  clear hc hA hle
  go_enter Tryz.func153, Tryz.ntmps153
  go_wp2
  go_loopg [8] ds.length (fun gk v8 wr => ∃ k : Nat, k + gk = ds.length ∧ v8 = .int .i64 k ∧ Hid (k ≤ cutN ds) ∧ Below w.heap.size w wr)
  case atStart => exact ⟨0, by omega, rfl, Nat.zero_le _, Below.refl _ _⟩
  case round =>
    obtain ⟨k, hkg, rfl, hkc, hbr⟩ := hrel
    have HKG := Lib.hid hkg
    have hkl : k ≤ ds.length := by omega
    clear hkg
    by_cases hk : k < ds.length
    · obtain ⟨a', c', hv, h1, h2, hc⟩ := hV'.below hbr
      obtain ⟨rfl, -, rfl⟩ := Value.slice.inj hv
      obtain ⟨g, off, pv, rfl, e0, e1, e2, e3, hp⟩ := hc k hk
      have hAK := HA.out k hk hkc.out
      have hb : decide ((k : Int) < (ds.length : Int)) = true := decide_eq_true (by omega)
      generalize (⟨ds[k].text.toArray⟩ : ByteArray) = t at *
      generalize ds[k].kind = kd at *
      generalize ds[k].num = nm at *
      clear hv hc hp h1 h2
      have HAK := Lib.hid hAK
      clear hAK
      by_cases h5 : kd = 5
      · have hT := fun W => isPipe_calls kd t pv nm W true (beq_iff_eq.2 (by omega))
        have h6 := HAK.out.1 h5
        have H6 := Lib.hid h6
        clear h5 h6
        go_wp2_with fail
        refine (hT _).mono ?_
        rintro e w1 ⟨rfl, hb1⟩
        go_wp2
        go_ret
        exact ⟨k, rfl, fun _ => by rw [H6.out], fun h => absurd (by rw [H6.out]; exact hk) h, hbr.trans (hb1.mono hbr.size)⟩
      · have hT := fun W => isPipe_calls kd t pv nm W false (beq_eq_false_iff_ne.2 (by omega))
        have h6 := HAK.out.2 h5
        have H6 := Lib.hid h6
        clear h5 h6
        go_wp2_with fail
        refine (hT _).mono ?_
        rintro e w1 ⟨rfl, hb1⟩
        go_wp2
        go_roundg (gk - 1)
        case measure => have := HKG.out; omega
        case rel => exact ⟨k + 1, by have := HKG.out; omega, by go_num, H6.out, hbr.trans (hb1.mono hbr.size)⟩
    · have hb : decide ((k : Int) < (ds.length : Int)) = false := decide_eq_false (by omega)
      go_wp2
      go_ret
      exact ⟨-1, rfl, fun h => by have h1 := hkc.out; omega, fun h => rfl, hbr⟩
theorem wdV_nil (w : World) : WdV (.slice none 0 0) [] w := ⟨none, 0, rfl, Nat.le_refl _, by decide, fun k hk => by simp at hk⟩
set_option maxRecDepth 100000 in
set_option maxHeartbeats 4000000 in
theorem cut_calls (v : Value) (ds : List Wd) (w0 w : World) (hV : WdV v ds w0) (hb0 : Below w0.heap.size w0 w) :
    Calls Tryz.prog 116 #[v] w fun e w' => ∃ v1 v2, e = .returned (.tuple #[v1, v2, .bool (decide (cutN ds < ds.length))]) ∧ WdV v1 (ds.take (cutN ds)) w0 ∧ WdV v2 (ds.drop (cutN ds + 1)) w0 ∧ Below w.heap.size w w' := by
  have hI := indexPipe_calls v ds w (hV.below hb0)
  by_cases h : cutN ds < ds.length
  · have hI : Calls Tryz.prog 153 #[v, .func (Fn.func 154) #[] #[]] w fun e w' => e = .returned (.int .i64 (cutN ds)) ∧ Below w.heap.size w w' := hI.mono fun e w' ⟨i, he, h1, _, hb⟩ => ⟨by rw [he, h1 h], hb⟩
    rw [decide_eq_true h]
    have hV' := hV
    obtain ⟨a, c, rfl, hc1, hc2, hc⟩ := hV'
    have hD := hV.drop (cutN ds + 1) (by omega)
    have hT := hV.take (cutN ds) (by omega)
    have rT := fun W => run_take (a := a) (n := ds.length) (c := c) (cutN ds) (by omega) W
    have rD := fun W => run_drop (a := a) (n := ds.length) (c := c) (cutN ds + 1) (by omega) (by omega) W
    rw [show ((cutN ds + 1 : Nat) : Int) = (cutN ds : Int) + 1 from rfl] at rD
    have hi64 : IntKind.i64.wrap ((cutN ds : Int) + 1) = (cutN ds : Int) + 1 := IntWalk.i64_in _ (by omega)
    have hneg : decide ((cutN ds : Int) < 0) = false := decide_eq_false (by omega)
    generalize sliced a 0 (cutN ds) c 4 = v1 at *
    generalize sliced a (cutN ds + 1) ds.length c 4 = v2 at *
    generalize ds.take (cutN ds) = d1 at *
    generalize ds.drop (cutN ds + 1) = d2 at *
    generalize cutN ds = n at *
    clear hc hV h hc1 hc2
    go_enter Tryz.func116, Tryz.ntmps116
    go_wp2_with fail
    refine hI.mono ?_
    rintro e w1 ⟨rfl, hb1⟩
    clear hI
    go_upto_region 4 with (fail)
    go_quiet (fail)
    go_wp2
    go_ret3
    exact ⟨v1, v2, rfl, hT, hD, Below.drewN hb1 _⟩
  · have hI : Calls Tryz.prog 153 #[v, .func (Fn.func 154) #[] #[]] w fun e w' => e = .returned (.int .i64 (-1)) ∧ Below w.heap.size w w' := hI.mono fun e w' ⟨i, he, _, h1, hb⟩ => ⟨by rw [he, h1 h], hb⟩
    have hn : cutN ds = ds.length := by have := cutN_le ds; omega
    have hT : ds.take (cutN ds) = ds := by rw [hn, List.take_length]
    have hD : ds.drop (cutN ds + 1) = [] := by rw [hn, List.drop_eq_nil_of_le (by omega)]
    rw [decide_eq_false h, hT, hD]
    clear hT hD hn h
    go_enter Tryz.func116, Tryz.ntmps116
    go_wp2_with fail
    refine hI.mono ?_
    rintro e w1 ⟨rfl, hb1⟩
    clear hI
    go_wp2
    go_ret3
    exact ⟨v, _, rfl, hV, wdV_nil _, hb1⟩
end Go.Proofs.YtbcddlheikdlkaaGreatDoor.S
/-
  THE WALK of package pipe's arg.
-/
set_option linter.unusedVariables false
set_option linter.unusedSimpArgs false
namespace Go.Proofs.YtbcddlheikdlkaaGreatDoor.S
open Go.RowKit

/-- five cells of a block are written -/
abbrev put5 (w : World) (g : Nat) (a b c d e : Value) : World := ((((w.setCell ⟨g, 0, none⟩ a).setCell ⟨g, 1, none⟩ b).setCell ⟨g, 2, none⟩ c).setCell ⟨g, 3, none⟩ d).setCell ⟨g, 4, none⟩ e
theorem blk_put5 {g : Nat} {T : TypeId} {w : World} {x0 x1 x2 x3 x4 : Value} (h : Blk g T [x0, x1, x2, x3, x4] w) (a b c d e : Value) : Blk g T [a, b, c, d, e] (put5 w g a b c d e) := ((((h.set 0 a).set 1 b).set 2 c).set 3 d).set 4 e
theorem below_put5 {B : Nat} {w w1 : World} (h : Below B w w1) (g : Nat) (hg : B ≤ g) (a b c d e : Value) : Below B w (put5 w1 g a b c d e) := ((((h.setCell hg a).setCell hg b).setCell hg c).setCell hg d).setCell hg e
theorem own_put5 {base T size n g : Nat} {v : Value} {xs : List Value} {w : World} (h : w.ownsRow base T size v n xs) (hne : v.ownBlock ≠ some g) (a b c d e : Value) : (put5 w g a b c d e).ownsRow base T size v n xs := own_set (own_set (own_set (own_set (own_set h hne 0 a) hne 1 b) hne 2 c) hne 3 d) hne 4 e
def ArgPost (d : Wd) (w : World) (e : Ending) (w' : World) : Prop :=
  (∀ a, argL d = some a → ∃ pv, e = .returned (.tuple #[.agg (arCells a pv).toArray, .bool true]) ∧ Txs w.heap.size pv a.path w') ∧ (argL d = none → e = .returned (.tuple #[.agg #[.int .i64 0, .string ⟨#[]⟩, .slice none 0 0, .int .i64 0, .string ⟨#[]⟩], .bool false])) ∧ Below w.heap.size w w'
theorem ArgPost.ok {d : Wd} {w w' : World} {a : Ar} {pv : Value} (h : argL d = some a) (hp : Txs w.heap.size pv a.path w') (hb : Below w.heap.size w w') : ArgPost d w (.returned (.tuple #[.agg (arCells a pv).toArray, .bool true])) w' :=
  ⟨(fun a' h' => by rw [h] at h'; cases h'; exact ⟨pv, rfl, hp⟩), (fun h' => by rw [h] at h'; cases h'), hb⟩
theorem ArgPost.no {d : Wd} {w w' : World} (h : argL d = none) (hb : Below w.heap.size w w') : ArgPost d w (.returned (.tuple #[.agg #[.int .i64 0, .string ⟨#[]⟩, .slice none 0 0, .int .i64 0, .string ⟨#[]⟩], .bool false])) w' :=
  ⟨(fun a' h' => by rw [h] at h'; cases h'), fun _ => rfl, hb⟩
set_option maxRecDepth 100000 in
set_option maxHeartbeats 8000000 in
theorem arg_calls (g off base : Nat) (d : Wd) (pv : Value) (w : World) (hd : WdOk d) (c0 : w.cell? ⟨g, off, none⟩ = some (.int .i64 d.kind)) (c1 : w.cell? ⟨g, off + 1, none⟩ = some (.string ⟨d.text.toArray⟩))
    (c2 : w.cell? ⟨g, off + 2, none⟩ = some pv) (c3 : w.cell? ⟨g, off + 3, none⟩ = some (.int .i64 d.num)) (hp : Txs base pv d.path w) :
    Calls Tryz.prog 155 #[.pointer (some ⟨g, off, none⟩)] w (ArgPost d w) := by
  obtain ⟨pa, pc, rfl⟩ := hp.slice
  have hWx : Blk w.heap.size 87 [.int .i64 0, .string ⟨#[]⟩, .slice none 0 0, .int .i64 0, .string ⟨#[]⟩] (w.alloc (.cells #[.int .i64 0, .string ⟨#[]⟩, .slice none 0 0, .int .i64 0, .string ⟨#[]⟩] 87)) := Blk.new w _ _
  have hb0 : Below w.heap.size w (w.alloc (.cells #[.int .i64 0, .string ⟨#[]⟩, .slice none 0 0, .int .i64 0, .string ⟨#[]⟩] 87)) := (Below.refl _ w).alloc (Nat.le_refl _) _
  have hk : ∀ {p v}, w.cell? p = some v → (w.alloc (.cells #[.int .i64 0, .string ⟨#[]⟩, .slice none 0 0, .int .i64 0, .string ⟨#[]⟩] 87)).cell? p = some v := fun {p v} hv => (hb0.cell (World.block_lt_of_cell? w p hv)).trans hv
  have e0 := hk c0
  have e1 := hk c1
  have e2 := hk c2
  have e3 := hk c3
  have hp0 := hp.below hb0
  clear hk c0 c1 c2 c3 hp
  cases hd with
  | name x h =>
    dsimp only at e0 e1 e2 e3 hp0
    have hs : StrIs (⟨x.toArray⟩ : ByteArray) x := rfl
    cases h0 : (x == [116, 114, 117, 101]) with
    | true =>
      have t0 := str_test hs [116, 114, 117, 101] true h0
      have hT : argL ⟨0, x, [], 0⟩ = some ⟨4, [], [], 1, []⟩ := by rw [beq_iff_eq.1 h0]; rfl
      have HT := Lib.hid hT
      generalize (⟨x.toArray⟩ : ByteArray) = t at *
      clear hT hs h hp0 h0
      go_enter Tryz.func155, Tryz.ntmps155
      go_upto_region 1 with (fail)
      generalize w.alloc (.cells #[.int .i64 0, .string ⟨#[]⟩, .slice none 0 0, .int .i64 0, .string ⟨#[]⟩] 87) = w0 at *
      have k0 := hWx.cell 0 _ rfl
      have f0 := hWx.free 0
      have k1 := hWx.cell 1 _ rfl
      have f1 := hWx.free 1
      have k2 := hWx.cell 2 _ rfl
      have f2 := hWx.free 2
      have k3 := hWx.cell 3 _ rfl
      have f3 := hWx.free 3
      have k4 := hWx.cell 4 _ rfl
      have f4 := hWx.free 4
      have hW4 : Blk w.heap.size 87 [.int .i64 4, .string ⟨#[]⟩, .slice none 0 0, .int .i64 1, .string ⟨#[]⟩] ((((((w0.setCell ⟨w.heap.size, 0, none⟩ (.int .i64 4)).setCell ⟨w.heap.size, 1, none⟩ (.string ⟨#[]⟩)).setCell ⟨w.heap.size, 2, none⟩ (.slice none 0 0)).setCell ⟨w.heap.size, 3, none⟩ (.int .i64 1)).setCell ⟨w.heap.size, 4, none⟩ (.string ⟨#[]⟩))) := blk_put5 hWx _ _ _ _ _
      have hb4 : Below w.heap.size w ((((((w0.setCell ⟨w.heap.size, 0, none⟩ (.int .i64 4)).setCell ⟨w.heap.size, 1, none⟩ (.string ⟨#[]⟩)).setCell ⟨w.heap.size, 2, none⟩ (.slice none 0 0)).setCell ⟨w.heap.size, 3, none⟩ (.int .i64 1)).setCell ⟨w.heap.size, 4, none⟩ (.string ⟨#[]⟩))) := below_put5 hb0 _ (Nat.le_refl _) _ _ _ _ _
      go_wp2
      clear k0 k1 k2 k3 k4 f0 f1 f2 f3 f4 e0 e1 e2 e3
      generalize (((w0.setCell ⟨w.heap.size, 0, none⟩ (.int .i64 4)).setCell ⟨w.heap.size, 1, none⟩ (.string ⟨#[]⟩)).setCell ⟨w.heap.size, 2, none⟩ (.slice none 0 0)).setCell ⟨w.heap.size, 3, none⟩ (.int .i64 1) = w39 at *
      generalize w39.setCell ⟨w.heap.size, 4, none⟩ (.string ⟨#[]⟩) = w40 at *
      have d0 := hW4.cell 0 _ rfl
      have d1 := hW4.cell 1 _ rfl
      have d2 := hW4.cell 2 _ rfl
      have d3 := hW4.cell 3 _ rfl
      have d4 := hW4.cell 4 _ rfl
      refine bodyPost_ret (v := .tuple #[.agg #[.int .i64 4, .string ⟨#[]⟩, .slice none 0 0, .int .i64 1, .string ⟨#[]⟩], .bool true]) (by simp [results, Tryz.results155, go_sem, d0, d1, d2, d3, d4]) rfl ?_
      exact ArgPost.ok (a := ⟨4, [], [], 1, []⟩) (pv := .slice none 0 0) HT.out (.inl ⟨rfl, _, _, rfl⟩) hb4
    | false =>
      have t0 := str_test hs [116, 114, 117, 101] false h0
      cases h1 : (x == [102, 97, 108, 115, 101]) with
      | true =>
        have t1 := str_test hs [102, 97, 108, 115, 101] true h1
        have hT : argL ⟨0, x, [], 0⟩ = some ⟨4, [], [], 0, []⟩ := by rw [beq_iff_eq.1 h1]; rfl
        have HT := Lib.hid hT
        generalize (⟨x.toArray⟩ : ByteArray) = t at *
        clear hT hs h hp0 h0 h1
        go_enter Tryz.func155, Tryz.ntmps155
        go_upto_region 1 with (fail)
        generalize w.alloc (.cells #[.int .i64 0, .string ⟨#[]⟩, .slice none 0 0, .int .i64 0, .string ⟨#[]⟩] 87) = w0 at *
        have k0 := hWx.cell 0 _ rfl
        have f0 := hWx.free 0
        have k1 := hWx.cell 1 _ rfl
        have f1 := hWx.free 1
        have k2 := hWx.cell 2 _ rfl
        have f2 := hWx.free 2
        have k3 := hWx.cell 3 _ rfl
        have f3 := hWx.free 3
        have k4 := hWx.cell 4 _ rfl
        have f4 := hWx.free 4
        have hW4 : Blk w.heap.size 87 [.int .i64 4, .string ⟨#[]⟩, .slice none 0 0, .int .i64 0, .string ⟨#[]⟩] ((((((w0.setCell ⟨w.heap.size, 0, none⟩ (.int .i64 4)).setCell ⟨w.heap.size, 1, none⟩ (.string ⟨#[]⟩)).setCell ⟨w.heap.size, 2, none⟩ (.slice none 0 0)).setCell ⟨w.heap.size, 3, none⟩ (.int .i64 0)).setCell ⟨w.heap.size, 4, none⟩ (.string ⟨#[]⟩))) := blk_put5 hWx _ _ _ _ _
        have hb4 : Below w.heap.size w ((((((w0.setCell ⟨w.heap.size, 0, none⟩ (.int .i64 4)).setCell ⟨w.heap.size, 1, none⟩ (.string ⟨#[]⟩)).setCell ⟨w.heap.size, 2, none⟩ (.slice none 0 0)).setCell ⟨w.heap.size, 3, none⟩ (.int .i64 0)).setCell ⟨w.heap.size, 4, none⟩ (.string ⟨#[]⟩))) := below_put5 hb0 _ (Nat.le_refl _) _ _ _ _ _
        go_wp2
        clear k0 k1 k2 k3 k4 f0 f1 f2 f3 f4 e0 e1 e2 e3
        generalize (((w0.setCell ⟨w.heap.size, 0, none⟩ (.int .i64 4)).setCell ⟨w.heap.size, 1, none⟩ (.string ⟨#[]⟩)).setCell ⟨w.heap.size, 2, none⟩ (.slice none 0 0)).setCell ⟨w.heap.size, 3, none⟩ (.int .i64 0) = w39 at *
        generalize w39.setCell ⟨w.heap.size, 4, none⟩ (.string ⟨#[]⟩) = w40 at *
        have d0 := hW4.cell 0 _ rfl
        have d1 := hW4.cell 1 _ rfl
        have d2 := hW4.cell 2 _ rfl
        have d3 := hW4.cell 3 _ rfl
        have d4 := hW4.cell 4 _ rfl
        refine bodyPost_ret (v := .tuple #[.agg #[.int .i64 4, .string ⟨#[]⟩, .slice none 0 0, .int .i64 0, .string ⟨#[]⟩], .bool true]) (by simp [results, Tryz.results155, go_sem, d0, d1, d2, d3, d4]) rfl ?_
        exact ArgPost.ok (a := ⟨4, [], [], 0, []⟩) (pv := .slice none 0 0) HT.out (.inl ⟨rfl, _, _, rfl⟩) hb4
      | false =>
        have t1 := str_test hs [102, 97, 108, 115, 101] false h1
        cases h2 : (x == [110, 117, 108, 108]) with
        | true =>
          have t2 := str_test hs [110, 117, 108, 108] true h2
          have hT : argL ⟨0, x, [], 0⟩ = some ⟨5, [], [], 0, []⟩ := by rw [beq_iff_eq.1 h2]; rfl
          have HT := Lib.hid hT
          generalize (⟨x.toArray⟩ : ByteArray) = t at *
          clear hT hs h hp0 h0 h1 h2
          go_enter Tryz.func155, Tryz.ntmps155
          go_upto_region 1 with (fail)
          generalize w.alloc (.cells #[.int .i64 0, .string ⟨#[]⟩, .slice none 0 0, .int .i64 0, .string ⟨#[]⟩] 87) = w0 at *
          have k0 := hWx.cell 0 _ rfl
          have f0 := hWx.free 0
          have k1 := hWx.cell 1 _ rfl
          have f1 := hWx.free 1
          have k2 := hWx.cell 2 _ rfl
          have f2 := hWx.free 2
          have k3 := hWx.cell 3 _ rfl
          have f3 := hWx.free 3
          have k4 := hWx.cell 4 _ rfl
          have f4 := hWx.free 4
          have hW4 : Blk w.heap.size 87 [.int .i64 5, .string ⟨#[]⟩, .slice none 0 0, .int .i64 0, .string ⟨#[]⟩] ((((((w0.setCell ⟨w.heap.size, 0, none⟩ (.int .i64 5)).setCell ⟨w.heap.size, 1, none⟩ (.string ⟨#[]⟩)).setCell ⟨w.heap.size, 2, none⟩ (.slice none 0 0)).setCell ⟨w.heap.size, 3, none⟩ (.int .i64 0)).setCell ⟨w.heap.size, 4, none⟩ (.string ⟨#[]⟩))) := blk_put5 hWx _ _ _ _ _
          have hb4 : Below w.heap.size w ((((((w0.setCell ⟨w.heap.size, 0, none⟩ (.int .i64 5)).setCell ⟨w.heap.size, 1, none⟩ (.string ⟨#[]⟩)).setCell ⟨w.heap.size, 2, none⟩ (.slice none 0 0)).setCell ⟨w.heap.size, 3, none⟩ (.int .i64 0)).setCell ⟨w.heap.size, 4, none⟩ (.string ⟨#[]⟩))) := below_put5 hb0 _ (Nat.le_refl _) _ _ _ _ _
          go_wp2
          clear k0 k1 k2 k3 k4 f0 f1 f2 f3 f4 e0 e1 e2 e3
          generalize (((w0.setCell ⟨w.heap.size, 0, none⟩ (.int .i64 5)).setCell ⟨w.heap.size, 1, none⟩ (.string ⟨#[]⟩)).setCell ⟨w.heap.size, 2, none⟩ (.slice none 0 0)).setCell ⟨w.heap.size, 3, none⟩ (.int .i64 0) = w39 at *
          generalize w39.setCell ⟨w.heap.size, 4, none⟩ (.string ⟨#[]⟩) = w40 at *
          have d0 := hW4.cell 0 _ rfl
          have d1 := hW4.cell 1 _ rfl
          have d2 := hW4.cell 2 _ rfl
          have d3 := hW4.cell 3 _ rfl
          have d4 := hW4.cell 4 _ rfl
          refine bodyPost_ret (v := .tuple #[.agg #[.int .i64 5, .string ⟨#[]⟩, .slice none 0 0, .int .i64 0, .string ⟨#[]⟩], .bool true]) (by simp [results, Tryz.results155, go_sem, d0, d1, d2, d3, d4]) rfl ?_
          exact ArgPost.ok (a := ⟨5, [], [], 0, []⟩) (pv := .slice none 0 0) HT.out (.inl ⟨rfl, _, _, rfl⟩) hb4
        | false =>
          have t2 := str_test hs [110, 117, 108, 108] false h2
          have hT : argL ⟨0, x, [], 0⟩ = none := by
            unfold argL
            simp only [show ¬ (0 : Nat) = 1 by decide, show ¬ (0 : Nat) = 2 by decide, show ¬ (0 : Nat) = 3 by decide, show ¬ (0 : Nat) = 4 by decide, if_false, if_true]
            rw [if_neg (beq_eq_false_iff_ne.1 h0), if_neg (beq_eq_false_iff_ne.1 h1), if_neg (beq_eq_false_iff_ne.1 h2)]
          have HT := Lib.hid hT
          generalize (⟨x.toArray⟩ : ByteArray) = t at *
          clear hT hs h hp0 h0 h1 h2
          go_enter Tryz.func155, Tryz.ntmps155
          go_upto_region 1 with (fail)
          generalize w.alloc (.cells #[.int .i64 0, .string ⟨#[]⟩, .slice none 0 0, .int .i64 0, .string ⟨#[]⟩] 87) = w0 at *
          have k0 := hWx.cell 0 _ rfl
          have f0 := hWx.free 0
          have k1 := hWx.cell 1 _ rfl
          have f1 := hWx.free 1
          have k2 := hWx.cell 2 _ rfl
          have f2 := hWx.free 2
          have k3 := hWx.cell 3 _ rfl
          have f3 := hWx.free 3
          have k4 := hWx.cell 4 _ rfl
          have f4 := hWx.free 4
          have hW4 : Blk w.heap.size 87 [.int .i64 0, .string ⟨#[]⟩, .slice none 0 0, .int .i64 0, .string ⟨#[]⟩] ((((((w0.setCell ⟨w.heap.size, 0, none⟩ (.int .i64 0)).setCell ⟨w.heap.size, 1, none⟩ (.string ⟨#[]⟩)).setCell ⟨w.heap.size, 2, none⟩ (.slice none 0 0)).setCell ⟨w.heap.size, 3, none⟩ (.int .i64 0)).setCell ⟨w.heap.size, 4, none⟩ (.string ⟨#[]⟩))) := blk_put5 hWx _ _ _ _ _
          have hb4 : Below w.heap.size w ((((((w0.setCell ⟨w.heap.size, 0, none⟩ (.int .i64 0)).setCell ⟨w.heap.size, 1, none⟩ (.string ⟨#[]⟩)).setCell ⟨w.heap.size, 2, none⟩ (.slice none 0 0)).setCell ⟨w.heap.size, 3, none⟩ (.int .i64 0)).setCell ⟨w.heap.size, 4, none⟩ (.string ⟨#[]⟩))) := below_put5 hb0 _ (Nat.le_refl _) _ _ _ _ _
          go_wp2
          clear k0 k1 k2 k3 k4 f0 f1 f2 f3 f4 e0 e1 e2 e3
          generalize (((w0.setCell ⟨w.heap.size, 0, none⟩ (.int .i64 0)).setCell ⟨w.heap.size, 1, none⟩ (.string ⟨#[]⟩)).setCell ⟨w.heap.size, 2, none⟩ (.slice none 0 0)).setCell ⟨w.heap.size, 3, none⟩ (.int .i64 0) = w39 at *
          generalize w39.setCell ⟨w.heap.size, 4, none⟩ (.string ⟨#[]⟩) = w40 at *
          have d0 := hW4.cell 0 _ rfl
          have d1 := hW4.cell 1 _ rfl
          have d2 := hW4.cell 2 _ rfl
          have d3 := hW4.cell 3 _ rfl
          have d4 := hW4.cell 4 _ rfl
          refine bodyPost_ret (v := .tuple #[.agg #[.int .i64 0, .string ⟨#[]⟩, .slice none 0 0, .int .i64 0, .string ⟨#[]⟩], .bool false]) (by simp [results, Tryz.results155, go_sem, d0, d1, d2, d3, d4]) rfl ?_
          exact ArgPost.no HT.out hb4
  | field xs h hl =>
    dsimp only at e0 e1 e2 e3 hp0
    have hT : argL ⟨1, [], xs, 0⟩ = some ⟨0, [], xs, 0, []⟩ := rfl
    have HT := Lib.hid hT
    clear hT
    go_enter Tryz.func155, Tryz.ntmps155
    go_upto_region 1 with (fail)
    generalize w.alloc (.cells #[.int .i64 0, .string ⟨#[]⟩, .slice none 0 0, .int .i64 0, .string ⟨#[]⟩] 87) = w0 at *
    go_upto_region 3 with (fail)
    go_wp2_with fail
    refine (clone_calls base _ xs _ hp0 (by omega)).mono ?_
    rintro e w1 ⟨v', rfl, hS1, hb1⟩
    obtain ⟨va, vc, rfl⟩ := hS1.slice
    have hz0 := hWx.lt
    have hWx := hWx.below hb1
    have hb1 := hb0.trans (hb1.mono (by omega))
    clear e0 e1 e2 e3
    have k0 := hWx.cell 0 _ rfl
    have f0 := hWx.free 0
    have k1 := hWx.cell 1 _ rfl
    have f1 := hWx.free 1
    have k2 := hWx.cell 2 _ rfl
    have f2 := hWx.free 2
    have k3 := hWx.cell 3 _ rfl
    have f3 := hWx.free 3
    have k4 := hWx.cell 4 _ rfl
    have f4 := hWx.free 4
    have hne : (Value.slice va xs.length vc).ownBlock ≠ some w.heap.size := fun e => by have := own_base hS1 _ e; omega
    have hS4 : Strs _ (.slice va xs.length vc) xs ((((((w1.setCell ⟨w.heap.size, 0, none⟩ (.int .i64 0)).setCell ⟨w.heap.size, 1, none⟩ (.string ⟨#[]⟩)).setCell ⟨w.heap.size, 2, none⟩ (.slice va xs.length vc)).setCell ⟨w.heap.size, 3, none⟩ (.int .i64 0)).setCell ⟨w.heap.size, 4, none⟩ (.string ⟨#[]⟩))) := own_put5 hS1 hne (.int .i64 0) (.string ⟨#[]⟩) (.slice va xs.length vc) (.int .i64 0) (.string ⟨#[]⟩)
    have hW4 : Blk w.heap.size 87 [.int .i64 0, .string ⟨#[]⟩, .slice va xs.length vc, .int .i64 0, .string ⟨#[]⟩] ((((((w1.setCell ⟨w.heap.size, 0, none⟩ (.int .i64 0)).setCell ⟨w.heap.size, 1, none⟩ (.string ⟨#[]⟩)).setCell ⟨w.heap.size, 2, none⟩ (.slice va xs.length vc)).setCell ⟨w.heap.size, 3, none⟩ (.int .i64 0)).setCell ⟨w.heap.size, 4, none⟩ (.string ⟨#[]⟩))) := blk_put5 hWx _ _ _ _ _
    have hb4 : Below w.heap.size w ((((((w1.setCell ⟨w.heap.size, 0, none⟩ (.int .i64 0)).setCell ⟨w.heap.size, 1, none⟩ (.string ⟨#[]⟩)).setCell ⟨w.heap.size, 2, none⟩ (.slice va xs.length vc)).setCell ⟨w.heap.size, 3, none⟩ (.int .i64 0)).setCell ⟨w.heap.size, 4, none⟩ (.string ⟨#[]⟩))) := below_put5 hb1 _ (Nat.le_refl _) _ _ _ _ _
    go_wp2
    clear k0 k1 k2 k3 k4 f0 f1 f2 f3 f4
    generalize (((w1.setCell ⟨w.heap.size, 0, none⟩ (.int .i64 0)).setCell ⟨w.heap.size, 1, none⟩ (.string ⟨#[]⟩)).setCell ⟨w.heap.size, 2, none⟩ (.slice va xs.length vc)).setCell ⟨w.heap.size, 3, none⟩ (.int .i64 0) = w39 at *
    generalize w39.setCell ⟨w.heap.size, 4, none⟩ (.string ⟨#[]⟩) = w40 at *
    have d0 := hW4.cell 0 _ rfl
    have d1 := hW4.cell 1 _ rfl
    have d2 := hW4.cell 2 _ rfl
    have d3 := hW4.cell 3 _ rfl
    have d4 := hW4.cell 4 _ rfl
    refine bodyPost_ret (v := .tuple #[.agg #[.int .i64 0, .string ⟨#[]⟩, .slice va xs.length vc, .int .i64 0, .string ⟨#[]⟩], .bool true]) (by simp [results, Tryz.results155, go_sem, d0, d1, d2, d3, d4]) rfl ?_
    exact ArgPost.ok (a := ⟨0, [], xs, 0, []⟩) (pv := .slice va xs.length vc) HT.out (.inr (World.ownsRow.mono hS4 (by omega))) hb4
  | var x xs h hx hl =>
    dsimp only at e0 e1 e2 e3 hp0
    have htx : (⟨x.toArray⟩ : ByteArray) = ⟨x.toArray⟩ := rfl
    have hT : argL ⟨2, x, xs, 0⟩ = some ⟨1, x, xs, 0, []⟩ := rfl
    have HT := Lib.hid hT
    clear hT
    go_enter Tryz.func155, Tryz.ntmps155
    go_upto_region 1 with (fail)
    generalize w.alloc (.cells #[.int .i64 0, .string ⟨#[]⟩, .slice none 0 0, .int .i64 0, .string ⟨#[]⟩] 87) = w0 at *
    go_upto_region 5 with (fail)
    have hz0 := hWx.lt
    go_cut [2, 3] (fun v2 v3 wx => v3 = .bool true ∧ ∃ v', Blk w.heap.size 87 [.int .i64 1, .string ⟨x.toArray⟩, v', .int .i64 0, .string ⟨#[]⟩] wx ∧ Strs (w.heap.size + 1) v' xs wx ∧ Below w.heap.size w wx ∧ v2 = .pointer (some ⟨w.heap.size, 0, none⟩))
    case first =>
      have hdr : Below w0.heap.size w0 w0.drew := Below.drew (Below.refl _ _)
      have HC := Lib.hid (clone_calls base _ xs w0.drew (hp0.below hdr) (by omega))
      have HWX := Lib.hid hWx
      have HB0 := Lib.hid hb0
      have HDR := Lib.hid hdr
      generalize (⟨x.toArray⟩ : ByteArray) = t at *
      clear hWx hb0 hdr hp0 htx
      go_region_law (go_simp; go_at_call 172; refine HC.out.mono ?_; rintro e w5 ⟨v', rfl, hS5, hb5⟩; obtain ⟨va, vc, rfl⟩ := hS5.slice; have hb05 := HDR.out.trans (hb5.mono HDR.out.size); have HW5 := Lib.hid (HWX.out.below hb05); have k0 := HW5.out.cell 0 _ rfl; have k1 := HW5.out.cell 1 _ rfl; have k2 := HW5.out.cell 2 _ rfl; have k3 := HW5.out.cell 3 _ rfl; have k4 := HW5.out.cell 4 _ rfl; have f0 := HW5.out.free 0; have f1 := HW5.out.free 1; have f2 := HW5.out.free 2; have f3 := HW5.out.free 3; have f4 := HW5.out.free 4; have g1 := hb05.cell (p := ⟨g, off + 1, none⟩) (World.block_lt_of_cell? w0 _ e1); rw [e1] at g1; have HB5 := Lib.hid hb05; have HS5 := Lib.hid hS5; clear hb05 hS5 hb5)
      all_goals go_wp2_with fail
      all_goals go_meet
      all_goals have hne : (Value.slice va xs.length vc).ownBlock ≠ some w.heap.size := fun e => by have := own_base HS5.out _ e; have := HDR.out.size; omega
      all_goals exact ⟨rfl, .slice va xs.length vc, blk_put5 HW5.out _ _ _ _ _, World.ownsRow.mono (own_put5 HS5.out hne _ _ _ _ _) (by have := HDR.out.size; omega), below_put5 (HB0.out.trans (HB5.out.mono (by omega))) _ (Nat.le_refl _) _ _ _ _ _, rfl⟩
    case rest =>
    obtain ⟨rfl, v', hW4, hS4, hb4, rfl⟩ := hcut
    clear e0 e1 e2 e3
    have d0 := hW4.cell 0 _ rfl
    have d1 := hW4.cell 1 _ rfl
    have d2 := hW4.cell 2 _ rfl
    have d3 := hW4.cell 3 _ rfl
    have d4 := hW4.cell 4 _ rfl
    go_wp2
    refine bodyPost_ret (v := .tuple #[.agg #[.int .i64 1, .string ⟨x.toArray⟩, v', .int .i64 0, .string ⟨#[]⟩], .bool true]) (by simp [results, Tryz.results155, go_sem, d0, d1, d2, d3, d4]) rfl ?_
    exact ArgPost.ok (a := ⟨1, x, xs, 0, []⟩) (pv := v') HT.out (.inr (World.ownsRow.mono hS4 (by omega))) hb4
  | num z h =>
    dsimp only at e0 e1 e2 e3 hp0
    have hT : argL ⟨3, [], [], z⟩ = some ⟨2, [], [], z, []⟩ := rfl
    have HT := Lib.hid hT
    clear hT hp0
    go_enter Tryz.func155, Tryz.ntmps155
    go_upto_region 1 with (fail)
    generalize w.alloc (.cells #[.int .i64 0, .string ⟨#[]⟩, .slice none 0 0, .int .i64 0, .string ⟨#[]⟩] 87) = w0 at *
    have k0 := hWx.cell 0 _ rfl
    have f0 := hWx.free 0
    have k1 := hWx.cell 1 _ rfl
    have f1 := hWx.free 1
    have k2 := hWx.cell 2 _ rfl
    have f2 := hWx.free 2
    have k3 := hWx.cell 3 _ rfl
    have f3 := hWx.free 3
    have k4 := hWx.cell 4 _ rfl
    have f4 := hWx.free 4
    have hW4 : Blk w.heap.size 87 [.int .i64 2, .string ⟨#[]⟩, .slice none 0 0, .int .i64 z, .string ⟨#[]⟩] ((((((w0.setCell ⟨w.heap.size, 0, none⟩ (.int .i64 2)).setCell ⟨w.heap.size, 1, none⟩ (.string ⟨#[]⟩)).setCell ⟨w.heap.size, 2, none⟩ (.slice none 0 0)).setCell ⟨w.heap.size, 3, none⟩ (.int .i64 z)).setCell ⟨w.heap.size, 4, none⟩ (.string ⟨#[]⟩))) := blk_put5 hWx _ _ _ _ _
    have hb4 : Below w.heap.size w ((((((w0.setCell ⟨w.heap.size, 0, none⟩ (.int .i64 2)).setCell ⟨w.heap.size, 1, none⟩ (.string ⟨#[]⟩)).setCell ⟨w.heap.size, 2, none⟩ (.slice none 0 0)).setCell ⟨w.heap.size, 3, none⟩ (.int .i64 z)).setCell ⟨w.heap.size, 4, none⟩ (.string ⟨#[]⟩))) := below_put5 hb0 _ (Nat.le_refl _) _ _ _ _ _
    go_wp2
    clear k0 k1 k2 k3 k4 f0 f1 f2 f3 f4 e0 e1 e2 e3
    generalize (((w0.setCell ⟨w.heap.size, 0, none⟩ (.int .i64 2)).setCell ⟨w.heap.size, 1, none⟩ (.string ⟨#[]⟩)).setCell ⟨w.heap.size, 2, none⟩ (.slice none 0 0)).setCell ⟨w.heap.size, 3, none⟩ (.int .i64 z) = w39 at *
    generalize w39.setCell ⟨w.heap.size, 4, none⟩ (.string ⟨#[]⟩) = w40 at *
    have d0 := hW4.cell 0 _ rfl
    have d1 := hW4.cell 1 _ rfl
    have d2 := hW4.cell 2 _ rfl
    have d3 := hW4.cell 3 _ rfl
    have d4 := hW4.cell 4 _ rfl
    refine bodyPost_ret (v := .tuple #[.agg #[.int .i64 2, .string ⟨#[]⟩, .slice none 0 0, .int .i64 z, .string ⟨#[]⟩], .bool true]) (by simp [results, Tryz.results155, go_sem, d0, d1, d2, d3, d4]) rfl ?_
    exact ArgPost.ok (a := ⟨2, [], [], z, []⟩) (pv := .slice none 0 0) HT.out (.inl ⟨rfl, _, _, rfl⟩) hb4
  | text x =>
    dsimp only at e0 e1 e2 e3 hp0
    have hT : argL ⟨4, x, [], 0⟩ = some ⟨3, [], [], 0, x⟩ := rfl
    have HT := Lib.hid hT
    clear hT hp0
    go_enter Tryz.func155, Tryz.ntmps155
    go_upto_region 1 with (fail)
    generalize w.alloc (.cells #[.int .i64 0, .string ⟨#[]⟩, .slice none 0 0, .int .i64 0, .string ⟨#[]⟩] 87) = w0 at *
    have k0 := hWx.cell 0 _ rfl
    have f0 := hWx.free 0
    have k1 := hWx.cell 1 _ rfl
    have f1 := hWx.free 1
    have k2 := hWx.cell 2 _ rfl
    have f2 := hWx.free 2
    have k3 := hWx.cell 3 _ rfl
    have f3 := hWx.free 3
    have k4 := hWx.cell 4 _ rfl
    have f4 := hWx.free 4
    have hW4 : Blk w.heap.size 87 [.int .i64 3, .string ⟨#[]⟩, .slice none 0 0, .int .i64 0, .string ⟨x.toArray⟩] ((((((w0.setCell ⟨w.heap.size, 0, none⟩ (.int .i64 3)).setCell ⟨w.heap.size, 1, none⟩ (.string ⟨#[]⟩)).setCell ⟨w.heap.size, 2, none⟩ (.slice none 0 0)).setCell ⟨w.heap.size, 3, none⟩ (.int .i64 0)).setCell ⟨w.heap.size, 4, none⟩ (.string ⟨x.toArray⟩))) := blk_put5 hWx _ _ _ _ _
    have hb4 : Below w.heap.size w ((((((w0.setCell ⟨w.heap.size, 0, none⟩ (.int .i64 3)).setCell ⟨w.heap.size, 1, none⟩ (.string ⟨#[]⟩)).setCell ⟨w.heap.size, 2, none⟩ (.slice none 0 0)).setCell ⟨w.heap.size, 3, none⟩ (.int .i64 0)).setCell ⟨w.heap.size, 4, none⟩ (.string ⟨x.toArray⟩))) := below_put5 hb0 _ (Nat.le_refl _) _ _ _ _ _
    go_wp2
    clear k0 k1 k2 k3 k4 f0 f1 f2 f3 f4 e0 e1 e2 e3
    generalize (((w0.setCell ⟨w.heap.size, 0, none⟩ (.int .i64 3)).setCell ⟨w.heap.size, 1, none⟩ (.string ⟨#[]⟩)).setCell ⟨w.heap.size, 2, none⟩ (.slice none 0 0)).setCell ⟨w.heap.size, 3, none⟩ (.int .i64 0) = w39 at *
    generalize w39.setCell ⟨w.heap.size, 4, none⟩ (.string ⟨x.toArray⟩) = w40 at *
    have d0 := hW4.cell 0 _ rfl
    have d1 := hW4.cell 1 _ rfl
    have d2 := hW4.cell 2 _ rfl
    have d3 := hW4.cell 3 _ rfl
    have d4 := hW4.cell 4 _ rfl
    refine bodyPost_ret (v := .tuple #[.agg #[.int .i64 3, .string ⟨#[]⟩, .slice none 0 0, .int .i64 0, .string ⟨x.toArray⟩], .bool true]) (by simp [results, Tryz.results155, go_sem, d0, d1, d2, d3, d4]) rfl ?_
    exact ArgPost.ok (a := ⟨3, [], [], 0, x⟩) (pv := .slice none 0 0) HT.out (.inl ⟨rfl, _, _, rfl⟩) hb4
  | pipe =>
    dsimp only at e0 e1 e2 e3 hp0
    have hT : argL ⟨5, [], [], 0⟩ = none := rfl
    have HT := Lib.hid hT
    clear hT hp0
    go_enter Tryz.func155, Tryz.ntmps155
    go_upto_region 1 with (fail)
    generalize w.alloc (.cells #[.int .i64 0, .string ⟨#[]⟩, .slice none 0 0, .int .i64 0, .string ⟨#[]⟩] 87) = w0 at *
    have k0 := hWx.cell 0 _ rfl
    have f0 := hWx.free 0
    have k1 := hWx.cell 1 _ rfl
    have f1 := hWx.free 1
    have k2 := hWx.cell 2 _ rfl
    have f2 := hWx.free 2
    have k3 := hWx.cell 3 _ rfl
    have f3 := hWx.free 3
    have k4 := hWx.cell 4 _ rfl
    have f4 := hWx.free 4
    have hW4 : Blk w.heap.size 87 [.int .i64 0, .string ⟨#[]⟩, .slice none 0 0, .int .i64 0, .string ⟨#[]⟩] ((((((w0.setCell ⟨w.heap.size, 0, none⟩ (.int .i64 0)).setCell ⟨w.heap.size, 1, none⟩ (.string ⟨#[]⟩)).setCell ⟨w.heap.size, 2, none⟩ (.slice none 0 0)).setCell ⟨w.heap.size, 3, none⟩ (.int .i64 0)).setCell ⟨w.heap.size, 4, none⟩ (.string ⟨#[]⟩))) := blk_put5 hWx _ _ _ _ _
    have hb4 : Below w.heap.size w ((((((w0.setCell ⟨w.heap.size, 0, none⟩ (.int .i64 0)).setCell ⟨w.heap.size, 1, none⟩ (.string ⟨#[]⟩)).setCell ⟨w.heap.size, 2, none⟩ (.slice none 0 0)).setCell ⟨w.heap.size, 3, none⟩ (.int .i64 0)).setCell ⟨w.heap.size, 4, none⟩ (.string ⟨#[]⟩))) := below_put5 hb0 _ (Nat.le_refl _) _ _ _ _ _
    go_wp2
    clear k0 k1 k2 k3 k4 f0 f1 f2 f3 f4 e0 e1 e2 e3
    generalize (((w0.setCell ⟨w.heap.size, 0, none⟩ (.int .i64 0)).setCell ⟨w.heap.size, 1, none⟩ (.string ⟨#[]⟩)).setCell ⟨w.heap.size, 2, none⟩ (.slice none 0 0)).setCell ⟨w.heap.size, 3, none⟩ (.int .i64 0) = w39 at *
    generalize w39.setCell ⟨w.heap.size, 4, none⟩ (.string ⟨#[]⟩) = w40 at *
    have d0 := hW4.cell 0 _ rfl
    have d1 := hW4.cell 1 _ rfl
    have d2 := hW4.cell 2 _ rfl
    have d3 := hW4.cell 3 _ rfl
    have d4 := hW4.cell 4 _ rfl
    refine bodyPost_ret (v := .tuple #[.agg #[.int .i64 0, .string ⟨#[]⟩, .slice none 0 0, .int .i64 0, .string ⟨#[]⟩], .bool false]) (by simp [results, Tryz.results155, go_sem, d0, d1, d2, d3, d4]) rfl ?_
    exact ArgPost.no HT.out hb4
  | set =>
    dsimp only at e0 e1 e2 e3 hp0
    have hT : argL ⟨6, [], [], 0⟩ = none := rfl
    have HT := Lib.hid hT
    clear hT hp0
    go_enter Tryz.func155, Tryz.ntmps155
    go_upto_region 1 with (fail)
    generalize w.alloc (.cells #[.int .i64 0, .string ⟨#[]⟩, .slice none 0 0, .int .i64 0, .string ⟨#[]⟩] 87) = w0 at *
    have k0 := hWx.cell 0 _ rfl
    have f0 := hWx.free 0
    have k1 := hWx.cell 1 _ rfl
    have f1 := hWx.free 1
    have k2 := hWx.cell 2 _ rfl
    have f2 := hWx.free 2
    have k3 := hWx.cell 3 _ rfl
    have f3 := hWx.free 3
    have k4 := hWx.cell 4 _ rfl
    have f4 := hWx.free 4
    have hW4 : Blk w.heap.size 87 [.int .i64 0, .string ⟨#[]⟩, .slice none 0 0, .int .i64 0, .string ⟨#[]⟩] ((((((w0.setCell ⟨w.heap.size, 0, none⟩ (.int .i64 0)).setCell ⟨w.heap.size, 1, none⟩ (.string ⟨#[]⟩)).setCell ⟨w.heap.size, 2, none⟩ (.slice none 0 0)).setCell ⟨w.heap.size, 3, none⟩ (.int .i64 0)).setCell ⟨w.heap.size, 4, none⟩ (.string ⟨#[]⟩))) := blk_put5 hWx _ _ _ _ _
    have hb4 : Below w.heap.size w ((((((w0.setCell ⟨w.heap.size, 0, none⟩ (.int .i64 0)).setCell ⟨w.heap.size, 1, none⟩ (.string ⟨#[]⟩)).setCell ⟨w.heap.size, 2, none⟩ (.slice none 0 0)).setCell ⟨w.heap.size, 3, none⟩ (.int .i64 0)).setCell ⟨w.heap.size, 4, none⟩ (.string ⟨#[]⟩))) := below_put5 hb0 _ (Nat.le_refl _) _ _ _ _ _
    go_wp2
    clear k0 k1 k2 k3 k4 f0 f1 f2 f3 f4 e0 e1 e2 e3
    generalize (((w0.setCell ⟨w.heap.size, 0, none⟩ (.int .i64 0)).setCell ⟨w.heap.size, 1, none⟩ (.string ⟨#[]⟩)).setCell ⟨w.heap.size, 2, none⟩ (.slice none 0 0)).setCell ⟨w.heap.size, 3, none⟩ (.int .i64 0) = w39 at *
    generalize w39.setCell ⟨w.heap.size, 4, none⟩ (.string ⟨#[]⟩) = w40 at *
    have d0 := hW4.cell 0 _ rfl
    have d1 := hW4.cell 1 _ rfl
    have d2 := hW4.cell 2 _ rfl
    have d3 := hW4.cell 3 _ rfl
    have d4 := hW4.cell 4 _ rfl
    refine bodyPost_ret (v := .tuple #[.agg #[.int .i64 0, .string ⟨#[]⟩, .slice none 0 0, .int .i64 0, .string ⟨#[]⟩], .bool false]) (by simp [results, Tryz.results155, go_sem, d0, d1, d2, d3, d4]) rfl ?_
    exact ArgPost.no HT.out hb4
end Go.Proofs.YtbcddlheikdlkaaGreatDoor.S
/-
  THE WALK of package pipe's cmd.
-/
set_option linter.unusedVariables false
set_option linter.unusedSimpArgs false
namespace Go.Proofs.YtbcddlheikdlkaaGreatDoor.S
open Go.RowKit

def CmdPost (T : Option Cm) (w : World) (e : Ending) (w' : World) : Prop :=
  (∀ c, T = some c → ∃ av, e = .returned (.tuple #[.agg (cmCells c av).toArray, .bool true]) ∧ Ars w.heap.size av c.args w') ∧ (T = none → e = .returned (.tuple #[.agg #[.string ⟨#[]⟩, .slice none 0 0], .bool false])) ∧ Below w.heap.size w w'
theorem CmdPost.ok {T : Option Cm} {w w' : World} {c : Cm} {av : Value} (h : T = some c) (hp : Ars w.heap.size av c.args w') (hb : Below w.heap.size w w') : CmdPost T w (.returned (.tuple #[.agg (cmCells c av).toArray, .bool true])) w' :=
  ⟨(fun c' h' => by rw [h] at h'; cases h'; exact ⟨av, rfl, hp⟩), (fun h' => by rw [h] at h'; cases h'), hb⟩
theorem CmdPost.no {T : Option Cm} {w w' : World} (h : T = none) (hb : Below w.heap.size w w') : CmdPost T w (.returned (.tuple #[.agg #[.string ⟨#[]⟩, .slice none 0 0], .bool false])) w' :=
  ⟨(fun c' h' => by rw [h] at h'; cases h'), fun _ => rfl, hb⟩
/-- what is read so far, and the rest, make the whole -/
def ArgsAt (T : Option (List Ar)) (acc : List Ar) (ds : List Wd) : Prop := T = (argsL ds).map (acc ++ ·)
theorem ArgsAt.go {T : Option (List Ar)} {acc : List Ar} {d : Wd} {ds : List Wd} {a : Ar} (h : ArgsAt T acc (d :: ds)) (ha : argL d = some a) : ArgsAt T (acc ++ [a]) ds := by
  unfold ArgsAt at *
  rw [h, argsL, ha]
  dsimp only
  cases argsL ds <;> simp
theorem ArgsAt.no {T : Option (List Ar)} {acc : List Ar} {d : Wd} {ds : List Wd} (h : ArgsAt T acc (d :: ds)) (ha : argL d = none) : T = none := by
  unfold ArgsAt at h
  rw [h, argsL, ha]
  rfl
theorem ArgsAt.done {T : Option (List Ar)} {acc : List Ar} (h : ArgsAt T acc []) : T = some acc := by
  unfold ArgsAt at h
  rw [h, argsL]
  simp
theorem drop_cons' {α : Type} (l : List α) (k : Nat) (h : k < l.length) : l.drop k = l[k] :: l.drop (k + 1) := List.drop_eq_getElem_cons h
theorem cmd_nil (first : Bool) : cmdL [] first = none := rfl
theorem cmd_fn {d : Wd} {r : List Wd} {first : Bool} (h : fnWord d = true) : cmdL (d :: r) first = (argsL r).map fun xs => ⟨d.text, xs⟩ := by
  show (if fnWord d = true then _ else _) = _
  rw [if_pos h]
theorem cmd_one {d : Wd} {first : Bool} (h : fnWord d = false) (hf : first = true) : cmdL [d] first = (argsL [d]).map fun xs => ⟨[], xs⟩ := by
  show (if fnWord d = true then _ else _) = _
  rw [if_neg (by rw [h]; decide), hf]
  rfl
theorem cmd_none {d : Wd} {r : List Wd} {first : Bool} (h : fnWord d = false) (hf : first = false ∨ r ≠ []) : cmdL (d :: r) first = none := by
  show (if fnWord d = true then _ else _) = _
  rw [if_neg (by rw [h]; decide), if_neg]
  rcases hf with hf | hf
  · rw [hf]; simp
  · cases r with
    | nil => exact absurd rfl hf
    | cons a t => simp
def fnHead (ds : List Wd) : Bool := match ds with
  | [] => false
  | d :: _ => fnWord d
theorem fnHead_cons (d : Wd) (r : List Wd) : fnHead (d :: r) = (d.kind == 0 && isFn d.text) := rfl
set_option maxRecDepth 100000 in
set_option maxHeartbeats 16000000 in
theorem cmd_calls (v : Value) (ds : List Wd) (first : Bool) (w : World) (hV : WdV v ds w) (hd : ∀ d ∈ ds, WdOk d) (hl : ds.length ≤ 1099511627776) :
    Calls Tryz.prog 117 #[v, .bool first] w (CmdPost (cmdL ds first) w) := by
  obtain ⟨T, hT⟩ : ∃ T, T = cmdL ds first := ⟨_, rfl⟩
  rw [← hT]
  obtain ⟨a, c, hv⟩ := hV.slice
  obtain ⟨n, hn⟩ : ∃ n, n = ds.length := ⟨_, rfl⟩
  rw [← hn] at hv hl
  subst hv
  have hcn : n ≤ c ∧ c ≤ 9223372036854775807 := by
    obtain ⟨_, _, hv, h1, h2, _⟩ := hV
    obtain ⟨-, rfl, rfl⟩ := Value.slice.inj hv
    exact ⟨h1, h2⟩
  have HN := Lib.hid hn
  clear hn
  have HT := Lib.hid hT
  clear hT
  have hR0 : Blk w.heap.size 61 [.string ⟨#[]⟩, .slice none 0 0] (w.alloc (.cells #[.string ⟨#[]⟩, .slice none 0 0] 61)) := Blk.new w _ _
  have hO0 : Blk (w.alloc (.cells #[.string ⟨#[]⟩, .slice none 0 0] 61)).heap.size 61 [.string ⟨#[]⟩, .slice none 0 0] ((w.alloc (.cells #[.string ⟨#[]⟩, .slice none 0 0] 61)).alloc (.cells #[.string ⟨#[]⟩, .slice none 0 0] 61)) := Blk.new _ _ _
  have hz0 : (w.alloc (.cells #[.string ⟨#[]⟩, .slice none 0 0] 61)).heap.size = w.heap.size + 1 := by simp
  have hb1 : Below (w.alloc (.cells #[.string ⟨#[]⟩, .slice none 0 0] 61)).heap.size (w.alloc (.cells #[.string ⟨#[]⟩, .slice none 0 0] 61)) ((w.alloc (.cells #[.string ⟨#[]⟩, .slice none 0 0] 61)).alloc (.cells #[.string ⟨#[]⟩, .slice none 0 0] 61)) := (Below.refl _ _).alloc (Nat.le_refl _) _
  have hb0 : Below w.heap.size w (w.alloc (.cells #[.string ⟨#[]⟩, .slice none 0 0] 61)) := (Below.refl _ w).alloc (Nat.le_refl _) _
  have hR1 := hR0.below hb1
  rw [hz0] at hO0
  have hb2 := hb0.trans (hb1.mono hb0.size)
  have hz2 : ((w.alloc (.cells #[.string ⟨#[]⟩, .slice none 0 0] 61)).alloc (.cells #[.string ⟨#[]⟩, .slice none 0 0] 61)).heap.size = w.heap.size + 2 := by simp
  clear hb0 hb1 hR0
  go_enter Tryz.func117, Tryz.ntmps117
  go_upto_region 2 with (fail)
  clear hz0
  generalize (w.alloc (.cells #[.string ⟨#[]⟩, .slice none 0 0] 61)).alloc (.cells #[.string ⟨#[]⟩, .slice none 0 0] 61) = w2 at *
  have hV2 := hV.below hb2
  have hzz : w.heap.size + 1 < w2.heap.size := hO0.lt
  go_cut [26] (fun v26 wx => v26 = .bool (fnHead ds) ∧ w2 = wx)
  case first =>
    cases ds with
    | nil =>
      obtain rfl : n = 0 := HN.out
      go_wp2_with fail
      go_meet
      exact ⟨rfl, rfl⟩
    | cons d r =>
      obtain ⟨a', c', hv, h1, h2, hc⟩ := hV2
      obtain ⟨rfl, -, rfl⟩ := Value.slice.inj hv
      obtain ⟨g, off, pv, rfl, e0, e1, e2, e3, hp⟩ := hc 0 (by simp)
      have hn0 : 0 < n := by rw [HN.out]; simp
      have hb : decide ((0 : Int) < (n : Int)) = true := decide_eq_true (by omega)
      rw [Nat.zero_mul, Nat.add_zero] at e0 e1
      simp only [List.getElem_cons_zero] at e0 e1
      have hst : StrIs (⟨d.text.toArray⟩ : ByteArray) d.text := rfl
      have HF := Lib.hid (fnHead_cons d r)
      have HFC := Lib.hid (fun W => fn_calls _ _ hst W)
      generalize (⟨d.text.toArray⟩ : ByteArray) = t at *
      clear hv hc hp e2 e3 hst hd hV hR1 hO0 hb2 h1 h2 hl
      by_cases hk : d.kind = 0
      · have hkb : ((d.kind : Int) == 0) = true := beq_iff_eq.2 (by omega)
        have hfe : fnHead (d :: r) = isFn d.text := by rw [HF.out, hk]; rfl
        have HFE := Lib.hid hfe
        clear hfe hk
        go_wp2_with (go_at_call 124; refine (HFC.out _).mono ?_; rintro e w' ⟨rfl, rfl⟩)
        go_meet
        exact ⟨by rw [HFE.out], rfl⟩
      · have hkb : ((d.kind : Int) == 0) = false := beq_eq_false_iff_ne.2 (by omega)
        have hfe : fnHead (d :: r) = false := by rw [HF.out, show (d.kind == 0) = false from beq_eq_false_iff_ne.2 hk]; rfl
        have HFE := Lib.hid hfe
        clear hfe hk
        go_wp2_with fail
        go_meet
        exact ⟨by rw [HFE.out], rfl⟩
  case rest =>
  obtain ⟨rfl, rfl⟩ := hcut
  go_upto_if 26 with (fail)
  go_cut [0] (fun v0 wx => ∃ (fn : ByteArray) (fl : List UInt8) (ds' : List Wd), StrIs fn fl ∧ WdV v0 ds' w ∧ (∀ d ∈ ds', WdOk d) ∧ ds'.length ≤ 1099511627776 ∧ Hid (T = (argsL ds').map fun xs => ⟨fl, xs⟩) ∧ Blk (w.heap.size + 1) 61 [.string fn, .slice none 0 0] wx ∧ Blk w.heap.size 61 [.string ⟨#[]⟩, .slice none 0 0] wx ∧ Below w.heap.size w wx)
  case first =>
    have o0 := hO0.cell 0 _ rfl
    have of0 := hO0.free 0
    have r0 := hR1.cell 0 _ rfl
    have r1 := hR1.cell 1 _ rfl
    have rf0 := hR1.free 0
    have rf1 := hR1.free 1
    cases hf : fnHead ds with
    | true =>
      cases ds with
      | nil => cases hf
      | cons d r =>
        have hw : fnWord d = true := hf
        have hT := HT.out
        rw [cmd_fn hw] at hT
        have hD := hV.drop 1 (by simp)
        have hn0 : 0 < n := by rw [HN.out]; simp
        have rD := fun W => run_drop (a := a) (n := n) (c := c) 1 (by omega) (by omega) W
        obtain ⟨a', c', hv, h1, h2, hc⟩ := hV2
        obtain ⟨rfl, -, rfl⟩ := Value.slice.inj hv
        obtain ⟨g, off, pv, rfl, e0, e1, e2, e3, hp⟩ := hc 0 (by simp)
        rw [Nat.zero_mul, Nat.add_zero] at e0 e1
        simp only [List.getElem_cons_zero] at e0 e1
        have hst : StrIs (⟨d.text.toArray⟩ : ByteArray) d.text := rfl
        have hbl : decide ((1 : Int) ≤ (n : Int)) = true := decide_eq_true (by omega)
        rw [List.drop_succ_cons, List.drop_zero] at hD
        have hdr : ∀ x ∈ r, WdOk x := fun x hx => hd x (List.mem_cons_of_mem _ hx)
        have hlr : r.length ≤ 1099511627776 := by have h := HN.out; rw [List.length_cons] at h; omega
        rw [Int.natCast_one] at rD
        generalize (⟨d.text.toArray⟩ : ByteArray) = t at *
        generalize sliced (some ⟨g, off, none⟩) 1 n c 4 = v1 at *
        have hgs := grownBy_set w2 (w.heap.size + 1) 0 (.string t)
        have HTT := Lib.hid hT
        clear hv hc hp e2 e3 hf hw hT
        go_wp2_with fail
        go_meet
        exact ⟨t, d.text, r, hst, hD, hdr, hlr, HTT.out, hO0.set 0 _, hR1.grown hgs (by simp), hb2.setCell (by simp) _⟩
    | false =>
      have hno : (first = false ∨ n ≠ 1) → T = none := by
        intro h
        rw [HT.out]
        cases ds with
        | nil => rfl
        | cons d r =>
          refine cmd_none hf (h.imp id fun h e => h ?_)
          rw [HN.out, e]
          rfl
      have hyes : first = true → n = 1 → T = (argsL ds).map fun xs => ⟨[], xs⟩ := by
        intro h h1
        rw [HT.out]
        cases ds with
        | nil => have := HN.out; simp at this; omega
        | cons d r =>
          cases r with
          | nil => exact cmd_one hf h
          | cons x y => have := HN.out; simp at this; omega
      have HNO := Lib.hid hno
      have HYES := Lib.hid hyes
      clear hno hyes hf
      have hbz := (hb2.setCell (p := ⟨w.heap.size, 0, none⟩) (Nat.le_refl _) (.string ⟨#[]⟩)).setCell (p := ⟨w.heap.size, 1, none⟩) (Nat.le_refl _) (.slice none 0 0)
      have hRz := (hR1.set 0 (.string ⟨#[]⟩)).set 1 (.slice none 0 0)
      cases first with
      | false =>
        have hT := HNO.out (.inl rfl)
        have HTN := Lib.hid hT
        clear hT
        go_wp2
        generalize w2.setCell ⟨w.heap.size, 0, none⟩ (.string ⟨#[]⟩) = w39 at *
        generalize w39.setCell ⟨w.heap.size, 1, none⟩ (.slice none 0 0) = w40 at *
        have d0 := hRz.cell 0 _ rfl
        have d1 := hRz.cell 1 _ rfl
        refine bodyPost_ret (v := .tuple #[.agg #[.string ⟨#[]⟩, .slice none 0 0], .bool false]) (by simp [results, Tryz.results117, go_sem, d0, d1]) rfl ?_
        exact CmdPost.no HTN.out hbz
      | true =>
        by_cases h1 : n = 1
        · have hT := HYES.out rfl h1
          subst h1
          have HTT := Lib.hid hT
          have hlr : ds.length ≤ 1099511627776 := by rw [← HN.out]; exact hl
          clear hT
          go_wp2_with fail
          go_meet
          exact ⟨⟨#[]⟩, [], ds, rfl, hV, hd, hlr, HTT.out, hO0, hR1, hb2⟩
        · have hT := HNO.out (.inr h1)
          have HTN := Lib.hid hT
          have h1b : ((n : Int) == 1) = false := beq_eq_false_iff_ne.2 (by omega)
          have h1c : ((n : Int) != 1) = true := by rw [bne, h1b]; rfl
          clear hT
          go_wp2
          generalize w2.setCell ⟨w.heap.size, 0, none⟩ (.string ⟨#[]⟩) = w39 at *
          generalize w39.setCell ⟨w.heap.size, 1, none⟩ (.slice none 0 0) = w40 at *
          have d0 := hRz.cell 0 _ rfl
          have d1 := hRz.cell 1 _ rfl
          refine bodyPost_ret (v := .tuple #[.agg #[.string ⟨#[]⟩, .slice none 0 0], .bool false]) (by simp [results, Tryz.results117, go_sem, d0, d1]) rfl ?_
          exact CmdPost.no HTN.out hbz
  case rest =>
  clear hV2 hO0 hR1 hb2 hz2 hzz
  obtain ⟨fn, fl, es, hfn, hV2, hes, hel, hTE, hO2, hR2, hb2⟩ := hcut
  clear hV hd hl HT HN hcn
  obtain ⟨b, q, hv⟩ := hV2.slice
  subst hv
  obtain ⟨U, hU⟩ : ∃ U, U = argsL es := ⟨_, rfl⟩
  have hAA : ArgsAt U [] es := by
    unfold ArgsAt
    rw [hU]
    cases argsL es <;> rfl
  rw [← hU] at hTE
  clear hU
  go_wp2_with fail
  go_loopg [44] es.length (fun gk v44 wr => ∃ (k : Nat) (acc : List Ar) (av : Value), k + gk = es.length ∧ v44 = .int .i64 k ∧ acc.length ≤ k ∧ Hid (ArgsAt U acc (es.drop k)) ∧ Blk (w.heap.size + 1) 61 [.string fn, av] wr ∧ Blk w.heap.size 61 [.string ⟨#[]⟩, .slice none 0 0] wr ∧ Ars (w.heap.size + 2) av acc wr ∧ Below w.heap.size w wr)
  case atStart => exact ⟨0, [], _, by omega, rfl, by simp, hAA, hO2, hR2, ars_nil _ _, hb2⟩
  case round =>
    obtain ⟨k, acc, av, hkg, rfl, hak, hA, hO, hR, hS, hbr⟩ := hrel
    have HKG := Lib.hid hkg
    have hkl : k ≤ es.length := by omega
    clear hkg hAA
    obtain ⟨sa, sc, rfl⟩ := hS.slice
    have hzw : w.heap.size + 1 < wr.heap.size := hO.lt
    by_cases hk : k < es.length
    · obtain ⟨a', c', hv, h1, h2, hc⟩ := hV2.below hbr
      obtain ⟨rfl, -, rfl⟩ := Value.slice.inj hv
      obtain ⟨g, off, pv, rfl, e0, e1, e2, e3, hp⟩ := hc k hk
      have hb : decide ((k : Int) < (es.length : Int)) = true := decide_eq_true (by omega)
      have hC := arg_calls g (off + k * 4) 0 es[k] pv wr (hes _ (List.getElem_mem hk)) e0 e1 e2 e3 hp
      have hA2 := hA.out
      rw [drop_cons' es k hk] at hA2
      clear hv hc e0 e1 e2 e3 hp h1 h2 hA
      go_wp2_with fail
      refine hC.mono ?_
      rintro e w3 ⟨hok, hno, hb3⟩
      have hO3 := hO.below hb3
      have hR3 := hR.below hb3
      have hS3 := hS.below hb3
      have hb03 := hbr.trans (hb3.mono hbr.size)
      have hz3 := hb3.size
      cases hq : argL es[k] with
      | none =>
        obtain rfl := hno hq
        have hU := ArgsAt.no hA2 hq
        have hTN : T = none := by rw [hTE.out, hU]; rfl
        have HTN := Lib.hid hTN
        clear hok hno hTN hU hA2 hq hC hO3 hS3 hb3 hO hR hS hbr
        go_upto_region 11 with (fail)
        have hba : Below w3.heap.size w3 (w3.alloc (.cells #[.int .i64 0, .string ⟨#[]⟩, .slice none 0 0, .int .i64 0, .string ⟨#[]⟩] 87)) := (Below.refl _ w3).alloc (Nat.le_refl _) _
        generalize w3.alloc (.cells #[.int .i64 0, .string ⟨#[]⟩, .slice none 0 0, .int .i64 0, .string ⟨#[]⟩] 87) = w4 at *
        have hR4 := hR3.below hba
        have hb04 := hb03.trans (hba.mono hb03.size)
        have r0 := hR4.cell 0 _ rfl
        have r1 := hR4.cell 1 _ rfl
        have rf0 := hR4.free 0
        have rf1 := hR4.free 1
        have hbz := (hb04.setCell (p := ⟨w.heap.size, 0, none⟩) (Nat.le_refl _) (.string ⟨#[]⟩)).setCell (p := ⟨w.heap.size, 1, none⟩) (Nat.le_refl _) (.slice none 0 0)
        have hRz := (hR4.set 0 (.string ⟨#[]⟩)).set 1 (.slice none 0 0)
        go_wp2
        generalize w4.setCell ⟨w.heap.size, 0, none⟩ (.string ⟨#[]⟩) = w39 at *
        generalize w39.setCell ⟨w.heap.size, 1, none⟩ (.slice none 0 0) = w40 at *
        have d0 := hRz.cell 0 _ rfl
        have d1 := hRz.cell 1 _ rfl
        refine bodyPost_ret (v := .tuple #[.agg #[.string ⟨#[]⟩, .slice none 0 0], .bool false]) (by simp [results, Tryz.results117, go_sem, d0, d1]) rfl ?_
        exact CmdPost.no HTN.out hbz
      | some x =>
        have hok2 : ∃ pv, e = .returned (.tuple #[.agg #[.int .i64 x.kind, .string ⟨x.name.toArray⟩, pv, .int .i64 x.num, .string ⟨x.text.toArray⟩], .bool true]) ∧ Txs wr.heap.size pv x.path w3 := hok x hq
        obtain ⟨pv', rfl, hP3⟩ := hok2
        obtain ⟨pa, pc, rfl⟩ := hP3.slice
        have hA3 := ArgsAt.go hA2 hq
        have HA3 := Lib.hid hA3
        have hcs : (#[.int .i64 x.kind, .string ⟨x.name.toArray⟩, .slice pa x.path.length pc, .int .i64 x.num, .string ⟨x.text.toArray⟩] : Array Value).toList = arCells x (.slice pa x.path.length pc) := rfl
        have HCS := Lib.hid hcs
        generalize (⟨x.name.toArray⟩ : ByteArray) = xn at *
        generalize (⟨x.text.toArray⟩ : ByteArray) = xt at *
        clear hok hno hA2 hq hC hcs hA3 hb3 hO hR hS hbr
        go_upto_region 13 with (fail)
        have hba : Below w3.heap.size w3 (w3.alloc (.cells #[.int .i64 x.kind, .string xn, .slice pa x.path.length pc, .int .i64 x.num, .string xt] 87)) := (Below.refl _ w3).alloc (Nat.le_refl _) _
        have hX : Blk w3.heap.size 87 [.int .i64 x.kind, .string xn, .slice pa x.path.length pc, .int .i64 x.num, .string xt] (w3.alloc (.cells #[.int .i64 x.kind, .string xn, .slice pa x.path.length pc, .int .i64 x.num, .string xt] 87)) := Blk.new w3 _ _
        generalize w3.alloc (.cells #[.int .i64 x.kind, .string xn, .slice pa x.path.length pc, .int .i64 x.num, .string xt] 87) = w4 at *
        have hR4 := hR3.below hba
        have hO4 := hO3.below hba
        have hS4 := hS3.below hba
        have hP4 := (hP3.below hba).mono (base' := w.heap.size + 2) (by omega)
        have hb04 := hb03.trans (hba.mono hb03.size)
        have hz4 : w.heap.size + 2 ≤ w4.heap.size := by have := hO4.lt; omega
        have hne : some (w.heap.size + 1) ≠ (Value.slice sa acc.length sc).ownBlock := fun e => by have := hS4.base_le _ e.symm; omega
        have hne' : some w.heap.size ≠ (Value.slice sa acc.length sc).ownBlock := fun e => by have := hS4.base_le _ e.symm; omega
        have x0 := hX.cell 0 _ rfl
        have x1 := hX.cell 1 _ rfl
        have x2 := hX.cell 2 _ rfl
        have x3 := hX.cell 3 _ rfl
        have x4 := hX.cell 4 _ rfl
        have o1 := hO4.cell 1 _ rfl
        have HO4 := Lib.hid hO4
        have HR4 := Lib.hid hR4
        have HB4 := Lib.hid hb04
        clear hX hba hO3 hR3 hS3 hP3 hb03 hO4 hR4 hb04
        go_wp2_with (at_builtin; refine wp_appAr (w.heap.size + 2) rfl (.tmp 58) (.tmp 60) rfl (.slice sa acc.length sc) acc x (.slice pa x.path.length pc) _ HCS.out rfl 1 rfl rfl hS4 hP4 hz4 (by omega) ?_; intro v5 w5 hS5 hg5; obtain ⟨ta, tc, rfl⟩ := hS5.slice; have hO5 := Blk.grown HO4.out hg5 hne; have o1 := hO5.cell 1 _ rfl; have of1 := hO5.free 1; have HG5 := Lib.hid hg5; clear hg5)
        go_roundg (gk - 1)
        case measure => have := HKG.out; omega
        case rel =>
          have hb5 := HB4.out.grown HG5.out (by omega) (fun k hk => by have := hS4.base_le k hk; omega)
          have hR5 := Blk.grown HR4.out HG5.out hne'
          have hx := hS5.off (grownBy_set w5 (w.heap.size + 1) 1 (.slice ta (acc ++ [x]).length tc)) (off_low (by omega))
          refine ⟨k + 1, acc ++ [x], .slice ta (acc ++ [x]).length tc, by have := HKG.out; omega, by go_num, by simp; omega, HA3.out, ?_, ?_, ?_, ?_⟩
          · simpa using hO5.set 1 (.slice ta (acc ++ [x]).length tc)
          · exact (Blk.grown hR5 (grownBy_set w5 (w.heap.size + 1) 1 _) (by simp))
          · simpa using hx
          · exact hb5.setCell (by simp) _
    · obtain rfl : k = es.length := by omega
      have hA2 := hA.out
      rw [List.drop_length] at hA2
      have hU := ArgsAt.done hA2
      have hTS : T = some ⟨fl, acc⟩ := by rw [hTE.out, hU]; rfl
      have HTS := Lib.hid hTS
      have hb : decide ((es.length : Int) < (es.length : Int)) = false := decide_eq_false (by omega)
      have o0 := hO.cell 0 _ rfl
      have o1 := hO.cell 1 _ rfl
      have r0 := hR.cell 0 _ rfl
      have r1 := hR.cell 1 _ rfl
      have rf0 := hR.free 0
      have rf1 := hR.free 1
      have hbz := (hbr.setCell (p := ⟨w.heap.size, 0, none⟩) (Nat.le_refl _) (.string fn)).setCell (p := ⟨w.heap.size, 1, none⟩) (Nat.le_refl _) (.slice sa acc.length sc)
      have hRz := (hR.set 0 (.string fn)).set 1 (.slice sa acc.length sc)
      have hSz := (hS.off (grownBy_set wr w.heap.size 0 (.string fn)) (off_low (by omega))).off (grownBy_set _ w.heap.size 1 (.slice sa acc.length sc)) (off_low (by omega))
      have HFN := Lib.hid hfn.eq
      clear hTS hU hA2 hA hfn hO hR hS hbr
      go_wp2
      generalize wr.setCell ⟨w.heap.size, 0, none⟩ (.string fn) = w39 at *
      generalize w39.setCell ⟨w.heap.size, 1, none⟩ (.slice sa acc.length sc) = w40 at *
      have d0 := hRz.cell 0 _ rfl
      have d1 := hRz.cell 1 _ rfl
      refine bodyPost_ret (v := .tuple #[.agg #[.string fn, .slice sa acc.length sc], .bool true]) (by simp [results, Tryz.results117, go_sem, d0, d1]) rfl ?_
      rw [HFN.out]
      exact CmdPost.ok HTS.out (hSz.mono (by omega)) hbz
end Go.Proofs.YtbcddlheikdlkaaGreatDoor.S
/-
  THE WALK of package pipe's Parse.
-/
set_option linter.unusedVariables false
set_option linter.unusedSimpArgs false
namespace Go.Proofs.YtbcddlheikdlkaaGreatDoor.S
open Go.RowKit

def longC (c : Cm) : Bool := decide (8 < c.args.length)
def PipePost (T : Except Nat (List Cm)) (w : World) (e : Ending) (w' : World) : Prop :=
  (∀ cs, T = .ok cs → ∃ pv, e = .returned (.tuple #[pv, .int .i64 0]) ∧ Cms w.heap.size pv cs w') ∧ (∀ c, T = .error c → e = .returned (.tuple #[.slice none 0 0, .int .i64 c])) ∧ Below w.heap.size w w'
theorem PipePost.ok {T : Except Nat (List Cm)} {w w' : World} {cs : List Cm} {pv : Value} (h : T = .ok cs) (hp : Cms w.heap.size pv cs w') (hb : Below w.heap.size w w') : PipePost T w (.returned (.tuple #[pv, .int .i64 0])) w' :=
  ⟨(fun c' h' => by rw [h] at h'; cases h'; exact ⟨pv, rfl, hp⟩), (fun c h' => by rw [h] at h'; cases h'), hb⟩
theorem PipePost.no {T : Except Nat (List Cm)} {w w' : World} {c : Nat} (h : T = .error c) (hb : Below w.heap.size w w') : PipePost T w (.returned (.tuple #[.slice none 0 0, .int .i64 c])) w' :=
  ⟨(fun c' h' => by rw [h] at h'; cases h'), (fun c h' => by rw [h] at h'; cases h'; rfl), hb⟩
/-- what is read so far, and the rest, make the whole -/
def CmdsAt (T : Option (List Cm)) (acc : List Cm) (gk : Nat) (rs : List Wd) : Prop := match gk with
  | 0 => T = some acc
  | m + 1 => T = (cmdsF (m + 1) acc.isEmpty rs).map (acc ++ ·) ∧ rs.length ≤ m
theorem cmds_none {T : Option (List Cm)} {acc : List Cm} {m : Nat} {rs : List Wd} (h : CmdsAt T acc (m + 1) rs) (hc : cmdL (rs.take (cutN rs)) acc.isEmpty = none) : T = none := by
  obtain ⟨h, _⟩ := h
  rw [h, cmdsF, hc]
  rfl
theorem cmds_last {T : Option (List Cm)} {acc : List Cm} {m : Nat} {rs : List Wd} {c : Cm} (h : CmdsAt T acc (m + 1) rs) (hc : cmdL (rs.take (cutN rs)) acc.isEmpty = some c) (hl : ¬ cutN rs < rs.length) : CmdsAt T (acc ++ [c]) 0 (rs.drop (cutN rs + 1)) := by
  obtain ⟨h, _⟩ := h
  show T = _
  rw [h, cmdsF, hc]
  dsimp only
  rw [if_neg hl]
  rfl
theorem cmds_go {T : Option (List Cm)} {acc : List Cm} {m : Nat} {rs : List Wd} {c : Cm} (h : CmdsAt T acc (m + 1) rs) (hc : cmdL (rs.take (cutN rs)) acc.isEmpty = some c) (hl : cutN rs < rs.length) : CmdsAt T (acc ++ [c]) m (rs.drop (cutN rs + 1)) ∧ 0 < m := by
  obtain ⟨h, hm⟩ := h
  obtain ⟨q, rfl⟩ : ∃ q, m = q + 1 := ⟨m - 1, by omega⟩
  refine ⟨⟨?_, by rw [List.length_drop]; omega⟩, by omega⟩
  rw [h, cmdsF, hc]
  dsimp only
  rw [if_pos hl]
  have e : (acc ++ [c]).isEmpty = false := by cases acc <;> rfl
  rw [e]
  cases cmdsF (q + 1) false (rs.drop (cutN rs + 1)) <;> simp
def pipeE (T : Option (List Cm)) : Except Nat (List Cm) := match T with
  | none => .error 1500
  | some cs => if (cs.any longC || decide (8 < cs.length)) = true then .error 1501 else .ok cs
theorem pipeL_of {ds : List Wd} {T : Option (List Cm)} (h : T = cmdsF (ds.length + 1) true ds) : pipeL ds = pipeE T := by subst h; rfl
set_option maxRecDepth 100000 in
set_option maxHeartbeats 16000000 in
theorem pparse_calls (v : Value) (ds : List Wd) (w : World) (hV : WdV v ds w) (hd : ∀ d ∈ ds, WdOk d) (ht : ∀ d ∈ ds, d.text.length ≤ 65536) (hl : ds.length ≤ 1073741824) :
    Calls Tryz.prog 89 #[v] w (PipePost (pipeL ds) w) := by
  obtain ⟨R, hR⟩ : ∃ R, R = pipeL ds := ⟨_, rfl⟩
  rw [← hR]
  obtain ⟨T, hT⟩ : ∃ T, T = cmdsF (ds.length + 1) true ds := ⟨_, rfl⟩
  have hRT := pipeL_of hT
  rw [← hR] at hRT
  have hA0 : CmdsAt T [] (ds.length + 1) ds := by
    refine ⟨?_, Nat.le_refl _⟩
    rw [hT]
    show cmdsF (ds.length + 1) true ds = (cmdsF (ds.length + 1) true ds).map _
    cases cmdsF (ds.length + 1) true ds <;> simp
  have HRT := Lib.hid hRT
  have HA0 := Lib.hid hA0
  clear hR hT hRT hA0
  obtain ⟨a, c, hv⟩ := hV.slice
  obtain ⟨n, hn⟩ : ∃ n, n = ds.length := ⟨_, rfl⟩
  rw [← hn] at hv hl
  subst hv
  have HN := Lib.hid hn
  clear hn
  go_enter Tryz.func89, Tryz.ntmps89
  go_wp2_with fail
  go_loopg [13] n (fun gk v13 wr => ∃ k : Nat, k + gk = n ∧ v13 = .int .i64 k ∧ w = wr)
  case atStart => exact ⟨0, by omega, rfl, rfl⟩
  case round =>
    obtain ⟨k, hkg, rfl, rfl⟩ := hrel
    have HKG := Lib.hid hkg
    have hkl : k ≤ n := by omega
    clear hkg
    by_cases hk : k < n
    · have hkd : k < ds.length := by rw [← HN.out]; exact hk
      have hV' := hV
      obtain ⟨a', c', hv, h1, h2, hc⟩ := hV'
      obtain ⟨rfl, -, rfl⟩ := Value.slice.inj hv
      obtain ⟨g, off, pv, rfl, e0, e1, e2, e3, hp⟩ := hc k hkd
      have hb : decide ((k : Int) < (n : Int)) = true := decide_eq_true (by omega)
      have hC := wordMay_calls g (off + k * 4) 0 ds[k] pv w (hd _ (List.getElem_mem hkd)) (ht _ (List.getElem_mem hkd)) e0 e1 e2 e3 hp
      clear hv hc e0 e1 e2 e3 hp h1 h2
      go_wp2_with fail
      refine hC.mono ?_
      rintro e w' ⟨rfl, rfl⟩
      clear hC
      go_wp2
      go_roundg (gk - 1)
      case measure => have := HKG.out; omega
      case rel => exact ⟨k + 1, by have := HKG.out; omega, by go_num, rfl⟩
    · have hb : decide ((k : Int) < (n : Int)) = false := decide_eq_false (by omega)
      obtain rfl : n = k := by omega
      clear hb HKG hkl hk ht
      go_wp2_with fail
      go_loopg [0, 5, 6, 7] (n + 1) (fun gk v0 v5 v6 v7 wr => ∃ (acc : List Cm) (rs : List Wd), WdV v0 rs w ∧ (∀ d ∈ rs, WdOk d) ∧ rs.length ≤ n ∧ Cms w.heap.size v5 acc wr ∧ acc.length + gk ≤ n + 1 ∧ v6 = .bool (acc.any longC) ∧ v7 = .bool (decide (0 < gk)) ∧ Hid (CmdsAt T acc gk rs) ∧ Below w.heap.size w wr)
      case atStart => exact ⟨[], ds, hV, hd, by rw [HN.out]; exact Nat.le_refl _, cms_nil _ _, by simp, rfl, rfl, by rw [HN.out]; exact HA0.out, Below.refl _ _⟩
      case round =>
        obtain ⟨acc, rs, hVr, hdr, hrl, hO, hag, rfl, rfl, hA, hbr⟩ := hrel
        obtain ⟨sa, sc, rfl⟩ := hO.slice
        have HAG := Lib.hid hag
        have hal : acc.length ≤ n + 1 := by omega
        clear hag HA0
        cases gk with
        | zero =>
          have hTS : T = some acc := hA.out
          have hR : R = if (acc.any longC || decide (8 < acc.length)) = true then .error 1501 else .ok acc := by rw [HRT.out, hTS]; rfl
          have HR := Lib.hid hR
          rw [decide_eq_false (Nat.lt_irrefl 0)]
          generalize acc.any longC = mb at *
          clear hTS hR hA
          cases mb with
          | true =>
            have hR' : R = .error 1501 := HR.out
            have HR' := Lib.hid hR'
            clear hR'
            go_wp2
            go_ret2
            exact PipePost.no HR'.out hbr
          | false =>
            by_cases h8 : 8 < acc.length
            · have h8b : decide ((8 : Int) < (acc.length : Int)) = true := decide_eq_true (by omega)
              have hR' : R = .error 1501 := by rw [HR.out, decide_eq_true h8]; rfl
              have HR' := Lib.hid hR'
              clear hR'
              go_wp2
              go_ret2
              exact PipePost.no HR'.out hbr
            · have h8b : decide ((8 : Int) < (acc.length : Int)) = false := decide_eq_false (by omega)
              have hR' : R = .ok acc := by rw [HR.out, decide_eq_false h8]; rfl
              have HR' := Lib.hid hR'
              clear hR'
              go_wp2
              go_ret2
              exact PipePost.ok HR'.out hO hbr
        | succ m =>
          rw [decide_eq_true (Nat.succ_pos m)]
          obtain ⟨ra, rc, rfl⟩ := hVr.slice
          go_wp2_with fail
          refine (cut_calls _ rs w _ hVr hbr).mono ?_
          rintro e w2 ⟨v1, v2, rfl, hV1, hV2, hb2⟩
          have hO2 := hO.below hb2
          have hbr2 := hbr.trans (hb2.mono hbr.size)
          have hlt1 : (rs.take (cutN rs)).length ≤ 1099511627776 := by rw [List.length_take]; omega
          have hok1 : ∀ d ∈ rs.take (cutN rs), WdOk d := fun d hx => hdr d (List.mem_of_mem_take hx)
          have hok2 : ∀ d ∈ rs.drop (cutN rs + 1), WdOk d := fun d hx => hdr d (List.mem_of_mem_drop hx)
          have hl2 : (rs.drop (cutN rs + 1)).length ≤ n := by rw [List.length_drop]; omega
          have hNO := fun h => cmds_none hA.out h
          have hLA := fun c h1 h2 => cmds_last (c := c) hA.out h1 h2
          have hGO := fun c h1 h2 => cmds_go (c := c) hA.out h1 h2
          obtain ⟨fb, hfb⟩ : ∃ fb, fb = acc.isEmpty := ⟨_, rfl⟩
          have hfi : ((acc.length : Int) == 0) = fb := by rw [hfb]; cases acc <;> simp; omega
          rw [← hfb] at hNO hLA hGO
          have hCC := fun W (h : WdV v1 (rs.take (cutN rs)) W) => cmd_calls v1 _ fb W h hok1 hlt1
          have HNO := Lib.hid hNO
          have HLA := Lib.hid hLA
          have HGO := Lib.hid hGO
          generalize rs.take (cutN rs) = own at *
          generalize rs.drop (cutN rs + 1) = rs2 at *
          generalize hmo : decide (cutN rs < rs.length) = more at *
          have HMO := Lib.hid hmo
          clear hfb hNO hLA hGO hA hmo hVr hdr hO hbr hb2 hok1 hlt1
          go_wp2_with fail
          refine (hCC _ (hV1.below hbr2)).mono ?_
          rintro e w3 ⟨hok, hno, hb3⟩
          have hO3 := hO2.below hb3
          have hbr3 := hbr2.trans (hb3.mono hbr2.size)
          have hz3 := hbr2.size
          clear hO2 hV1 hbr2 hCC hfi
          cases hq : cmdL own fb with
          | none =>
            obtain rfl := hno hq
            have hTN := HNO.out hq
            have hR' : R = .error 1500 := by rw [HRT.out, hTN]; rfl
            have HR' := Lib.hid hR'
            have hba : Below w.heap.size w (w3.alloc (.cells #[.string ⟨#[]⟩, .slice none 0 0] 61)) := hbr3.alloc hbr3.size _
            clear hok hno hTN hR' hq
            go_wp2
            go_ret2
            exact PipePost.no HR'.out hba
          | some x =>
            have hok2' : ∃ av, e = .returned (.tuple #[.agg #[.string ⟨x.fn.toArray⟩, av], .bool true]) ∧ Ars w2.heap.size av x.args w3 := hok x hq
            obtain ⟨av, rfl, hP3⟩ := hok2'
            obtain ⟨pa, pc, rfl⟩ := hP3.slice
            have hcs : (#[.string ⟨x.fn.toArray⟩, .slice pa x.args.length pc] : Array Value).toList = cmCells x (.slice pa x.args.length pc) := rfl
            have HCS := Lib.hid hcs
            have hany : (acc ++ [x]).any longC = (acc.any longC || decide (8 < x.args.length)) := by simp [longC]
            have HANY := Lib.hid hany
            have hst : (CmdsAt T (acc ++ [x]) (if more = true then m else 0) rs2) ∧ (more = true → 0 < m) := by
              cases more with
              | true => have h := HGO.out x hq (of_decide_eq_true HMO.out); exact ⟨h.1, fun _ => h.2⟩
              | false => exact ⟨HLA.out x hq (of_decide_eq_false HMO.out), fun h => by cases h⟩
            have HST := Lib.hid hst
            generalize (⟨x.fn.toArray⟩ : ByteArray) = xn at *
            have hba : Below w3.heap.size w3 (w3.alloc (.cells #[.string xn, .slice pa x.args.length pc] 61)) := (Below.refl _ w3).alloc (Nat.le_refl _) _
            have hX : Blk w3.heap.size 61 [.string xn, .slice pa x.args.length pc] (w3.alloc (.cells #[.string xn, .slice pa x.args.length pc] 61)) := Blk.new w3 _ _
            clear hok hno hq hcs hany hst HNO HLA HGO HMO
            go_upto_region 16 with (fail)
            generalize w3.alloc (.cells #[.string xn, .slice pa x.args.length pc] 61) = w4 at *
            have hO4 := hO3.below hba
            have hP4 := (hP3.below hba).mono (base' := w.heap.size) hz3
            have hbr4 := hbr3.trans (hba.mono hbr3.size)
            have x0 := hX.cell 0 _ rfl
            have x1 := hX.cell 1 _ rfl
            clear hba hX hO3 hP3 hbr3 hb3
            generalize acc.any longC = mb at *
            go_cut [6] (fun v6 wx => v6 = .bool (mb || decide (8 < x.args.length)) ∧ w4 = wx)
            case first =>
              cases mb with
              | true =>
                go_wp2_with fail
                go_meet
                exact ⟨by rw [Bool.true_or], rfl⟩
              | false =>
                by_cases h8 : 8 < x.args.length
                · have h8b : decide ((8 : Int) < (x.args.length : Int)) = true := decide_eq_true (by omega)
                  go_wp2_with fail
                  go_meet
                  exact ⟨by rw [decide_eq_true h8]; rfl, rfl⟩
                · have h8b : decide ((8 : Int) < (x.args.length : Int)) = false := decide_eq_false (by omega)
                  go_wp2_with fail
                  go_meet
                  exact ⟨by rw [decide_eq_false h8]; rfl, rfl⟩
            case rest =>
            obtain ⟨rfl, rfl⟩ := hcut
            rw [← HANY.out]
            have HV4 := Lib.hid hV2
            have HB4 := Lib.hid hbr4
            have HL2 := Lib.hid hl2
            have HOK2 := Lib.hid hok2
            have hz4 := hbr4.size
            have hne : ∀ k, (Value.slice sa acc.length sc).ownBlock = some k → w.heap.size ≤ k := fun k hk => hO4.base_le k hk
            clear hV2 hbr4 hl2 hok2
            go_wp2_with (at_builtin; refine wp_appCm w.heap.size rfl (.tmp 46) (.tmp 48) rfl (.slice sa acc.length sc) acc x (.slice pa x.args.length pc) _ HCS.out rfl 1 rfl rfl hO4 hP4 hz4 (by omega) ?_; intro v5 w5 hS5 hg5; obtain ⟨ta, tc, rfl⟩ := hS5.slice; have HG5 := Lib.hid hg5; clear hg5)
            go_roundg (if more = true then m else 0)
            case measure => split <;> omega
            case rel =>
              have hg5 := HG5.out
              have hbr5 := HB4.out.grown hg5 hz4 hne
              have hm : (if more = true then m else 0) ≤ m := by split <;> omega
              refine ⟨acc ++ [x], rs2, HV4.out, HOK2.out, HL2.out, ?_, ?_, by simp, ?_, HST.out.1, hbr5⟩
              · simpa using hS5
              · have := HAG.out; simp; omega
              · cases more with
                | true => rw [decide_eq_true (by have := HST.out.2 rfl; simpa using this)]
                | false => rfl
end Go.Proofs.YtbcddlheikdlkaaGreatDoor.S
