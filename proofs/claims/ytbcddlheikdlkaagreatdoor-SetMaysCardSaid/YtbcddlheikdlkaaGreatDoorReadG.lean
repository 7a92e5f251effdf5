import Derived.Test.YtbcddlheikdlkaaGreatDoorPlainN
import Derived.Test.YtbcddlheikdlkaaGreatDoorSetG
import Derived.Test.YtbcddlheikdlkaaGreatDoorPipeG
/-
  PLAIN: names of which none is twice, one by one.
-/
set_option linter.unusedVariables false
set_option linter.unusedSimpArgs false
namespace Go.Proofs.YtbcddlheikdlkaaGreatDoor.S
open Go.RowKit

theorem namesOk_at : ∀ (l before : List (List UInt8)) (k : Nat) (hk : k < l.length), (nameT l[k] = false ∨ hasN (before ++ l.take k) l[k] = true) → namesOk before l = false
  | x :: r, before, 0, _, h => by
    rw [namesOk]
    rcases h with h | h
    · have h : nameT x = false := h
      rw [h]; rfl
    · have h : hasN (before ++ []) x = true := h
      rw [List.append_nil] at h
      rw [h]; simp
  | x :: r, before, k + 1, hk, h => by
    rw [namesOk]
    have h' : nameT (r[k]'(by simpa using hk)) = false ∨ hasN (before ++ [x] ++ r.take k) (r[k]'(by simpa using hk)) = true := by
      rcases h with h | h
      · exact .inl h
      · refine .inr ?_
        have h : hasN (before ++ (x :: r.take k)) (r[k]'(by simpa using hk)) = true := h
        simpa using h
    rw [namesOk_at r (before ++ [x]) k (by simpa using hk) h', Bool.and_false]
theorem namesOk_all : ∀ (l before : List (List UInt8)), (∀ k (hk : k < l.length), nameT l[k] = true ∧ hasN (before ++ l.take k) l[k] = false) → namesOk before l = true
  | [], _, _ => rfl
  | x :: r, before, h => by
    rw [namesOk]
    obtain ⟨h1, h2⟩ := h 0 (by simp)
    have h1 : nameT x = true := h1
    have h2 : hasN (before ++ []) x = false := h2
    rw [List.append_nil] at h2
    rw [h1, h2, namesOk_all r (before ++ [x]) fun k hk => ?_]
    · rfl
    · obtain ⟨g1, g2⟩ := h (k + 1) (by simpa using hk)
      refine ⟨g1, ?_⟩
      have g2 : hasN (before ++ (x :: r.take k)) r[k] = false := g2
      simpa using g2
end Go.Proofs.YtbcddlheikdlkaaGreatDoor.S
/-
  THE WALK of package set's May, its first loop: the names (under way: the second loop, over the rows, is to come behind SetW7).
-/
set_option linter.unusedVariables false
set_option linter.unusedSimpArgs false
namespace Go.Proofs.YtbcddlheikdlkaaGreatDoor.S
open Go.RowKit

theorem nmSize (w : World) : (sizeOf (Tryz.prog.elem 34)).run Tryz.prog w = .ok 2 w := by kernel_rfl
theorem run_takeN {a : Option Addr} {n c : Nat} (k : Nat) (hk : k ≤ c) (w : World) : (Instr.slice 34 (.slice a n c) none (some (.int .i64 k)) none).run Tryz.prog w = .ok (sliced a 0 k c 2) w := by
  rw [run_slice_h (P := Tryz.prog) w 34 a n c (by kernel_rfl) .i64 (k : Int) (by omega) (by omega), nmSize, Int.toNat_natCast]
  rfl
theorem tpSize (w : World) : (sizeOf (Tryz.prog.elem 33)).run Tryz.prog w = .ok 2 w := by kernel_rfl
theorem run_takeT {a : Option Addr} {n c : Nat} (k : Nat) (hk : k ≤ c) (w : World) : (Instr.slice 33 (.slice a n c) none (some (.int .i64 k)) none).run Tryz.prog w = .ok (sliced a 0 k c 2) w := by
  rw [run_slice_h (P := Tryz.prog) w 33 a n c (by kernel_rfl) .i64 (k : Int) (by omega) (by omega), tpSize, Int.toNat_natCast]
  rfl
theorem sname_q (s : ByteArray) (l : List UInt8) (hl : StrIs s l) (hs : s.size ≤ 9223372036854775807) (w : World) :
    Calls Tryz.prog 36 #[.string s] w fun e w' => e = .returned (.bool (nameT l)) ∧ w' = w := (sname_calls s l hl hs w).mono fun _ _ ⟨he, hw⟩ => ⟨he, hw.symm⟩
end Go.Proofs.YtbcddlheikdlkaaGreatDoor.S
/-
  PLAIN: chapter 17: what Read answers, step by step.
-/
set_option linter.unusedVariables false
set_option linter.unusedSimpArgs false
namespace Go.Proofs.YtbcddlheikdlkaaGreatDoor.S
open Go.RowKit

theorem acOf_err {p : Pc} {c : Nat} (h : acOf p = .error c) : c ≠ 0 := by
  unfold acOf at h
  split at h
  · unfold actL at h
    split at h
    · rename_i hn
      injection h with h
      rw [← h]
      exact hn
    · exact wordsA_err h
  · cases h
theorem runS_err : ∀ (ps : List Pc) (st : List Lv) (c : Nat), runS st ps = .error c → c ≠ 0
  | [], st, c, h => by
    cases st <;> cases h
  | p :: ps, [], c, h => by cases h
  | p :: ps, b :: st, c, h => by
    rw [runS] at h
    cases ha : acOf p with
    | error e =>
      rw [ha] at h
      injection h with h
      rw [← h]
      exact acOf_err ha
    | ok a =>
      rw [ha] at h
      dsimp only at h
      cases hs : stepL b st a with
      | error e =>
        rw [hs] at h
        injection h with h
        rw [← h]
        exact stepL_err hs
      | ok st' =>
        rw [hs] at h
        exact runS_err ps st' c h
theorem tmplL_err {l : List UInt8} {c : Nat} (h : tmplL l = .error c) : c ≠ 0 := by
  unfold tmplL at h
  split at h
  · rename_i hn
    injection h with h
    rw [← h]
    exact hn
  · rw [← run_parse] at h
    cases hr : runS [root] (splitR l).1 with
    | error e =>
      rw [hr] at h
      injection h with h
      rw [← h]
      exact runS_err _ _ _ hr
    | ok st =>
      rw [hr] at h
      unfold endS at h
      split at h
      · rename_i h0; cases h0
      · cases h
      · cases h; decide
theorem dupT_at : ∀ (l before : List (List UInt8)) (k : Nat) (hk : k < l.length), hasN (before ++ l.take k) l[k] = true → dupT before l = true
  | x :: r, before, 0, _, h => by
    rw [dupT]
    have h : hasN (before ++ []) x = true := h
    rw [List.append_nil] at h
    rw [h]; rfl
  | x :: r, before, k + 1, hk, h => by
    rw [dupT]
    have h : hasN (before ++ (x :: r.take k)) (r[k]'(by simpa using hk)) = true := h
    rw [dupT_at r (before ++ [x]) k (by simpa using hk) (by simpa using h), Bool.or_true]
theorem dupT_no : ∀ (l before : List (List UInt8)), (∀ k (hk : k < l.length), hasN (before ++ l.take k) l[k] = false) → dupT before l = false
  | [], _, _ => rfl
  | x :: r, before, h => by
    rw [dupT]
    have h2 : hasN (before ++ []) x = false := h 0 (by simp)
    rw [List.append_nil] at h2
    rw [h2, dupT_no r (before ++ [x]) fun k hk => ?_]
    · rfl
    · have g2 : hasN (before ++ (x :: r.take k)) (r[k]'hk) = false := h (k + 1) (by simpa using hk)
      simpa using g2
theorem hasN_any (ts : List Tp) (k : Nat) (l : List UInt8) : (ts.take k).any (fun t => t.1 == l) = hasN ((ts.map Prod.fst).take k) l := by
  unfold hasN
  rw [← List.map_take, List.any_map]
  rfl
theorem readL_form {ts : List Tp} (h : ts.length < 1 ∨ 16 < ts.length ∨ ts.any (fun t => !nameT t.1) = true) : readL ts = .error 1700 := by
  unfold readL
  rw [if_pos]
  rcases h with h | h | h
  · exact .inl h
  · exact .inr (.inl h)
  · refine .inr (.inr ?_)
    rw [List.any_eq_true] at h
    obtain ⟨t, ht, hn⟩ := h
    rw [List.all_eq_false]
    exact ⟨t, ht, by simpa using hn⟩
theorem readL_ok {ts : List Tp} (h1 : ¬ ts.length < 1) (h2 : ¬ 16 < ts.length) (h3 : ts.any (fun t => !nameT t.1) = false) : readL ts = if dupT [] (ts.map Prod.fst) = true then .error 1701
  else match parsesL ts with
    | .error e => .error e
    | .ok ns => if (ns.all fun n => callsI (ns.map Prod.fst) n.2) = true then .ok ns else .error 1702 := by
  have hno : ¬ (ts.length < 1 ∨ 16 < ts.length ∨ (ts.all fun t => nameT t.1) = false) := by
    rintro (h | h | h)
    · exact h1 h
    · exact h2 h
    · rw [List.all_eq_false] at h
      obtain ⟨t, ht, hn⟩ := h
      rw [List.any_eq_false] at h3
      exact h3 t ht (by simpa using hn)
  exact if_neg hno
/-- the sources that are left, behind those that are read -/
def PsAt (T : Except Nat (List Nm)) (ns : List Nm) (rest : List Tp) : Prop := T = (parsesL rest).map (ns ++ ·)
theorem PsAt.begin (ts : List Tp) : PsAt (parsesL ts) [] ts := by
  unfold PsAt
  cases parsesL ts <;> rfl
theorem PsAt.no {T : Except Nat (List Nm)} {ns : List Nm} {t : Tp} {r : List Tp} {e : Nat} (h : PsAt T ns (t :: r)) (ht : tmplL t.2 = .error e) : T = .error e := by
  unfold PsAt at h
  rw [h, parsesL, ht]
  rfl
theorem PsAt.go {T : Except Nat (List Nm)} {ns : List Nm} {t : Tp} {r : List Tp} {is : List It} (h : PsAt T ns (t :: r)) (ht : tmplL t.2 = .ok is) : PsAt T (ns ++ [(t.1, is)]) r := by
  unfold PsAt at *
  rw [h, parsesL, ht]
  dsimp only
  cases parsesL r with
  | error e => rfl
  | ok x => simp [Except.map]
theorem PsAt.fin {T : Except Nat (List Nm)} {ns : List Nm} (h : PsAt T ns []) : T = .ok ns := by
  unfold PsAt at h
  rw [h]
  simp [parsesL, Except.map]
theorem calls_no {ns : List Nm} (k : Nat) (hk : k < ns.length) (h : callsI (ns.map Prod.fst) ns[k].2 = false) : (ns.all fun n => callsI (ns.map Prod.fst) n.2) = false := by
  rw [List.all_eq_false]
  exact ⟨ns[k], List.getElem_mem hk, by rw [h]; simp⟩
theorem calls_all {ns : List Nm} (h : ∀ j (hj : j < ns.length), callsI (ns.map Prod.fst) ns[j].2 = true) : (ns.all fun n => callsI (ns.map Prod.fst) n.2) = true := by
  rw [List.all_eq_true]
  intro x hx
  obtain ⟨j, hj, rfl⟩ := List.getElem_of_mem hx
  exact h j hj
end Go.Proofs.YtbcddlheikdlkaaGreatDoor.S
/-
  TEMPLATES in memory: rows of sources; rows of templates that are read, each apart from the others.
-/
set_option linter.unusedVariables false
set_option linter.unusedSimpArgs false
namespace Go.Proofs.YtbcddlheikdlkaaGreatDoor.S
open Go.RowKit

/-- a row of sources with names -/
def TpV (v : Value) (ts : List Tp) (W : World) : Prop :=
  ∃ a c, v = .slice a ts.length c ∧ ts.length ≤ c ∧ c ≤ 9223372036854775807 ∧ ∀ (k : Nat) (hk : k < ts.length), ∃ g off, a = some ⟨g, off, none⟩ ∧ ts[k].1.length ≤ 9223372036854775807 ∧
    W.cell? ⟨g, off + k * 2, none⟩ = some (.string ⟨ts[k].1.toArray⟩) ∧ W.cell? ⟨g, off + k * 2 + 1, none⟩ = some (.string ⟨ts[k].2.toArray⟩)
theorem TpV.slice {v : Value} {ts : List Tp} {w : World} (h : TpV v ts w) : ∃ a c, v = .slice a ts.length c := let ⟨a, c, h, _⟩ := h; ⟨a, c, h⟩
theorem TpV.below {v : Value} {ts : List Tp} {w w' : World} (h : TpV v ts w) (hb : Below w.heap.size w w') : TpV v ts w' := by
  obtain ⟨a, c, rfl, h1, h2, hc⟩ := h
  refine ⟨a, c, rfl, h1, h2, fun k hk => ?_⟩
  obtain ⟨g, off, rfl, hl, e0, e1⟩ := hc k hk
  exact ⟨g, off, rfl, hl, cell_keep hb e0, cell_keep hb e1⟩
theorem TpV.caps {a : Option Addr} {n c : Nat} {ts : List Tp} {w : World} (h : TpV (.slice a n c) ts w) : ts.length ≤ c ∧ c ≤ 9223372036854775807 := by
  obtain ⟨a', c', hv, h1, h2, -⟩ := h
  obtain ⟨-, -, rfl⟩ := Value.slice.inj hv
  exact ⟨h1, h2⟩
theorem TpV.take {a : Option Addr} {n c : Nat} {ts : List Tp} {w : World} (h : TpV (.slice a n c) ts w) (k : Nat) (hk : k ≤ ts.length) : TpV (sliced a 0 k c 2) (ts.take k) w := by
  obtain ⟨a', c', hv, h1, h2, hc⟩ := h
  obtain ⟨rfl, rfl, rfl⟩ := Value.slice.inj hv
  unfold sliced
  refine ⟨_, _, by rw [List.length_take, Nat.min_eq_left hk]; rfl, by rw [List.length_take]; omega, by omega, fun j hj => ?_⟩
  rw [List.length_take] at hj
  obtain ⟨g, off, rfl, hl, e0, e1⟩ := hc j (by omega)
  simp only [List.getElem_take]
  refine ⟨g, off, ?_, hl, e0, e1⟩
  split
  · rfl
  · simp [Addr.add_lit]
/-- a template that is read, its row's value, between which blocks its rows lie -/
structure Nc where
  nm : Nm
  iv : Value
  lo : Nat
  hi : Nat
def Nc.cells (z : Nc) : List Value := [.string ⟨z.nm.1.toArray⟩, z.iv]
def ncsCells (zs : List Nc) : List Value := zs.flatMap Nc.cells
structure NcOk (z : Nc) (W : World) : Prop where
  row : Rw z.lo (fun b => z.iv.ownBlock ≠ some b ∧ b < z.hi) z.iv z.nm.2 W
  own : ∀ g, z.iv.ownBlock = some g → g < z.hi
/-- a row of templates that are read -/
def NmO (base : Nat) (v : Value) (ns : List Nm) (W : World) : Prop :=
  ∃ zs : List Nc, zs.map Nc.nm = ns ∧ W.ownsRow base 47 2 v zs.length (ncsCells zs) ∧ (∀ z ∈ zs, NcOk z W) ∧ (∀ z ∈ zs, z.hi ≤ W.heap.size) ∧ (zs.Pairwise (fun a b => a.hi ≤ b.lo) ∧ ∀ z ∈ zs, base ≤ z.lo)
theorem nmInfo : (Tryz.prog.info? 47).map (fun i => (i.zero, i.size, i.bytes)) = some (some (.agg #[.string ⟨#[]⟩, .slice none 0 0]), 2, 40) := by kernel_rfl
theorem nmO_nil (base : Nat) (W : World) : NmO base (.slice none 0 0) [] W := ⟨[], rfl, own_nil _ _ _ _, (fun z hz => by cases hz), (fun z hz => by cases hz), List.Pairwise.nil, fun z hz => by cases hz⟩
theorem NmO.slice {base : Nat} {v : Value} {ns : List Nm} {W : World} (h : NmO base v ns W) : ∃ a c, v = .slice a ns.length c := by
  obtain ⟨zs, rfl, hr, -⟩ := h
  obtain ⟨a, c, h, _⟩ := own_slice hr
  exact ⟨a, c, by rw [List.length_map]; exact h⟩
theorem NcOk.below {z : Nc} {W W' : World} (h : NcOk z W) (hb : Below W.heap.size W W') : NcOk z W' := ⟨h.row.below hb, h.own⟩
theorem NmO.below {base : Nat} {v : Value} {ns : List Nm} {W W' : World} (h : NmO base v ns W) (hb : Below W.heap.size W W') : NmO base v ns W' := by
  obtain ⟨zs, hz, hr, hc, hh, hp⟩ := h
  exact ⟨zs, hz, own_below hr hb, fun z hz => (hc z hz).below hb, fun z hz => Nat.le_trans (hh z hz) hb.size, hp⟩
/-- what another block than those of items, commands, arguments, texts bears does not matter -/
theorem NcOk.grown {z : Nc} {W W' : World} {row : Option Nat} (h : NcOk z W) (hg : W.grownBy W' row) (ht : ∀ k, row = some k → ∃ cs fr, W.heap[k]? = some (.cells cs 47 fr)) : NcOk z W' := by
  refine ⟨h.row.keep (Kp.of hg (fun k hk => ?_) (fun k hk => ?_)) (fun g hg' => ?_), h.own⟩
  · obtain ⟨cs, fr, hc⟩ := ht k hk
    exact .inr ⟨cs, _, fr, hc, by decide⟩
  · obtain ⟨cs, fr, hc⟩ := ht k hk
    exact .inr ⟨cs, _, fr, hc, by decide, by decide, by decide⟩
  · obtain ⟨_, hlt, cs, hcs⟩ := h.row.fact g hg'
    refine hg.block g hlt fun e => ?_
    obtain ⟨cs', fr, hc⟩ := ht g e.symm
    rw [hcs] at hc
    injection hc with hc
    injection hc with _ hc
    revert hc
    decide
theorem NmO.v {base : Nat} {v : Value} {ns : List Nm} {W : World} (h : NmO base v ns W) : NmV v ns W := by
  obtain ⟨zs, rfl, hr, hc, -, -⟩ := h
  have hr' := hr
  rcases hr.2 with ⟨rfl, h0⟩ | ⟨g, cap, cur, rfl, hb, hh, h1, h2, h3⟩
  · refine ⟨none, 0, by simp [h0], by simp [h0], by omega, fun k hk => ?_⟩
    rw [List.length_map, h0] at hk
    exact absurd hk (Nat.not_lt_zero _)
  · refine ⟨_, cap, by rw [List.length_map], by simpa using h1, by unfold maxLen at h2; omega, fun k hk => ?_⟩
    rw [List.length_map] at hk
    have e : (zs.map Nc.nm)[k]'(by rw [List.length_map]; exact hk) = zs[k].nm := by simp
    simp only [e]
    refine ⟨g, 0, zs[k].iv, rfl, ?_, ?_, ?_⟩
    · rw [Nat.zero_add]
      exact (World.ownsRow.cellAt hr' (k * 2 + 0) (by omega)).trans (flatn_get _ 2 (fun _ => rfl) zs k hk 0 (by omega))
    · rw [Nat.zero_add]
      exact (World.ownsRow.cellAt hr' (k * 2 + 1) (by omega)).trans (flatn_get _ 2 (fun _ => rfl) zs k hk 1 (by omega))
    · have := (hc zs[k] (List.getElem_mem hk)).row
      exact ((this.mono fun _ _ _ => trivial).its fun _ _ => trivial).tobase (Nat.zero_le _)
/-- append(out, Named{..}) -/
theorem wp_appNm {a : Act} {o : Oper} {ops : Array Oper} {rest : List Oper} {Q : Exit → Act → World → Prop} {W0 W : World} (base : Nat) (hgd : o.guard = none) (s x : Operand) (ho : o.op = .call { callee := .builtin .append, args := #[s, x], argTypes := #[34, 34] })
    (v : Value) (ns : List Nm) (i : Nm) (tx : ByteArray) (iv : Value) (c : Nat) (hs : a.eval s = v) (hx : a.eval x = .slice (some ⟨W.heap.size, 0, none⟩) 1 c)
    (HR : NmO base v ns W0) (hb : Below W0.heap.size W0 W) (ht : StrIs tx i.1) (hi : Rw W0.heap.size (fun b => iv.ownBlock ≠ some b) iv i.2 W) (hbase : base ≤ W.heap.size) (hbase0 : base ≤ W0.heap.size) (hn : ns.length ≤ 100000)
    (h : ∀ v1 w1, NmO base v1 (ns ++ [i]) w1 → (∀ w0, Below base w0 W → Below base w0 w1) → wpList Tryz.prog ops Q rest (a.put o.dst v1) w1) :
    wpList Tryz.prog ops Q (o :: rest) a (W.alloc (.cells #[.string tx, iv] 47)) := by
  obtain ⟨zs, rfl, hr0, hc, hh, hp, hlo⟩ := HR
  obtain ⟨pa, pc, hpv⟩ := hi.slice
  rw [List.length_map] at hn
  obtain rfl := strIs_eq ht
  have hr := own_below hr0 hb
  refine wp_app1 nmInfo Tryz.underlying34 rfl (by decide) base hgd s x ho v zs.length (ncsCells zs) _ c hs hx rfl (by intro u hu; simp at hu; rcases hu with rfl | rfl <;> first | rfl | (rw [hpv]; rfl)) hr hbase (by simp only [maxLen]; omega) (by omega) ?_
  intro v1 w1 hown hg
  have hty : ∀ k, v.ownBlock = some k → ∃ cs fr, W.heap[k]? = some (.cells cs 47 fr) := fun k hk => let ⟨cs, hc⟩ := own_type hr k hk; ⟨cs, _, hc⟩
  have hnew : NcOk ⟨i, iv, W0.heap.size, W.heap.size⟩ W := by
    have hfl : ∀ g, iv.ownBlock = some g → g < W.heap.size := fun g hg => (hi.fact g hg).2.1
    exact ⟨hi.mono fun g hlt hF => ⟨hF, hlt⟩, hfl⟩
  refine h v1 w1 ⟨zs ++ [⟨i, iv, W0.heap.size, W.heap.size⟩], by simp, ?_, fun z hz => ?_, fun z hz => ?_, ?_, fun z hz => ?_⟩ fun w0 hb => hb.grown hg hbase fun k hk => own_base hr k hk
  · unfold ncsCells at *
    rw [List.length_append, List.flatMap_append]
    simpa [Nc.cells] using hown
  · rcases List.mem_append.1 hz with hz | hz
    · exact ((hc z hz).below hb).grown hg hty
    · rw [List.mem_singleton.1 hz]
      exact hnew.grown hg hty
  · rcases List.mem_append.1 hz with hz | hz
    · exact Nat.le_trans (hh z hz) (Nat.le_trans hb.size hg.size)
    · rw [List.mem_singleton.1 hz]
      exact hg.size
  · rw [List.pairwise_append]
    refine ⟨hp, List.pairwise_singleton _ _, fun y hy z hz => ?_⟩
    rw [List.mem_singleton.1 hz]
    exact hh y hy
  · rcases List.mem_append.1 hz with hz | hz
    · exact hlo z hz
    · rw [List.mem_singleton.1 hz]
      exact hbase0
end Go.Proofs.YtbcddlheikdlkaaGreatDoor.S
/-
  THE WALKS of package set's Read, its closures: names that are none; names that came.
-/
set_option linter.unusedVariables false
set_option linter.unusedSimpArgs false
namespace Go.Proofs.YtbcddlheikdlkaaGreatDoor.S
open Go.RowKit

set_option maxRecDepth 100000 in
set_option maxHeartbeats 4000000 in
theorem read1_calls (s t : ByteArray) (l : List UInt8) (hl : StrIs s l) (hs : s.size ≤ 9223372036854775807) (w : World) :
    Calls Tryz.prog 35 #[.agg #[.string s, .string t]] w fun e w' => e = .returned (.bool (!nameT l)) ∧ Below w.heap.size w w' := by
  obtain ⟨R, hR⟩ : ∃ R, R = nameT l := ⟨_, rfl⟩
  have HN := Lib.hid (fun W => sname_calls s l hl hs W)
  rw [← hR] at HN ⊢
  clear hR
  go_enter Tryz.func35, Tryz.ntmps35
  go_wp2_with (go_at_call 36; refine (HN.out _).mono ?_; rintro e w1 ⟨rfl, rfl⟩)
  go_ret
  exact ⟨by first | rfl | (cases R <;> rfl), (Below.refl _ _).alloc (Nat.le_refl _) _⟩
theorem str_same (x l : List UInt8) : ((⟨x.toArray⟩ : ByteArray).toList == (⟨l.toArray⟩ : ByteArray).toList) = (x == l) := by
  rw [Lib.toList_data, Lib.toList_data]
set_option maxRecDepth 100000 in
set_option maxHeartbeats 4000000 in
theorem read2_calls (x l : List UInt8) (t : ByteArray) (b : Nat) (w : World) (hc : w.cell? ⟨b, 0, none⟩ = some (.string ⟨l.toArray⟩)) :
    Calls Tryz.prog 38 #[.agg #[.string ⟨x.toArray⟩, .string t], .pointer (some ⟨b, 0, none⟩)] w fun e w' => e = .returned (.bool (x == l)) ∧ Below w.heap.size w w' := by
  have hq := str_same x l
  generalize (x == l) = R at *
  generalize (⟨x.toArray⟩ : ByteArray) = xs at *
  generalize (⟨l.toArray⟩ : ByteArray) = ls at *
  have hc1 := cell_keep ((Below.refl w.heap.size w).alloc (Nat.le_refl _) (.cells #[.string xs, .string t] 49)) hc
  go_enter Tryz.func38, Tryz.ntmps38
  go_wp2
  all_goals go_ret
  all_goals exact ⟨by first | rfl | (rw [← hq]; rfl) | simp_all, (Below.refl _ _).alloc (Nat.le_refl _) _⟩
set_option maxRecDepth 100000 in
set_option maxHeartbeats 4000000 in
theorem read1_index  (v : Value) (ts : List Tp) (w : World) (hV : TpV v ts w) :
    Calls Tryz.prog 71 #[v, .func (Fn.func 35) #[] #[]] w fun e w' => ∃ i : Int, e = .returned (.int .i64 i) ∧ (ts.any (fun t => !nameT t.1) = true → 0 ≤ i) ∧ (ts.any (fun t => !nameT t.1) = false → i = -1) ∧ Below w.heap.size w w' := by
  obtain ⟨a, c, rfl⟩ := hV.slice
  obtain ⟨hcap, hmax⟩ := hV.caps
  have HV := Lib.hid hV
  clear hV
  go_enter Tryz.func71, Tryz.ntmps71
  go_wp2
  go_loopg [8] ts.length (fun gk v8 wr => ∃ k : Nat, k + gk = ts.length ∧ v8 = .int .i64 k ∧ Hid (∀ j (hj : j < ts.length), j < k → (fun (t : Tp) => !nameT t.1) ts[j] = false) ∧ Below w.heap.size w wr)
  case atStart => exact ⟨0, by omega, rfl, Lib.hid fun j _ h => absurd h (Nat.not_lt_zero _), Below.refl _ _⟩
  case round =>
    obtain ⟨k, hkg, rfl, hall, hbr⟩ := hrel
    have HKG := Lib.hid hkg
    have hkl : k ≤ ts.length := by omega
    clear hkg
    by_cases hk : k < ts.length
    · obtain ⟨a', c', hv, -, -, hc⟩ := HV.out.below hbr
      obtain ⟨rfl, -, rfl⟩ := Value.slice.inj hv
      obtain ⟨g, off, rfl, hln, e0, e1⟩ := hc k hk
      have hb : decide ((k : Int) < (ts.length : Int)) = true := decide_eq_true (by omega)
      have hT := fun (W : World) (hbw : Below w.heap.size w W) => read1_calls ⟨ts[k].1.toArray⟩ ⟨ts[k].2.toArray⟩ ts[k].1 rfl hln W
      have hP : ∀ b, (fun (t : Tp) => !nameT t.1) ts[k] = b → (b = true → ts.any (fun t => !nameT t.1) = true) := fun b h hb => List.any_eq_true.2 ⟨ts[k], List.getElem_mem hk, h.trans hb⟩
      obtain ⟨R, hR⟩ : ∃ R, R = (fun (t : Tp) => !nameT t.1) ts[k] := ⟨_, rfl⟩
      have hTR : ∀ W, Below w.heap.size w W → Calls Tryz.prog 35 #[.agg #[.string ⟨ts[k].1.toArray⟩, .string ⟨ts[k].2.toArray⟩]] W fun e w' => e = .returned (.bool R) ∧ Below W.heap.size W w' := by rw [hR]; exact hT
      have HP := Lib.hid (hP R hR.symm)
      have HR := Lib.hid hR
      have HT := Lib.hid hTR
      have HBR := Lib.hid hbr
      generalize (⟨ts[k].1.toArray⟩ : ByteArray) = x1 at *
      generalize (⟨ts[k].2.toArray⟩ : ByteArray) = x2 at *
      clear hv hc hln hT hTR hP hR hbr
      cases R with
      | true =>
        have h6 := HP.out rfl
        have H6 := Lib.hid h6
        clear h6
        go_wp2_with fail
        refine (HT.out _ HBR.out).mono ?_
        rintro e w1 ⟨rfl, hb1⟩
        go_wp2
        go_ret
        exact ⟨k, rfl, (fun _ => by omega), (fun h => by rw [H6.out] at h; cases h), HBR.out.trans (hb1.mono HBR.out.size)⟩
      | false =>
        go_wp2_with fail
        refine (HT.out _ HBR.out).mono ?_
        rintro e w1 ⟨rfl, hb1⟩
        go_wp2
        go_roundg (gk - 1)
        case measure => have := HKG.out; omega
        case rel => exact ⟨k + 1, by have := HKG.out; omega, by go_num, Lib.hid fun j hj h => (if e : j = k then by subst e; exact HR.out.symm else hall.out j hj (by omega)), HBR.out.trans (hb1.mono HBR.out.size)⟩
    · have hb : decide ((k : Int) < (ts.length : Int)) = false := decide_eq_false (by omega)
      have hno : ts.any (fun t => !nameT t.1) = false := by
        rw [List.any_eq_false]
        intro x hx
        obtain ⟨j, hj, rfl⟩ := List.getElem_of_mem hx
        have := hall.out j hj (by omega)
        intro h
        exact Bool.noConfusion (h.symm.trans this)
      have HNO := Lib.hid hno
      clear hno hall
      go_wp2
      go_ret
      exact ⟨-1, rfl, (fun h => by rw [HNO.out] at h; cases h), (fun _ => rfl), hbr⟩
set_option maxRecDepth 100000 in
set_option maxHeartbeats 4000000 in
theorem read1_any  (v : Value) (ts : List Tp) (w : World) (hV : TpV v ts w) :
    Calls Tryz.prog 37 #[v, .func (Fn.func 35) #[] #[]] w fun e w' => e = .returned (.bool (ts.any (fun t => !nameT t.1))) ∧ Below w.heap.size w w' := by
  have HI := Lib.hid (read1_index  v ts w hV)
  obtain ⟨a, c, rfl⟩ := hV.slice
  generalize ts.any (fun t => !nameT t.1) = R at *
  clear hV
  go_enter Tryz.func37, Tryz.ntmps37
  cases R with
  | true =>
    go_wp2_with (go_at_call 71; refine HI.out.mono ?_; rintro e w1 ⟨i, rfl, hi, -, hb1⟩; have hi := hi rfl; have hib : decide ((0 : Int) ≤ i) = true := decide_eq_true hi)
    go_ret
    exact ⟨rfl, hb1⟩
  | false =>
    go_wp2_with (go_at_call 71; refine HI.out.mono ?_; rintro e w1 ⟨i, rfl, -, hi, hb1⟩; obtain rfl := hi rfl)
    go_ret
    exact ⟨rfl, hb1⟩
set_option maxRecDepth 100000 in
set_option maxHeartbeats 4000000 in
theorem read2_index (b : Nat) (l : List UInt8) (v : Value) (ts : List Tp) (w : World) (hV : TpV v ts w) (hcell : w.cell? ⟨b, 0, none⟩ = some (.string ⟨l.toArray⟩)) :
    Calls Tryz.prog 71 #[v, .func (Fn.func 38) #[] #[.pointer (some ⟨b, 0, none⟩)]] w fun e w' => ∃ i : Int, e = .returned (.int .i64 i) ∧ (ts.any (fun t => t.1 == l) = true → 0 ≤ i) ∧ (ts.any (fun t => t.1 == l) = false → i = -1) ∧ Below w.heap.size w w' := by
  obtain ⟨a, c, rfl⟩ := hV.slice
  obtain ⟨hcap, hmax⟩ := hV.caps
  have HV := Lib.hid hV
  clear hV
  go_enter Tryz.func71, Tryz.ntmps71
  go_wp2
  go_loopg [8] ts.length (fun gk v8 wr => ∃ k : Nat, k + gk = ts.length ∧ v8 = .int .i64 k ∧ Hid (∀ j (hj : j < ts.length), j < k → (fun (t : Tp) => t.1 == l) ts[j] = false) ∧ Below w.heap.size w wr)
  case atStart => exact ⟨0, by omega, rfl, Lib.hid fun j _ h => absurd h (Nat.not_lt_zero _), Below.refl _ _⟩
  case round =>
    obtain ⟨k, hkg, rfl, hall, hbr⟩ := hrel
    have HKG := Lib.hid hkg
    have hkl : k ≤ ts.length := by omega
    clear hkg
    by_cases hk : k < ts.length
    · obtain ⟨a', c', hv, -, -, hc⟩ := HV.out.below hbr
      obtain ⟨rfl, -, rfl⟩ := Value.slice.inj hv
      obtain ⟨g, off, rfl, hln, e0, e1⟩ := hc k hk
      have hb : decide ((k : Int) < (ts.length : Int)) = true := decide_eq_true (by omega)
      have hT := fun (W : World) (hbw : Below w.heap.size w W) => read2_calls ts[k].1 l ⟨ts[k].2.toArray⟩ b W (cell_keep hbw hcell)
      have hP : ∀ b, (fun (t : Tp) => t.1 == l) ts[k] = b → (b = true → ts.any (fun t => t.1 == l) = true) := fun b h hb => List.any_eq_true.2 ⟨ts[k], List.getElem_mem hk, h.trans hb⟩
      obtain ⟨R, hR⟩ : ∃ R, R = (fun (t : Tp) => t.1 == l) ts[k] := ⟨_, rfl⟩
      have hTR : ∀ W, Below w.heap.size w W → Calls Tryz.prog 38 #[.agg #[.string ⟨ts[k].1.toArray⟩, .string ⟨ts[k].2.toArray⟩], .pointer (some ⟨b, 0, none⟩)] W fun e w' => e = .returned (.bool R) ∧ Below W.heap.size W w' := by rw [hR]; exact hT
      have HP := Lib.hid (hP R hR.symm)
      have HR := Lib.hid hR
      have HT := Lib.hid hTR
      have HBR := Lib.hid hbr
      generalize (⟨ts[k].1.toArray⟩ : ByteArray) = x1 at *
      generalize (⟨ts[k].2.toArray⟩ : ByteArray) = x2 at *
      clear hv hc hln hT hTR hP hR hbr
      cases R with
      | true =>
        have h6 := HP.out rfl
        have H6 := Lib.hid h6
        clear h6
        go_wp2_with fail
        refine (HT.out _ HBR.out).mono ?_
        rintro e w1 ⟨rfl, hb1⟩
        go_wp2
        go_ret
        exact ⟨k, rfl, (fun _ => by omega), (fun h => by rw [H6.out] at h; cases h), HBR.out.trans (hb1.mono HBR.out.size)⟩
      | false =>
        go_wp2_with fail
        refine (HT.out _ HBR.out).mono ?_
        rintro e w1 ⟨rfl, hb1⟩
        go_wp2
        go_roundg (gk - 1)
        case measure => have := HKG.out; omega
        case rel => exact ⟨k + 1, by have := HKG.out; omega, by go_num, Lib.hid fun j hj h => (if e : j = k then by subst e; exact HR.out.symm else hall.out j hj (by omega)), HBR.out.trans (hb1.mono HBR.out.size)⟩
    · have hb : decide ((k : Int) < (ts.length : Int)) = false := decide_eq_false (by omega)
      have hno : ts.any (fun t => t.1 == l) = false := by
        rw [List.any_eq_false]
        intro x hx
        obtain ⟨j, hj, rfl⟩ := List.getElem_of_mem hx
        have := hall.out j hj (by omega)
        intro h
        exact Bool.noConfusion (h.symm.trans this)
      have HNO := Lib.hid hno
      clear hno hall
      go_wp2
      go_ret
      exact ⟨-1, rfl, (fun h => by rw [HNO.out] at h; cases h), (fun _ => rfl), hbr⟩
set_option maxRecDepth 100000 in
set_option maxHeartbeats 4000000 in
theorem read2_any (b : Nat) (l : List UInt8) (v : Value) (ts : List Tp) (w : World) (hV : TpV v ts w) (hcell : w.cell? ⟨b, 0, none⟩ = some (.string ⟨l.toArray⟩)) :
    Calls Tryz.prog 37 #[v, .func (Fn.func 38) #[] #[.pointer (some ⟨b, 0, none⟩)]] w fun e w' => e = .returned (.bool (ts.any (fun t => t.1 == l))) ∧ Below w.heap.size w w' := by
  have HI := Lib.hid (read2_index b l v ts w hV hcell)
  obtain ⟨a, c, rfl⟩ := hV.slice
  generalize ts.any (fun t => t.1 == l) = R at *
  clear hV
  go_enter Tryz.func37, Tryz.ntmps37
  cases R with
  | true =>
    go_wp2_with (go_at_call 71; refine HI.out.mono ?_; rintro e w1 ⟨i, rfl, hi, -, hb1⟩; have hi := hi rfl; have hib : decide ((0 : Int) ≤ i) = true := decide_eq_true hi)
    go_ret
    exact ⟨rfl, hb1⟩
  | false =>
    go_wp2_with (go_at_call 71; refine HI.out.mono ?_; rintro e w1 ⟨i, rfl, -, hi, hb1⟩; obtain rfl := hi rfl)
    go_ret
    exact ⟨rfl, hb1⟩
end Go.Proofs.YtbcddlheikdlkaaGreatDoor.S
/-
  THE WALK of package set's Read.
-/
set_option linter.unusedVariables false
set_option linter.unusedSimpArgs false
namespace Go.Proofs.YtbcddlheikdlkaaGreatDoor.S
open Go.RowKit

theorem wp_at_w17 {P : Program} {code : Code} {Q : Exit → Act → World → Prop} {a : Act} {w : World} (h : ∀ W, W = w → Code.wp P code Q a W) : Code.wp P code Q a w := h w rfl
def RdPost (R : Except Nat (List Nm)) (w : World) (e : Ending) (w' : World) : Prop :=
  (∀ ns, R = .ok ns → ∃ nv, e = .returned (.tuple #[nv, .int .i64 0]) ∧ NmO w.heap.size nv ns w') ∧ (∀ c, R = .error c → e = .returned (.tuple #[.slice none 0 0, .int .i64 c])) ∧ Below w.heap.size w w'
theorem RdPost.ok {R : Except Nat (List Nm)} {w w' : World} {ns : List Nm} {nv : Value} (h : R = .ok ns) (hN : NmO w.heap.size nv ns w') (hb : Below w.heap.size w w') : RdPost R w (.returned (.tuple #[nv, .int .i64 0])) w' :=
  ⟨(fun l h' => by rw [h] at h'; cases h'; exact ⟨nv, rfl, hN⟩), (fun c h' => by rw [h] at h'; cases h'), hb⟩
theorem RdPost.no {R : Except Nat (List Nm)} {w w' : World} {c : Nat} (h : R = .error c) (hb : Below w.heap.size w w') : RdPost R w (.returned (.tuple #[.slice none 0 0, .int .i64 c])) w' :=
  ⟨(fun l h' => by rw [h] at h'; cases h'), (fun c' h' => by rw [h] at h'; cases h'; rfl), hb⟩
set_option maxRecDepth 100000 in
set_option maxHeartbeats 16000000 in
theorem setRead_calls (v : Value) (ts : List Tp) (w : World) (hE : Env w) (hV : TpV v ts w) :
    Calls Tryz.prog 16 #[v] w (RdPost (readL ts) w) := by
  obtain ⟨a, c, rfl⟩ := hV.slice
  obtain ⟨hcap, hmax⟩ := hV.caps
  obtain ⟨R, hR⟩ : ∃ R, R = readL ts := ⟨_, rfl⟩
  rw [← hR]
  have HV := Lib.hid hV
  have HR := Lib.hid hR
  have HE := Lib.hid hE
  clear hV hR hE
  go_enter Tryz.func16, Tryz.ntmps16
  by_cases h1 : ts.length < 1
  · have g1 : decide ((ts.length : Int) < 1) = true := decide_eq_true (by omega)
    have HRf := Lib.hid (show R = .error 1700 by rw [HR.out]; exact readL_form (.inl h1))
    go_wp2
    go_ret2
    exact RdPost.no HRf.out (Below.refl _ _)
  have g1 : decide ((ts.length : Int) < 1) = false := decide_eq_false (by omega)
  by_cases h16 : 16 < ts.length
  · have g2 : decide ((16 : Int) < (ts.length : Int)) = true := decide_eq_true (by omega)
    have HRf := Lib.hid (show R = .error 1700 by rw [HR.out]; exact readL_form (.inr (.inl h16)))
    go_wp2
    go_ret2
    exact RdPost.no HRf.out (Below.refl _ _)
  have g2 : decide ((16 : Int) < (ts.length : Int)) = false := decide_eq_false (by omega)
  have HC := Lib.hid (fun W (hb : Below w.heap.size w W) => read1_any _ ts W (HV.out.below hb))
  obtain ⟨B, hB⟩ : ∃ B, B = ts.any (fun t => !nameT t.1) := ⟨_, rfl⟩
  rw [← hB] at HC
  cases B with
  | true =>
    have HRf := Lib.hid (show R = .error 1700 by rw [HR.out]; exact readL_form (.inr (.inr hB.symm)))
    clear hB
    go_wp2_with (go_at_call 37; refine (HC.out _ (Below.refl _ _)).mono ?_; rintro e w1 ⟨rfl, hb1⟩)
    go_ret2
    exact RdPost.no HRf.out hb1
  | false =>
  have HR2 := Lib.hid (HR.out.trans (readL_ok h1 h16 hB.symm))
  clear hB HR
  go_upto_region 4 with (go_at_call 37; refine (HC.out _ (Below.refl _ _)).mono ?_; rintro e w1 ⟨rfl, hb1⟩)
  have HBW := Lib.hid hb1
  clear g1 g2 HC hb1
  go_wp2
  go_loopg [30] ts.length (fun gk v30 wr => ∃ k : Nat, k + gk = ts.length ∧ v30 = .int .i64 k ∧ Below w.heap.size w wr ∧ Hid (∀ j (hj : j < ts.length), j < k → hasN ((ts.map Prod.fst).take j) ts[j].1 = false))
  case atStart => exact ⟨0, by omega, rfl, HBW.out, Lib.hid fun j _ h => absurd h (Nat.not_lt_zero _)⟩
  case round =>
    obtain ⟨k, hkg, rfl, hbr, hall⟩ := hrel
    have HKG := Lib.hid hkg
    have HBR := Lib.hid hbr
    have hkl : k ≤ ts.length := by omega
    clear hkg
    by_cases hk : k < ts.length
    · have hkb : decide ((k : Int) < (ts.length : Int)) = true := decide_eq_true (by omega)
      obtain ⟨a', c', hv, -, -, hc⟩ := HV.out.below hbr
      obtain ⟨rfl, -, rfl⟩ := Value.slice.inj hv
      obtain ⟨g, off, rfl, hln, e0, e1⟩ := hc k hk
      have hsl : ∀ W, (Instr.slice 33 (.slice (some ⟨g, off, none⟩) ts.length c) none (some (.int .i64 k)) none).run Tryz.prog W = .ok (sliced (some ⟨g, off, none⟩) 0 k c 2) W := fun W => run_takeT k (by omega) W
      obtain ⟨ta, tc, hts⟩ := ((HV.out.below hbr).take k hkl).slice
      have hlk : (ts.take k).length = k := by rw [List.length_take]; omega
      rw [hlk] at hts
      have hTk := (HV.out.below hbr).take k hkl
      rw [hts] at hsl hTk
      have hno : hasN ((ts.map Prod.fst).take k) ts[k].1 = true → R = .error 1701 := fun h => by
        rw [HR2.out, if_pos (dupT_at (ts.map Prod.fst) [] k (by simpa using hk) (by simpa using h))]
      have hst : hasN ((ts.map Prod.fst).take k) ts[k].1 = false → ∀ j (hj : j < ts.length), j < k + 1 → hasN ((ts.map Prod.fst).take j) ts[j].1 = false := fun h1 j hj hjk => by
        by_cases e : j = k
        · subst e; exact h1
        · exact hall.out j hj (by omega)
      have hbx : Below wr.heap.size wr (wr.alloc (.cells #[.string ⟨ts[k].1.toArray⟩, .string ⟨ts[k].2.toArray⟩] 49)) := (Below.refl _ wr).alloc (Nat.le_refl _) _
      have HC2 : Calls Tryz.prog 37 #[.slice ta k tc, .func (Fn.func 38) #[] #[.pointer (some ⟨wr.heap.size, 0, none⟩)]] (wr.alloc (.cells #[.string ⟨ts[k].1.toArray⟩, .string ⟨ts[k].2.toArray⟩] 49)) fun e w' => e = .returned (.bool (hasN ((ts.map Prod.fst).take k) ts[k].1)) ∧ Below wr.heap.size wr w' := by
        have h := read2_any wr.heap.size ts[k].1 _ (ts.take k) _ (hTk.below hbx) ((Blk.new wr [.string ⟨ts[k].1.toArray⟩, .string ⟨ts[k].2.toArray⟩] _).cell 0 _ rfl)
        rw [hasN_any] at h
        exact h.mono fun e w' ⟨he, hb⟩ => ⟨he, hbx.trans (hb.mono hbx.size)⟩
      have HNO := Lib.hid hno
      have HST := Lib.hid hst
      have HC2 := Lib.hid HC2
      generalize hasN ((ts.map Prod.fst).take k) ts[k].1 = bh at *
      generalize (⟨ts[k].1.toArray⟩ : ByteArray) = x1 at *
      generalize (⟨ts[k].2.toArray⟩ : ByteArray) = x2 at *
      clear hv hc hln hts hlk hTk hno hst hall hbr hbx
      cases bh with
      | true =>
        have HRf := Lib.hid (HNO.out rfl)
        clear HNO HST
        go_wp2_with (go_at_call 37; refine HC2.out.mono ?_; rintro e w2 ⟨rfl, hb2⟩)
        go_ret2
        exact RdPost.no HRf.out (HBR.out.trans (hb2.mono HBR.out.size))
      | false =>
        have HS := Lib.hid (HST.out rfl)
        clear HNO HST
        go_wp2_with (go_at_call 37; refine HC2.out.mono ?_; rintro e w2 ⟨rfl, hb2⟩; have HB2 := Lib.hid hb2; clear hb2)
        go_roundg (gk - 1)
        case measure => have := HKG.out; omega
        case rel => exact ⟨k + 1, by have := HKG.out; omega, by go_num, HBR.out.trans (HB2.out.mono HBR.out.size), HS⟩
    · have hkb : decide ((k : Int) < (ts.length : Int)) = false := decide_eq_false (by omega)
      have hnd : dupT [] (ts.map Prod.fst) = false := dupT_no _ _ fun j hj => by
        have := hall.out j (by simpa using hj) (by simp at hj; omega)
        simpa using this
      have HR3 := Lib.hid (show R = match parsesL ts with | .error e => .error e | .ok ns => if (ns.all fun n => callsI (ns.map Prod.fst) n.2) = true then .ok ns else .error 1702 by
        rw [HR2.out, hnd]
        rfl)
      obtain ⟨T, hT⟩ : ∃ T, T = parsesL ts := ⟨_, rfl⟩
      rw [← hT] at HR3
      have hP0 : PsAt T [] ts := by rw [hT]; exact PsAt.begin ts
      have HP0 := Lib.hid hP0
      clear HR2 hall hnd hT hP0 hbr HBW
      go_wp2
      clear hkb hk HKG hkl
      go_loopg [44, 8] ts.length (fun gk v44 v8 wr => ∃ (m : Nat) (ns : List Nm), m + gk = ts.length ∧ v44 = .int .i64 m ∧ ns.length = m ∧ NmO w.heap.size v8 ns wr ∧ Below w.heap.size w wr ∧ Hid (PsAt T ns (ts.drop m)))
      case atStart => exact ⟨0, [], by omega, rfl, rfl, nmO_nil _ _, HBR.out, HP0⟩
      case round =>
        obtain ⟨m, ns, hmg, rfl, hnl, hN, hbr, hps⟩ := hrel
        have HMG := Lib.hid hmg
        have HNL := Lib.hid hnl
        have HN := Lib.hid hN
        have HBS := Lib.hid hbr
        have hml : m ≤ ts.length := by omega
        obtain ⟨na, nc, rfl⟩ := hN.slice
        clear hmg hnl hN HBR
        by_cases hm : m < ts.length
        · have hmb : decide ((m : Int) < (ts.length : Int)) = true := decide_eq_true (by omega)
          obtain ⟨a', c', hv, -, -, hc⟩ := HV.out.below hbr
          obtain ⟨rfl, -, rfl⟩ := Value.slice.inj hv
          obtain ⟨g, off, rfl, hln, e0, e1⟩ := hc m hm
          have hdr : ts.drop m = ts[m] :: ts.drop (m + 1) := List.drop_eq_getElem_cons hm
          have hps2 := hps.out
          rw [hdr] at hps2
          have HPS := Lib.hid hps2
          have hst : StrIs (⟨ts[m].1.toArray⟩ : ByteArray) ts[m].1 := rfl
          have hss : (⟨ts[m].2.toArray⟩ : ByteArray).data.toList = ts[m].2 := rfl
          obtain ⟨b1, hb1⟩ : ∃ b1, b1 = wr.heap.size := ⟨_, rfl⟩
          have hBX : Blk wr.heap.size 49 [.string ⟨ts[m].1.toArray⟩, .string ⟨ts[m].2.toArray⟩] (wr.alloc (.cells #[.string ⟨ts[m].1.toArray⟩, .string ⟨ts[m].2.toArray⟩] 49)) := Blk.new wr _ _
          have hbx : Below wr.heap.size wr (wr.alloc (.cells #[.string ⟨ts[m].1.toArray⟩, .string ⟨ts[m].2.toArray⟩] 49)) := (Below.refl _ wr).alloc (Nat.le_refl _) _
          have HST := Lib.hid hst
          have hPC := fun W (hEW : Env W) => tmplParse_own ⟨ts[m].2.toArray⟩ W hEW
          rw [hss] at hPC
          generalize hx1 : (⟨ts[m].1.toArray⟩ : ByteArray) = x1 at *
          generalize (⟨ts[m].2.toArray⟩ : ByteArray) = x2 at *
          have HPC := Lib.hid hPC
          clear hv hc hln hdr hps hps2 hst hss hPC hx1 hb1
          go_upto_region 15 with (fail)
          refine wp_at_w17 ?_
          intro w1 hw1
          rw [← hw1] at hBX hbx
          have HBX := Lib.hid hBX
          have HN1 := Lib.hid (HN.out.below hbx)
          have HB1 := Lib.hid (hbr.trans (hbx.mono hbr.size))
          have x0 := hBX.cell 0 _ rfl
          have x1c := hBX.cell 1 _ rfl
          generalize wr.heap.size = gb at *
          clear hw1 hBX hbx hbr HN HBS e0 e1
          obtain ⟨I, hI⟩ : ∃ I, I = tmplL ts[m].2 := ⟨_, rfl⟩
          rw [← hI] at HPC
          cases I with
          | error ec =>
            have hec : ((ec : Int) != 0) = true := bne_iff_ne.2 (by have := tmplL_err hI.symm; omega)
            have hRf : R = .error ec := by rw [HR3.out, HPS.out.no hI.symm]
            have HRf := Lib.hid hRf
            clear hI hRf
            go_wp2_with (go_at_call 8; refine (HPC.out _ (HE.out.below HB1.out)).mono ?_; rintro e w2 ⟨-, hno, hb2⟩; obtain rfl := hno ec rfl; clear hno)
            go_ret2
            exact RdPost.no HRf.out (HB1.out.trans (hb2.mono HB1.out.size))
          | ok is =>
            have HPG := Lib.hid (HPS.out.go hI.symm)
            clear hI
            go_upto_region 18 with (go_at_call 8; refine (HPC.out _ (HE.out.below HB1.out)).mono ?_; rintro e w2 ⟨hok, -, hb2⟩; obtain ⟨iv, rfl, hRw⟩ := hok is rfl; have HRW := Lib.hid hRw; have HB2 := Lib.hid hb2; clear hok hRw hb2)
            have y0 := cell_keep HB2.out x0
            obtain ⟨ia, ic, hiv⟩ := HRW.out.slice
            subst hiv
            clear x0 x1c
            go_wp2_with (at_builtin; refine wp_appNm w.heap.size ?_ (.tmp 57) (.tmp 62) ?_ (.slice na ns.length nc) ns (ts[m].1, is) x1 (.slice ia is.length ic) 1 ?_ ?_ HN1.out HB2.out HST.out HRW.out (HB1.out.trans (HB2.out.mono HB1.out.size)).size HB1.out.size ?_ ?_; rfl; rfl; rfl; rfl; (have := HNL.out; omega); intro v5 w5 hN5 hb5; have HN5 := Lib.hid hN5; have HB5 := Lib.hid (hb5 w (HB1.out.trans (HB2.out.mono HB1.out.size))); clear hN5 hb5)
            go_roundg (gk - 1)
            case measure => have := HMG.out; omega
            case rel => exact ⟨m + 1, ns ++ [(ts[m].1, is)], by have := HMG.out; omega, by go_num, by have := HNL.out; simp; omega, HN5.out, HB5.out, HPG⟩
        · have hmb : decide ((m : Int) < (ts.length : Int)) = false := decide_eq_false (by omega)
          have hT : T = .ok ns := by
            have := hps.out
            rw [List.drop_eq_nil_of_le (by omega)] at this
            exact this.fin
          have HR4 := Lib.hid (show R = if (ns.all fun n => callsI (ns.map Prod.fst) n.2) = true then .ok ns else .error 1702 by rw [HR3.out, hT])
          have hnb : ns.length ≤ 16 := by have := HNL.out; omega
          clear hT HR3 hps HP0
          go_wp2
          clear hmb hm HMG hml hbr
          go_loopg [67] ns.length (fun gk v67 wr => ∃ j : Nat, j + gk = ns.length ∧ v67 = .int .i64 j ∧ NmO w.heap.size (.slice na ns.length nc) ns wr ∧ Below w.heap.size w wr ∧ Hid (∀ i (hi : i < ns.length), i < j → callsI (ns.map Prod.fst) ns[i].2 = true))
          case atStart => exact ⟨0, by omega, rfl, HN.out, HBS.out, Lib.hid fun j _ h => absurd h (Nat.not_lt_zero _)⟩
          case round =>
            obtain ⟨j, hjg, rfl, hN, hbr, hall⟩ := hrel
            have HJG := Lib.hid hjg
            have HNX := Lib.hid hN
            have HBX := Lib.hid hbr
            have hjl : j ≤ ns.length := by omega
            clear hjg HN HBS
            by_cases hj : j < ns.length
            · have hjb : decide ((j : Int) < (ns.length : Int)) = true := decide_eq_true (by omega)
              obtain ⟨a', c', hv, -, -, hc⟩ := hN.v
              obtain ⟨rfl, -, rfl⟩ := Value.slice.inj hv
              obtain ⟨g, off, iv, rfl, e0, e1, hI⟩ := hc j hj
              have hno : callsI (ns.map Prod.fst) ns[j].2 = false → R = .error 1702 := fun h => by rw [HR4.out, calls_no j hj h]; rfl
              have hst : callsI (ns.map Prod.fst) ns[j].2 = true → ∀ i (hi : i < ns.length), i < j + 1 → callsI (ns.map Prod.fst) ns[i].2 = true := fun h1 i hi hij => by
                by_cases e : i = j
                · subst e; exact h1
                · exact hall.out i hi (by omega)
              have hCL := fun W (hb : Below wr.heap.size wr W) => calls_n ns _ ns[j].2 (Nat.le_refl _) (.slice (some ⟨g, off, none⟩) ns.length nc) iv W (hN.v.below hb) (hI.blw hb)
              obtain ⟨ia, ic, rfl⟩ := hI.slice
              generalize callsI (ns.map Prod.fst) ns[j].2 = bc at *
              generalize ns[j].2.length = il at *
              generalize (⟨ns[j].1.toArray⟩ : ByteArray) = x1 at *
              have hbx : Below wr.heap.size wr (wr.alloc (.cells #[.string x1, .slice ia il ic] 47)) := (Below.refl _ wr).alloc (Nat.le_refl _) _
              have HNO := Lib.hid hno
              have HST := Lib.hid hst
              have HCL := Lib.hid (hCL _ hbx)
              have HNY := Lib.hid (hN.below hbx)
              have HBY := Lib.hid (hbr.trans (hbx.mono hbr.size))
              clear hv hc hI hno hst hCL hall hbr hN hbx
              cases bc with
              | false =>
                have HRf := Lib.hid (HNO.out rfl)
                clear HNO HST
                go_wp2_with (go_at_call 39; refine HCL.out.mono ?_; rintro e w2 ⟨rfl, hw⟩; subst hw)
                go_ret2
                exact RdPost.no HRf.out HBY.out
              | true =>
                have HS := Lib.hid (HST.out rfl)
                clear HNO HST
                go_wp2_with (go_at_call 39; refine HCL.out.mono ?_; rintro e w2 ⟨rfl, hw⟩; subst hw)
                go_roundg (gk - 1)
                case measure => have := HJG.out; omega
                case rel => exact ⟨j + 1, by have := HJG.out; omega, by go_num, HNY.out, HBY.out, HS⟩
            · have hjb : decide ((j : Int) < (ns.length : Int)) = false := decide_eq_false (by omega)
              have hRt : R = .ok ns := by rw [HR4.out, if_pos (calls_all fun i hi => hall.out i hi (by omega))]
              have HRT := Lib.hid hRt
              clear hRt hall hbr hN
              go_wp2
              go_ret2
              exact RdPost.ok HRT.out HNX.out HBX.out
end Go.Proofs.YtbcddlheikdlkaaGreatDoor.S
