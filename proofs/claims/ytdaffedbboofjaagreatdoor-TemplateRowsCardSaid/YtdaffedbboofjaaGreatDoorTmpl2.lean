/-
  THE WALK of package tmpl's add.
-/
import Derived.Test.YtdaffedbboofjaaGreatDoorTmpl1
set_option linter.unusedVariables false
set_option linter.unusedSimpArgs false
namespace Go.Proofs.YtdaffedbboofjaaGreatDoor.S
open Go.RowKit
variable {base p : Nat} {F F' : Nat → Prop} {W W' : World} {s t : Sl} {ls : List Sl}

theorem St.drewN (h : St base p ls W) (n : Nat) : St base p ls (W.drewN n) := h.below (Below.drewN (Below.refl _ _) n)
theorem Lv.add_cells (t : Sl) (i : It) (rv : Value) : ({ t with lv := t.lv.add i, rv := rv } : Sl).cells = [.int .i64 t.lv.kind, .string ⟨#[]⟩, t.pv, t.tv, .slice none 0 0, rv, .bool t.lv.behind] := rfl
theorem setCell_heap (w : World) (g j : Nat) (x : Value) (b : Nat) (h : b ≠ g) : (w.setCell ⟨g, j, none⟩ x).heap[b]? = w.heap[b]? := Below.heap_setCell w ⟨g, j, none⟩ x b h
/-- a new element of the top block's row -/
theorem St.put {w5 : World} {g1 c1 n : Nat} {i : It} {pv tv ev : Value} {ra : Option Addr} {rc : Nat} {zs : List Ic} (h : St base p (ls ++ [t]) W) (hrv : t.rv = .slice ra n rc) (hzs : zs.map Ic.it = t.lv.row) (hzr : ∀ z ∈ zs, Cms base z.pv z.it.pipe W ∧ Its base (Fs (ls ++ [t])) W z.tv z.it.th ∧ Its base (Fs (ls ++ [t])) W z.ev z.it.el)
    (hn : zs.length = n) (hp : Cms base pv i.pipe W) (ht : Its base (Fs (ls ++ [t])) W tv i.th) (he : Its base (Fs (ls ++ [t])) W ev i.el)
    (hown : w5.ownsRow base 37 5 (.slice (some ⟨g1, 0, none⟩) (n + 1) c1) (n + 1) (icsCells zs ++ [.int .i64 0, .string ⟨#[]⟩, .slice none 0 0, .slice none 0 0, .slice none 0 0])) (hg : W.grownBy w5 t.rv.ownBlock)
    (hgb : t.rv.ownBlock = some g1 ∨ W.heap.size ≤ g1) (hgt : g1 ≠ t.g) :
    St base p (ls ++ [{ t with lv := t.lv.add i, rv := .slice (some ⟨g1, 0, none⟩) (n + 1) c1 }]) ((((((w5.setCell ⟨g1, n * 5, none⟩ (.int .i64 i.kind)).setCell ⟨g1, n * 5 + 1, none⟩ (.string ⟨i.text.toArray⟩)).setCell ⟨g1, n * 5 + 2, none⟩ pv).setCell ⟨g1, n * 5 + 3, none⟩ tv).setCell ⟨g1, n * 5 + 4, none⟩ ev).setCell ⟨t.g, 5, none⟩ (.slice (some ⟨g1, 0, none⟩) (n + 1) c1)) := by
  have htl := h.levs t (by simp)
  have h6 := own_snoc5 hown (by rw [icsCells_len, hn]) (.int .i64 i.kind) (.string ⟨i.text.toArray⟩) pv tv ev
  generalize hw6 : ((((w5.setCell ⟨g1, n * 5, none⟩ (.int .i64 i.kind)).setCell ⟨g1, n * 5 + 1, none⟩ (.string ⟨i.text.toArray⟩)).setCell ⟨g1, n * 5 + 2, none⟩ pv).setCell ⟨g1, n * 5 + 3, none⟩ tv).setCell ⟨g1, n * 5 + 4, none⟩ ev = w6 at *
  have hk6 : ∀ b, b ≠ g1 → w6.heap[b]? = w5.heap[b]? := by
    intro b hb
    rw [← hw6, setCell_heap _ _ _ _ _ hb, setCell_heap _ _ _ _ _ hb, setCell_heap _ _ _ _ _ hb, setCell_heap _ _ _ _ _ hb, setCell_heap _ _ _ _ _ hb]
  have h7 := own_set (g := t.g) h6 (by simpa [Value.ownBlock] using hgt) 5 (.slice (some ⟨g1, 0, none⟩) (n + 1) c1)
  have hne : ∀ b, b < W.heap.size → t.rv.ownBlock ≠ some b → b ≠ g1 := by
    rintro b hb ho rfl
    rcases hgb with hgb | hgb
    · exact ho hgb
    · omega
  refine h.change rfl (fun b hb ho hbt => ?_) (fun b hb => ?_) (fun hK hM => ?_)
  · rw [setCell_heap _ _ _ _ _ hbt, hk6 b (hne b hb ho)]
    exact hg.block b hb (fun e => ho e.symm)
  · have : g1 = b := by simpa [Value.ownBlock] using hb
    subst this
    exact hgb
  · have hB : Blk t.g 75 ({ t with lv := t.lv.add i, rv := .slice (some ⟨g1, 0, none⟩) (n + 1) c1 } : Sl).cells (w6.setCell ⟨t.g, 5, none⟩ (.slice (some ⟨g1, 0, none⟩) (n + 1) c1)) := by
      have h5 : Blk t.g 75 t.cells w6 := by
        refine (hk6 t.g (fun e => hgt e.symm)).trans ((hg.block _ htl.blk.lt fun e => ?_).trans htl.blk)
        obtain ⟨_, _, cs', hc⟩ := htl.row.fact _ e.symm
        exact blk_type htl.blk hc (by decide) rfl
      exact h5.set 5 _
    refine ⟨hB, htl.low, hK.cms _ _ htl.pipe, htl.th.move hK hM, ?_⟩
    have hr := its_snoc (hK.and (Fs (ls ++ [{ t with lv := t.lv.add i, rv := .slice (some ⟨g1, 0, none⟩) (n + 1) c1 }]))) (fun z hz => ⟨(hzr z hz).1, (hzr z hz).2.1.mono fun g hg hf => ⟨hf, hM g hg hf⟩, (hzr z hz).2.2.mono fun g hg hf => ⟨hf, hM g hg hf⟩⟩) hp (ht.mono fun g hg hf => ⟨hf, hM g hg hf⟩) (he.mono fun g hg hf => ⟨hf, hM g hg hf⟩) (by rw [hn]; exact h7)
    rw [hzs] at hr
    exact hr.mono fun g _ hf => hf.2
def AddPost (base p : Nat) (ls : List Sl) (t : Sl) (i : It) (w : World) (e : Ending) (w' : World) : Prop := e = .returned (.tuple #[]) ∧ ∃ rv, St base p (ls ++ [{ t with lv := t.lv.add i, rv := rv }]) w' ∧ Below base w w'
theorem AddPost.mk {i : It} {w w' : World} {rv : Value} (h : St base p (ls ++ [{ t with lv := t.lv.add i, rv := rv }]) w') (hb : Below base w w') : AddPost base p ls t i w (.returned (.tuple #[])) w' := ⟨rfl, rv, h, hb⟩
theorem setCell_swap (w : World) (g j k l : Nat) (x y : Value) (h : g ≠ k) : (w.setCell ⟨g, j, none⟩ x).setCell ⟨k, l, none⟩ y = (w.setCell ⟨k, l, none⟩ y).setCell ⟨g, j, none⟩ x := by
  unfold World.setCell
  congr 1
  apply Array.ext_getElem?
  intro i
  simp only [Array.getElem?_modify]
  by_cases h1 : g = i
  · subst h1
    rw [if_pos rfl, if_neg (Ne.symm h), if_neg (Ne.symm h), if_pos rfl]
  · rw [if_neg h1, if_neg h1]
theorem chain_swap (w : World) (g1 tg n : Nat) (a b c d e f : Value) (h : tg ≠ g1) :
    (((((w.setCell ⟨tg, 5, none⟩ f).setCell ⟨g1, n * 5, none⟩ a).setCell ⟨g1, n * 5 + 1, none⟩ b).setCell ⟨g1, n * 5 + 2, none⟩ c).setCell ⟨g1, n * 5 + 3, none⟩ d).setCell ⟨g1, n * 5 + 4, none⟩ e =
    (((((w.setCell ⟨g1, n * 5, none⟩ a).setCell ⟨g1, n * 5 + 1, none⟩ b).setCell ⟨g1, n * 5 + 2, none⟩ c).setCell ⟨g1, n * 5 + 3, none⟩ d).setCell ⟨g1, n * 5 + 4, none⟩ e).setCell ⟨tg, 5, none⟩ f := by
  rw [setCell_swap w tg 5 g1 _ f a h, setCell_swap _ tg 5 g1 _ f b h, setCell_swap _ tg 5 g1 _ f c h, setCell_swap _ tg 5 g1 _ f d h, setCell_swap _ tg 5 g1 _ f e h]
theorem grow_at {w2 : World} {o : Obj} {v : Value} {g1 : Nat} (h : v.ownBlock = some g1 ∨ g1 = ((w2.alloc o).drew).heap.size) : v.ownBlock = some g1 ∨ w2.heap.size ≤ g1 := by
  rcases h with h | h
  · exact .inl h
  · refine .inr ?_
    rw [h]
    show w2.heap.size ≤ (w2.alloc o).heap.size
    simp
theorem grow_ne {w2 : World} {v : Value} {g1 tg : Nat} {cs : List Value} (hB : Blk tg 75 cs w2) (hl : tg < w2.heap.size) (hF : ∀ g, v.ownBlock = some g → base ≤ g ∧ g < w2.heap.size ∧ ∃ cs, w2.heap[g]? = some (.cells cs 37 (0, 0))) (h : v.ownBlock = some g1 ∨ w2.heap.size ≤ g1) : g1 ≠ tg := by
  rcases h with h | h
  · obtain ⟨_, _, cs', hc⟩ := hF g1 h
    exact blk_type hB hc (by decide)
  · omega
theorem grow_blk {w2 w5 : World} {v : Value} {tg : Nat} {cs : List Value} (hB : Blk tg 75 cs w2) (hg : w2.grownBy w5 v.ownBlock) (hF : ∀ g, v.ownBlock = some g → base ≤ g ∧ g < w2.heap.size ∧ ∃ cs, w2.heap[g]? = some (.cells cs 37 (0, 0))) : Blk tg 75 cs w5 := by
  refine hB.grown hg fun e => ?_
  obtain ⟨_, _, cs', hc⟩ := hF tg e.symm
  exact blk_type hB hc (by decide) rfl
theorem below6 {B g1 tg : Nat} {w w5 : World} (h : Below B w w5) (h1 : B ≤ g1) (h2 : B ≤ tg) (n : Nat) (a b c d e f : Value) : Below B w ((((((w5.setCell ⟨g1, n * 5, none⟩ a).setCell ⟨g1, n * 5 + 1, none⟩ b).setCell ⟨g1, n * 5 + 2, none⟩ c).setCell ⟨g1, n * 5 + 3, none⟩ d).setCell ⟨g1, n * 5 + 4, none⟩ e).setCell ⟨tg, 5, none⟩ f) :=
  (((((h.setCell (p := ⟨g1, n * 5, none⟩) h1 a).setCell (p := ⟨g1, n * 5 + 1, none⟩) h1 b).setCell (p := ⟨g1, n * 5 + 2, none⟩) h1 c).setCell (p := ⟨g1, n * 5 + 3, none⟩) h1 d).setCell (p := ⟨g1, n * 5 + 4, none⟩) h1 e).setCell (p := ⟨tg, 5, none⟩) h2 f
theorem snoc5_cells {base e n g cap : Nat} {xs : List Value} {z0 z1 z2 z3 z4 : Value} (h : W.ownsRow base e 5 (.slice (some ⟨g, 0, none⟩) (n + 1) cap) (n + 1) (xs ++ [z0, z1, z2, z3, z4])) (hx : xs.length = n * 5) :
    W.cell? ⟨g, n * 5, none⟩ = some z0 ∧ W.cell? ⟨g, n * 5 + 1, none⟩ = some z1 ∧ W.cell? ⟨g, n * 5 + 2, none⟩ = some z2 ∧ W.cell? ⟨g, n * 5 + 3, none⟩ = some z3 ∧ W.cell? ⟨g, n * 5 + 4, none⟩ = some z4 := by
  have hc : ∀ j v, j < 5 → [z0, z1, z2, z3, z4][j]? = some v → W.cell? ⟨g, n * 5 + j, none⟩ = some v := by
    intro j v hj hv
    refine (World.ownsRow.cellAt h (n * 5 + j) (by omega)).trans ?_
    rw [List.getElem?_append_right (by omega), hx, Nat.add_sub_cancel_left]
    exact hv
  exact ⟨hc 0 z0 (by omega) rfl, hc 1 z1 (by omega) rfl, hc 2 z2 (by omega) rfl, hc 3 z3 (by omega) rfl, hc 4 z4 (by omega) rfl⟩
set_option maxRecDepth 100000 in
set_option maxHeartbeats 8000000 in
theorem add_calls (w : World) (h : St base p (ls ++ [t]) w) (i : It) (pv tv ev : Value) (hp : Cms base pv i.pipe w) (ht : Its base (Fs (ls ++ [t])) w tv i.th) (he : Its base (Fs (ls ++ [t])) w ev i.el) (hl : t.lv.row.length ≤ 1073741824) (hbw : base ≤ w.heap.size) :
    Calls Tryz.prog 31 #[.pointer (some ⟨p, 0, none⟩), .agg #[.int .i64 i.kind, .string ⟨i.text.toArray⟩, pv, tv, ev]] w (AddPost base p ls t i w) := by
  obtain ⟨pa, pc, hpv⟩ := hp.slice
  obtain ⟨ta, tc, htv⟩ := ht.slice
  obtain ⟨ea, ec, hev⟩ := he.slice
  subst hpv htv hev
  have hw1 : Below w.heap.size w (w.alloc (.cells #[.int .i64 i.kind, .string ⟨i.text.toArray⟩, .slice pa i.pipe.length pc, .slice ta i.th.length tc, .slice ea i.el.length ec] 37)) := (Below.refl _ w).alloc (Nat.le_refl _) _
  have hX : Blk w.heap.size 37 [.int .i64 i.kind, .string ⟨i.text.toArray⟩, .slice pa i.pipe.length pc, .slice ta i.th.length tc, .slice ea i.el.length ec] (w.alloc (.cells #[.int .i64 i.kind, .string ⟨i.text.toArray⟩, .slice pa i.pipe.length pc, .slice ta i.th.length tc, .slice ea i.el.length ec] 37)) := Blk.new w _ _
  go_enter Tryz.func31, Tryz.ntmps31
  go_upto_region 1 with (fail)
  generalize w.alloc (.cells #[.int .i64 i.kind, .string ⟨i.text.toArray⟩, .slice pa i.pipe.length pc, .slice ta i.th.length tc, .slice ea i.el.length ec] 37) = w1 at *
  have h1 := h.below hw1
  go_wp2_with fail
  refine (top_calls w1 h1).mono ?_
  rintro e w2 ⟨rfl, m, hm⟩
  have hw2 : Below w.heap.size w w2 := by rw [hm]; exact Below.drewN hw1 m
  have hX2 := hX.below (Below.drewN (Below.refl _ w1) m)
  rw [← hm] at hX2
  have h2 := h.below hw2
  have hp2 := hp.below hw2
  have ht2 := ht.blw hw2
  have he2 := he.blw hw2
  have hbw2 : base ≤ w2.heap.size := Nat.le_trans hbw hw2.size
  have hz2 := hX2.lt
  clear hm hX h1 hw1 h hp ht he
  have htl := h2.levs t (by simp)
  obtain ⟨ra, rc, hrv⟩ := htl.row.slice
  obtain ⟨n, hn⟩ : ∃ n, n = t.lv.row.length := ⟨_, rfl⟩
  rw [← hn] at hrv hl
  obtain ⟨zs, hzs, hzr, hzc⟩ := htl.row
  have hzn : zs.length = n := by rw [hn, ← hzs, List.length_map]
  rw [hzn, hrv] at hzr
  have b5 := htl.blk.cell 5 (.slice ra n rc) (by simp [Sl.cells, hrv])
  have x0 := hX2.cell 0 _ rfl
  have x1 := hX2.cell 1 _ rfl
  have x2 := hX2.cell 2 _ rfl
  have x3 := hX2.cell 3 _ rfl
  have x4 := hX2.cell 4 _ rfl
  have HT := Lib.hid (fun w5 g1 c1 h5 h6 h7 h8 => St.put (w5 := w5) (g1 := g1) (c1 := c1) h2 hrv hzs hzc hzn hp2 ht2 he2 h5 h6 h7 h8)
  have HX := Lib.hid hX2
  have hB : Blk t.g 75 [.int .i64 t.lv.kind, .string ⟨#[]⟩, t.pv, t.tv, .slice none 0 0, .slice ra n rc, .bool t.lv.behind] w2 := by
    have h := htl.blk
    rwa [Sl.cells, hrv] at h
  have HB := Lib.hid hB
  have HR := Lib.hid hrv
  have HW := Lib.hid hw2
  have HF := Lib.hid (fun g (h : (Value.slice ra n rc).ownBlock = some g) => htl.row.fact g (by rw [hrv]; exact h))
  have HZR := Lib.hid hzr
  have hbt := htl.blk.lt
  clear hrv hzs hn hp2 ht2 he2 hzc hX2 hw2 h2 hzr
  generalize (⟨i.text.toArray⟩ : ByteArray) = tx at *
  have hlit : Below w2.heap.size w2 ((w2.alloc (.cells #[.int .i64 0, .string ⟨#[]⟩, .slice none 0 0, .slice none 0 0, .slice none 0 0] 37)).drew) := ((Below.refl _ w2).alloc (Nat.le_refl _) _).drew
  have HX5 := Lib.hid (show (icsCells zs).length = n * 5 by rw [icsCells_len, hzn])
  have HLO := Lib.hid htl.low
  have hlt : (n : Int) < (n : Int) + 1 := by omega
  have HG := Lib.hid (grownBy_below (row := (Value.slice ra n rc).ownBlock) hlit)
  have HLIT := Lib.hid hlit
  clear hzn htl hlit hB
  have HALL : Hid (∀ (g1 c1 : Nat) (w5 : World), w5.ownsRow base 37 5 (.slice (some ⟨g1, 0, none⟩) (n + 1) c1) (n + 1) (icsCells zs ++ [.int .i64 0, .string ⟨#[]⟩, .slice none 0 0, .slice none 0 0, .slice none 0 0]) →
      ((w2.alloc (.cells #[.int .i64 0, .string ⟨#[]⟩, .slice none 0 0, .slice none 0 0, .slice none 0 0] 37)).drew).grownBy w5 (Value.slice ra n rc).ownBlock →
      ((Value.slice ra n rc).ownBlock = some g1 ∨ g1 = ((w2.alloc (.cells #[.int .i64 0, .string ⟨#[]⟩, .slice none 0 0, .slice none 0 0, .slice none 0 0] 37)).drew).heap.size) →
      g1 ≠ t.g ∧ t.g ≠ g1 ∧ w5.cell? ⟨t.g, 5, none⟩ = some (.slice ra n rc) ∧ w5.frozen? ⟨t.g, 5, none⟩ = false ∧ w5.cell? ⟨g1, n * 5, none⟩ = some (.int .i64 0) ∧ w5.cell? ⟨g1, n * 5 + 1, none⟩ = some (.string ⟨#[]⟩) ∧ w5.cell? ⟨g1, n * 5 + 2, none⟩ = some (.slice none 0 0) ∧ w5.cell? ⟨g1, n * 5 + 3, none⟩ = some (.slice none 0 0) ∧ w5.cell? ⟨g1, n * 5 + 4, none⟩ = some (.slice none 0 0) ∧
      w5.frozen? ⟨g1, n * 5, none⟩ = false ∧ w5.frozen? ⟨g1, n * 5 + 1, none⟩ = false ∧ w5.frozen? ⟨g1, n * 5 + 2, none⟩ = false ∧ w5.frozen? ⟨g1, n * 5 + 3, none⟩ = false ∧ w5.frozen? ⟨g1, n * 5 + 4, none⟩ = false ∧
      Hid (∃ rv, St base p (ls ++ [{ t with lv := t.lv.add i, rv := rv }]) ((((((w5.setCell ⟨g1, n * 5, none⟩ (.int .i64 i.kind)).setCell ⟨g1, n * 5 + 1, none⟩ (.string tx)).setCell ⟨g1, n * 5 + 2, none⟩ (.slice pa i.pipe.length pc)).setCell ⟨g1, n * 5 + 3, none⟩ (.slice ta i.th.length tc)).setCell ⟨g1, n * 5 + 4, none⟩ (.slice ea i.el.length ec)).setCell ⟨t.g, 5, none⟩ (.slice (some ⟨g1, 0, none⟩) (n + 1) c1))) ∧
      Hid (Below base w ((((((w5.setCell ⟨g1, n * 5, none⟩ (.int .i64 i.kind)).setCell ⟨g1, n * 5 + 1, none⟩ (.string tx)).setCell ⟨g1, n * 5 + 2, none⟩ (.slice pa i.pipe.length pc)).setCell ⟨g1, n * 5 + 3, none⟩ (.slice ta i.th.length tc)).setCell ⟨g1, n * 5 + 4, none⟩ (.slice ea i.el.length ec)).setCell ⟨t.g, 5, none⟩ (.slice (some ⟨g1, 0, none⟩) (n + 1) c1)))) := by
    intro g1 c1 w5 hown hg hgb
    have hg2 := HG.out.trans hg
    have hgb2 := grow_at hgb
    have hne := grow_ne HB.out hbt HF.out hgb2
    have hB5 := grow_blk HB.out hg2 HF.out
    obtain ⟨k0, k1, k2, k3, k4⟩ := snoc5_cells hown HX5.out
    exact ⟨hne, Ne.symm hne, hB5.cell 5 (.slice ra n rc) rfl, hB5.free 5, k0, k1, k2, k3, k4, World.ownsRow.frozenAt hown (n * 5), World.ownsRow.frozenAt hown (n * 5 + 1), World.ownsRow.frozenAt hown (n * 5 + 2), World.ownsRow.frozenAt hown (n * 5 + 3), World.ownsRow.frozenAt hown (n * 5 + 4),
      ⟨_, HT.out w5 g1 c1 hown (by rw [HR.out]; exact hg2) (by rw [HR.out]; exact hgb2) hne⟩,
      below6 ((HW.out.mono hbw).grown hg2 hbw2 (fun k hk => (HF.out k hk).1)) (hgb2.elim (fun h => (HF.out g1 h).1) (fun h => Nat.le_trans hbw2 h)) HLO.out n (.int .i64 i.kind) (.string tx) (.slice pa i.pipe.length pc) (.slice ta i.th.length tc) (.slice ea i.el.length ec) (.slice (some ⟨g1, 0, none⟩) (n + 1) c1)⟩
  have HH : Hid ((w2.alloc (.cells #[.int .i64 0, .string ⟨#[]⟩, .slice none 0 0, .slice none 0 0, .slice none 0 0] 37)).drew.ownsRow base 37 5 (.slice ra n rc) n (icsCells zs)) := own_below HZR.out HLIT.out
  have HZ : Hid (base ≤ (w2.alloc (.cells #[.int .i64 0, .string ⟨#[]⟩, .slice none 0 0, .slice none 0 0, .slice none 0 0] 37)).drew.heap.size) := Nat.le_trans hbw2 HLIT.out.size
  have hn1 : n + 1 ≤ maxLen := by simp only [maxLen]; omega
  have hn2 : (n + 1) * 96 ≤ 140737488355328 := by omega
  have h1c : ∀ u ∈ (#[.int .i64 0, .string ⟨#[]⟩, .slice none 0 0, .slice none 0 0, .slice none 0 0] : Array Value).toList, u.oneCell' = true := by intro u hu; simp at hu; rcases hu with rfl | rfl | rfl <;> rfl
  have HN1 := Lib.hid hn1
  have HN2 := Lib.hid hn2
  have H1C := Lib.hid h1c
  clear HT HR HW HF HB HX HX5 HLO HG HZR HLIT hn1 hn2 h1c hl hbw hbw2
  go_upto_region 2 with (fail)
  go_region_law (refine step_app1 itInfo Tryz.underlying22 rfl (by decide) base rfl (.tmp 10) (.tmp 13) rfl (.slice ra n rc) n (icsCells zs) w2.heap.size #[.int .i64 0, .string ⟨#[]⟩, .slice none 0 0, .slice none 0 0, .slice none 0 0] (0, 0) 1 rfl rfl rfl H1C.out (heap_new w2 _) HH.out HZ.out HN1.out HN2.out ?_; intro g1 c1 w5 hown hg hgb; obtain ⟨hne, hne', b5, f5, k0, k1, k2, k3, k4, q0, q1, q2, q3, q4, HST, HBZ⟩ := HALL.out g1 c1 w5 hown hg hgb; clear hown hg hgb)
  all_goals go_wp2_with fail
  all_goals go_end0
  all_goals obtain ⟨rv, h1⟩ := HST.out
  all_goals have h2 := HBZ.out
  all_goals try rw [chain_swap _ _ _ _ _ _ _ _ _ _ hne']
  all_goals with_reducible exact AddPost.mk h1 h2
end Go.Proofs.YtdaffedbboofjaaGreatDoor.S
