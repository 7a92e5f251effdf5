/-
  THE WALK of package lex's text.
-/
import Derived.Test.YtdaffedbboofjaaGreatDoorLexWalks
import Derived.Shelf.Strings.SlTrimAscii
import Derived.Deep.DeepCutAuto
set_option linter.unusedVariables false
set_option linter.unusedSimpArgs false
namespace Go.Proofs.YtdaffedbboofjaaGreatDoor.S
open Go.RowKit

theorem blanks_ascii : ∀ (j : Nat) b, (⟨#[32, 9, 10]⟩ : ByteArray).data.toList[j]? = some b → b.toNat < 128 := by
  intro j b h
  have : b ∈ ([32, 9, 10] : List UInt8) := List.mem_of_getElem? h
  simp at this
  rcases this with rfl | rfl | rfl <;> decide
theorem trimLeft_calls (s : ByteArray) (l : List UInt8) (h : StrIs s l) (w : World) :
    Calls Tryz.prog 108 #[.string s, .string ⟨#[32, 9, 10]⟩] w fun e w' => ∃ r : ByteArray, e = .returned (.string r) ∧ StrIs r (trimL l) ∧ Below w.heap.size w w' :=
  (Any.strings_TrimLeft_laid Tryz.lays161 (by kernel_rfl) s ⟨#[32, 9, 10]⟩ w (by decide) blanks_ascii).mono fun _ _ ⟨he, hb⟩ => ⟨_, he, by rw [trimL_eq, ← h]; rfl, hb⟩
theorem trimRight_calls (s : ByteArray) (l : List UInt8) (h : StrIs s l) (w : World) (hs : s.size ≤ 9223372036854775807) :
    Calls Tryz.prog 110 #[.string s, .string ⟨#[32, 9, 10]⟩] w fun e w' => ∃ r : ByteArray, e = .returned (.string r) ∧ StrIs r (trimR l) ∧ Below w.heap.size w w' :=
  (Any.strings_TrimRight_laid Tryz.lays162 (by kernel_rfl) s ⟨#[32, 9, 10]⟩ w hs (by decide) blanks_ascii).mono fun _ _ ⟨he, hb⟩ => ⟨_, he, by rw [trimR_eq, ← h]; rfl, hb⟩
theorem trimBoth_calls (s : ByteArray) (l : List UInt8) (h : StrIs s l) (w : World) (hs : s.size ≤ 9223372036854775807) :
    Calls Tryz.prog 114 #[.string s, .string ⟨#[32, 9, 10]⟩] w fun e w' => ∃ r : ByteArray, e = .returned (.string r) ∧ StrIs r (trimR (trimL l)) ∧ Below w.heap.size w w' :=
  (Any.strings_Trim_laid Tryz.lays160 (by kernel_rfl) s ⟨#[32, 9, 10]⟩ w hs (by decide) blanks_ascii).mono fun _ _ ⟨he, hb⟩ => ⟨_, he, by rw [← trim_both, ← h]; rfl, hb⟩

theorem index_calls (s p : ByteArray) (l : List UInt8) (h : StrIs s l) (w : World) (hE : Env w) (hs : s.size < 4294967281) (hp : p.data.toList ≠ []) :
    Calls Tryz.prog 81 #[.string s, .string p] w fun e w' => e = .returned (.int .i64 (if hasI p.data.toList l = true then (cutI p.data.toList l : Int) else -1)) ∧ w = w' := by
  obtain ⟨m, hm⟩ := hE.maxLen
  exact (Tryz.strings_Index s p m w hs hm).mono fun _ _ ⟨he, hw⟩ => ⟨by rw [he, ← h, index_cut _ hp], hw.symm⟩

/-- rows of pieces -/
def pcCells (p : Pc) : List Value := [.bool p.act, .string ⟨p.text.toArray⟩, .int .i64 p.pos]
def Pcs (base : Nat) (v : Value) (ps : List Pc) (w : World) : Prop := w.ownsRow base 80 3 v ps.length (ps.flatMap pcCells)
theorem pieceInfo : (Tryz.prog.info? 80).map (fun i => (i.zero, i.size, i.bytes)) = some (some (.agg #[.bool false, .string ⟨#[]⟩, .int .i64 0]), 3, 32) := by kernel_rfl
theorem pcs_nil (base : Nat) (w : World) : Pcs base (.slice none 0 0) [] w := ⟨by simp, .inl ⟨rfl, rfl⟩⟩
section
variable {ops : Array Oper} {rest : List Oper} {o : Oper} {a : Act} {Q : Exit → Act → World → Prop}
/-- append(ps, p): the literal's block has just been laid -/
theorem wp_appPiece {w0 W : World} (B base : Nat) (hgd : o.guard = none) (s x : Operand)
    (ho : o.op = .call { callee := .builtin .append, args := #[s, x], argTypes := #[69, 69] })
    (v : Value) (ps : List Pc) (p : Pc) (cs : Array Value) (c : Nat) (hcs : cs.toList = pcCells p) (hs : a.eval s = v) (hx : a.eval x = .slice (some ⟨W.heap.size, 0, none⟩) 1 c)
    (HO : Pcs base v ps W) (HB : Below B w0 W) (hBb : B ≤ base) (hbase : base ≤ W.heap.size) (hl : ps.length ≤ 1099511627776)
    (h : ∀ v1 w1, Pcs base v1 (ps ++ [p]) w1 → Below B w0 w1 → W.grownBy w1 v.ownBlock → wpList Tryz.prog ops Q rest (a.put o.dst v1) w1) :
    wpList Tryz.prog ops Q (o :: rest) a (W.alloc (.cells cs 80)) := by
  obtain ⟨i0, hi, hz0, hz1, hz2⟩ := info_parts pieceInfo
  refine wpList_append_own (W.alloc (.cells cs 80)) hgd s x 69 ho base 80 i0 (.agg #[.bool false, .string ⟨#[]⟩, .int .i64 0]) 3 32 Tryz.underlying69 hi hz0 hz1 hz2 rfl (by decide) v ps.length (ps.flatMap pcCells) hs (own_below HO ((Below.refl _ W).alloc (Nat.le_refl _) _))
    ⟨W.heap.size, 0, none⟩ 1 c (pcCells p) hx rfl ?_ ?_ (by simp only [maxLen]; omega) (by omega) (by simp; omega) ?_
  · rw [← hcs]
    exact World.news_of_block (cs := cs) (t := 80) (fr := (0, 0)) (heap_new W _)
  · intro u hu
    simp only [pcCells, List.mem_cons, List.not_mem_nil, or_false] at hu
    rcases hu with rfl | rfl | rfl <;> rfl
  · intro v1 w1 hown hg _
    refine h v1 w1 ?_ ((HB.alloc (Nat.le_trans hBb hbase) _).grown hg (by simp; omega) fun k hk => Nat.le_trans hBb (own_base HO k hk)) ((World.grownBy_alloc W _ _).trans hg)
    unfold Pcs
    rw [List.length_append, List.flatMap_append]
    simpa using hown
/-- append(ps, p) as a step of a region that draws its order; the literal's block is known whole -/
theorem step_appPiece {K : Act → World → Prop} {E : Prop} {w0 W : World} (B base : Nat) (hgd : o.guard = none) (s x : Operand)
    (ho : o.op = .call { callee := .builtin .append, args := #[s, x], argTypes := #[69, 69] })
    (v : Value) (ps : List Pc) (p : Pc) (L : Nat) (cs : Array Value) (fr : Nat × Nat) (c : Nat) (hcs : cs.toList = pcCells p) (hs : a.eval s = v) (hx : a.eval x = .slice (some ⟨L, 0, none⟩) 1 c)
    (hL : W.heap[L]? = some (.cells cs 80 fr)) (HO : Pcs base v ps W) (HB : Below B w0 W) (hBb : B ≤ base) (hbase : base ≤ W.heap.size) (hl : ps.length ≤ 1099511627776)
    (h : ∀ a1 c1 w1, Pcs base (.slice a1 (ps.length + 1) c1) (ps ++ [p]) w1 → Below B w0 w1 → W.grownBy w1 v.ownBlock → K (a.put o.dst (.slice a1 (ps.length + 1) c1)) w1) :
    if Region.wanted o (yielded ops a.tmps) = true then Oper.wp Tryz.prog o a W K Q else E := by
  obtain ⟨i0, hi, hz0, hz1, hz2⟩ := info_parts pieceInfo
  refine step_append_lies W hgd s x 69 ho base 80 i0 (.agg #[.bool false, .string ⟨#[]⟩, .int .i64 0]) 3 32 Tryz.underlying69 hi hz0 hz1 hz2 rfl (by decide) v ps.length (ps.flatMap pcCells) hs HO
    ⟨L, 0, none⟩ 1 c (pcCells p) hx rfl ?_ ?_ (by decide) (by simp only [maxLen]; omega) (by omega) hbase _ rfl ?_
  · rw [← hcs]
    exact World.news_of_block hL
  · intro u hu
    simp only [pcCells, List.mem_cons, List.not_mem_nil, or_false] at hu
    rcases hu with rfl | rfl | rfl <;> rfl
  · intro g cap w1 hown hg _ _
    refine h _ _ w1 ?_ (HB.grown hg (by omega) fun k hk => Nat.le_trans hBb (own_base HO k hk)) hg
    unfold Pcs
    rw [List.length_append, List.flatMap_append]
    simpa using hown
end
/-- the cursor with its pieces -/
def Cur (g : Nat) (s : ByteArray) (i : Nat) (tr : Bool) (ps : List Pc) (w : World) : Prop := ∃ v, CurB g s i tr v w ∧ Pcs (g + 1) v ps w

/-- how many bytes the text and the opening with its mark take -/
def textN (l : List UInt8) : Nat := if hasI [123, 123] l = true then cutI [123, 123] l + 2 + markN (l.drop (cutI [123, 123] l + 2)) else cutI [123, 123] l
/-- the text itself -/
def textT (l : List UInt8) (tr : Bool) : List UInt8 := if hasI [123, 123] l = true ∧ markL (l.drop (cutI [123, 123] l + 2)) = true then trimR (headT l tr) else headT l tr

theorem headT_len (l : List UInt8) (tr : Bool) : (headT l tr).length ≤ l.length := by
  unfold headT
  split
  · exact Nat.le_trans (trimL_len _) (by simp; omega)
  · simp; omega
theorem headT_cut (l : List UInt8) (tr : Bool) : headT l tr = if tr = true then trimL (l.take (cutI [123, 123] l)) else l.take (cutI [123, 123] l) := rfl
theorem textT_cut (l : List UInt8) (tr : Bool) (h : hasI [123, 123] l = true) : textT l tr = if markL (l.drop (cutI [123, 123] l + 2)) = true then trimR (headT l tr) else headT l tr := by
  unfold textT
  simp only [h, true_and]
theorem textT_none (l : List UInt8) (tr : Bool) (h : hasI [123, 123] l = false) : textT l tr = headT l tr := by
  unfold textT
  simp only [h, Bool.false_eq_true, false_and, if_false]
theorem textN_some {l : List UInt8} (h : hasI [123, 123] l = true) : textN l = cutI [123, 123] l + 2 + markN (l.drop (cutI [123, 123] l + 2)) := if_pos h
theorem textN_none {l : List UInt8} (h : hasI [123, 123] l = false) : textN l = cutI [123, 123] l := if_neg (by simp [h])

set_option maxRecDepth 100000 in
set_option maxHeartbeats 4000000 in
theorem text_calls (g : Nat) (s : ByteArray) (i : Nat) (tr : Bool) (ps : List Pc) (w : World) (hE : Env w) (hC : Cur g s i tr ps w) (hi : i ≤ s.size) (hs : s.size ≤ 65536) (hl : ps.length ≤ 1099511627775) :
    Calls Tryz.prog 83 #[.pointer (some ⟨g, 0, none⟩)] w fun e w' => e = .returned (.tuple #[]) ∧ Cur g s (i + textN (s.data.toList.drop i)) false (ps ++ txtP (textT (s.data.toList.drop i) tr) i) w' ∧ Below g w w' := by
  obtain ⟨v, hB, hP⟩ := hC
  have hbase : g + 1 ≤ w.heap.size := hB.lt
  have c1 := hB.cell 1 _ rfl
  obtain ⟨l, hl0⟩ : ∃ l, l = s.data.toList.drop i := ⟨_, rfl⟩
  have hll := congrArg List.length hl0
  rw [List.length_drop, size_list] at hll
  rw [← hl0]
  have HL := Lib.hid hl0
  clear hl0
  have HLL := Lib.hid hll
  clear hll
  cases hh : hasI [123, 123] l with
  | true =>
    obtain ⟨c, hc⟩ : ∃ c, c = cutI [123, 123] l := ⟨_, rfl⟩
    have hle := (cutI_some [123, 123] (by simp) l hh).2
    rw [← hc, HLL.out] at hle
    have hTN := textN_some hh
    have HC := Lib.hid hc
    have HH := Lib.hid hh
    have HTN := Lib.hid hTN
    have hle2 : i + c + 2 ≤ s.size := by simp only [List.length_cons, List.length_nil] at hle; omega
    clear hc hTN hh hle
    have hsl := fun W => run_slice_string (P := Tryz.prog) (w := W) 9 s .i64 .i64 (i : Int) ((i : Int) + c) Tryz.underlying9 (by omega) (by omega) (by omega)
    have e1 : ((i : Int) + (c : Int)).toNat = i + c := by omega
    simp only [e1, Int.toNat_natCast] at hsl
    clear e1
    go_enter Tryz.func83, Tryz.ntmps83
    go_wp2_with fail
    refine (rest_calls g s i tr v _ hB hi (by omega)).mono ?_
    rintro e w1 ⟨r, rfl, hr, hb1⟩
    rw [← HL.out] at hr
    have hB1 := hB.below hb1
    have hE1 := hE.below hb1
    have hg1 := grownBy_below (row := some g) hb1
    have hrs := hr.size
    rw [HLL.out] at hrs
    have HRS := Lib.hid hrs
    clear hrs
    go_wp2_with fail
    refine (index_calls r ⟨#[123, 123]⟩ l hr _ hE1 (by rw [HRS.out]; omega) (by simp)).mono ?_
    rw [show (⟨#[123, 123]⟩ : ByteArray).data.toList = [123, 123] from rfl, HH.out, if_pos rfl, ← HC.out]
    rintro e w2 ⟨rfl, rfl⟩
    have c0 := hB1.cell 0 _ rfl
    have c1 := hB1.cell 1 _ rfl
    have c2 := hB1.cell 2 _ rfl
    have f1 := hB1.free 1
    go_upto_if 48 with (fail)
    have hB2 := (hB1.goto ((i : Int) + c) (i + c) (by omega)).goto ((i : Int) + c + 2) (i + c + 2) (by omega)
    have hg2 := (hg1.trans (grownBy_set w1 g 1 (.int .i64 ((i : Int) + c)))).trans (grownBy_set _ g 1 (.int .i64 ((i : Int) + c + 2)))
    generalize (w1.setCell ⟨g, 1, none⟩ (.int .i64 ((i : Int) + c))).setCell ⟨g, 1, none⟩ (.int .i64 ((i : Int) + c + 2)) = w2 at *
    have ht0 : StrIs (s.extract i (i + c)) (l.take c) := by
      show _ = _
      rw [Lib.extract_data, HL.out, show i + c - i = c by omega]
    have ht0' := headT_cut l tr
    rw [← HC.out] at ht0'
    generalize s.extract i (i + c) = t0 at *
    clear c0 c1 c2 f1
    go_cut [5] (fun v5 wx => ∃ t, v5 = .string t ∧ StrIs t (headT l tr) ∧ CurB g s (i + c + 2) tr v wx ∧ w.grownBy wx (some g))
    case first =>
      cases tr with
      | true =>
        go_wp2_with fail
        refine (trimLeft_calls t0 _ ht0 _).mono ?_
        rintro e w3 ⟨t, rfl, ht, hb3⟩
        go_wp2
        go_meet
        exact ⟨t, rfl, by rw [ht0']; exact ht, hB2.below hb3, hg2.trans (grownBy_below hb3)⟩
      | false =>
        go_wp2
        go_meet
        exact ⟨t0, rfl, by rw [ht0']; exact ht0, hB2, hg2⟩
    case rest =>
    obtain ⟨t, rfl, ht, hB3, hg3⟩ := hcut
    clear hB2 hg2 ht0 ht0' hsl
    have hld : s.data.toList.drop (i + c + 2) = l.drop (c + 2) := by rw [HL.out, List.drop_drop, Nat.add_assoc]
    obtain ⟨d, hd⟩ : ∃ d, d = l.drop (c + 2) := ⟨_, rfl⟩
    have hmk := fun W hW => mark_calls g s (i + c + 2) tr v W hW (by omega) (by omega)
    rw [hld, ← hd] at hmk
    have hT := textT_cut l tr HH.out
    have hN := HTN.out
    rw [← HC.out, ← hd] at hT hN
    have HT := Lib.hid hT
    have HN := Lib.hid hN
    have HM := Lib.hid hmk
    clear hld hd hT hN hmk
    go_upto_if 55 with (go_at_call 109; refine (HM.out _ hB3).mono ?_; rintro e w4 ⟨rfl, hB4, hg4'⟩)
    have hg4 := hg3.trans hg4'
    clear hB3 hg3 hg4'
    go_cut [5] (fun v5 wx => ∃ t, v5 = .string t ∧ StrIs t (textT l tr) ∧ CurB g s (i + c + 2 + markN d) tr v wx ∧ w.grownBy wx (some g))
    case first =>
      cases hm : markL d with
      | true =>
        rw [hm, if_pos rfl] at HT
        go_wp2_with fail
        refine (trimRight_calls t _ ht _ (by rw [ht.size]; have := headT_len l tr; rw [HLL.out] at this; omega)).mono ?_
        rintro e w5 ⟨t', rfl, ht', hb5⟩
        go_wp2
        go_meet
        exact ⟨t', rfl, by rw [HT.out]; exact ht', hB4.below hb5, hg4.trans (grownBy_below hb5)⟩
      | false =>
        rw [hm, if_neg (by simp)] at HT
        go_wp2
        go_meet
        exact ⟨t, rfl, by rw [HT.out]; exact ht, hB4, hg4⟩
    case rest =>
    clear hB4 hg4 ht
    obtain ⟨t, rfl, ht, hB4, hg4⟩ := hcut
    have f2 := hB4.free 2
    have c2 := hB4.cell 2 _ rfl
    go_upto_region 14 with (fail)
    have hB5 := hB4.untrim
    have hg5 := hg4.trans (grownBy_set wc g 2 (.bool false))
    generalize wc.setCell ⟨g, 2, none⟩ (.bool false) = w5 at *
    clear c2 f2
    have c3 := hB5.cell 3 _ rfl
    have f3 := hB5.free 3
    have hne : v.ownBlock ≠ some g := fun h => by have := own_base hP g h; omega
    have hP5 : Pcs (g + 1) v ps w5 := World.ownsRow.kept hP hg5 (.inr hne)
    have hb5 : Below g w w5 := (Below.refl g w).grown hg5 (by omega) (fun k hk => by simp at hk; omega)
    have hz5 := hg5.size
    by_cases h0 : t.size = 0
    · have h1 := empty_test h0
      have h2 : textT l tr = [] := by rw [← ht]; exact nil_of_size h0
      go_wp2
      go_end0
      rw [HN.out, h2]
      exact ⟨rfl, ⟨v, by rw [← Nat.add_assoc, ← Nat.add_assoc]; exact hB5, by simpa [txtP] using hP5⟩, hb5⟩
    · have h1 := nonempty_test h0
      have h2 : textT l tr ≠ [] := fun h => h0 (by rw [ht.size, h]; rfl)
      have h3 : txtP (textT l tr) i = [⟨false, textT l tr, i⟩] := if_neg h2
      have HEQ := Lib.hid ht.eq
      have HH2 := Lib.hid h2
      clear h2 ht
      go_wp2_with (at_builtin; refine wp_appPiece g (g + 1) rfl (.tmp 67) (.tmp 71) rfl v ps ⟨false, textT l tr, i⟩ _ 1 ?hcs rfl rfl hP5 hb5 (by omega) (by omega) (by omega) ?_; (case hcs => rw [HEQ.out]; rfl); intro v6 w6 hP6 hb6 hg6; obtain ⟨sa, sc, rfl, -⟩ := own_slice hP6; have hB6 := hB5.grown hg6 (fun h => hne h.symm); have f6 := hB6.free 3; have c6 := hB6.cell 3 _ rfl)
      go_end0
      rw [HN.out, h3]
      have hlen : (ps ++ [(⟨false, textT l tr, i⟩ : Pc)]).length = ps.length + 1 := by simp
      rw [hlen] at hP6
      refine ⟨rfl, ⟨_, by rw [← Nat.add_assoc, ← Nat.add_assoc]; exact hB6.puts _, own_set hP6 (fun h => by have := own_base hP6 g h; omega) 3 _⟩, hb6.setCell (Nat.le_refl _) _⟩
  | false =>
    obtain ⟨c, hc⟩ : ∃ c, c = cutI [123, 123] l := ⟨_, rfl⟩
    have hcl := cutI_none [123, 123] l hh
    rw [← hc] at hcl
    have hTN := textN_none hh
    rw [← hc] at hTN
    have hTT := textT_none l tr hh
    have HTN := Lib.hid hTN
    have HTT := Lib.hid hTT
    have HH := Lib.hid hh
    have hcs : i + c = s.size := by rw [hcl, HLL.out]; omega
    have HCS := Lib.hid hcs
    have HC := Lib.hid hcl
    clear hcl hTN hTT hh hc
    have hcc : c ≤ s.size := by omega
    have hsl := fun W => run_slice_string (P := Tryz.prog) (w := W) 9 s .i64 .i64 (i : Int) ((i : Int) + c) Tryz.underlying9 (by omega) (by omega) (by omega)
    have e1 : ((i : Int) + (c : Int)).toNat = i + c := by omega
    simp only [e1, Int.toNat_natCast] at hsl
    clear e1 hcs
    go_enter Tryz.func83, Tryz.ntmps83
    go_wp2_with fail
    refine (rest_calls g s i tr v _ hB hi (by omega)).mono ?_
    rintro e w1 ⟨r, rfl, hr, hb1⟩
    rw [← HL.out] at hr
    have hB1 := hB.below hb1
    have hE1 := hE.below hb1
    have hg1 := grownBy_below (row := some g) hb1
    have hrs := hr.size
    rw [HLL.out] at hrs
    have HRS := Lib.hid hrs
    clear hrs
    go_wp2_with fail
    refine (index_calls r ⟨#[123, 123]⟩ l hr _ hE1 (by rw [HRS.out]; omega) (by simp)).mono ?_
    rw [show (⟨#[123, 123]⟩ : ByteArray).data.toList = [123, 123] from rfl, HH.out, if_neg (by simp)]
    rintro e w2 ⟨rfl, rfl⟩
    go_wp2_with fail
    refine (rest_calls g s i tr v _ hB1 hi (by omega)).mono ?_
    rintro e w2 ⟨r2, rfl, hr2, hb2⟩
    have hB1' := hB1.below hb2
    have hg1' := hg1.trans (grownBy_below (row := some g) hb2)
    have hr2s : (r2.size : Int) = c := by
      have := hr2.size
      rw [← HL.out, ← HC.out] at this
      omega
    clear hB1 hg1 hr2 hb2 hr hb1
    have hB1 := hB1'
    have hg1 := hg1'
    clear hB1' hg1'
    have c0 := hB1.cell 0 _ rfl
    have c1 := hB1.cell 1 _ rfl
    have c2 := hB1.cell 2 _ rfl
    have f1 := hB1.free 1
    go_upto_if 48 with (fail)
    have hB2 := hB1.goto ((i : Int) + c) (i + c) (by omega)
    have hg2 := hg1.trans (grownBy_set w2 g 1 (.int .i64 ((i : Int) + c)))
    generalize w2.setCell ⟨g, 1, none⟩ (.int .i64 ((i : Int) + c)) = w3 at *
    have ht0 : StrIs (s.extract i (i + c)) (l.take c) := by
      show _ = _
      rw [Lib.extract_data, HL.out, show i + c - i = c by omega]
    have ht0' := headT_cut l tr
    rw [cutI_none [123, 123] l HH.out, ← HC.out] at ht0'
    generalize s.extract i (i + c) = t0 at *
    clear c0 c1 c2 f1
    go_cut [5] (fun v5 wx => ∃ t, v5 = .string t ∧ StrIs t (headT l tr) ∧ CurB g s (i + c) tr v wx ∧ w.grownBy wx (some g))
    case first =>
      cases tr with
      | true =>
        go_wp2_with fail
        refine (trimLeft_calls t0 _ ht0 _).mono ?_
        rintro e w3 ⟨t, rfl, ht, hb3⟩
        go_wp2
        go_meet
        exact ⟨t, rfl, by rw [ht0']; exact ht, hB2.below hb3, hg2.trans (grownBy_below hb3)⟩
      | false =>
        go_wp2
        go_meet
        exact ⟨t0, rfl, by rw [ht0']; exact ht0, hB2, hg2⟩
    case rest =>
    clear hB2 hg2 ht0 ht0' hsl hB1 hg1 hB
    obtain ⟨t, rfl, ht, hB4, hg4⟩ := hcut
    rw [← HTT.out] at ht
    have f2 := hB4.free 2
    have c2 := hB4.cell 2 _ rfl
    go_upto_region 14 with (fail)
    have hB5 := hB4.untrim
    have hg5 := hg4.trans (grownBy_set wc g 2 (.bool false))
    generalize wc.setCell ⟨g, 2, none⟩ (.bool false) = w5 at *
    clear c2 f2
    have c3 := hB5.cell 3 _ rfl
    have f3 := hB5.free 3
    have hne : v.ownBlock ≠ some g := fun h => by have := own_base hP g h; omega
    have hP5 : Pcs (g + 1) v ps w5 := World.ownsRow.kept hP hg5 (.inr hne)
    have hb5 : Below g w w5 := (Below.refl g w).grown hg5 (by omega) (fun k hk => by simp at hk; omega)
    have hz5 := hg5.size
    by_cases h0 : t.size = 0
    · have h1 := empty_test h0
      have h2 : textT l tr = [] := by rw [← ht]; exact nil_of_size h0
      go_wp2
      go_end0
      rw [HTN.out, h2]
      exact ⟨rfl, ⟨v, hB5, by simpa [txtP] using hP5⟩, hb5⟩
    · have h1 := nonempty_test h0
      have h2 : textT l tr ≠ [] := fun h => h0 (by rw [ht.size, h]; rfl)
      have h3 : txtP (textT l tr) i = [⟨false, textT l tr, i⟩] := if_neg h2
      have HEQ := Lib.hid ht.eq
      have HH2 := Lib.hid h2
      clear h2 ht
      go_wp2_with (at_builtin; refine wp_appPiece g (g + 1) rfl (.tmp 67) (.tmp 71) rfl v ps ⟨false, textT l tr, i⟩ _ 1 ?hcs rfl rfl hP5 hb5 (by omega) (by omega) (by omega) ?_; (case hcs => rw [HEQ.out]; rfl); intro v6 w6 hP6 hb6 hg6; obtain ⟨sa, sc, rfl, -⟩ := own_slice hP6; have hB6 := hB5.grown hg6 (fun h => hne h.symm); have f6 := hB6.free 3; have c6 := hB6.cell 3 _ rfl)
      go_end0
      rw [HTN.out, h3]
      have hlen : (ps ++ [(⟨false, textT l tr, i⟩ : Pc)]).length = ps.length + 1 := by simp
      rw [hlen] at hP6
      refine ⟨rfl, ⟨_, hB6.puts _, own_set hP6 (fun h => by have := own_base hP6 g h; omega) 3 _⟩, hb6.setCell (Nat.le_refl _) _⟩
end Go.Proofs.YtdaffedbboofjaaGreatDoor.S
