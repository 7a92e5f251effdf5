/-
  THE WALK of package words' all.
-/
import Derived.Test.YtdaffedbboofjaaGreatDoorWordWord
import Derived.Test.YtdaffedbboofjaaGreatDoorPlainW2
import Derived.Deep.RegionLaw
import Derived.Deep.RegionHeld3
import Derived.StillTailTactics
import Derived.Deep.RegionWith
set_option linter.unusedVariables false
set_option linter.unusedSimpArgs false
namespace Go.Proofs.YtdaffedbboofjaaGreatDoor.S
open Go.RowKit

/-- rows of words, each with its path's row -/
def wdCells (d : Wd) (pv : Value) : List Value := [.int .i64 d.kind, .string ⟨d.text.toArray⟩, pv, .int .i64 d.num]
def zsCells (zs : List (Wd × Value)) : List Value := zs.flatMap fun z => wdCells z.1 z.2
structure WdsZ (base : Nat) (v : Value) (zs : List (Wd × Value)) (W : World) : Prop where
  row : W.ownsRow base 116 4 v zs.length (zsCells zs)
  paths : ∀ z ∈ zs, Strs base z.2 z.1.path W
def Wds (base : Nat) (v : Value) (ds : List Wd) (W : World) : Prop := ∃ zs, zs.map Prod.fst = ds ∧ WdsZ base v zs W
theorem wdInfo : (Tryz.prog.info? 116).map (fun i => (i.zero, i.size, i.bytes)) = some (some (.agg #[.int .i64 0, .string ⟨#[]⟩, .slice none 0 0, .int .i64 0]), 4, 56) := by kernel_rfl
theorem wds_nil (base : Nat) (W : World) : Wds base (.slice none 0 0) [] W := ⟨[], rfl, ⟨by simp [zsCells], .inl ⟨rfl, rfl⟩⟩, fun z hz => by cases hz⟩
theorem Wds.grown {base g : Nat} {v : Value} {ds : List Wd} {w w' : World} (h : Wds base v ds w) (hg : w.grownBy w' (some g)) (hb : g < base) : Wds base v ds w' :=
  let ⟨zs, hz, hr, hp⟩ := h
  ⟨zs, hz, World.ownsRow.kept hr hg (.inr fun e => by have := own_base hr g e; omega), fun z hz => (hp z hz).grown hg hb⟩
theorem Wds.below {base : Nat} {v : Value} {ds : List Wd} {w w' : World} (h : Wds base v ds w) (hb : Below w.heap.size w w') : Wds base v ds w' :=
  let ⟨zs, hz, hr, hp⟩ := h
  ⟨zs, hz, own_below hr hb, fun z hz => own_below (hp z hz) hb⟩
theorem Wds.slice {base : Nat} {v : Value} {ds : List Wd} {w : World} (h : Wds base v ds w) : ∃ a c, v = .slice a ds.length c := by
  obtain ⟨zs, rfl, hr, _⟩ := h
  obtain ⟨a, c, h, _⟩ := own_slice hr
  exact ⟨a, c, by rw [List.length_map]; exact h⟩
theorem Wds.base_le {base : Nat} {v : Value} {ds : List Wd} {w : World} (h : Wds base v ds w) (k : Nat) (hk : v.ownBlock = some k) : base ≤ k := by
  obtain ⟨zs, rfl, hr, _⟩ := h
  exact own_base hr k hk
theorem wds_more {w w2 w3 : World} {base : Nat} {v : Value} {ds : List Wd} {row : Option Nat} (h : w.grownBy w2 row) (hO : Wds base v ds w2) (hb : w.heap.size ≤ base) (hg : w2.grownBy w3 v.ownBlock) : w.grownBy w3 row :=
  let ⟨zs, _, hr, _⟩ := hO
  grown_more h hr hb hg
theorem paths_ne {base base' : Nat} {v pv : Value} {zs : List (Wd × Value)} {xs : List (List UInt8)} {W : World} (hr : W.ownsRow base 116 4 v zs.length (zsCells zs)) (hp : Strs base' pv xs W) : pv.ownBlock = none ∨ pv.ownBlock ≠ v.ownBlock := by
  rcases hp.2 with ⟨rfl, _⟩ | ⟨g', cap', cur', rfl, _, hh', _⟩
  · exact .inl rfl
  · refine .inr fun e => ?_
    rcases hr.2 with ⟨rfl, _⟩ | ⟨g, cap, cur, rfl, _, hh, _⟩
    · simp [Value.ownBlock] at e
    · have : g' = g := by simpa [Value.ownBlock] using e
      subst this
      rw [hh] at hh'
      injection hh' with hh'
      injection hh' with _ h2
      exact absurd h2 (by decide)
section
variable {ops : Array Oper} {rest : List Oper} {o : Oper} {a : Act} {Q : Exit → Act → World → Prop}
theorem wds_snoc {base : Nat} {v v1 : Value} {ds : List Wd} {d : Wd} {pv : Value} {W w1 : World} {zs : List (Wd × Value)} (hz : zs.map Prod.fst = ds) (hW : WdsZ base v zs W) (hP : Strs base pv d.path W)
    (hown : w1.ownsRow base 116 4 v1 (zs.length + 1) (zsCells zs ++ wdCells d pv)) (hg : W.grownBy w1 v.ownBlock) : Wds base v1 (ds ++ [d]) w1 := by
  refine ⟨zs ++ [(d, pv)], by rw [List.map_append, hz]; rfl, ?_, ?_⟩
  · rw [List.length_append]
    unfold zsCells at *
    rw [List.flatMap_append]
    simpa using hown
  · intro z hzm
    rcases List.mem_append.1 hzm with h | h
    · exact World.ownsRow.kept (hW.paths z h) hg (paths_ne hW.row (hW.paths z h))
    · rw [List.mem_singleton.1 h]
      exact World.ownsRow.kept hP hg (paths_ne hW.row hP)
/-- append(ws, w): the literal's block has just been laid -/
theorem wp_appWord {W : World} (base : Nat) (hgd : o.guard = none) (s x : Operand)
    (ho : o.op = .call { callee := .builtin .append, args := #[s, x], argTypes := #[112, 112] })
    (v : Value) (ds : List Wd) (d : Wd) (pv : Value) (cs : Array Value) (hcs : cs.toList = wdCells d pv) (h1 : pv.oneCell' = true) (c : Nat) (hs : a.eval s = v) (hx : a.eval x = .slice (some ⟨W.heap.size, 0, none⟩) 1 c)
    (HO : Wds base v ds W) (HP : Strs base pv d.path W) (hbase : base ≤ W.heap.size) (hl : ds.length ≤ 1099511627776)
    (h : ∀ v1 w1, Wds base v1 (ds ++ [d]) w1 → W.grownBy w1 v.ownBlock → wpList Tryz.prog ops Q rest (a.put o.dst v1) w1) :
    wpList Tryz.prog ops Q (o :: rest) a (W.alloc (.cells cs 116)) := by
  obtain ⟨i0, hi, hz0, hz1, hz2⟩ := info_parts wdInfo
  obtain ⟨zs, rfl, hr, hp⟩ := HO
  have hb := (Below.refl _ W).alloc (Nat.le_refl _) (.cells cs 116)
  rw [List.length_map] at hl
  refine wpList_append_own (W.alloc (.cells cs 116)) hgd s x 112 ho base 116 i0 (.agg #[.int .i64 0, .string ⟨#[]⟩, .slice none 0 0, .int .i64 0]) 4 56 Tryz.underlying112 hi hz0 hz1 hz2 rfl (by decide) v zs.length (zsCells zs) hs (own_below hr hb)
    ⟨W.heap.size, 0, none⟩ 1 c (wdCells d pv) hx rfl ?_ ?_ (by simp only [maxLen]; omega) (by omega) (by simp; omega) ?_
  · rw [← hcs]
    exact World.news_of_block (cs := cs) (t := 116) (fr := (0, 0)) (heap_new W _)
  · intro u hu
    simp only [wdCells, List.mem_cons, List.not_mem_nil, or_false] at hu
    rcases hu with rfl | rfl | rfl | rfl
    · rfl
    · rfl
    · exact h1
    · rfl
  · intro v1 w1 hown hg _
    have hga := (World.grownBy_alloc W _ _).trans hg
    exact h v1 w1 (wds_snoc rfl ⟨hr, hp⟩ HP hown hga) hga
/-- append(ws, w) as a step of a region that draws its order -/
theorem step_appWord {K : Act → World → Prop} {E : Prop} {W : World} (base : Nat) (hgd : o.guard = none) (s x : Operand)
    (ho : o.op = .call { callee := .builtin .append, args := #[s, x], argTypes := #[112, 112] })
    (v : Value) (ds : List Wd) (d : Wd) (pv : Value) (L : Nat) (cs : Array Value) (fr : Nat × Nat) (hcs : cs.toList = wdCells d pv) (h1 : pv.oneCell' = true) (c : Nat) (hs : a.eval s = v) (hx : a.eval x = .slice (some ⟨L, 0, none⟩) 1 c)
    (hL : W.heap[L]? = some (.cells cs 116 fr)) (HO : Wds base v ds W) (HP : Strs base pv d.path W) (hbase : base ≤ W.heap.size) (hl : ds.length ≤ 1099511627776)
    (h : ∀ a1 c1 w1, Wds base (.slice a1 (ds.length + 1) c1) (ds ++ [d]) w1 → W.grownBy w1 v.ownBlock → K (a.put o.dst (.slice a1 (ds.length + 1) c1)) w1) :
    if Region.wanted o (yielded ops a.tmps) = true then Oper.wp Tryz.prog o a W K Q else E := by
  obtain ⟨i0, hi, hz0, hz1, hz2⟩ := info_parts wdInfo
  obtain ⟨zs, rfl, hr, hp⟩ := HO
  rw [List.length_map] at hl
  refine step_append_lies W hgd s x 112 ho base 116 i0 (.agg #[.int .i64 0, .string ⟨#[]⟩, .slice none 0 0, .int .i64 0]) 4 56 Tryz.underlying112 hi hz0 hz1 hz2 rfl (by decide) v zs.length (zsCells zs) hs hr
    ⟨L, 0, none⟩ 1 c (wdCells d pv) hx rfl ?_ ?_ (by decide) (by simp only [maxLen]; omega) (by omega) hbase _ rfl ?_
  · rw [← hcs]
    exact World.news_of_block hL
  · intro u hu
    simp only [wdCells, List.mem_cons, List.not_mem_nil, or_false] at hu
    rcases hu with rfl | rfl | rfl | rfl
    · rfl
    · rfl
    · exact h1
    · rfl
  · intro g cap w1 hown hg _ _
    have hw := wds_snoc rfl ⟨hr, hp⟩ HP hown hg
    rw [List.length_map] at h
    exact h _ _ w1 hw hg
end
set_option maxRecDepth 100000 in
set_option maxHeartbeats 8000000 in
theorem wall_calls (g : Nat) (s : ByteArray) (l : List UInt8) (w : World) (hE : EnvAt g w) (hB : Rd g s (.slice none 0 0) w) (hl : StrIs s l) (hs : s.size ≤ 1073741824) :
    Calls Tryz.prog 89 #[.pointer (some ⟨g, 0, none⟩)] w fun e w' =>
      (∀ ds, allF (l.length + 1) l = .ok ds → ∃ (s' : ByteArray) (v : Value), e = .returned (.tuple #[]) ∧ Rd g s' v w' ∧ Wds w.heap.size v ds w') ∧ (∀ c, allF (l.length + 1) l = .error c → e = pan c) ∧ w.grownBy w' (some g) := by
  have hgl := hB.lt
  have hll : l.length = s.size := hl.size.symm
  obtain ⟨T, hT⟩ : ∃ T, T = allF (l.length + 1) l := ⟨_, rfl⟩
  rw [← hT]
  have hT' : AllAt T [] (l.length + 1) l := by
    unfold AllAt
    rw [hT]
    cases allF (l.length + 1) l <;> rfl
  have HE := Lib.hid (fun W (h : w.grownBy W (some g)) => hE.below (Below.grow1 h (by omega) (Nat.le_refl g)))
  clear hT hE
  go_enter Tryz.func89, Tryz.ntmps89
  go_wp2
  go_loopg [16] (l.length + 1) (fun gk _ wr => ∃ (acc : List Wd) (s' : ByteArray) (l' : List UInt8) (v : Value), l'.length + 1 ≤ gk ∧ acc.length + gk ≤ l.length + 1 ∧ StrIs s' l' ∧ Rd g s' v wr ∧ Wds w.heap.size v acc wr ∧ w.grownBy wr (some g) ∧ Hid (AllAt T acc gk l'))
  case atStart => exact ⟨[], s, l, _, Nat.le_refl _, by simp, hl, hB, wds_nil _ _, World.grownBy.refl _ _, hT'⟩
  case round =>
    obtain ⟨acc, s', l', v, hlg, hag, hs', hBr, hO, hgr, hA⟩ := hrel
    obtain ⟨n, rfl⟩ : ∃ n, gk = n + 1 := ⟨gk - 1, by omega⟩
    have HLG := Lib.hid hlg
    have HAG := Lib.hid hag
    clear hlg hag hT'
    have c0 := hBr.cell 0 _ rfl
    go_wp2_with fail
    refine (trimLeft_calls s' l' hs' _).mono ?_
    rintro e w1 ⟨s1, rfl, hs1, hb1⟩
    have hB1 := hBr.below hb1
    have hB2 := hB1.set 0 (.string s1)
    have hg2 := (hgr.trans (grownBy_below hb1)).trans (grownBy_set w1 g 0 (.string s1))
    have hO2 := (hO.below hb1).grown (grownBy_set w1 g 0 (.string s1)) hgl
    have c0 := hB1.cell 0 _ rfl
    have f0 := hB1.free 0
    have htl := trimL_len l'
    go_upto_region 1 with (fail)
    clear hBr hO hgr hs' hb1 hB1 c0 f0
    generalize w1.setCell ⟨g, 0, none⟩ (.string s1) = w2 at *
    have c0 := hB2.cell 0 _ rfl
    by_cases ht : trimL l' = []
    · have hT := all_end hA.out ht
      have HT := Lib.hid hT
      have h1 := empty_test (t := s1) (by rw [hs1.size, ht]; rfl)
      clear hT hA ht
      go_wp2
      refine bodyPost_ret (v := .tuple #[]) (by simp [results, Tryz.results89, go_sem]) rfl ?_
      refine ⟨fun ds h => ?_, fun c h => ?_, hg2⟩
      · rw [HT.out] at h
        cases h
        exact ⟨s1, v, rfl, hB2, hO2⟩
      · rw [HT.out] at h
        cases h
    · have h1 := nonempty_test (t := s1) (fun h0 => ht (List.eq_nil_of_length_eq_zero (by rw [← hs1.size]; exact h0)))
      have htl2 : (trimL l').length = s1.size := hs1.size.symm
      have hs1z : 0 < s1.size ∧ s1.size ≤ s.size := ⟨by rw [← htl2]; exact List.length_pos_iff.2 ht, by have h5 := HLG.out; have h6 := HAG.out; omega⟩
      have hAP := fun hp => all_pipe hA.out ht hp
      have hAE := fun hp e hw => all_err (e := e) hA.out ht hp hw
      have hAN := fun hp d r hw he => all_ends (d := d) (r := r) hA.out ht hp hw he
      have hAG := fun hp d r hw he => all_go (d := d) (r := r) hA.out ht hp hw he
      have hWL := fun d r h => wordL_len (d := d) (r := r) ht h
      generalize trimL l' = l1 at *
      have HT := Lib.hid ht
      have HAP := Lib.hid hAP
      have HAE := Lib.hid hAE
      have HAN := Lib.hid hAN
      have HAGO := Lib.hid hAG
      have HWL := Lib.hid hWL
      have HTL := Lib.hid htl
      have HTL2 := Lib.hid htl2
      clear ht hAP hAE hAN hAG hWL hA htl htl2
      go_wp2_with fail
      refine (whas_calls g s1 ⟨#[124]⟩ v l1 _ hB2 hs1).mono ?_
      rintro e w3 ⟨s3, rfl, hs3, hB3, hg3⟩
      have hgr3 := hg2.trans hg3
      have hO3 := hO2.grown hg3 hgl
      have hne : some g ≠ v.ownBlock := fun e => by have := hO3.base_le g e.symm; omega
      have hz3 := hgr3.size
      clear c0 hB2 hg2 hO2 hg3
      have c0 := hB3.cell 0 _ rfl
      have c1 := hB3.cell 1 _ rfl
      obtain ⟨va, vc, rfl⟩ := hO3.slice
      have hal : acc.length ≤ 1099511627776 := by have := HAG.out; omega
      cases hp : List.isPrefixOf [124] l1 with
      | true =>
        rw [show cutP (⟨#[124]⟩ : ByteArray).data.toList l1 = l1.drop 1 from cutP_yes hp] at hs3
        have hA2 := HAP.out hp
        have HA := Lib.hid hA2
        clear hp hA2 HAP HAE HAN HAGO HWL
        go_wp2_with (at_builtin; refine wp_appWord w.heap.size rfl (.tmp 21) (.tmp 23) rfl (.slice va acc.length vc) acc ⟨5, [], [], 0⟩ (.slice none 0 0) _ rfl rfl 1 rfl rfl hO3 (strs_nil _ _) hz3 hal ?_; intro v1 w5 hO5 hg5; obtain ⟨sa, sc, rfl⟩ := hO5.slice; have hB5 := Blk.grown hB3 hg5 hne; have c1 := hB5.cell 1 _ rfl; have f1 := hB5.free 1; have hgr5 := wds_more hgr3 hO3 (Nat.le_refl _) hg5)
        go_roundg n
        case measure => omega
        case rel =>
          have hd : (l1.drop 1).length + 1 ≤ n := by have h5 := HLG.out; have h6 := HTL.out; have h7 := HTL2.out; rw [List.length_drop]; omega
          refine ⟨acc ++ [(⟨5, [], [], 0⟩ : Wd)], s3, _, _, hd, by have := HAG.out; simp only [List.length_append, List.length_cons, List.length_nil]; omega, hs3, hB5.set 1 _, ?_, hgr5.trans (grownBy_set _ g 1 _), HA.out⟩
          have hx := hO5.grown (grownBy_set w5 g 1 (.slice sa (acc ++ [(⟨5, [], [], 0⟩ : Wd)]).length sc)) hgl
          simpa using hx
      | false =>
        rw [show cutP (⟨#[124]⟩ : ByteArray).data.toList l1 = l1 from cutP_no hp] at hs3
        have hs3z : s3.size = s1.size := by rw [hs3.size, HTL2.out]
        have hC := fun W hW hE => wword_calls g s3 (.slice va acc.length vc) l1 W hE hW hs3 (by omega) (by omega)
        cases hS : wordL l1 with
        | error c =>
          have hT := HAE.out hp c hS
          have HTT := Lib.hid hT
          clear hT hp HAP HAE HAN HAGO HWL
          go_upto_region 4 with (fail)
          have hgd : w.grownBy w3.drew (some g) := ⟨hgr3.os, hgr3.tape, hgr3.output, hgr3.size, hgr3.block⟩
          have hCC := hC w3.drew hB3 (HE.out _ hgd)
          have hEND : ∀ w5, w3.drew.grownBy w5 (some g) → (∀ ds, T = .ok ds → ∃ (s' : ByteArray) (v : Value), (pan c) = .returned (.tuple #[]) ∧ Rd g s' v w5 ∧ Wds w.heap.size v ds w5) ∧ (∀ c', T = .error c' → pan c = pan c') ∧ w.grownBy w5 (some g) := fun w5 h5 => by
            refine ⟨fun ds h => ?_, fun c' h => ?_, hgd.trans h5⟩
            · rw [HTT.out] at h
              cases h
            · rw [HTT.out] at h
              cases h
              rfl
          have HEND := Lib.hid hEND
          clear hEND
          refine wp_region_any (by kernel_rfl) ?_
          change wpAny _ _ _ _ _ _ _ (World.drew _)
          refine wpAny_take (i := 0) (v := ?vv0) rfl (by kernel_rfl) (by kernel_rfl) (by kernel_rfl) (fun _ _ _ h => h) (Or.inl ⟨by rfl, ?hy0⟩) ?rest0
          case hy0 =>
            intro w
            first | (go_simp; done) | (go_simp; with_reducible rfl)
          refine wpAny_take (i := 1) (v := ?vv1) rfl (by kernel_rfl) (by kernel_rfl) (by kernel_rfl) (fun _ _ _ h => h) (Or.inl ⟨by rfl, ?hy1⟩) ?rest1
          case hy1 =>
            intro w
            first | (go_simp; done) | (go_simp; with_reducible rfl)
          refine wpAny_take (i := 2) (v := ?vv2) rfl (by kernel_rfl) (by kernel_rfl) (by kernel_rfl) (fun _ _ _ h => h) (Or.inl ⟨by rfl, ?hy2⟩) ?rest2
          case hy2 =>
            intro w
            first | (go_simp; done) | (go_simp; with_reducible rfl)
          refine wpAny_take (i := 3) (v := ?vv3) rfl (by kernel_rfl) (by kernel_rfl) (by kernel_rfl) (fun _ _ _ h => h) (Or.inl ⟨by rfl, ?hy3⟩) ?rest3
          case hy3 =>
            intro w
            first | (go_simp; done) | (go_simp; with_reducible rfl)
          refine wpAny_take (i := 5) (v := ?vv5) rfl (by kernel_rfl) (by kernel_rfl) (by kernel_rfl) (fun _ _ _ h => h) (Or.inl ⟨by rfl, ?hy5⟩) ?rest5
          case hy5 =>
            intro w
            first | (go_simp; done) | (go_simp; with_reducible rfl)
          refine wpAny_ready (rs := [4, 6]) (by kernel_rfl) (by simp) ?_
          refine AllReady.cons rfl (fun K hK => ?_) ?_
          · go_simp
            refine hK _ _ ?_
            clear hK K
            refine wpAny_ready (rs := [6]) (by kernel_rfl) (by simp) ?_
            refine AllReady.cons rfl (fun K hK => ?_) AllReady.nil
            go_simp
            go_at_call 116
            refine hCC.mono ?_
            rintro e w5 ⟨-, he, hg5⟩
            obtain rfl := he c hS
            unfold pan
            exact ⟨rfl, HEND.out w5 hg5⟩
          · refine AllReady.cons rfl (fun K hK => ?_) AllReady.nil
            go_simp
            go_at_call 116
            refine hCC.mono ?_
            rintro e w5 ⟨-, he, hg5⟩
            obtain rfl := he c hS
            unfold pan
            exact ⟨rfl, HEND.out w5 hg5⟩
        | ok y =>
          obtain ⟨d, r⟩ := y
          have hlr := HWL.out d r hS
          have hGO := HAGO.out hp d r hS
          have hNO := HAN.out hp d r hS
          have HLR := Lib.hid hlr
          have HGO := Lib.hid hGO
          have HNO := Lib.hid hNO
          clear hlr hGO hNO hp HAP HAE HAN HAGO HWL
          go_upto_region 4 with (fail)
          have hgd : w.grownBy w3.drew (some g) := ⟨hgr3.os, hgr3.tape, hgr3.output, hgr3.size, hgr3.block⟩
          have hCC := hC w3.drew hB3 (HE.out _ hgd)
          have hO3d : Wds w.heap.size (.slice va acc.length vc) acc w3.drew := hO3.below ⟨rfl, rfl, rfl, Nat.le_refl _, fun _ _ => rfl⟩
          have hf : ∀ (w5 : World) (pv : Value) (s5 : ByteArray), Strs w3.drew.heap.size pv d.path w5 → Rd g s5 (.slice va acc.length vc) w5 → w3.drew.grownBy w5 (some g) →
              ∃ pa pc, pv = .slice pa d.path.length pc ∧ w5.cell? ⟨g, 1, none⟩ = some (.slice va acc.length vc) ∧ (∀ o, (w5.alloc o).cell? ⟨g, 1, none⟩ = some (.slice va acc.length vc)) ∧ (∀ o, Rd g s5 (.slice va acc.length vc) (w5.alloc o)) ∧ (∀ o, Wds w.heap.size (.slice va acc.length vc) acc (w5.alloc o)) ∧ (∀ o, Strs w.heap.size pv d.path (w5.alloc o)) ∧ (∀ o, w.grownBy (w5.alloc o) (some g)) ∧ (∀ o, w.heap.size ≤ (w5.alloc o).heap.size) := by
            intro w5 pv s5 hP hR hG
            obtain ⟨pa, pc, rfl⟩ := hP.slice
            have hba := fun o => (Below.refl _ w5).alloc (Nat.le_refl _) o
            have hRa : ∀ o, Rd g s5 (.slice va acc.length vc) (w5.alloc o) := fun o => hR.below (hba o)
            have hz5 : w.heap.size ≤ w5.heap.size := Nat.le_trans hz3 hG.size
            exact ⟨pa, pc, rfl, hR.cell 1 _ rfl, fun o => (hRa o).cell 1 _ rfl, hRa, fun o => (hO3d.grown hG hgl).below (hba o), fun o => own_below (World.ownsRow.mono hP hz3) (hba o), fun o => (hgd.trans hG).trans (World.grownBy_alloc w5 o _), fun o => Nat.le_trans hz5 (hba o).size⟩
          have HF := Lib.hid hf
          clear hf hC
          go_cut [35] (fun v35 wx => ∃ (s5 : ByteArray) (v5 : Value), Rd g s5 v5 wx ∧ StrIs s5 r ∧ Wds w.heap.size v5 (acc ++ [d]) wx ∧ w.grownBy wx (some g))
          case first =>
            go_region_law (first | (go_simp; go_at_call 116; refine hCC.mono ?_; rintro e w5 ⟨hok, -, hg5⟩; obtain ⟨pv, s5, rfl, hP5, hs5, hB5⟩ := hok d r hS; obtain ⟨pa, pc, rfl, c5, c5', hRa, hWa, hPa, hGa, hZa⟩ := HF.out w5 pv s5 hP5 hB5 hg5; unfold wdV; clear hok) | (refine step_appWord w.heap.size rfl (.tmp 31) (.tmp 34) rfl (.slice va acc.length vc) acc d (.slice pa d.path.length pc) w5.heap.size _ (0, 0) ?hcs rfl 1 rfl rfl (heap_new w5 _) (hWa _) (hPa _) (hZa _) hal ?_; (case hcs => rfl); intro sa sc w6 hO6 hg6; have hB6 := Blk.grown (hRa _) hg6 hne; have f6 := hB6.free 1; have c6 := hB6.cell 1 _ rfl; have hgr6 := wds_more (hGa _) (hWa _) (Nat.le_refl _) hg6))
            all_goals go_wp2_with fail
            all_goals go_meet
            all_goals refine ⟨s5, _, hB6.set 1 _, hs5, ?_, hgr6.trans (grownBy_set _ g 1 _)⟩
            all_goals exact hO6.grown (grownBy_set w6 g 1 (.slice sa (acc.length + 1) sc)) hgl
          case rest =>
          obtain ⟨s5, v5, hB5, hs5, hO5, hg5⟩ := hcut
          clear hCC hO3 hO3d HF hB3 c0 c1 hgd hS
          have c0 := hB5.cell 0 _ rfl
          obtain rfl : s5.data.toList = r := hs5
          have hs5 : StrIs s5 s5.data.toList := rfl
          by_cases h0 : s5.size = 0
          · have h1 := empty_test h0
            have he : ends s5.data.toList = true := by rw [nil_of_size h0]; rfl
            have HA := Lib.hid (HGO.out he)
            clear he HGO HNO
            go_wp2_with (go_at_call 117; refine (fail_ok _ _).mono ?_; rintro e w9 ⟨rfl, rfl⟩)
            go_roundg n
            case measure => omega
            case rel => exact ⟨acc ++ [d], s5, s5.data.toList, v5, by have h5 := HLG.out; have h6 := HTL.out; have h7 := HLR.out; omega, by have := HAG.out; simp only [List.length_append, List.length_cons, List.length_nil]; omega, hs5, hB5, hO5, hg5, HA.out⟩
          · have h1 := nonempty_test h0
            have hn0 : 0 < s5.size := by omega
            have hen : ends s5.data.toList = ((s5[0]'hn0).toNat == 124 || blk (s5[0]'hn0).toNat) := by
              have := getD_byte s5 0 hn0
              unfold ends
              rw [← this]
              cases hd : s5.data.toList with
              | nil => exact absurd (congrArg List.length hd) (by rw [size_list]; exact h0)
              | cons x y => rfl
            obtain ⟨b, hb⟩ : ∃ b : UInt8, b = s5[0]'hn0 := ⟨_, rfl⟩
            have hbt : ∀ h', ((s5[0]'h').toNat : Nat) = b.toNat := fun h' => by rw [hb]
            rw [← hb] at hen
            have hlt := b.toNat_lt
            clear hb
            generalize b.toNat = c at *
            by_cases h124 : c = 124
            · have hcb : ((c : Int) == 124) = true := beq_iff_eq.2 (by omega)
              have he : ends s5.data.toList = true := by rw [hen, show (c == 124) = true from beq_iff_eq.2 h124]; rfl
              have HA := Lib.hid (HGO.out he)
              clear he HGO HNO hen h124
              go_wp2_with (go_at_call 117; refine (fail_ok _ _).mono ?_; rintro e w9 ⟨rfl, rfl⟩)
              go_roundg n
              case measure => omega
              case rel => exact ⟨acc ++ [d], s5, s5.data.toList, v5, by have h5 := HLG.out; have h6 := HTL.out; have h7 := HLR.out; omega, by have := HAG.out; simp only [List.length_append, List.length_cons, List.length_nil]; omega, hs5, hB5, hO5, hg5, HA.out⟩
            · have hcb : ((c : Int) == 124) = false := beq_eq_false_iff_ne.2 (by omega)
              rw [show (c == 124) = false from beq_eq_false_iff_ne.2 h124, Bool.false_or] at hen
              cases hbk : blk c with
              | true =>
                rw [hbk] at hen
                have HA := Lib.hid (HGO.out hen)
                clear hen HGO HNO h124
                go_wp2_with (first | (go_at_call 111; refine (blank_calls c _ hlt).mono ?_; rw [hbk]; rintro e w9 ⟨rfl, rfl⟩) | (go_at_call 117; refine (fail_ok _ _).mono ?_; rintro e w9 ⟨rfl, rfl⟩))
                go_roundg n
                case measure => omega
                case rel => exact ⟨acc ++ [d], s5, s5.data.toList, v5, by have h5 := HLG.out; have h6 := HTL.out; have h7 := HLR.out; omega, by have := HAG.out; simp only [List.length_append, List.length_cons, List.length_nil]; omega, hs5, hB5, hO5, hg5, HA.out⟩
              | false =>
                rw [hbk] at hen
                have HTT := Lib.hid (HNO.out hen)
                clear hen HGO HNO h124
                go_wp2_with (first | (go_at_call 111; refine (blank_calls c _ hlt).mono ?_; rw [hbk]; rintro e w9 ⟨rfl, rfl⟩) | (go_at_call 117; refine (fail_no 1400 _).mono ?_; unfold pan; rintro e w9 ⟨rfl, rfl⟩))
                refine ⟨rfl, fun ds h => ?_, fun c' h => ?_, hg5⟩
                · rw [HTT.out] at h
                  cases h
                · rw [HTT.out] at h
                  cases h
                  rfl
end Go.Proofs.YtdaffedbboofjaaGreatDoor.S
