/-
  THE WALK of package words' text.
-/
import Derived.Test.YtdaffedbboofjaaGreatDoorWordField
set_option linter.unusedVariables false
set_option linter.unusedSimpArgs false
namespace Go.Proofs.YtdaffedbboofjaaGreatDoor.S
open Go.RowKit

theorem slice_mid (s : ByteArray) (x y : Int) (i j : Nat) (hx : x = i) (hy : y = j) (hij : i ≤ j) (hj : j ≤ s.size) (W : World) :
    (Instr.slice 9 (.string s) (some (.int .i64 x)) (some (.int .i64 y)) none).run Tryz.prog W = .ok (.string (s.extract i j)) W := by
  subst hx hy
  have h := run_slice_string (P := Tryz.prog) (w := W) 9 s .i64 .i64 (i : Int) (j : Int) Tryz.underlying9 (by omega) (by omega) (by omega)
  simpa using h
theorem builderGrown {B b g : Nat} {l : List UInt8} {w w' : World} (h : Tryz.BuilderHas B b l w) (hg : w.grownBy w' (some g)) (hgB : g < B) : Tryz.BuilderHas B b l w' := by
  have one : ∀ p, Lib.BuilderAtF 178 5 B b p (Lib.byteCells l) w → Lib.BuilderAtF 178 5 B b p (Lib.byteCells l) w' := fun p ⟨hB, v, hv, hr, hne⟩ =>
    ⟨hB, v, (hg.block b (Array.getElem?_eq_some_iff.1 hv).1 (by simp; omega)).trans hv, hr.kept hg (.inr fun e => by have := (hr.lt g e).1; omega), hne⟩
  exact h.elim (fun x => .inl (one _ x)) (fun x => .inr (one _ x))
theorem grown_below {w W W' : World} {row : Option Nat} {B : Nat} (h : w.grownBy W row) (hb : Below B W W') (hB : w.heap.size ≤ B) : w.grownBy W' row :=
  ⟨hb.os.trans h.os, hb.tape.trans h.tape, hb.output.trans h.output, Nat.le_trans h.size hb.size, fun i hi hne => (hb.block i (by omega)).trans (h.block i hi hne)⟩
theorem Blk.belowB {g B : Nat} {T : TypeId} {cs : List Value} {w w' : World} (h : Blk g T cs w) (hb : Below B w w') (hg : g < B) : Blk g T cs w' := (hb.block g hg).trans h
theorem escIdx (c : UInt8) : ∀ z, escW c.toNat = some z → ∃ k, k < 4 ∧ hasI [c] [34, 92, 110, 116] = true ∧ cutI [c] [34, 92, 110, 116] = k ∧ ([34, 92, 10, 9] : List UInt8)[k]? = some z := by
  intro z h
  unfold escW at h
  split at h
  · rename_i hc; obtain rfl : c = 34 := UInt8.toNat_inj.1 hc; cases h; exact ⟨0, by decide, by decide, by decide, rfl⟩
  · split at h
    · rename_i hc; obtain rfl : c = 92 := UInt8.toNat_inj.1 hc; cases h; exact ⟨1, by decide, by decide, by decide, rfl⟩
    · split at h
      · rename_i hc; obtain rfl : c = 110 := UInt8.toNat_inj.1 hc; cases h; exact ⟨2, by decide, by decide, by decide, rfl⟩
      · split at h
        · rename_i hc; obtain rfl : c = 116 := UInt8.toNat_inj.1 hc; cases h; exact ⟨3, by decide, by decide, by decide, rfl⟩
        · cases h
theorem escIdx_no (c : UInt8) (h : escW c.toNat = none) : hasI [c] [34, 92, 110, 116] = false := by
  unfold escW at h
  split at h
  · cases h
  · rename_i h1
    split at h
    · cases h
    · rename_i h2
      split at h
      · cases h
      · rename_i h3
        split at h
        · cases h
        · rename_i h4
          have g1 : c ≠ 34 := fun e => h1 (by rw [e]; rfl)
          have g2 : c ≠ 92 := fun e => h2 (by rw [e]; rfl)
          have g3 : c ≠ 110 := fun e => h3 (by rw [e]; rfl)
          have g4 : c ≠ 116 := fun e => h4 (by rw [e]; rfl)
          simp [hasI, List.isPrefixOf, g1, g2, g3, g4]
theorem textL_quote (r : List UInt8) : textL (34 :: r) = .ok ([], r) := by rw [textL.eq_def]; rfl
theorem textL_plain (b : UInt8) (r : List UInt8) (h1 : b ≠ 34) (h2 : b ≠ 92) : textL (b :: r) = (textL r).map fun x => (b :: x.1, x.2) := by rw [textL.eq_def]; dsimp only; rw [if_neg h1, if_neg h2]
theorem textL_esc (c : UInt8) (r : List UInt8) : textL (92 :: c :: r) = match escW c.toNat with
        | none => .error 1401
        | some z => (textL r).map fun x => (z :: x.1, x.2) := by rw [textL.eq_def]; dsimp only; rw [if_neg (by decide), if_pos rfl]; cases escW c.toNat <;> rfl
theorem textL_esc0 : textL [92] = .error 1401 := by rw [textL.eq_def]; dsimp only; rw [if_neg (by decide), if_pos rfl]
def TextAt (T : Except Nat (List UInt8 × List UInt8)) (acc l : List UInt8) : Prop := T = (textL l).map fun x => (acc ++ x.1, x.2)
theorem text_end {T : Except Nat (List UInt8 × List UInt8)} {acc r : List UInt8} (h : TextAt T acc (34 :: r)) : T = .ok (acc, r) := by
  rw [h, textL_quote]; simp [Except.map]
theorem text_err {T : Except Nat (List UInt8 × List UInt8)} {acc l : List UInt8} {e : Nat} (h : TextAt T acc l) (he : textL l = .error e) : T = .error e := by
  rw [h, he]; rfl
theorem text_go {T : Except Nat (List UInt8 × List UInt8)} {acc l r : List UInt8} {z : UInt8} (h : TextAt T acc l) (he : textL l = (textL r).map fun x => (z :: x.1, x.2)) : TextAt T (acc ++ [z]) r := by
  unfold TextAt at *
  rw [h, he]
  cases textL r with
  | error e => rfl
  | ok y => simp [Except.map]

set_option maxRecDepth 100000 in
set_option maxHeartbeats 4000000 in
theorem wtext_calls (g : Nat) (s : ByteArray) (o : Value) (l : List UInt8) (w : World) (hE : EnvAt g w) (hB : Rd g s o w) (hl : StrIs s l) (hs : s.size ≤ 1073741824) :
    Calls Tryz.prog 150 #[.pointer (some ⟨g, 0, none⟩)] w fun e w' => WPost ((textL l).map fun x => (⟨4, x.1, [], 0⟩, x.2)) w g o e w' := by
  have hgl := hB.lt
  have hll : l.length = s.size := hl.size.symm
  have hW : Blk w.heap.size 116 wd0 (w.alloc (.cells wd0.toArray 116)) := Blk.new w _ _
  have hb0 : Below w.heap.size w (w.alloc (.cells wd0.toArray 116)) := (Below.refl _ w).alloc (Nat.le_refl _) _
  have hB0 := hB.below hb0
  have hz0 : (w.alloc (.cells wd0.toArray 116)).heap.size = w.heap.size + 1 := by simp
  obtain ⟨T, hT⟩ : ∃ T, T = textL l := ⟨_, rfl⟩
  rw [← hT]
  have hT' : TextAt T [] l := by
    unfold TextAt
    rw [hT]
    cases textL l <;> rfl
  clear hT
  go_enter Tryz.func150, Tryz.ntmps150
  go_upto_region 1 with (fail)
  generalize w.alloc (.cells wd0.toArray 116) = w0 at *
  have hI := Tryz.freshBuilder w0
  have hb1 : Below w0.heap.size w0 (w0.alloc (.cells #[.pointer none, .slice none 0 0] 178)) := (Below.refl _ w0).alloc (Nat.le_refl _) _
  have hW1 := hW.below hb1
  have hB1 := hB0.below hb1
  have hg1 : w.grownBy (w0.alloc (.cells #[.pointer none, .slice none 0 0] 178)) (some g) := grown_below (grownBy_below hb0) hb1 (by omega)
  go_wp2
  generalize w0.alloc (.cells #[.pointer none, .slice none 0 0] 178) = w1 at *
  rw [hz0] at hI
  obtain ⟨b, hbq⟩ : ∃ b, b = w.heap.size + 1 := ⟨_, rfl⟩
  rw [← hbq] at hI ⊢
  have hzb : b ≤ w1.heap.size := by have := hb1.size; omega
  have hbw : w.heap.size < b := by omega
  clear hbq hb1 hW hB0 hb0 hz0
  go_loopg [4, 5] s.size (fun gk _ _ wr => ∃ (acc : List UInt8) (s' : ByteArray) (l' : List UInt8), l'.length ≤ gk ∧ acc.length + gk ≤ s.size ∧ Tryz.BuilderHas b b acc wr ∧ StrIs s' l' ∧ Rd g s' o wr ∧ Blk w.heap.size 116 wd0 wr ∧ w.grownBy wr (some g) ∧ b ≤ wr.heap.size ∧ Hid (TextAt T acc l'))
  case atStart => exact ⟨[], s, l, by omega, by simp, hI, hl, hB1, hW1, hg1, hzb, hT'⟩
  case round =>
    obtain ⟨acc, s', l', hlg, hag, hI, hs', hBr, hWr, hgr, hzr, hTA⟩ := hrel
    have HLG := Lib.hid hlg
    have HAG := Lib.hid hag
    clear hlg hag hT'
    go_wp2_with fail
    refine (whas_calls g s' ⟨#[34]⟩ o l' _ hBr hs').mono ?_
    rintro e w2 ⟨s2, rfl, hs2, hB2, hg2⟩
    have hI2 := builderGrown hI hg2 (by omega)
    have hgr2 := hgr.trans hg2
    have hW2 := Blk.grown hWr hg2 (by simp; omega)
    have hzr2 := Nat.le_trans hzr hg2.size
    have e20 := hB2.cell 0 _ rfl
    cases l' with
    | nil =>
      have hT := text_err hTA.out (show textL [] = .error 1401 from by rw [textL.eq_def])
      have HT := Lib.hid hT
      have hs2' : StrIs s2 [] := hs2
      have hz : s2.size = 0 := hs2'.size
      have h1 := empty_test hz
      clear hT hTA hz hs2'
      rw [show List.isPrefixOf (⟨#[34]⟩ : ByteArray).data.toList [] = false from rfl]
      go_wp2_with (go_at_call 117; refine (fail_no 1401 _).mono ?_; unfold pan; rintro e w9 ⟨rfl, rfl⟩)
      refine ⟨rfl, fun d r' h => ?_, fun c' h => ?_, hgr2⟩
      · rw [HT.out] at h
        cases h
      · rw [HT.out] at h
        cases h
        rfl
    | cons b1 r =>
      by_cases h34 : b1 = 34
      · subst h34
        have hp : List.isPrefixOf (⟨#[34]⟩ : ByteArray).data.toList (34 :: r) = true := rfl
        rw [cutP_yes hp] at hs2
        have hT := text_end hTA.out
        have HT := Lib.hid hT
        clear hT hTA HAG HLG
        rw [hp]
        go_wp2_with fail
        refine (Tryz.builderString' _ _ _ _ hI2 hzr2).mono ?_
        rintro e w3 ⟨t, rfl, ht, hb3⟩
        have hgr3 := grown_below hgr2 hb3 (by omega)
        have hW3 := hW2.belowB hb3 hbw
        have hB3 := Blk.belowB hB2 hb3 (by omega)
        have hteq := ht.eq
        have c0 := hW3.cell 0 _ rfl
        have c1 := hW3.cell 1 _ rfl
        have c2 := hW3.cell 2 _ rfl
        have c3 := hW3.cell 3 _ rfl
        have f0 := hW3.free 0
        have f1 := hW3.free 1
        have f2 := hW3.free 2
        have f3 := hW3.free 3
        have HTE := Lib.hid hteq
        clear hteq hI hI2 hs' hBr hWr hgr hW2 hB2 hg2
        have hW4 : Blk w.heap.size 116 [.int .i64 4, .string t, .slice none 0 0, .int .i64 0] ((((w3.setCell ⟨w.heap.size, 0, none⟩ (.int .i64 4)).setCell ⟨w.heap.size, 1, none⟩ (.string t)).setCell ⟨w.heap.size, 2, none⟩ (.slice none 0 0)).setCell ⟨w.heap.size, 3, none⟩ (.int .i64 0)) := (((hW3.set 0 _).set 1 _).set 2 _).set 3 _
        have hg4 : w.grownBy ((((w3.setCell ⟨w.heap.size, 0, none⟩ (.int .i64 4)).setCell ⟨w.heap.size, 1, none⟩ (.string t)).setCell ⟨w.heap.size, 2, none⟩ (.slice none 0 0)).setCell ⟨w.heap.size, 3, none⟩ (.int .i64 0)) (some g) := grown_put4 hgr3 w.heap.size (Nat.le_refl _) _ _ _ _
        have hB4 : Rd g s2 o ((((w3.setCell ⟨w.heap.size, 0, none⟩ (.int .i64 4)).setCell ⟨w.heap.size, 1, none⟩ (.string t)).setCell ⟨w.heap.size, 2, none⟩ (.slice none 0 0)).setCell ⟨w.heap.size, 3, none⟩ (.int .i64 0)) := blk_put4 hB3 w.heap.size (by omega) _ _ _ _
        go_wp2
        clear c0 c1 c2 c3 f0 f1 f2 f3
        generalize (((w3.setCell ⟨w.heap.size, 0, none⟩ (.int .i64 4)).setCell ⟨w.heap.size, 1, none⟩ (.string t)).setCell ⟨w.heap.size, 2, none⟩ (.slice none 0 0)).setCell ⟨w.heap.size, 3, none⟩ (.int .i64 0) = w4 at *
        have d0 := hW4.cell 0 _ rfl
        have d1 := hW4.cell 1 _ rfl
        have d2 := hW4.cell 2 _ rfl
        have d3 := hW4.cell 3 _ rfl
        refine bodyPost_ret (v := .agg #[.int .i64 4, .string t, .slice none 0 0, .int .i64 0]) (by simp [results, Tryz.results150, go_sem, d0, d1, d2, d3]) rfl ?_
        refine ⟨fun d r' h => ?_, fun c' h => ?_, hg4⟩
        · rw [HT.out] at h
          cases h
          exact ⟨.slice none 0 0, s2, by rw [HTE.out]; rfl, strs_nil _ _, hs2, hB4⟩
        · rw [HT.out] at h
          cases h
      · have hp : List.isPrefixOf (⟨#[34]⟩ : ByteArray).data.toList (b1 :: r) = false := by show (34 == b1 && _) = false; simp [Ne.symm h34]
        rw [cutP_no hp] at hs2
        rw [hp]
        have hz : s2.size = r.length + 1 := hs2.size
        have h1 := nonempty_test (show ¬ s2.size = 0 by omega)
        have hz3 : 1 ≤ s2.size := by omega
        have hz4 : s2.size ≤ 4611686018427387904 := by have h5 := HLG.out; have h6 := HAG.out; simp only [List.length_cons] at h5; omega
        clear hz hp
        go_wp2_with (go_at_call 117; refine (fail_ok _ _).mono ?_; rintro e w9 ⟨rfl, rfl⟩)
        refine (wtake_calls g s2 o _ 1 _ hB2 hs2 hz3 hz4).mono ?_
        rintro e w3 ⟨x, s3, rfl, hx, hs3, hB3, hg3⟩
        have hI3 := builderGrown hI2 hg3 (by omega)
        have hgr3 := hgr2.trans hg3
        have hW3 := Blk.grown hW2 hg3 (by simp; omega)
        have hzr3 := Nat.le_trans hzr2 hg3.size
        have hx : StrIs x [b1] := hx
        have hs3 : StrIs s3 r := hs3
        have e30 := hB3.cell 0 _ rfl
        clear hI hI2 hg3 hB2 hBr hWr hgr hgr2 hW2 hzr hzr2 hs' hg2
        by_cases h92 : b1 = 92
        · have hxt : (x.toList == [92]) = true := by rw [Lib.toList_data, show x.data.toList = [b1] from hx, h92]; rfl
          obtain rfl := h92
          clear hx h34
          cases r with
          | nil =>
            have hT := text_err hTA.out textL_esc0
            have HT := Lib.hid hT
            have hz : s3.size = 0 := hs3.size
            have h1 := empty_test hz
            clear hT hTA hz
            go_wp2_with (go_at_call 117; refine (fail_no 1401 _).mono ?_; unfold pan; rintro e w9 ⟨rfl, rfl⟩)
            refine ⟨rfl, fun d r' h => ?_, fun c' h => ?_, hgr3⟩
            · rw [HT.out] at h
              cases h
            · rw [HT.out] at h
              cases h
              rfl
          | cons c r' =>
            have hz : s3.size = r'.length + 1 := hs3.size
            have h1 := nonempty_test (show ¬ s3.size = 0 by omega)
            have hz3 : 1 ≤ s3.size := by omega
            have hz4 : s3.size ≤ 4611686018427387904 := by have h5 := HLG.out; have h6 := HAG.out; simp only [List.length_cons] at h5; omega
            clear hz
            go_wp2_with (go_at_call 117; refine (fail_ok _ _).mono ?_; rintro e w9 ⟨rfl, rfl⟩)
            refine (wtake_calls g s3 o _ 1 _ hB3 hs3 hz3 hz4).mono ?_
            rintro e w4 ⟨y, s4, rfl, hy, hs4, hB4, hg4⟩
            have hI4 := builderGrown hI3 hg4 (by omega)
            have hgr4 := hgr3.trans hg4
            have hW4 := Blk.grown hW3 hg4 (by simp; omega)
            have hzr4 := Nat.le_trans hzr3 hg4.size
            have hE4 := hE.below (Below.grow1 hgr4 (by omega) (Nat.le_refl g))
            have hix := index_calls ⟨#[34, 92, 110, 116]⟩ y [34, 92, 110, 116] rfl _ hE4.env (by decide) (by rw [show y.data.toList = [c] from hy]; simp)
            rw [show y.data.toList = [c] from hy] at hix
            cases hesc : escW c.toNat with
            | none =>
              rw [escIdx_no c hesc] at hix
              simp only [Bool.false_eq_true, if_false] at hix
              have hT := text_err hTA.out (by rw [textL_esc, hesc])
              have HT := Lib.hid hT
              have HIX := Lib.hid hix
              clear hT hTA hix hesc
              go_wp2_with fail
              refine HIX.out.mono ?_
              rintro e w5 ⟨rfl, rfl⟩
              go_wp2_with (go_at_call 117; refine (fail_no 1401 _).mono ?_; unfold pan; rintro e w9 ⟨rfl, rfl⟩)
              refine ⟨rfl, fun d r' h => ?_, fun c' h => ?_, hgr4⟩
              · rw [HT.out] at h
                cases h
              · rw [HT.out] at h
                cases h
                rfl
            | some z =>
              obtain ⟨k, hk4, hh, hc, hkz⟩ := escIdx c z hesc
              rw [hh, hc] at hix
              simp only [if_true] at hix
              have hTA2 := text_go (r := r') (z := z) hTA.out (by rw [textL_esc, hesc])
              have HTA := Lib.hid hTA2
              have HIX := Lib.hid hix
              have hsl := fun W => slice_mid ⟨#[34, 92, 10, 9]⟩ (k : Int) ((k : Int) + 1) k (k + 1) (by omega) (by omega) (by omega) (by show _ ≤ 4; omega) W
              have hext : StrIs ((⟨#[34, 92, 10, 9]⟩ : ByteArray).extract k (k + 1)) [z] := by
                show _ = _
                rw [Lib.extract_data, show k + 1 - k = 1 by omega]
                have hk : k < ([34, 92, 10, 9] : List UInt8).length := hk4
                rw [List.getElem?_eq_getElem hk] at hkz
                rw [show (⟨#[34, 92, 10, 9]⟩ : ByteArray).data.toList = [34, 92, 10, 9] from rfl, List.drop_eq_getElem_cons hk, List.take_succ_cons, List.take_zero, Option.some.inj hkz]
              generalize (⟨#[34, 92, 10, 9]⟩ : ByteArray).extract k (k + 1) = q at *
              have hqs : q.size = 1 := hext.size
              have hlen : acc.length + q.size ≤ 140737488355328 := by have := HAG.out; omega
              have hkb : decide (0 ≤ (k : Int)) = true := decide_eq_true (by omega)
              have HQ := Lib.hid hext
              clear hTA hTA2 hix hesc hext hh hc hkz hqs
              go_wp2_with fail
              refine HIX.out.mono ?_
              rintro e w5 ⟨rfl, rfl⟩
              go_wp2_with (first | (go_at_call 117; refine (fail_ok _ _).mono ?_; rintro e w9 ⟨rfl, rfl⟩) | (go_at_call 136; refine (Tryz.writeString _ _ _ _ _ hI4 hlen hzr4).mono ?_; rintro e w9 ⟨rfl, hI9, hb9⟩))
              go_roundg (gk - 1)
              case measure => have := HLG.out; simp only [List.length_cons] at this; omega
              case rel =>
                refine ⟨acc ++ [z], s4, r', by have := HLG.out; simp only [List.length_cons] at this; omega, by have h6 := HAG.out; have h5 := HLG.out; simp only [List.length_cons] at h5; simp only [List.length_append, List.length_cons, List.length_nil]; omega, ?_, hs4, Blk.belowB hB4 hb9 (by omega), hW4.belowB hb9 hbw, grown_below hgr4 hb9 (by omega), Nat.le_trans hzr4 hb9.size, HTA.out⟩
                rw [show q.data.toList = [z] from HQ.out] at hI9
                exact hI9
        · have hxt : (x.toList == [92]) = false := by rw [Lib.toList_data, show x.data.toList = [b1] from hx]; simp [h92]
          have hxs : x.size = 1 := hx.size
          have hTA2 := text_go hTA.out (textL_plain b1 r h34 h92)
          have HTA := Lib.hid hTA2
          have HX := Lib.hid hx
          have HXS := Lib.hid hxs
          have hlen : acc.length + x.size ≤ 140737488355328 := by have := HAG.out; omega
          clear hTA hTA2 hx hxs h34 h92
          go_wp2_with (go_at_call 136; refine (Tryz.writeString _ _ _ _ _ hI3 hlen hzr3).mono ?_; rintro e w9 ⟨rfl, hI9, hb9⟩)
          go_roundg (gk - 1)
          case measure => have := HLG.out; simp only [List.length_cons] at this; omega
          case rel =>
            refine ⟨acc ++ [b1], s3, r, by have := HLG.out; simp only [List.length_cons] at this; omega, by have h6 := HAG.out; have h5 := HLG.out; simp only [List.length_cons] at h5; simp only [List.length_append, List.length_cons, List.length_nil]; omega, ?_, hs3, Blk.belowB hB3 hb9 (by omega), hW3.belowB hb9 hbw, grown_below hgr3 hb9 (by omega), Nat.le_trans hzr3 hb9.size, HTA.out⟩
            rw [show x.data.toList = [b1] from HX.out] at hI9
            exact hI9
end Go.Proofs.YtdaffedbboofjaaGreatDoor.S
