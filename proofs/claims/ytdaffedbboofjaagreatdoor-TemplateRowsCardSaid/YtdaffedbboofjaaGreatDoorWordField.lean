/-
  THE WALK of package words' field.
-/
import Derived.Test.YtdaffedbboofjaaGreatDoorWordPath
import Derived.Deep.Onto
set_option linter.unusedVariables false
set_option linter.unusedSimpArgs false
namespace Go.Proofs.YtdaffedbboofjaaGreatDoor.S
open Go.RowKit

/-- a word as a value; pv: its path's slice -/
def wdV (d : Wd) (pv : Value) : Value := .agg #[.int .i64 d.kind, .string ⟨d.text.toArray⟩, pv, .int .i64 d.num]
def WOk (base g : Nat) (o : Value) (e : Ending) (d : Wd) (r : List UInt8) (w' : World) : Prop := ∃ (pv : Value) (s' : ByteArray), e = .returned (wdV d pv) ∧ Strs base pv d.path w' ∧ StrIs s' r ∧ Rd g s' o w'
def WPost (S : Except Nat (Wd × List UInt8)) (w : World) (g : Nat) (o : Value) (e : Ending) (w' : World) : Prop :=
  (∀ d r, S = .ok (d, r) → WOk w.heap.size g o e d r w') ∧ (∀ c, S = .error c → e = pan c) ∧ w.grownBy w' (some g)
/-- a write to a new block is none to the old ones -/
theorem grown_set {w W : World} {row : Option Nat} (h : w.grownBy W row) (G j : Nat) (hG : w.heap.size ≤ G) (x : Value) : w.grownBy (W.setCell ⟨G, j, none⟩ x) row :=
  ⟨h.os, h.tape, h.output, by simpa [World.setCell] using h.size, fun k hk hne => by
    have : G ≠ k := by omega
    rw [← h.block k hk hne]
    simp [World.setCell, Array.getElem?_modify, this]⟩
abbrev wd0 : List Value := [.int .i64 0, .string ⟨#[]⟩, .slice none 0 0, .int .i64 0]
abbrev put4 (W : World) (G : Nat) (a b c d : Value) : World := (((W.setCell ⟨G, 0, none⟩ a).setCell ⟨G, 1, none⟩ b).setCell ⟨G, 2, none⟩ c).setCell ⟨G, 3, none⟩ d
theorem grown_put4 {w W : World} {row : Option Nat} (h : w.grownBy W row) (G : Nat) (hG : w.heap.size ≤ G) (a b c d : Value) : w.grownBy (put4 W G a b c d) row :=
  grown_set (grown_set (grown_set (grown_set h G 0 hG a) G 1 hG b) G 2 hG c) G 3 hG d
theorem own_put4 {base e size n : Nat} {v : Value} {xs : List Value} {W : World} (h : W.ownsRow base e size v n xs) (G : Nat) (hG : G < base) (a b c d : Value) : (put4 W G a b c d).ownsRow base e size v n xs := by
  have hne : v.ownBlock ≠ some G := fun k => by have := own_base h G k; omega
  exact own_set (own_set (own_set (own_set h hne 0 a) hne 1 b) hne 2 c) hne 3 d
theorem blk_put4 {g : Nat} {T : TypeId} {cs : List Value} {W : World} (h : Blk g T cs W) (G : Nat) (hG : G ≠ g) (a b c d : Value) : Blk g T cs (put4 W G a b c d) :=
  Blk.grown (Blk.grown (Blk.grown (Blk.grown h (grownBy_set _ G 0 a) (by simp; omega)) (grownBy_set _ G 1 b) (by simp; omega)) (grownBy_set _ G 2 c) (by simp; omega)) (grownBy_set _ G 3 d) (by simp; omega)
theorem second_eq {l : List UInt8} (h : 1 < l.length) : second l = wfirst (l.getD 1 0).toNat := by unfold second; rw [decide_eq_true h, Bool.true_and]
theorem second_no {l : List UInt8} (h : ¬ 1 < l.length) : second l = false := by unfold second; rw [decide_eq_false h, Bool.false_and]

set_option maxRecDepth 100000 in
set_option maxHeartbeats 2000000 in
theorem wfield_calls (g : Nat) (s : ByteArray) (o : Value) (l : List UInt8) (w : World) (hB : Rd g s o w) (hl : StrIs s l) (hs : s.size ≤ 4611686018427387900) (hn : 0 < s.size) :
    Calls Tryz.prog 152 #[.pointer (some ⟨g, 0, none⟩)] w fun e w' => WPost (fieldL l) w g o e w' := by
  have hgl := hB.lt
  have hll : l.length = s.size := hl.size.symm
  have hW : Blk w.heap.size 116 wd0 (w.alloc (.cells wd0.toArray 116)) := Blk.new w _ _
  have hb0 : Below w.heap.size w (w.alloc (.cells wd0.toArray 116)) := (Below.refl _ w).alloc (Nat.le_refl _) _
  have hB0 := hB.below hb0
  have hz0 : (w.alloc (.cells wd0.toArray 116)).heap.size = w.heap.size + 1 := by simp
  go_enter Tryz.func152, Tryz.ntmps152
  go_upto_region 1 with (fail)
  generalize w.alloc (.cells wd0.toArray 116) = w0 at *
  have c0 := hB0.cell 0 _ rfl
  go_cut [16] (fun v16 wx => v16 = .bool (second l) ∧ w0 = wx)
  case first =>
    by_cases h1 : 1 < s.size
    · have h1b : decide (1 < (s.size : Int)) = true := decide_eq_true (by omega)
      have hsc := second_eq (l := l) (by omega)
      rw [← show s.data.toList = l from hl, ← getD_byte s 1 h1] at hsc
      obtain ⟨b, hb⟩ : ∃ b : UInt8, b = s[1]'h1 := ⟨_, rfl⟩
      have hbt : ∀ h', ((s[1]'h').toNat : Nat) = b.toNat := fun h' => by rw [hb]
      rw [← hb, show s.data.toList = l from hl] at hsc
      have hlt := b.toNat_lt
      have HSC := Lib.hid hsc
      clear hb hsc
      generalize b.toNat = d at *
      go_wp2_with (go_at_call 130; refine (wfirst_calls d _ hlt).mono ?_; rintro e w3 ⟨rfl, rfl⟩)
      go_meet
      exact ⟨by rw [HSC.out], rfl⟩
    · have h1b : decide (1 < (s.size : Int)) = false := decide_eq_false (by omega)
      have hsc := second_no (l := l) (by omega)
      have HSC := Lib.hid hsc
      clear hsc
      go_wp2
      go_meet
      exact ⟨by rw [HSC.out], rfl⟩
  case rest =>
  obtain ⟨rfl, rfl⟩ := hcut
  clear c0
  have hF : fieldL l = if second l = true then (pathL l).map fun x => (⟨1, [], x.1, 0⟩, x.2) else .ok (⟨1, [], [], 0⟩, l.drop 1) := rfl
  cases hsc : second l with
  | true =>
    rw [hsc, if_pos rfl] at hF
    have HF := Lib.hid hF
    clear hF hsc
    have hP := fun W hW => wpath_calls g s o l W hW hl hs
    cases hp : pathL l with
    | error c =>
      go_wp2_with fail
      refine (hP _ hB0).mono ?_
      rintro e w1 ⟨-, he, hg1⟩
      obtain rfl := he c hp
      have hg := (grownBy_below (row := some g) hb0).trans hg1
      have HPP := Lib.hid hp
      clear hp hP
      unfold pan
      go_wp2
      refine ⟨rfl, fun d r h => ?_, fun c' h => ?_, hg⟩
      · rw [HF.out, HPP.out] at h
        cases h
      · rw [HF.out, HPP.out] at h
        cases h
        rfl
    | ok y =>
      obtain ⟨xs, r⟩ := y
      go_wp2_with fail
      refine (hP _ hB0).mono ?_
      rintro e w1 ⟨hok, -, hg1⟩
      obtain ⟨v, s', rfl, hO1, hs', hB1⟩ := hok xs r hp
      have hg := (grownBy_below (row := some g) hb0).trans hg1
      have hW1 := Blk.grown hW hg1 (by simp; omega)
      have HPP := Lib.hid hp
      have c0 := hW1.cell 0 _ rfl
      have c1 := hW1.cell 1 _ rfl
      have c2 := hW1.cell 2 _ rfl
      have c3 := hW1.cell 3 _ rfl
      have f0 := hW1.free 0
      have f1 := hW1.free 1
      have f2 := hW1.free 2
      have f3 := hW1.free 3
      obtain ⟨sa, sc, rfl⟩ := hO1.slice
      clear hok hp hP
      have hW4 : Blk w.heap.size 116 [.int .i64 1, .string ⟨#[]⟩, .slice sa xs.length sc, .int .i64 0] ((((w1.setCell ⟨w.heap.size, 0, none⟩ (.int .i64 1)).setCell ⟨w.heap.size, 1, none⟩ (.string ⟨#[]⟩)).setCell ⟨w.heap.size, 2, none⟩ (.slice sa xs.length sc)).setCell ⟨w.heap.size, 3, none⟩ (.int .i64 0)) := (((hW1.set 0 _).set 1 _).set 2 _).set 3 _
      have hg4 : w.grownBy ((((w1.setCell ⟨w.heap.size, 0, none⟩ (.int .i64 1)).setCell ⟨w.heap.size, 1, none⟩ (.string ⟨#[]⟩)).setCell ⟨w.heap.size, 2, none⟩ (.slice sa xs.length sc)).setCell ⟨w.heap.size, 3, none⟩ (.int .i64 0)) (some g) := grown_put4 hg w.heap.size (Nat.le_refl _) _ _ _ _
      have hO4 : Strs w0.heap.size (.slice sa xs.length sc) xs ((((w1.setCell ⟨w.heap.size, 0, none⟩ (.int .i64 1)).setCell ⟨w.heap.size, 1, none⟩ (.string ⟨#[]⟩)).setCell ⟨w.heap.size, 2, none⟩ (.slice sa xs.length sc)).setCell ⟨w.heap.size, 3, none⟩ (.int .i64 0)) := own_put4 hO1 w.heap.size (by omega) _ _ _ _
      have hB4 : Rd g s' o ((((w1.setCell ⟨w.heap.size, 0, none⟩ (.int .i64 1)).setCell ⟨w.heap.size, 1, none⟩ (.string ⟨#[]⟩)).setCell ⟨w.heap.size, 2, none⟩ (.slice sa xs.length sc)).setCell ⟨w.heap.size, 3, none⟩ (.int .i64 0)) := blk_put4 hB1 w.heap.size (by omega) _ _ _ _
      go_wp2
      clear c0 c1 c2 c3 f0 f1 f2 f3
      generalize (((w1.setCell ⟨w.heap.size, 0, none⟩ (.int .i64 1)).setCell ⟨w.heap.size, 1, none⟩ (.string ⟨#[]⟩)).setCell ⟨w.heap.size, 2, none⟩ (.slice sa xs.length sc)).setCell ⟨w.heap.size, 3, none⟩ (.int .i64 0) = w4 at *
      have d0 := hW4.cell 0 _ rfl
      have d1 := hW4.cell 1 _ rfl
      have d2 := hW4.cell 2 _ rfl
      have d3 := hW4.cell 3 _ rfl
      refine bodyPost_ret (v := wdV ⟨1, [], xs, 0⟩ (.slice sa xs.length sc)) (by simp [results, Tryz.results152, go_sem, wdV, d0, d1, d2, d3]) rfl ?_
      refine ⟨fun d r' h => ?_, fun c' h => ?_, hg4⟩
      · rw [HF.out, HPP.out] at h
        cases h
        exact ⟨_, s', rfl, World.ownsRow.mono hO4 (by omega), hs', hB4⟩
      · rw [HF.out, HPP.out] at h
        cases h
  | false =>
    rw [hsc, if_neg (by simp)] at hF
    have HF := Lib.hid hF
    clear hF hsc
    go_wp2_with fail
    refine (wtake_calls g s o l 1 _ hB0 hl hn (by omega)).mono ?_
    rintro e w1 ⟨x, s', rfl, -, hs', hB1, hg1⟩
    have hg := (grownBy_below (row := some g) hb0).trans hg1
    have hW1 := Blk.grown hW hg1 (by simp; omega)
    have c0 := hW1.cell 0 _ rfl
    have c1 := hW1.cell 1 _ rfl
    have c2 := hW1.cell 2 _ rfl
    have c3 := hW1.cell 3 _ rfl
    have f0 := hW1.free 0
    have f1 := hW1.free 1
    have f2 := hW1.free 2
    have f3 := hW1.free 3
    have hW4 : Blk w.heap.size 116 [.int .i64 1, .string ⟨#[]⟩, .slice none 0 0, .int .i64 0] ((((w1.setCell ⟨w.heap.size, 0, none⟩ (.int .i64 1)).setCell ⟨w.heap.size, 1, none⟩ (.string ⟨#[]⟩)).setCell ⟨w.heap.size, 2, none⟩ (.slice none 0 0)).setCell ⟨w.heap.size, 3, none⟩ (.int .i64 0)) := (((hW1.set 0 _).set 1 _).set 2 _).set 3 _
    have hg4 : w.grownBy ((((w1.setCell ⟨w.heap.size, 0, none⟩ (.int .i64 1)).setCell ⟨w.heap.size, 1, none⟩ (.string ⟨#[]⟩)).setCell ⟨w.heap.size, 2, none⟩ (.slice none 0 0)).setCell ⟨w.heap.size, 3, none⟩ (.int .i64 0)) (some g) := grown_put4 hg w.heap.size (Nat.le_refl _) _ _ _ _
    have hB4 : Rd g s' o ((((w1.setCell ⟨w.heap.size, 0, none⟩ (.int .i64 1)).setCell ⟨w.heap.size, 1, none⟩ (.string ⟨#[]⟩)).setCell ⟨w.heap.size, 2, none⟩ (.slice none 0 0)).setCell ⟨w.heap.size, 3, none⟩ (.int .i64 0)) := blk_put4 hB1 w.heap.size (by omega) _ _ _ _
    go_wp2
    clear c0 c1 c2 c3 f0 f1 f2 f3
    generalize (((w1.setCell ⟨w.heap.size, 0, none⟩ (.int .i64 1)).setCell ⟨w.heap.size, 1, none⟩ (.string ⟨#[]⟩)).setCell ⟨w.heap.size, 2, none⟩ (.slice none 0 0)).setCell ⟨w.heap.size, 3, none⟩ (.int .i64 0) = w4 at *
    have d0 := hW4.cell 0 _ rfl
    have d1 := hW4.cell 1 _ rfl
    have d2 := hW4.cell 2 _ rfl
    have d3 := hW4.cell 3 _ rfl
    refine bodyPost_ret (v := wdV ⟨1, [], [], 0⟩ (.slice none 0 0)) (by simp [results, Tryz.results152, go_sem, wdV, d0, d1, d2, d3]) rfl ?_
    refine ⟨fun d r' h => ?_, fun c' h => ?_, hg4⟩
    · rw [HF.out] at h
      cases h
      exact ⟨_, s', rfl, strs_nil _ _, hs', hB4⟩
    · rw [HF.out] at h
      cases h
end Go.Proofs.YtdaffedbboofjaaGreatDoor.S
