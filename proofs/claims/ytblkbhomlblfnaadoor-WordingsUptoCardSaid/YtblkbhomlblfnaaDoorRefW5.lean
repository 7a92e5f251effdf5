/-
  THE WALK of the reference's words: word.
-/
import Derived.Test.YtblkbhomlblfnaaDoorRefW4
set_option linter.unusedVariables false
set_option linter.unusedSimpArgs false
namespace Go.Proofs.YtblkbhomlblfnaaDoor.S
open Go.RowKit

/-- a word, or a pipe -/
def wordP (l : List UInt8) : Except Nat (Wd × List UInt8) := if List.isPrefixOf [124] l = true then .ok (⟨5, [], [], 0⟩, l.drop 1) else wordL l
/-- a word's outcome: the reference may tell a word's end that is none already here -/
def RwPost (T : Except Nat (Wd × List UInt8)) (w : World) (g : Nat) (s : ByteArray) (p : Nat) (e : Ending) (w' : World) : Prop :=
  ∃ (kd : Nat) (tx : ByteArray) (pv : Value) (nm : Int) (p' e' : Nat), e = .returned (.agg #[.int .i64 kd, .string tx, pv, .int .i64 nm]) ∧ (∃ a n c, pv = .slice a n c) ∧ Cr g s p' e' w' ∧ p ≤ p' ∧ p' ≤ s.size ∧ w.grownBy w' (some g) ∧
    (∀ d r', T = .ok (d, r') → (e' = 0 ∧ kd = d.kind ∧ StrIs tx d.text ∧ nm = d.num ∧ Strs w.heap.size pv d.path w' ∧ s.data.toList.drop p' = r') ∨ (e' = 1400 ∧ d.kind ≠ 5 ∧ ends r' = false)) ∧ (∀ c, T = .error c → e' = c)
theorem RwPost.map {α : Type} {T : Except Nat (Wd × List UInt8)} {S : Except Nat (α × List UInt8)} {f : α → Wd} {w w' : World} {g : Nat} {s : ByteArray} {p p' e' kd : Nat} {tx : ByteArray} {pv : Value} {nm : Int}
    (hT : T = S.map fun x => (f x.1, x.2)) (hv : ∃ a n c, pv = .slice a n c) (hB : Cr g s p' e' w') (h1 : p ≤ p') (h2 : p' ≤ s.size) (hg : w.grownBy w' (some g))
    (hok : ∀ x r', S = .ok (x, r') → e' = 0 ∧ kd = (f x).kind ∧ StrIs tx (f x).text ∧ nm = (f x).num ∧ Strs w.heap.size pv (f x).path w' ∧ s.data.toList.drop p' = r') (her : ∀ c, S = .error c → e' = c) :
    RwPost T w g s p (.returned (.agg #[.int .i64 kd, .string tx, pv, .int .i64 nm])) w' := by
  refine ⟨kd, tx, pv, nm, p', e', rfl, hv, hB, h1, h2, hg, fun d r' h => ?_, fun c h => ?_⟩
  · rw [hT] at h
    obtain ⟨⟨x, r⟩, hS, hy⟩ := map_ok h
    cases hy
    exact .inl (hok x r hS)
  · rw [hT] at h
    cases hS : S with
    | error e => rw [hS] at h; cases h; exact her _ hS
    | ok y => rw [hS] at h; cases h
theorem RwPost.ok {T : Except Nat (Wd × List UInt8)} {w w' : World} {g : Nat} {s : ByteArray} {p p' kd : Nat} {tx : ByteArray} {pv : Value} {nm : Int} {d : Wd}
    (hT : T = .ok (d, s.data.toList.drop p')) (hv : ∃ a n c, pv = .slice a n c) (hB : Cr g s p' 0 w') (h1 : p ≤ p') (h2 : p' ≤ s.size) (hg : w.grownBy w' (some g))
    (hk : kd = d.kind) (ht : StrIs tx d.text) (hn : nm = d.num) (hP : Strs w.heap.size pv d.path w') :
    RwPost T w g s p (.returned (.agg #[.int .i64 kd, .string tx, pv, .int .i64 nm])) w' :=
  ⟨kd, tx, pv, nm, p', 0, rfl, hv, hB, h1, h2, hg, fun d' r' h => (by rw [hT] at h; cases h; exact .inl ⟨rfl, hk, ht, hn, hP, rfl⟩), fun c h => (by rw [hT] at h; cases h)⟩
def fldGo (t : List UInt8) : Bool := match t with
  | [] => false
  | c :: _ => !blk c.toNat && c.toNat != 124
theorem fldGo_no {t : List UInt8} (h : fldGo t = false) : second (46 :: t) = false := by
  cases t with
  | nil => rfl
  | cons c r =>
    have e := (by decide +kernel : ∀ c : Fin 256, (!blk c.val && c.val != 124) = false → wfirst c.val = false)
    have := e ⟨c.toNat, c.toNat_lt⟩ h
    show (decide _ && wfirst c.toNat) = false
    rw [this, Bool.and_false]
theorem fldGo_yes {t : List UInt8} (h : fldGo t = true) : ends t = false := by
  cases t with
  | nil => cases h
  | cons c r =>
    unfold fldGo at h
    rw [Bool.and_eq_true] at h
    obtain ⟨h1, h2⟩ := h
    show (false || c.toNat == 124 || blk c.toNat) = false
    rw [show blk c.toNat = false by simpa using h1, show (c.toNat == 124) = false by simpa [bne] using h2]
    rfl
theorem pathL_bad {t : List UInt8} (h : second (46 :: t) = false) : pathL (46 :: t) = .error 1400 := by
  have hn : nameL t = .error 1400 := nameL_bad fun b r e => by
    subst e
    have : (decide (1 < (46 :: b :: r).length) && wfirst b.toNat) = false := h
    rw [decide_eq_true (by simp), Bool.true_and] at this
    exact this
  show pathF 9 0 (46 :: t) = _
  rw [pathF, if_pos (by rfl)]
  show (match nameL t with
        | .error e => .error e
        | .ok (x, r) => if 0 + 1 ≤ 8 then match pathF 8 (0 + 1) r with
            | .error e => .error e
            | .ok (xs, r') => .ok (x :: xs, r')
          else .error 1400) = (.error 1400 : Except Nat (List (List UInt8) × List UInt8))
  rw [hn]
theorem rblank_q (c : Nat) (b : Bool) (w : World) (h : c < 256) (hb : blk c = b) :
    Calls Tryd.prog 48 #[.int .u8 c] w fun e w' => e = .returned (.bool b) ∧ w' = w := by
  subst hb
  exact (rblank_calls c w h).mono fun _ _ ⟨he, hw⟩ => ⟨he, hw.symm⟩
theorem wordL_else {b : UInt8} {t : List UInt8} (h1 : List.isPrefixOf [58, 61] (b :: t) = false) (h2 : b ≠ 34) (h3 : (b.toNat == 45 || digitI b.toNat) = false) (h4 : b ≠ 46) (h5 : b ≠ 36) : wordL (b :: t) = (nameL (b :: t)).map fun x => (⟨0, x.1, [], 0⟩, x.2) := by
  unfold wordL
  rw [if_neg (by rw [h1]; simp), if_neg (by simp [List.isPrefixOf, Ne.symm h2])]
  show (if (b.toNat == 45 || digitI b.toNat) = true then _ else if (b.toNat == 46) = true then _ else _) = _
  rw [h3, if_neg (by simp), if_neg (by intro e; exact h4 (UInt8.toNat_inj.1 (beq_iff_eq.1 e))), if_neg (by simp [List.isPrefixOf, Ne.symm h5])]
  show (if wfirst b.toNat = true then _ else _) = _
  by_cases hf : wfirst b.toNat = true
  · rw [if_pos hf]
  · rw [if_neg hf, nameL_bad (fun b' t' e => by cases e; simpa using hf)]
    rfl
set_option maxRecDepth 100000 in
set_option maxHeartbeats 16000000 in
theorem rword_calls (g : Nat) (s : ByteArray) (p : Nat) (w : World) (hB : Cr g s p 0 w) (hp : p < s.size) (hs : s.size ≤ 1073741824) :
    Calls Tryd.prog 49 #[.pointer (some ⟨g, 0, none⟩)] w fun e w' => RwPost (wordP (s.data.toList.drop p)) w g s p e w' := by
  have hgl := hB.lt
  have hll := size_list s
  have hdc := drop_cons s p hp
  obtain ⟨b, hb0⟩ : ∃ b : UInt8, b = s[p]'hp := ⟨_, rfl⟩
  have hbt : ∀ h', ((s[p]'h').toNat : Nat) = b.toNat := fun h' => by rw [hb0]
  rw [← hb0] at hdc
  rw [hdc]
  clear hb0
  have hjb : decide ((p : Int) < (s.size : Int)) = true := decide_eq_true (by omega)
  have HDC := Lib.hid hdc
  have hlt := b.toNat_lt
  clear hdc
  have hWx : Blk w.heap.size 40 wd0 (w.alloc (.cells wd0.toArray 40)) := Blk.new w _ _
  have hb0 : Below w.heap.size w (w.alloc (.cells wd0.toArray 40)) := (Below.refl _ w).alloc (Nat.le_refl _) _
  have hBx : Cr g s p 0 _ := Blk.below hB hb0
  have hgx := grownBy_below (row := some g) hb0
  clear hb0 hB
  go_enter Tryd.func49, Tryd.ntmps49
  go_upto_region 1 with (fail)
  generalize w.alloc (.cells wd0.toArray 40) = w0 at *
  have c0 := hBx.cell 0 _ rfl
  have c1 := hBx.cell 1 _ rfl
  go_cut [3] (fun v3 wx => v3 = .int .u8 b.toNat ∧ Blk w.heap.size 40 wd0 wx ∧ Cr g s p 0 wx ∧ w.grownBy wx (some g))
  case first =>
    go_quiet (fail)
    go_wp2_with fail
    go_meet
    exact ⟨rfl, Blk.grown hWx (grownBy_drewN _ none _) (by simp), hBx.drewN _, hgx.trans (grownBy_drewN _ _ _)⟩
  case rest =>
  obtain ⟨rfl, hWx, hBx, hgx⟩ := hcut
  clear c0 c1
  by_cases h124 : b = 124
  · have q1 : ((b.toNat : Int) == 124) = true := by rw [h124]; rfl
    have hT : wordP (b :: s.data.toList.drop (p + 1)) = .ok (⟨5, [], [], 0⟩, s.data.toList.drop (p + 1)) := by rw [h124]; rfl
    have HT := Lib.hid hT
    clear hT h124
    have c1 := hBx.cell 1 _ rfl
    have f1 := hBx.free 1
    have hB1 := hBx.at0 (p + 1) ((p : Int) + 1) (by omega)
    have hW1 := Blk.grown hWx (grownBy_set _ g 1 (.int .i64 ((p : Int) + 1))) (by simp; omega)
    have hg1 := hgx.trans (grownBy_set _ g 1 (.int .i64 ((p : Int) + 1)))
    go_upto_region 4 with (fail)
    clear c1 f1 hWx hBx hgx
    generalize World.setCell _ _ _ = w1 at *
    have hz1 : w.heap.size < w1.heap.size := hW1.lt
    have k0 := hW1.cell 0 _ rfl
    have k1 := hW1.cell 1 _ rfl
    have k2 := hW1.cell 2 _ rfl
    have k3 := hW1.cell 3 _ rfl
    have f0 := hW1.free 0
    have f1 := hW1.free 1
    have f2 := hW1.free 2
    have f3 := hW1.free 3
    have hW4 : Blk w.heap.size 40 [.int .i64 5, .string ⟨#[]⟩, .slice none 0 0, .int .i64 0] ((((w1.setCell ⟨w.heap.size, 0, none⟩ (.int .i64 5)).setCell ⟨w.heap.size, 1, none⟩ (.string ⟨#[]⟩)).setCell ⟨w.heap.size, 2, none⟩ (.slice none 0 0)).setCell ⟨w.heap.size, 3, none⟩ (.int .i64 0)) := (((hW1.set 0 _).set 1 _).set 2 _).set 3 _
    have hg4 : w.grownBy ((((w1.setCell ⟨w.heap.size, 0, none⟩ (.int .i64 5)).setCell ⟨w.heap.size, 1, none⟩ (.string ⟨#[]⟩)).setCell ⟨w.heap.size, 2, none⟩ (.slice none 0 0)).setCell ⟨w.heap.size, 3, none⟩ (.int .i64 0)) (some g) := grown_put4 hg1 w.heap.size (Nat.le_refl _) _ _ _ _
    have hB4 : Blk g _ _ ((((w1.setCell ⟨w.heap.size, 0, none⟩ (.int .i64 5)).setCell ⟨w.heap.size, 1, none⟩ (.string ⟨#[]⟩)).setCell ⟨w.heap.size, 2, none⟩ (.slice none 0 0)).setCell ⟨w.heap.size, 3, none⟩ (.int .i64 0)) := blk_put4 hB1 w.heap.size (by omega) (.int .i64 5) (.string ⟨#[]⟩) (.slice none 0 0) (.int .i64 0)
    go_wp2
    clear k0 k1 k2 k3 f0 f1 f2 f3
    generalize ((w1.setCell ⟨w.heap.size, 0, none⟩ (.int .i64 5)).setCell ⟨w.heap.size, 1, none⟩ (.string ⟨#[]⟩)).setCell ⟨w.heap.size, 2, none⟩ (.slice none 0 0) = w39 at *
    generalize w39.setCell ⟨w.heap.size, 3, none⟩ (.int .i64 0) = w40 at *
    have d0 := hW4.cell 0 _ rfl
    have d1 := hW4.cell 1 _ rfl
    have d2 := hW4.cell 2 _ rfl
    have d3 := hW4.cell 3 _ rfl
    refine bodyPost_ret (v := .agg #[.int .i64 5, .string ⟨#[]⟩, .slice none 0 0, .int .i64 0]) (by simp [results, Tryd.results49, go_sem, d0, d1, d2, d3]) rfl ?_
    exact RwPost.ok HT.out ⟨_, _, _, rfl⟩ hB4 (by omega) (by omega) hg4 rfl rfl rfl (strs_nil _ _)
  · have q1 : ((b.toNat : Int) == 124) = false := beq_eq_false_iff_ne.2 fun e => h124 (UInt8.toNat_inj.1 (by show _ = 124; omega))
    have hP : wordP (b :: s.data.toList.drop (p + 1)) = wordL (b :: s.data.toList.drop (p + 1)) := by
      unfold wordP
      rw [if_neg (by simp [List.isPrefixOf, Ne.symm h124])]
    have HP := Lib.hid hP
    clear hP h124
    have c0 := hBx.cell 0 _ rfl
    have c1 := hBx.cell 1 _ rfl
    go_upto_region 5 with (fail)
    go_cut [25] (fun v25 wx => v25 = .bool (List.isPrefixOf [58, 61] (b :: s.data.toList.drop (p + 1))) ∧ Blk w.heap.size 40 wd0 wx ∧ Cr g s p 0 wx ∧ w.grownBy wx (some g))
    case first =>
      have HWX := Lib.hid hWx
      have HBX := Lib.hid hBx
      clear hWx hBx
      by_cases h58 : b = 58
      · have q2 : ((b.toNat : Int) == 58) = true := by rw [h58]; rfl
        by_cases h2 : p + 1 < s.size
        · have hdc := drop_cons s (p + 1) h2
          obtain ⟨c, hc⟩ : ∃ c : UInt8, c = s[p + 1]'h2 := ⟨_, rfl⟩
          have hct : ∀ h', ((s[p + 1]'h').toNat : Nat) = c.toNat := fun h' => by rw [hc]
          rw [← hc] at hdc
          have hgo : List.isPrefixOf [58, 61] (b :: s.data.toList.drop (p + 1)) = ((c.toNat : Int) == 61) := by
            rw [h58, hdc]
            show (61 == c && true) = _
            rw [Bool.and_true, Bool.eq_iff_iff, beq_iff_eq, beq_iff_eq]
            exact ⟨fun e => by rw [← e]; rfl, fun e => (UInt8.toNat_inj.1 (by show c.toNat = 61; omega)).symm⟩
          have HGO := Lib.hid hgo
          have hlc := c.toNat_lt
          clear hgo hdc hc h58
          have hj2 : decide ((p : Int) + 1 < (s.size : Int)) = true := decide_eq_true (by omega)
          generalize c.toNat = cn at *
          go_quiet (fail)
          go_wp2_with fail
          go_meet
          exact ⟨by rw [HGO.out], Blk.grown HWX.out (grownBy_drewN _ none _) (by simp), HBX.out.drewN _, hgx.trans (grownBy_drewN _ _ _)⟩
        · have hgo : List.isPrefixOf [58, 61] (b :: s.data.toList.drop (p + 1)) = false := by
            rw [List.drop_eq_nil_of_le (by rw [hll]; omega)]
            show (58 == b && false) = false
            rw [Bool.and_false]
          have HGO := Lib.hid hgo
          clear hgo h58
          have hj2 : decide ((p : Int) + 1 < (s.size : Int)) = false := decide_eq_false (by omega)
          go_quiet (fail)
          go_wp2_with fail
          go_meet
          exact ⟨by rw [HGO.out], Blk.grown HWX.out (grownBy_drewN _ none _) (by simp), HBX.out.drewN _, hgx.trans (grownBy_drewN _ _ _)⟩
      · have q2 : ((b.toNat : Int) == 58) = false := beq_eq_false_iff_ne.2 fun e => h58 (UInt8.toNat_inj.1 (by show _ = 58; omega))
        have hgo : List.isPrefixOf [58, 61] (b :: s.data.toList.drop (p + 1)) = false := by simp [List.isPrefixOf, Ne.symm h58]
        have HGO := Lib.hid hgo
        clear hgo h58
        go_quiet (fail)
        go_wp2_with fail
        go_meet
        exact ⟨by rw [HGO.out], Blk.grown HWX.out (grownBy_drewN _ none _) (by simp), HBX.out.drewN _, hgx.trans (grownBy_drewN _ _ _)⟩
    case rest =>
    obtain ⟨rfl, hWx, hBx, hgx⟩ := hcut
    clear c0 c1
    cases hps : List.isPrefixOf [58, 61] (b :: s.data.toList.drop (p + 1)) with
    | true =>
      have hT : wordP (b :: s.data.toList.drop (p + 1)) = .ok (⟨6, [], [], 0⟩, s.data.toList.drop (p + 2)) := by
        rw [HP.out]
        unfold wordL
        rw [if_pos hps]
        show Except.ok (_, (s.data.toList.drop (p + 1)).drop 1) = _
        rw [List.drop_drop]
      have hp2 : p + 2 ≤ s.size := by
        refine Nat.le_of_not_lt fun e => ?_
        rw [List.drop_eq_nil_of_le (by rw [hll]; omega)] at hps
        revert hps
        show (58 == b && false) = true → False
        simp
      have HT := Lib.hid hT
      clear hT HP hps
      have c1 := hBx.cell 1 _ rfl
      have f1 := hBx.free 1
      have hB1 := hBx.at0 (p + 2) ((p : Int) + 2) (by omega)
      have hW1 := Blk.grown hWx (grownBy_set _ g 1 (.int .i64 ((p : Int) + 2))) (by simp; omega)
      have hg1 := hgx.trans (grownBy_set _ g 1 (.int .i64 ((p : Int) + 2)))
      go_upto_region 7 with (fail)
      clear c1 f1 hWx hBx hgx
      generalize World.setCell _ _ _ = w1 at *
      have hz1 : w.heap.size < w1.heap.size := hW1.lt
      have k0 := hW1.cell 0 _ rfl
      have k1 := hW1.cell 1 _ rfl
      have k2 := hW1.cell 2 _ rfl
      have k3 := hW1.cell 3 _ rfl
      have f0 := hW1.free 0
      have f1 := hW1.free 1
      have f2 := hW1.free 2
      have f3 := hW1.free 3
      have hW4 : Blk w.heap.size 40 [.int .i64 6, .string ⟨#[]⟩, .slice none 0 0, .int .i64 0] ((((w1.setCell ⟨w.heap.size, 0, none⟩ (.int .i64 6)).setCell ⟨w.heap.size, 1, none⟩ (.string ⟨#[]⟩)).setCell ⟨w.heap.size, 2, none⟩ (.slice none 0 0)).setCell ⟨w.heap.size, 3, none⟩ (.int .i64 0)) := (((hW1.set 0 _).set 1 _).set 2 _).set 3 _
      have hg4 : w.grownBy ((((w1.setCell ⟨w.heap.size, 0, none⟩ (.int .i64 6)).setCell ⟨w.heap.size, 1, none⟩ (.string ⟨#[]⟩)).setCell ⟨w.heap.size, 2, none⟩ (.slice none 0 0)).setCell ⟨w.heap.size, 3, none⟩ (.int .i64 0)) (some g) := grown_put4 hg1 w.heap.size (Nat.le_refl _) _ _ _ _
      have hB4 : Blk g _ _ ((((w1.setCell ⟨w.heap.size, 0, none⟩ (.int .i64 6)).setCell ⟨w.heap.size, 1, none⟩ (.string ⟨#[]⟩)).setCell ⟨w.heap.size, 2, none⟩ (.slice none 0 0)).setCell ⟨w.heap.size, 3, none⟩ (.int .i64 0)) := blk_put4 hB1 w.heap.size (by omega) (.int .i64 6) (.string ⟨#[]⟩) (.slice none 0 0) (.int .i64 0)
      go_wp2
      clear k0 k1 k2 k3 f0 f1 f2 f3
      generalize ((w1.setCell ⟨w.heap.size, 0, none⟩ (.int .i64 6)).setCell ⟨w.heap.size, 1, none⟩ (.string ⟨#[]⟩)).setCell ⟨w.heap.size, 2, none⟩ (.slice none 0 0) = w39 at *
      generalize w39.setCell ⟨w.heap.size, 3, none⟩ (.int .i64 0) = w40 at *
      have d0 := hW4.cell 0 _ rfl
      have d1 := hW4.cell 1 _ rfl
      have d2 := hW4.cell 2 _ rfl
      have d3 := hW4.cell 3 _ rfl
      refine bodyPost_ret (v := .agg #[.int .i64 6, .string ⟨#[]⟩, .slice none 0 0, .int .i64 0]) (by simp [results, Tryd.results49, go_sem, d0, d1, d2, d3]) rfl ?_
      exact RwPost.ok HT.out ⟨_, _, _, rfl⟩ hB4 (by omega) (by omega) hg4 rfl rfl rfl (strs_nil _ _)
    | false =>
      by_cases h34 : b = 34
      · have q2 : ((b.toNat : Int) == 34) = true := by rw [h34]; rfl
        have hT : wordP (b :: s.data.toList.drop (p + 1)) = (textL (s.data.toList.drop (p + 1))).map fun x => ((fun y => (⟨4, y, [], 0⟩ : Wd)) x.1, x.2) := by rw [HP.out, h34]; rfl
        have HT := Lib.hid hT
        clear hT HP hps h34
        have c1 := hBx.cell 1 _ rfl
        have f1 := hBx.free 1
        have hB1 := hBx.at0 (p + 1) ((p : Int) + 1) (by omega)
        have hW1 := Blk.grown hWx (grownBy_set _ g 1 (.int .i64 ((p : Int) + 1))) (by simp; omega)
        have hg1 := hgx.trans (grownBy_set _ g 1 (.int .i64 ((p : Int) + 1)))
        go_upto_region 10 with (fail)
        clear c1 f1 hWx hBx hgx
        generalize World.setCell _ _ _ = w1 at *
        have hz1 : w.heap.size < w1.heap.size := hW1.lt
        go_wp2_with fail
        refine (rtext_calls g s (p + 1) _ hB1 (by omega) hs).mono ?_
        rintro e w2 ⟨r, p', e', rfl, hB2, hp1, hp2, hg2, hok, her⟩
        have hW2 := Blk.grown hW1 hg2 (by simp; omega)
        have hg12 := hg1.trans hg2
        have HOK := Lib.hid hok
        have HER := Lib.hid her
        clear hok her hB1 hW1 hg1 hg2
        have k0 := hW2.cell 0 _ rfl
        have k1 := hW2.cell 1 _ rfl
        have k2 := hW2.cell 2 _ rfl
        have k3 := hW2.cell 3 _ rfl
        have f0 := hW2.free 0
        have f1 := hW2.free 1
        have f2 := hW2.free 2
        have f3 := hW2.free 3
        have hW4 : Blk w.heap.size 40 [.int .i64 4, .string r, .slice none 0 0, .int .i64 0] ((((w2.setCell ⟨w.heap.size, 0, none⟩ (.int .i64 4)).setCell ⟨w.heap.size, 1, none⟩ (.string r)).setCell ⟨w.heap.size, 2, none⟩ (.slice none 0 0)).setCell ⟨w.heap.size, 3, none⟩ (.int .i64 0)) := (((hW2.set 0 _).set 1 _).set 2 _).set 3 _
        have hg4 : w.grownBy ((((w2.setCell ⟨w.heap.size, 0, none⟩ (.int .i64 4)).setCell ⟨w.heap.size, 1, none⟩ (.string r)).setCell ⟨w.heap.size, 2, none⟩ (.slice none 0 0)).setCell ⟨w.heap.size, 3, none⟩ (.int .i64 0)) (some g) := grown_put4 hg12 w.heap.size (Nat.le_refl _) _ _ _ _
        have hB4 : Blk g _ _ ((((w2.setCell ⟨w.heap.size, 0, none⟩ (.int .i64 4)).setCell ⟨w.heap.size, 1, none⟩ (.string r)).setCell ⟨w.heap.size, 2, none⟩ (.slice none 0 0)).setCell ⟨w.heap.size, 3, none⟩ (.int .i64 0)) := blk_put4 hB2 w.heap.size (by omega) (.int .i64 4) (.string r) (.slice none 0 0) (.int .i64 0)
        go_wp2
        clear k0 k1 k2 k3 f0 f1 f2 f3
        generalize ((w2.setCell ⟨w.heap.size, 0, none⟩ (.int .i64 4)).setCell ⟨w.heap.size, 1, none⟩ (.string r)).setCell ⟨w.heap.size, 2, none⟩ (.slice none 0 0) = w39 at *
        generalize w39.setCell ⟨w.heap.size, 3, none⟩ (.int .i64 0) = w40 at *
        have d0 := hW4.cell 0 _ rfl
        have d1 := hW4.cell 1 _ rfl
        have d2 := hW4.cell 2 _ rfl
        have d3 := hW4.cell 3 _ rfl
        refine bodyPost_ret (v := .agg #[.int .i64 4, .string r, .slice none 0 0, .int .i64 0]) (by simp [results, Tryd.results49, go_sem, d0, d1, d2, d3]) rfl ?_
        exact RwPost.map (f := fun y => (⟨4, y, [], 0⟩ : Wd)) HT.out ⟨_, _, _, rfl⟩ hB4 (by omega) hp2 hg4 (fun x r' h => by obtain ⟨h1, h2, h3⟩ := HOK.out x r' h; exact ⟨h1, rfl, h2, rfl, strs_nil _ _, h3⟩) HER.out
      · have q2 : ((b.toNat : Int) == 34) = false := beq_eq_false_iff_ne.2 fun e => h34 (UInt8.toNat_inj.1 (by show _ = 34; omega))
        have c45 : ((b.toNat : Int) == 45) = (b.toNat == 45) := by
          rw [Bool.eq_iff_iff, beq_iff_eq, beq_iff_eq]
          omega
        go_upto_region 11 with (fail)
        go_cut [76] (fun v76 wx => v76 = .bool (b.toNat == 45 || digitI b.toNat) ∧ Blk w.heap.size 40 wd0 wx ∧ Cr g s p 0 wx ∧ w.grownBy wx (some g))
        case first =>
          have hdg := fun W => rdigit_calls b.toNat W (by omega) (by omega)
          cases h45 : b.toNat == 45 with
          | true =>
            rw [h45] at c45
            go_wp2
            go_meet
            exact ⟨by rw [h45]; rfl, hWx, hBx, hgx⟩
          | false =>
            rw [h45] at c45
            go_wp2_with (go_at_call 43; refine (hdg _).mono ?_; rintro e w3 ⟨rfl, rfl⟩)
            go_meet
            exact ⟨by rw [h45]; rfl, hWx, hBx, hgx⟩
        case rest =>
        obtain ⟨rfl, hWx, hBx, hgx⟩ := hcut
        clear c45
        cases hnd : (b.toNat == 45 || digitI b.toNat) with
        | true =>
          have hn0 := num_first b hnd
          have hT : wordP (b :: s.data.toList.drop (p + 1)) = (numL (s.data.toList.drop p)).map fun x => ((fun y => (⟨3, [], [], y⟩ : Wd)) x.1, x.2) := by
            rw [HP.out, HDC.out]
            unfold wordL
            rw [if_neg (by simp [List.isPrefixOf, Ne.symm hn0.1]), if_neg (by simp [List.isPrefixOf, Ne.symm hn0.2.1])]
            show (if (b.toNat == 45 || digitI b.toNat) = true then _ else _) = _
            rw [if_pos hnd]
          have HT := Lib.hid hT
          clear hT HP hps h34 hn0 hnd
          have hz1 := hWx.lt
          go_wp2_with fail
          refine (rint_calls g s p _ hBx hp hs).mono ?_
          rintro e w2 ⟨x, p', e', rfl, hB2, hp1, hp2, hg2, hok, her⟩
          have hW2 := Blk.grown hWx hg2 (by simp; omega)
          have hg12 := hgx.trans hg2
          have HOK := Lib.hid hok
          have HER := Lib.hid her
          clear hok her hBx hWx hgx hg2
          have k0 := hW2.cell 0 _ rfl
          have k1 := hW2.cell 1 _ rfl
          have k2 := hW2.cell 2 _ rfl
          have k3 := hW2.cell 3 _ rfl
          have f0 := hW2.free 0
          have f1 := hW2.free 1
          have f2 := hW2.free 2
          have f3 := hW2.free 3
          have hW4 : Blk w.heap.size 40 [.int .i64 3, .string ⟨#[]⟩, .slice none 0 0, .int .i64 x] ((((w2.setCell ⟨w.heap.size, 0, none⟩ (.int .i64 3)).setCell ⟨w.heap.size, 1, none⟩ (.string ⟨#[]⟩)).setCell ⟨w.heap.size, 2, none⟩ (.slice none 0 0)).setCell ⟨w.heap.size, 3, none⟩ (.int .i64 x)) := (((hW2.set 0 _).set 1 _).set 2 _).set 3 _
          have hg4 : w.grownBy ((((w2.setCell ⟨w.heap.size, 0, none⟩ (.int .i64 3)).setCell ⟨w.heap.size, 1, none⟩ (.string ⟨#[]⟩)).setCell ⟨w.heap.size, 2, none⟩ (.slice none 0 0)).setCell ⟨w.heap.size, 3, none⟩ (.int .i64 x)) (some g) := grown_put4 hg12 w.heap.size (Nat.le_refl _) _ _ _ _
          have hB4 : Blk g _ _ ((((w2.setCell ⟨w.heap.size, 0, none⟩ (.int .i64 3)).setCell ⟨w.heap.size, 1, none⟩ (.string ⟨#[]⟩)).setCell ⟨w.heap.size, 2, none⟩ (.slice none 0 0)).setCell ⟨w.heap.size, 3, none⟩ (.int .i64 x)) := blk_put4 hB2 w.heap.size (by omega) (.int .i64 3) (.string ⟨#[]⟩) (.slice none 0 0) (.int .i64 x)
          go_wp2
          clear k0 k1 k2 k3 f0 f1 f2 f3
          generalize ((w2.setCell ⟨w.heap.size, 0, none⟩ (.int .i64 3)).setCell ⟨w.heap.size, 1, none⟩ (.string ⟨#[]⟩)).setCell ⟨w.heap.size, 2, none⟩ (.slice none 0 0) = w39 at *
          generalize w39.setCell ⟨w.heap.size, 3, none⟩ (.int .i64 x) = w40 at *
          have d0 := hW4.cell 0 _ rfl
          have d1 := hW4.cell 1 _ rfl
          have d2 := hW4.cell 2 _ rfl
          have d3 := hW4.cell 3 _ rfl
          refine bodyPost_ret (v := .agg #[.int .i64 3, .string ⟨#[]⟩, .slice none 0 0, .int .i64 x]) (by simp [results, Tryd.results49, go_sem, d0, d1, d2, d3]) rfl ?_
          exact RwPost.map (f := fun y => (⟨3, [], [], y⟩ : Wd)) HT.out ⟨_, _, _, rfl⟩ hB4 hp1 hp2 hg4 (fun y r' h => by obtain ⟨h1, h2, h3⟩ := HOK.out y r' h; exact ⟨h1, rfl, rfl, h2, strs_nil _ _, h3⟩) HER.out
        | false =>
          by_cases h46 : b = 46
          · have q3 : ((b.toNat : Int) == 46) = true := by rw [h46]; rfl
            have hT : wordP (b :: s.data.toList.drop (p + 1)) = fieldL (46 :: s.data.toList.drop (p + 1)) := by
              rw [HP.out, h46]
              rfl
            have HT := Lib.hid hT
            have hD46 : s.data.toList.drop p = 46 :: s.data.toList.drop (p + 1) := by rw [HDC.out, h46]
            have HD46 := Lib.hid hD46
            clear hT HP hps h34 hnd hD46 h46
            have c0 := hBx.cell 0 _ rfl
            have c1 := hBx.cell 1 _ rfl
            go_upto_region 14 with (fail)
            go_cut [126] (fun v126 wx => v126 = .bool (fldGo (s.data.toList.drop (p + 1))) ∧ Blk w.heap.size 40 wd0 wx ∧ Cr g s p 0 wx ∧ w.grownBy wx (some g))
            case first =>
              have HWX := Lib.hid hWx
              have HBX := Lib.hid hBx
              clear hWx hBx
              by_cases h2 : p + 1 < s.size
              · have hdc := drop_cons s (p + 1) h2
                obtain ⟨c, hc⟩ : ∃ c : UInt8, c = s[p + 1]'h2 := ⟨_, rfl⟩
                have hct : ∀ h', ((s[p + 1]'h').toNat : Nat) = c.toNat := fun h' => by rw [hc]
                rw [← hc] at hdc
                have hgo : fldGo (s.data.toList.drop (p + 1)) = (!blk c.toNat && c.toNat != 124) := by rw [hdc]; rfl
                have HGO := Lib.hid hgo
                have hlc := c.toNat_lt
                clear hgo hdc hc
                have hj2 : decide ((p : Int) + 1 < (s.size : Int)) = true := decide_eq_true (by omega)
                generalize c.toNat = cn at *
                have hcn : ((cn : Int) != 124) = (cn != 124) := by
                  rw [Bool.eq_iff_iff, bne_iff_ne, bne_iff_ne]
                  omega
                cases hbl : blk cn with
                | true =>
                  rw [hbl] at HGO
                  go_quiet ((go_at_call 48; refine Calls.quiet_of_same (rblank_q cn true _ hlc hbl)))
                  go_wp2_with fail
                  go_meet
                  exact ⟨by rw [HGO.out]; rfl, Blk.grown HWX.out (grownBy_drewN _ none _) (by simp), HBX.out.drewN _, hgx.trans (grownBy_drewN _ _ _)⟩
                | false =>
                  rw [hbl] at HGO
                  go_quiet ((go_at_call 48; refine Calls.quiet_of_same (rblank_q cn false _ hlc hbl)))
                  go_wp2_with fail
                  go_meet
                  exact ⟨by rw [HGO.out]; first | rfl | simp [hcn], Blk.grown HWX.out (grownBy_drewN _ none _) (by simp), HBX.out.drewN _, hgx.trans (grownBy_drewN _ _ _)⟩
              · have hgo : fldGo (s.data.toList.drop (p + 1)) = false := by
                  rw [List.drop_eq_nil_of_le (by rw [hll]; omega)]
                  rfl
                have HGO := Lib.hid hgo
                clear hgo
                have hj2 : decide ((p : Int) + 1 < (s.size : Int)) = false := decide_eq_false (by omega)
                go_quiet (fail)
                go_wp2_with fail
                go_meet
                exact ⟨by rw [HGO.out], Blk.grown HWX.out (grownBy_drewN _ none _) (by simp), HBX.out.drewN _, hgx.trans (grownBy_drewN _ _ _)⟩
            case rest =>
            obtain ⟨rfl, hWx, hBx, hgx⟩ := hcut
            clear c0 c1
            cases hgo : fldGo (s.data.toList.drop (p + 1)) with
            | true =>
              have hz1 := hWx.lt
              have HGO := Lib.hid hgo
              clear hgo
              go_wp2_with fail
              refine (rpath_calls g s p _ hBx (by omega) hs).mono ?_
              rintro e w2 ⟨pv, xs, p', e', rfl, hS2, hB2, hp1, hp2, hg2, hok, her⟩
              obtain ⟨sa, sc, rfl⟩ := hS2.slice
              have hW2 := Blk.grown hWx hg2 (by simp; omega)
              have hg12 := hgx.trans hg2
              rw [HD46.out] at hok her
              have HOK := Lib.hid hok
              have HER := Lib.hid her
              clear hok her hBx hWx hg2
              have k0 := hW2.cell 0 _ rfl
              have k1 := hW2.cell 1 _ rfl
              have k2 := hW2.cell 2 _ rfl
              have k3 := hW2.cell 3 _ rfl
              have f0 := hW2.free 0
              have f1 := hW2.free 1
              have f2 := hW2.free 2
              have f3 := hW2.free 3
              have hW4 : Blk w.heap.size 40 [.int .i64 1, .string ⟨#[]⟩, .slice sa xs.length sc, .int .i64 0] ((((w2.setCell ⟨w.heap.size, 0, none⟩ (.int .i64 1)).setCell ⟨w.heap.size, 1, none⟩ (.string ⟨#[]⟩)).setCell ⟨w.heap.size, 2, none⟩ (.slice sa xs.length sc)).setCell ⟨w.heap.size, 3, none⟩ (.int .i64 0)) := (((hW2.set 0 _).set 1 _).set 2 _).set 3 _
              have hg4 : w.grownBy ((((w2.setCell ⟨w.heap.size, 0, none⟩ (.int .i64 1)).setCell ⟨w.heap.size, 1, none⟩ (.string ⟨#[]⟩)).setCell ⟨w.heap.size, 2, none⟩ (.slice sa xs.length sc)).setCell ⟨w.heap.size, 3, none⟩ (.int .i64 0)) (some g) := grown_put4 hg12 w.heap.size (Nat.le_refl _) _ _ _ _
              have hB4 : Blk g _ _ ((((w2.setCell ⟨w.heap.size, 0, none⟩ (.int .i64 1)).setCell ⟨w.heap.size, 1, none⟩ (.string ⟨#[]⟩)).setCell ⟨w.heap.size, 2, none⟩ (.slice sa xs.length sc)).setCell ⟨w.heap.size, 3, none⟩ (.int .i64 0)) := blk_put4 hB2 w.heap.size (by omega) (.int .i64 1) (.string ⟨#[]⟩) (.slice sa xs.length sc) (.int .i64 0)
              have hS4 : Strs _ (.slice sa xs.length sc) xs ((((w2.setCell ⟨w.heap.size, 0, none⟩ (.int .i64 1)).setCell ⟨w.heap.size, 1, none⟩ (.string ⟨#[]⟩)).setCell ⟨w.heap.size, 2, none⟩ (.slice sa xs.length sc)).setCell ⟨w.heap.size, 3, none⟩ (.int .i64 0)) := own_put4 hS2 w.heap.size hz1 (.int .i64 1) (.string ⟨#[]⟩) (.slice sa xs.length sc) (.int .i64 0)
              go_wp2
              clear k0 k1 k2 k3 f0 f1 f2 f3
              generalize ((w2.setCell ⟨w.heap.size, 0, none⟩ (.int .i64 1)).setCell ⟨w.heap.size, 1, none⟩ (.string ⟨#[]⟩)).setCell ⟨w.heap.size, 2, none⟩ (.slice sa xs.length sc) = w39 at *
              generalize w39.setCell ⟨w.heap.size, 3, none⟩ (.int .i64 0) = w40 at *
              have d0 := hW4.cell 0 _ rfl
              have d1 := hW4.cell 1 _ rfl
              have d2 := hW4.cell 2 _ rfl
              have d3 := hW4.cell 3 _ rfl
              refine bodyPost_ret (v := .agg #[.int .i64 1, .string ⟨#[]⟩, .slice sa xs.length sc, .int .i64 0]) (by simp [results, Tryd.results49, go_sem, d0, d1, d2, d3]) rfl ?_
              have hS5 := World.ownsRow.mono hS4 hgx.size
              by_cases hse : second (46 :: s.data.toList.drop (p + 1)) = true
              · refine RwPost.map (f := fun y => (⟨1, [], y, 0⟩ : Wd)) (HT.out.trans ?_) ⟨_, _, _, rfl⟩ hB4 hp1 hp2 hg4 (fun y r' h => ?_) HER.out
                · unfold fieldL
                  rw [if_pos hse]
                · obtain ⟨h1, rfl, h3⟩ := HOK.out y r' h
                  exact ⟨h1, rfl, rfl, rfl, hS5, h3⟩
              · have hse' : second (46 :: s.data.toList.drop (p + 1)) = false := by simpa using hse
                have he := HER.out 1400 (pathL_bad hse')
                have hT := HT.out
                unfold fieldL at hT
                rw [if_neg hse] at hT
                refine ⟨1, ⟨#[]⟩, _, 0, p', e', rfl, ⟨_, _, _, rfl⟩, hB4, hp1, hp2, hg4, fun d r' h => ?_, fun c h => ?_⟩
                · rw [hT] at h
                  cases h
                  exact .inr ⟨he, by decide, fldGo_yes HGO.out⟩
                · rw [hT] at h
                  cases h
            | false =>
              have hT := HT.out
              unfold fieldL at hT
              rw [if_neg (by rw [fldGo_no hgo]; simp)] at hT
              have HT := Lib.hid hT
              clear hT hgo
              have c1 := hBx.cell 1 _ rfl
              have f1 := hBx.free 1
              have hB1 := hBx.at0 (p + 1) ((p : Int) + 1) (by omega)
              have hW1 := Blk.grown hWx (grownBy_set _ g 1 (.int .i64 ((p : Int) + 1))) (by simp; omega)
              have hg1 := hgx.trans (grownBy_set _ g 1 (.int .i64 ((p : Int) + 1)))
              go_upto_region 17 with (fail)
              clear c1 f1 hWx hBx hgx
              generalize World.setCell _ _ _ = w1 at *
              have hz1 : w.heap.size < w1.heap.size := hW1.lt
              have k0 := hW1.cell 0 _ rfl
              have k1 := hW1.cell 1 _ rfl
              have k2 := hW1.cell 2 _ rfl
              have k3 := hW1.cell 3 _ rfl
              have f0 := hW1.free 0
              have f1 := hW1.free 1
              have f2 := hW1.free 2
              have f3 := hW1.free 3
              have hW4 : Blk w.heap.size 40 [.int .i64 1, .string ⟨#[]⟩, .slice none 0 0, .int .i64 0] ((((w1.setCell ⟨w.heap.size, 0, none⟩ (.int .i64 1)).setCell ⟨w.heap.size, 1, none⟩ (.string ⟨#[]⟩)).setCell ⟨w.heap.size, 2, none⟩ (.slice none 0 0)).setCell ⟨w.heap.size, 3, none⟩ (.int .i64 0)) := (((hW1.set 0 _).set 1 _).set 2 _).set 3 _
              have hg4 : w.grownBy ((((w1.setCell ⟨w.heap.size, 0, none⟩ (.int .i64 1)).setCell ⟨w.heap.size, 1, none⟩ (.string ⟨#[]⟩)).setCell ⟨w.heap.size, 2, none⟩ (.slice none 0 0)).setCell ⟨w.heap.size, 3, none⟩ (.int .i64 0)) (some g) := grown_put4 hg1 w.heap.size (Nat.le_refl _) _ _ _ _
              have hB4 : Blk g _ _ ((((w1.setCell ⟨w.heap.size, 0, none⟩ (.int .i64 1)).setCell ⟨w.heap.size, 1, none⟩ (.string ⟨#[]⟩)).setCell ⟨w.heap.size, 2, none⟩ (.slice none 0 0)).setCell ⟨w.heap.size, 3, none⟩ (.int .i64 0)) := blk_put4 hB1 w.heap.size (by omega) (.int .i64 1) (.string ⟨#[]⟩) (.slice none 0 0) (.int .i64 0)
              go_wp2
              clear k0 k1 k2 k3 f0 f1 f2 f3
              generalize ((w1.setCell ⟨w.heap.size, 0, none⟩ (.int .i64 1)).setCell ⟨w.heap.size, 1, none⟩ (.string ⟨#[]⟩)).setCell ⟨w.heap.size, 2, none⟩ (.slice none 0 0) = w39 at *
              generalize w39.setCell ⟨w.heap.size, 3, none⟩ (.int .i64 0) = w40 at *
              have d0 := hW4.cell 0 _ rfl
              have d1 := hW4.cell 1 _ rfl
              have d2 := hW4.cell 2 _ rfl
              have d3 := hW4.cell 3 _ rfl
              refine bodyPost_ret (v := .agg #[.int .i64 1, .string ⟨#[]⟩, .slice none 0 0, .int .i64 0]) (by simp [results, Tryd.results49, go_sem, d0, d1, d2, d3]) rfl ?_
              exact RwPost.ok HT.out ⟨_, _, _, rfl⟩ hB4 (by omega) (by omega) hg4 rfl rfl rfl (strs_nil _ _)
          · have q3 : ((b.toNat : Int) == 46) = false := beq_eq_false_iff_ne.2 fun e => h46 (UInt8.toNat_inj.1 (by show _ = 46; omega))
            by_cases h36 : b = 36
            · have q4 : ((b.toNat : Int) == 36) = true := by rw [h36]; rfl
              have hT : wordP (b :: s.data.toList.drop (p + 1)) = match nameL (s.data.toList.drop (p + 1)) with
                  | .error e => .error e
                  | .ok (x, r) => (pathL r).map fun (y : List (List UInt8) × List UInt8) => ((⟨2, x, y.1, 0⟩ : Wd), y.2) := by
                rw [HP.out, h36]
                rfl
              have HT := Lib.hid hT
              clear hT HP hps h34 hnd h46 h36
              have c1 := hBx.cell 1 _ rfl
              have f1 := hBx.free 1
              have hB1 := hBx.at0 (p + 1) ((p : Int) + 1) (by omega)
              have hW1 := Blk.grown hWx (grownBy_set _ g 1 (.int .i64 ((p : Int) + 1))) (by simp; omega)
              have hg1 := hgx.trans (grownBy_set _ g 1 (.int .i64 ((p : Int) + 1)))
              go_upto_region 20 with (fail)
              clear c1 f1 hWx hBx hgx
              generalize World.setCell _ _ _ = w1 at *
              have hz1 : w.heap.size < w1.heap.size := hW1.lt
              go_wp2_with fail
              refine (rname_calls g s (p + 1) _ hB1 (by omega) (by omega)).mono ?_
              rintro e w2 ⟨r, p', e', rfl, hB2, hp1, hp2, hg2, hok, her⟩
              have hW2 := Blk.grown hW1 hg2 (by simp; omega)
              have hg12 := hg1.trans hg2
              have hz2 := hW2.lt
              clear hB1 hW1 hg1 hg2
              by_cases he0 : e' = 0
              · subst he0
                obtain ⟨x, r0, hnm, hxr, hdr⟩ : ∃ x r0, nameL (s.data.toList.drop (p + 1)) = .ok (x, r0) ∧ StrIs r x ∧ s.data.toList.drop p' = r0 := by
                  cases hn : nameL (s.data.toList.drop (p + 1)) with
                  | error c => exact absurd (her c hn) (by rw [nameL_err hn]; decide)
                  | ok y => obtain ⟨x, r0⟩ := y; obtain ⟨_, h2, h3⟩ := hok x r0 hn; exact ⟨x, r0, rfl, h2, h3⟩
                subst hdr
                have hT2 := HT.out
                rw [hnm] at hT2
                have HT2 := Lib.hid hT2
                have HXR := Lib.hid hxr
                clear hT2 hxr hnm HT hok her
                go_wp2_with fail
                refine (rpath_calls g s p' _ hB2 hp2 hs).mono ?_
                rintro e w3 ⟨pv, xs, p3, e3, rfl, hS3, hB3, hp3, hp4, hg3, hok, her⟩
                obtain ⟨sa, sc, rfl⟩ := hS3.slice
                have hW3 := Blk.grown hW2 hg3 (by simp; omega)
                have hg13 := hg12.trans hg3
                have HOK := Lib.hid hok
                have HER := Lib.hid her
                clear hok her hB2 hW2 hg3
                have k0 := hW3.cell 0 _ rfl
                have k1 := hW3.cell 1 _ rfl
                have k2 := hW3.cell 2 _ rfl
                have k3 := hW3.cell 3 _ rfl
                have f0 := hW3.free 0
                have f1 := hW3.free 1
                have f2 := hW3.free 2
                have f3 := hW3.free 3
                have hW4 : Blk w.heap.size 40 [.int .i64 2, .string r, .slice sa xs.length sc, .int .i64 0] ((((w3.setCell ⟨w.heap.size, 0, none⟩ (.int .i64 2)).setCell ⟨w.heap.size, 1, none⟩ (.string r)).setCell ⟨w.heap.size, 2, none⟩ (.slice sa xs.length sc)).setCell ⟨w.heap.size, 3, none⟩ (.int .i64 0)) := (((hW3.set 0 _).set 1 _).set 2 _).set 3 _
                have hg4 : w.grownBy ((((w3.setCell ⟨w.heap.size, 0, none⟩ (.int .i64 2)).setCell ⟨w.heap.size, 1, none⟩ (.string r)).setCell ⟨w.heap.size, 2, none⟩ (.slice sa xs.length sc)).setCell ⟨w.heap.size, 3, none⟩ (.int .i64 0)) (some g) := grown_put4 hg13 w.heap.size (Nat.le_refl _) _ _ _ _
                have hB4 : Blk g _ _ ((((w3.setCell ⟨w.heap.size, 0, none⟩ (.int .i64 2)).setCell ⟨w.heap.size, 1, none⟩ (.string r)).setCell ⟨w.heap.size, 2, none⟩ (.slice sa xs.length sc)).setCell ⟨w.heap.size, 3, none⟩ (.int .i64 0)) := blk_put4 hB3 w.heap.size (by omega) (.int .i64 2) (.string r) (.slice sa xs.length sc) (.int .i64 0)
                have hS4 : Strs _ (.slice sa xs.length sc) xs ((((w3.setCell ⟨w.heap.size, 0, none⟩ (.int .i64 2)).setCell ⟨w.heap.size, 1, none⟩ (.string r)).setCell ⟨w.heap.size, 2, none⟩ (.slice sa xs.length sc)).setCell ⟨w.heap.size, 3, none⟩ (.int .i64 0)) := own_put4 hS3 w.heap.size hz2 (.int .i64 2) (.string r) (.slice sa xs.length sc) (.int .i64 0)
                go_wp2
                clear k0 k1 k2 k3 f0 f1 f2 f3
                generalize ((w3.setCell ⟨w.heap.size, 0, none⟩ (.int .i64 2)).setCell ⟨w.heap.size, 1, none⟩ (.string r)).setCell ⟨w.heap.size, 2, none⟩ (.slice sa xs.length sc) = w39 at *
                generalize w39.setCell ⟨w.heap.size, 3, none⟩ (.int .i64 0) = w40 at *
                have d0 := hW4.cell 0 _ rfl
                have d1 := hW4.cell 1 _ rfl
                have d2 := hW4.cell 2 _ rfl
                have d3 := hW4.cell 3 _ rfl
                refine bodyPost_ret (v := .agg #[.int .i64 2, .string r, .slice sa xs.length sc, .int .i64 0]) (by simp [results, Tryd.results49, go_sem, d0, d1, d2, d3]) rfl ?_
                have hS5 := World.ownsRow.mono hS4 hg12.size
                exact RwPost.map (f := fun y => (⟨2, x, y, 0⟩ : Wd)) HT2.out ⟨_, _, _, rfl⟩ hB4 (by omega) hp4 hg4 (fun y r' h => by obtain ⟨h1, rfl, h3⟩ := HOK.out y r' h; exact ⟨h1, rfl, HXR.out, rfl, hS5, h3⟩) HER.out
              · have hne : ∃ c, nameL (s.data.toList.drop (p + 1)) = .error c ∧ e' = c := by
                  cases hn : nameL (s.data.toList.drop (p + 1)) with
                  | error c => exact ⟨c, rfl, her c hn⟩
                  | ok y => obtain ⟨x, r0⟩ := y; exact absurd (hok x r0 hn).1 he0
                have HNE := Lib.hid hne
                clear hne hok her
                go_wp2_with fail
                refine (rpath_none g s p' e' _ hB2 he0).mono ?_
                rintro e w3 ⟨rfl, m, hw3⟩
                have hB3 : Cr g s p' e' w3 := by rw [hw3]; exact hB2.drewN m
                have hW3 : Blk w.heap.size 40 wd0 w3 := by rw [hw3]; exact Blk.grown hW2 (grownBy_drewN _ none _) (by simp)
                have hg13 : w.grownBy w3 (some g) := by rw [hw3]; exact hg12.trans (grownBy_drewN _ _ _)
                clear hw3 hB2 hW2 hg12
                have k0 := hW3.cell 0 _ rfl
                have k1 := hW3.cell 1 _ rfl
                have k2 := hW3.cell 2 _ rfl
                have k3 := hW3.cell 3 _ rfl
                have f0 := hW3.free 0
                have f1 := hW3.free 1
                have f2 := hW3.free 2
                have f3 := hW3.free 3
                have hW4 : Blk w.heap.size 40 [.int .i64 2, .string r, .slice none 0 0, .int .i64 0] ((((w3.setCell ⟨w.heap.size, 0, none⟩ (.int .i64 2)).setCell ⟨w.heap.size, 1, none⟩ (.string r)).setCell ⟨w.heap.size, 2, none⟩ (.slice none 0 0)).setCell ⟨w.heap.size, 3, none⟩ (.int .i64 0)) := (((hW3.set 0 _).set 1 _).set 2 _).set 3 _
                have hg4 : w.grownBy ((((w3.setCell ⟨w.heap.size, 0, none⟩ (.int .i64 2)).setCell ⟨w.heap.size, 1, none⟩ (.string r)).setCell ⟨w.heap.size, 2, none⟩ (.slice none 0 0)).setCell ⟨w.heap.size, 3, none⟩ (.int .i64 0)) (some g) := grown_put4 hg13 w.heap.size (Nat.le_refl _) _ _ _ _
                have hB4 : Blk g _ _ ((((w3.setCell ⟨w.heap.size, 0, none⟩ (.int .i64 2)).setCell ⟨w.heap.size, 1, none⟩ (.string r)).setCell ⟨w.heap.size, 2, none⟩ (.slice none 0 0)).setCell ⟨w.heap.size, 3, none⟩ (.int .i64 0)) := blk_put4 hB3 w.heap.size (by omega) (.int .i64 2) (.string r) (.slice none 0 0) (.int .i64 0)
                go_wp2
                clear k0 k1 k2 k3 f0 f1 f2 f3
                generalize ((w3.setCell ⟨w.heap.size, 0, none⟩ (.int .i64 2)).setCell ⟨w.heap.size, 1, none⟩ (.string r)).setCell ⟨w.heap.size, 2, none⟩ (.slice none 0 0) = w39 at *
                generalize w39.setCell ⟨w.heap.size, 3, none⟩ (.int .i64 0) = w40 at *
                have d0 := hW4.cell 0 _ rfl
                have d1 := hW4.cell 1 _ rfl
                have d2 := hW4.cell 2 _ rfl
                have d3 := hW4.cell 3 _ rfl
                refine bodyPost_ret (v := .agg #[.int .i64 2, .string r, .slice none 0 0, .int .i64 0]) (by simp [results, Tryd.results49, go_sem, d0, d1, d2, d3]) rfl ?_
                obtain ⟨c, hnm, rfl⟩ := HNE.out
                have hT := HT.out
                rw [hnm] at hT
                refine ⟨2, r, _, 0, p', e', rfl, ⟨_, _, _, rfl⟩, hB4, by omega, hp2, hg4, fun d r' h => ?_, fun c h => ?_⟩
                · rw [hT] at h; cases h
                · rw [hT] at h; cases h; rfl
            · have q4 : ((b.toNat : Int) == 36) = false := beq_eq_false_iff_ne.2 fun e => h36 (UInt8.toNat_inj.1 (by show _ = 36; omega))
              have hT : wordP (b :: s.data.toList.drop (p + 1)) = (nameL (s.data.toList.drop p)).map fun x => ((fun y => (⟨0, y, [], 0⟩ : Wd)) x.1, x.2) := by
                rw [HP.out, HDC.out]
                exact wordL_else hps h34 hnd h46 h36
              have HT := Lib.hid hT
              clear hT HP hps h34 hnd h46 h36
              have hz1 := hWx.lt
              go_wp2_with fail
              refine (rname_calls g s p _ hBx (by omega) (by omega)).mono ?_
              rintro e w2 ⟨r, p', e', rfl, hB2, hp1, hp2, hg2, hok, her⟩
              have hW2 := Blk.grown hWx hg2 (by simp; omega)
              have hg12 := hgx.trans hg2
              have HOK := Lib.hid hok
              have HER := Lib.hid her
              clear hok her hBx hWx hgx hg2
              have k0 := hW2.cell 0 _ rfl
              have k1 := hW2.cell 1 _ rfl
              have k2 := hW2.cell 2 _ rfl
              have k3 := hW2.cell 3 _ rfl
              have f0 := hW2.free 0
              have f1 := hW2.free 1
              have f2 := hW2.free 2
              have f3 := hW2.free 3
              have hW4 : Blk w.heap.size 40 [.int .i64 0, .string r, .slice none 0 0, .int .i64 0] ((((w2.setCell ⟨w.heap.size, 0, none⟩ (.int .i64 0)).setCell ⟨w.heap.size, 1, none⟩ (.string r)).setCell ⟨w.heap.size, 2, none⟩ (.slice none 0 0)).setCell ⟨w.heap.size, 3, none⟩ (.int .i64 0)) := (((hW2.set 0 _).set 1 _).set 2 _).set 3 _
              have hg4 : w.grownBy ((((w2.setCell ⟨w.heap.size, 0, none⟩ (.int .i64 0)).setCell ⟨w.heap.size, 1, none⟩ (.string r)).setCell ⟨w.heap.size, 2, none⟩ (.slice none 0 0)).setCell ⟨w.heap.size, 3, none⟩ (.int .i64 0)) (some g) := grown_put4 hg12 w.heap.size (Nat.le_refl _) _ _ _ _
              have hB4 : Blk g _ _ ((((w2.setCell ⟨w.heap.size, 0, none⟩ (.int .i64 0)).setCell ⟨w.heap.size, 1, none⟩ (.string r)).setCell ⟨w.heap.size, 2, none⟩ (.slice none 0 0)).setCell ⟨w.heap.size, 3, none⟩ (.int .i64 0)) := blk_put4 hB2 w.heap.size (by omega) (.int .i64 0) (.string r) (.slice none 0 0) (.int .i64 0)
              go_wp2
              clear k0 k1 k2 k3 f0 f1 f2 f3
              generalize ((w2.setCell ⟨w.heap.size, 0, none⟩ (.int .i64 0)).setCell ⟨w.heap.size, 1, none⟩ (.string r)).setCell ⟨w.heap.size, 2, none⟩ (.slice none 0 0) = w39 at *
              generalize w39.setCell ⟨w.heap.size, 3, none⟩ (.int .i64 0) = w40 at *
              have d0 := hW4.cell 0 _ rfl
              have d1 := hW4.cell 1 _ rfl
              have d2 := hW4.cell 2 _ rfl
              have d3 := hW4.cell 3 _ rfl
              refine bodyPost_ret (v := .agg #[.int .i64 0, .string r, .slice none 0 0, .int .i64 0]) (by simp [results, Tryd.results49, go_sem, d0, d1, d2, d3]) rfl ?_
              exact RwPost.map (f := fun y => (⟨0, y, [], 0⟩ : Wd)) HT.out ⟨_, _, _, rfl⟩ hB4 hp1 hp2 hg4 (fun x r' h => by obtain ⟨h1, h2, h3⟩ := HOK.out x r' h; exact ⟨h1, rfl, h2, rfl, strs_nil _ _, h3⟩) HER.out
end Go.Proofs.YtblkbhomlblfnaaDoor.S
