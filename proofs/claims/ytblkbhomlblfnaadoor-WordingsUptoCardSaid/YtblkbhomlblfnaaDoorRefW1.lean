/-
  THE WALKS of the reference's words: fail, name.
-/
import Derived.Test.YtblkbhomlblfnaaDoorRefLex
import Derived.Test.YtblkbhomlblfnaaDoorLexWalks
import Derived.Test.YtblkbhomlblfnaaDoorPlainW4
set_option linter.unusedVariables false
set_option linter.unusedSimpArgs false
namespace Go.Proofs.YtblkbhomlblfnaaDoor.S
open Go.RowKit

/-- the reference's cursor: its text, its place, its error -/
def Cr (g : Nat) (s : ByteArray) (p e : Nat) (w : World) : Prop := Blk g 83 [.string s, .int .i64 p, .int .i64 e] w
theorem Cr.grown {g : Nat} {s : ByteArray} {p e : Nat} {w w' : World} (h : Cr g s p e w) {row : Option Nat} (hg : w.grownBy w' row) (hne : some g ≠ row) : Cr g s p e w' := Blk.grown h hg hne
theorem Cr.drewN {g : Nat} {s : ByteArray} {p e : Nat} {w : World} (h : Cr g s p e w) (n : Nat) : Cr g s p e (w.drewN n) := h
theorem Cr.at {g : Nat} {s : ByteArray} {p e : Nat} {w : World} (h : Cr g s p e w) (n k : Nat) (x : Int) (hx : x = k) : Cr g s k e ((w.drewN n).setCell ⟨g, 1, none⟩ (.int .i64 x)) := by
  subst hx
  exact Blk.set (Blk.below h (Below.drewN (Below.refl _ _) n)) 1 _
theorem Cr.at0 {g : Nat} {s : ByteArray} {p e : Nat} {w : World} (h : Cr g s p e w) (k : Nat) (x : Int) (hx : x = k) : Cr g s k e (w.setCell ⟨g, 1, none⟩ (.int .i64 x)) := by
  subst hx
  exact Blk.set h 1 _

set_option maxHeartbeats 2000000 in
theorem rfail_calls (g : Nat) (s : ByteArray) (p c : Nat) (w : World) (hB : Cr g s p 0 w) :
    Calls Tryd.prog 50 #[.pointer (some ⟨g, 0, none⟩), .int .i64 c] w fun e w' => e = .returned (.tuple #[]) ∧ Cr g s p c w' ∧ w.grownBy w' (some g) := by
  have c2 := hB.cell 2 _ rfl
  have f2 := hB.free 2
  go_enter Tryd.func50, Tryd.ntmps50
  go_wp2
  go_end0
  exact ⟨rfl, Blk.set hB 2 _, grownBy_set w g 2 _⟩
set_option maxHeartbeats 2000000 in
theorem rfail_again (g : Nat) (s : ByteArray) (p x : Nat) (c : Int) (w : World) (hB : Cr g s p x w) (hx : x ≠ 0) :
    Calls Tryd.prog 50 #[.pointer (some ⟨g, 0, none⟩), .int .i64 c] w fun e w' => e = .returned (.tuple #[]) ∧ w = w' := by
  have c2 := hB.cell 2 _ rfl
  have hb : ((x : Int) == 0) = false := beq_eq_false_iff_ne.2 (by omega)
  clear hx
  go_enter Tryd.func50, Tryd.ntmps50
  go_wp2
  go_end0
  exact ⟨rfl, rfl⟩
/-- a name's outcome -/
def NmPost (T : Except Nat (List UInt8 × List UInt8)) (w : World) (g : Nat) (s : ByteArray) (p : Nat) (e : Ending) (w' : World) : Prop :=
  ∃ (r : ByteArray) (p' e' : Nat), e = .returned (.string r) ∧ Cr g s p' e' w' ∧ p ≤ p' ∧ p' ≤ s.size ∧ w.grownBy w' (some g) ∧
    (∀ x r', T = .ok (x, r') → e' = 0 ∧ StrIs r x ∧ s.data.toList.drop p' = r') ∧ (∀ c, T = .error c → e' = c)
theorem nmN_take_all : ∀ (l : List UInt8), ((l.take (nmN l)).all fun b => wlater b.toNat) = true
  | [] => rfl
  | b :: r => by
    have ih := nmN_take_all r
    show ((List.take (if wlater b.toNat = true then nmN r + 1 else 0) (b :: r)).all _) = true
    cases h : wlater b.toNat with
    | true => rw [if_pos rfl, List.take_succ_cons, List.all_cons, h, ih]; rfl
    | false => rfl
theorem nameL_bad {l : List UInt8} (h : ∀ b t, l = b :: t → wfirst b.toNat = false) : nameL l = .error 1400 := by
  unfold nameL
  rw [if_neg]
  intro hok
  obtain ⟨b, t, hx, hb⟩ := nameOk_first hok
  cases l with
  | nil => cases hx
  | cons c r =>
    have : c = b := by
      cases hn : nmN (c :: r) with
      | zero => rw [hn] at hx; cases hx
      | succ m => rw [hn, List.take_succ_cons] at hx; exact (List.cons.inj hx).1
    rw [this] at h
    rw [h b r rfl] at hb
    cases hb
theorem nameL_long {l : List UInt8} (h : 32 < nmN l) : nameL l = .error 1400 := by
  unfold nameL
  rw [if_neg]
  rw [nameOk_long (by rw [List.length_take]; have := nmN_le l; omega)]
  simp
theorem nameL_good {l : List UInt8} {b : UInt8} {t : List UInt8} (hl : l = b :: t) (hb : wfirst b.toNat = true) (h : nmN l ≤ 32) : nameL l = .ok (l.take (nmN l), l.drop (nmN l)) := by
  have hw : wlater b.toNat = true := by unfold wlater; rw [hb]; rfl
  have h1 : nmN l = nmN t + 1 := by rw [hl]; show (if wlater b.toNat = true then nmN t + 1 else 0) = _; rw [if_pos hw]
  have hle := nmN_le l
  unfold nameL
  rw [if_pos]
  rw [nameOk_rest (by rw [List.length_take]; omega) (by rw [List.length_take]; omega), nmN_take_all]
  rw [h1, hl, List.take_succ_cons]
  show (wfirst b.toNat && true) = true
  rw [hb]
  rfl

theorem rletter_q (c : Nat) (b : Bool) (w : World) (h : c < 256) (hb : letterI c = b) :
    Calls Tryd.prog 42 #[.int .u8 c] w fun e w' => e = .returned (.bool b) ∧ w' = w := by
  subst hb
  exact (rletter_calls c w (by omega) (by omega)).mono fun _ _ ⟨he, hw⟩ => ⟨he, hw.symm⟩
theorem rdigit_q (c : Nat) (b : Bool) (w : World) (h : c < 256) (hb : digitI c = b) :
    Calls Tryd.prog 43 #[.int .u8 c] w fun e w' => e = .returned (.bool b) ∧ w' = w := by
  subst hb
  exact (rdigit_calls c w (by omega) (by omega)).mono fun _ _ ⟨he, hw⟩ => ⟨he, hw.symm⟩
/-- does the name go on behind k bytes? -/
def nameGo (k : Nat) (l : List UInt8) : Bool := match l with
  | [] => false
  | b :: _ => letterI b.toNat || b.toNat == 95 || (decide (0 < k) && digitI b.toNat)
theorem nameGo_yes {k : Nat} {l : List UInt8} (h : nameGo k l = true) : ∃ b t, l = b :: t ∧ wlater b.toNat = true ∧ (k = 0 → wfirst b.toNat = true) := by
  cases l with
  | nil => cases h
  | cons b t =>
    refine ⟨b, t, rfl, ?_, ?_⟩
    · unfold nameGo at h
      unfold wlater wfirst
      simp only [Bool.or_eq_true, Bool.and_eq_true] at h ⊢
      rcases h with (h | h) | ⟨_, h⟩
      · exact .inl (.inr h)
      · exact .inl (.inl h)
      · exact .inr h
    · rintro rfl
      unfold nameGo at h
      unfold wfirst
      simp only [Bool.or_eq_true, Bool.and_eq_true] at h ⊢
      rcases h with (h | h) | ⟨h, _⟩
      · exact .inr h
      · exact .inl h
      · exact absurd (of_decide_eq_true h) (by omega)
theorem nameGo_no {k : Nat} {l : List UInt8} (h : nameGo k l = false) : (k = 0 → ∀ b t, l = b :: t → wfirst b.toNat = false) ∧ (0 < k → nmN l = 0) := by
  cases l with
  | nil => exact ⟨fun _ b t e => (by cases e), fun _ => rfl⟩
  | cons b t =>
    unfold nameGo at h
    simp only [Bool.or_eq_false_iff] at h
    obtain ⟨⟨h1, h2⟩, h3⟩ := h
    refine ⟨fun _ b' t' e => ?_, fun hk => ?_⟩
    · cases e
      unfold wfirst
      rw [h1, h2]; rfl
    · rw [decide_eq_true hk, Bool.true_and] at h3
      show (if wlater b.toNat = true then _ else 0) = 0
      unfold wlater wfirst
      rw [h1, h2, h3]; rfl
set_option maxRecDepth 100000 in
set_option maxHeartbeats 8000000 in
theorem rname_calls (g : Nat) (s : ByteArray) (p : Nat) (w : World) (hB : Cr g s p 0 w) (hp : p ≤ s.size) (hs : s.size ≤ 4611686018427387904) :
    Calls Tryd.prog 76 #[.pointer (some ⟨g, 0, none⟩)] w fun e w' => NmPost (nameL (s.data.toList.drop p)) w g s p e w' := by
  have c1 := hB.cell 1 _ rfl
  have hll := size_list s
  go_enter Tryd.func76, Tryd.ntmps76
  go_wp2
  clear c1
  go_loopg [] (s.size - p) (fun gk wr => ∃ q, Cr g s q 0 wr ∧ w.grownBy wr (some g) ∧ p ≤ q ∧ gk + q = s.size ∧ Hid (q - p + nmN (s.data.toList.drop q) = nmN (s.data.toList.drop p)) ∧ Hid (p < q → ∃ b t, s.data.toList.drop p = b :: t ∧ wfirst b.toNat = true))
  case atStart => exact ⟨p, hB, World.grownBy.refl _ _, Nat.le_refl _, by omega, by show p - p + _ = _; rw [Nat.sub_self, Nat.zero_add], fun h => absurd h (by omega)⟩
  case round =>
    obtain ⟨q, hBk, hg, hpq, hgk, hN, hF⟩ := hrel
    have HGK := Lib.hid hgk
    have hks : q ≤ s.size := by omega
    clear hgk
    have c0 := hBk.cell 0 _ rfl
    have c1 := hBk.cell 1 _ rfl
    have f1 := hBk.free 1
    go_upto_region 2 with (fail)
    go_cut [61] (fun v61 wx => v61 = .bool (nameGo (q - p) (s.data.toList.drop q)) ∧ Cr g s q 0 wx ∧ w.grownBy wx (some g))
    case first =>
      by_cases h : q < s.size
      · have hdc := drop_cons s q h
        obtain ⟨b, hb⟩ : ∃ b : UInt8, b = s[q]'h := ⟨_, rfl⟩
        have hbt : ∀ h', ((s[q]'h').toNat : Nat) = b.toNat := fun h' => by rw [hb]
        rw [← hb] at hdc
        have hlt := b.toNat_lt
        have hgo : nameGo (q - p) (s.data.toList.drop q) = (letterI b.toNat || b.toNat == 95 || (decide (0 < q - p) && digitI b.toNat)) := by rw [hdc]; rfl
        have HGO := Lib.hid hgo
        clear hdc hb hN hF hgo
        generalize b.toNat = c at *
        have hjb : decide ((q : Int) < (s.size : Int)) = true := decide_eq_true (by omega)
        have HBK := Lib.hid hBk
        clear hBk
        cases hL : letterI c with
        | true =>
          rw [hL] at HGO
          go_quiet ((go_at_call 42; refine Calls.quiet_of_same (rletter_q c true _ hlt hL)))
          go_wp2_with fail
          go_meet
          exact ⟨by rw [HGO.out]; rfl, HBK.out.drewN _, hg.trans (grownBy_drewN wr _ _)⟩
        | false =>
          rw [hL] at HGO
          cases hU : c == 95 with
          | true =>
            have hub : ((c : Int) == 95) = true := beq_iff_eq.2 (by have := beq_iff_eq.1 hU; omega)
            rw [hU] at HGO
            go_quiet ((go_at_call 42; refine Calls.quiet_of_same (rletter_q c false _ hlt hL)))
            go_wp2_with fail
            go_meet
            exact ⟨by rw [HGO.out]; rfl, HBK.out.drewN _, hg.trans (grownBy_drewN wr _ _)⟩
          | false =>
            have hub : ((c : Int) == 95) = false := beq_eq_false_iff_ne.2 (by have := beq_eq_false_iff_ne.1 hU; omega)
            rw [hU] at HGO
            by_cases hk : p < q
            · have hkb : decide ((q : Int) > (p : Int)) = true := decide_eq_true (by omega)
              have hkb2 : decide ((p : Int) < (q : Int)) = true := decide_eq_true (by omega)
              rw [decide_eq_true (show 0 < q - p by omega)] at HGO
              cases hD : digitI c with
              | true =>
                rw [hD] at HGO
                go_quiet (first | (go_at_call 42; refine Calls.quiet_of_same (rletter_q c false _ hlt hL)) | (go_at_call 43; refine Calls.quiet_of_same (rdigit_q c true _ hlt hD)))
                go_wp2_with fail
                go_meet
                exact ⟨by rw [HGO.out]; rfl, HBK.out.drewN _, hg.trans (grownBy_drewN wr _ _)⟩
              | false =>
                rw [hD] at HGO
                go_quiet (first | (go_at_call 42; refine Calls.quiet_of_same (rletter_q c false _ hlt hL)) | (go_at_call 43; refine Calls.quiet_of_same (rdigit_q c false _ hlt hD)))
                go_wp2_with fail
                go_meet
                exact ⟨by rw [HGO.out]; rfl, HBK.out.drewN _, hg.trans (grownBy_drewN wr _ _)⟩
            · obtain rfl : q = p := by omega
              have hkb : decide ((q : Int) > (q : Int)) = false := decide_eq_false (by omega)
              have hkb2 : decide ((q : Int) < (q : Int)) = false := decide_eq_false (by omega)
              rw [decide_eq_false (show ¬ 0 < q - q by omega)] at HGO
              go_quiet (first | (go_at_call 42; refine Calls.quiet_of_same (rletter_q c false _ hlt hL)))
              go_wp2_with fail
              go_meet
              exact ⟨by rw [HGO.out]; rfl, HBK.out.drewN _, hg.trans (grownBy_drewN wr _ _)⟩
      · obtain rfl : q = s.size := by omega
        have hjb : decide ((s.size : Int) < (s.size : Int)) = false := decide_eq_false (by omega)
        have hgo : nameGo (s.size - p) (s.data.toList.drop s.size) = false := by rw [List.drop_eq_nil_of_le (Nat.le_of_eq hll)]; rfl
        have HGO := Lib.hid hgo
        clear hgo hN hF
        go_quiet (fail)
        go_wp2_with fail
        go_meet
        exact ⟨by rw [HGO.out], hBk.drewN _, hg.trans (grownBy_drewN wr _ _)⟩
    case rest =>
    obtain ⟨rfl, hBx, hgx⟩ := hcut
    clear hg hBk c0 c1 f1
    have c0 := hBx.cell 0 _ rfl
    have c1 := hBx.cell 1 _ rfl
    have f1 := hBx.free 1
    have hsl := fun W => slice_mid s (p : Int) (q : Int) p q rfl rfl hpq hks W
    cases hgo : nameGo (q - p) (s.data.toList.drop q) with
    | true =>
      obtain ⟨b, t, hbt, hwl, hwf⟩ := nameGo_yes hgo
      have hq : q < s.size := by
        have := congrArg List.length hbt
        rw [List.length_drop, hll, List.length_cons] at this
        omega
      have ht : t = s.data.toList.drop (q + 1) := by rw [drop_cons s q hq] at hbt; exact (List.cons.inj hbt).2.symm
      have h1 : nmN (s.data.toList.drop q) = nmN (s.data.toList.drop (q + 1)) + 1 := by
        rw [hbt, ← ht]
        show (if wlater b.toNat = true then nmN t + 1 else 0) = _
        rw [if_pos hwl]
      have hn' : Hid (q + 1 - p + nmN (s.data.toList.drop (q + 1)) = nmN (s.data.toList.drop p)) := by have := hN.out; show _ = _; omega
      have hf' : Hid (p < q + 1 → ∃ b t, s.data.toList.drop p = b :: t ∧ wfirst b.toNat = true) := by
        intro _
        by_cases hpq' : p < q
        · exact hF.out hpq'
        · obtain rfl : q = p := by omega
          exact ⟨b, t, hbt, hwf (by omega)⟩
      clear hbt hwl hwf ht h1 hN hF hgo hsl
      go_wp2
      go_roundg (gk - 1)
      case measure => have := HGK.out; omega
      case rel => exact ⟨q + 1, hBx.at0 (q + 1) _ (by go_num), hgx.trans (grownBy_set _ g 1 _), by omega, by have := HGK.out; omega, hn', hf'⟩
    | false =>
      obtain ⟨hz, hk⟩ := nameGo_no hgo
      by_cases hpq' : p < q
      · have h1 := hk (by omega)
        have h2 := hN.out
        rw [h1, Nat.add_zero] at h2
        obtain ⟨b, t, hbt, hwf⟩ := hF.out hpq'
        have e1 : ((q : Int) == (p : Int)) = false := beq_eq_false_iff_ne.2 (by omega)
        by_cases h32 : 32 < q - p
        · have e2 : decide ((32 : Int) < (q : Int) - (p : Int)) = true := decide_eq_true (by omega)
          have hT := Lib.hid (nameL_long (show 32 < nmN (s.data.toList.drop p) by omega))
          clear hz hk h1 h2 hbt hwf hN hF hgo
          go_wp2_with (go_at_call 50; refine (rfail_calls g s q 1400 _ hBx).mono ?_; rintro e w9 ⟨rfl, hB9, hg9⟩; have c0 := hB9.cell 0 _ rfl; have c1 := hB9.cell 1 _ rfl)
          go_quiet (fail)
          go_wp2
          go_ret
          refine ⟨_, q, 1400, rfl, hB9.drewN _, hpq, hks, (hgx.trans hg9).trans (grownBy_drewN _ _ _), fun x r' h => ?_, fun c h => ?_⟩
          · rw [hT.out] at h; cases h
          · rw [hT.out] at h; cases h; rfl
        · have e2 : decide ((32 : Int) < (q : Int) - (p : Int)) = false := decide_eq_false (by omega)
          have hT := Lib.hid (nameL_good hbt hwf (show nmN (s.data.toList.drop p) ≤ 32 by omega))
          rw [← h2] at hT
          clear hz hk h1 h2 hbt hwf hN hF hgo
          go_wp2_with fail
          go_quiet (fail)
          go_wp2
          go_ret
          refine ⟨_, q, 0, rfl, hBx.drewN _, hpq, hks, hgx.trans (grownBy_drewN _ _ _), fun x r' h => ?_, fun c h => by rw [hT.out] at h; cases h⟩
          rw [hT.out] at h
          cases h
          exact ⟨rfl, by show _ = _; rw [Lib.extract_data], by rw [List.drop_drop]; congr 1; omega⟩
      · obtain rfl : q = p := by omega
        have e1 : ((q : Int) == (q : Int)) = true := beq_iff_eq.2 rfl
        have hT := Lib.hid (nameL_bad (hz (by omega)))
        clear hz hk hN hF hgo
        go_wp2_with (go_at_call 50; refine (rfail_calls g s q 1400 _ hBx).mono ?_; rintro e w9 ⟨rfl, hB9, hg9⟩; have c0 := hB9.cell 0 _ rfl; have c1 := hB9.cell 1 _ rfl)
        go_quiet (fail)
        go_wp2
        go_ret
        refine ⟨_, q, 1400, rfl, hB9.drewN _, hpq, hks, (hgx.trans hg9).trans (grownBy_drewN _ _ _), fun x r' h => ?_, fun c h => ?_⟩
        · rw [hT.out] at h; cases h
        · rw [hT.out] at h; cases h; rfl
end Go.Proofs.YtblkbhomlblfnaaDoor.S
