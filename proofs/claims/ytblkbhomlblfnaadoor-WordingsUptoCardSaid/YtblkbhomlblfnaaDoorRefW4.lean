/-
  THE WALK of the reference's words: int.
-/
import Derived.Test.YtblkbhomlblfnaaDoorRefW3
set_option linter.unusedVariables false
set_option linter.unusedSimpArgs false
namespace Go.Proofs.YtblkbhomlblfnaaDoor.S
open Go.RowKit

/-- a number's outcome -/
def NuPost (T : Except Nat (Int × List UInt8)) (w : World) (g : Nat) (s : ByteArray) (p : Nat) (e : Ending) (w' : World) : Prop :=
  ∃ (x : Int) (p' e' : Nat), e = .returned (.int .i64 x) ∧ Cr g s p' e' w' ∧ p ≤ p' ∧ p' ≤ s.size ∧ w.grownBy w' (some g) ∧
    (∀ y r', T = .ok (y, r') → e' = 0 ∧ x = y ∧ s.data.toList.drop p' = r') ∧ (∀ c, T = .error c → e' = c)
theorem digV_snoc (b : UInt8) : ∀ (l : List UInt8) (x : Nat), digV x (l ++ [b]) = min (10 * digV x l + (b.toNat - 48)) 9007199254740992
  | [], x => rfl
  | c :: l, x => digV_snoc b l _
/-- the number as the reference holds it -/
def NumRel (X y : Nat) : Prop := (X ≤ 9007199254740991 ∧ X = y) ∨ (9007199254740991 < X ∧ X ≤ 90071992547409919 ∧ y = 9007199254740992)
theorem NumRel.step {X y : Nat} {b : UInt8} (h : NumRel X y) (h1 : X ≤ 9007199254740991) (hb : b.toNat - 48 ≤ 9) : NumRel (10 * X + (b.toNat - 48)) (min (10 * y + (b.toNat - 48)) 9007199254740992) := by
  unfold NumRel at *
  omega
theorem NumRel.stay {X y : Nat} {b : UInt8} (h : NumRel X y) (h1 : ¬ X ≤ 9007199254740991) : NumRel X (min (10 * y + (b.toNat - 48)) 9007199254740992) := by
  unfold NumRel at *
  omega
def numT (neg : Bool) (l : List UInt8) : Except Nat (Int × List UInt8) :=
  if 0 < digN l ∧ digV 0 (l.take (digN l)) ≤ 9007199254740991 then .ok (if neg = true then -(digV 0 (l.take (digN l)) : Int) else digV 0 (l.take (digN l)), l.drop (digN l)) else .error 1402
theorem numL_cases (b : UInt8) (t : List UInt8) : numL (b :: t) = numT ((b.toNat : Int) == 45) (if ((b.toNat : Int) == 45) = true then t else b :: t) := by
  have h : List.isPrefixOf [45] (b :: t) = ((b.toNat : Int) == 45) := by
    show (45 == b && true) = _
    rw [Bool.and_true, Bool.eq_iff_iff, beq_iff_eq, beq_iff_eq]
    exact ⟨fun e => by rw [← e]; rfl, fun e => (UInt8.toNat_inj.1 (by show b.toNat = 45; omega)).symm⟩
  unfold numL
  rw [h]
  rfl
def digGo (l : List UInt8) : Bool := match l with
  | [] => false
  | b :: _ => digitI b.toNat
theorem digN_go {l : List UInt8} (h : digGo l = true) : ∃ b t, l = b :: t ∧ digitI b.toNat = true ∧ digN l = digN t + 1 := by
  cases l with
  | nil => cases h
  | cons b t => exact ⟨b, t, rfl, h, by show (if digitI b.toNat = true then _ else _) = _; rw [if_pos (show digitI b.toNat = true from h)]⟩
theorem digN_no {l : List UInt8} (h : digGo l = false) : digN l = 0 := by
  cases l with
  | nil => rfl
  | cons b t => show (if digitI b.toNat = true then _ else _) = _; rw [if_neg (by rw [show digitI b.toNat = false from h]; simp)]

set_option maxRecDepth 100000 in
set_option maxHeartbeats 8000000 in
theorem rint_calls (g : Nat) (s : ByteArray) (p : Nat) (w : World) (hB : Cr g s p 0 w) (hp : p < s.size) (hs : s.size ≤ 1073741824) :
    Calls Tryd.prog 74 #[.pointer (some ⟨g, 0, none⟩)] w fun e w' => NuPost (numL (s.data.toList.drop p)) w g s p e w' := by
  have hgl := hB.lt
  have hll := size_list s
  have hdc := drop_cons s p hp
  obtain ⟨b0, hb0⟩ : ∃ b : UInt8, b = s[p]'hp := ⟨_, rfl⟩
  have hbt : ∀ h', ((s[p]'h').toNat : Nat) = b0.toNat := fun h' => by rw [hb0]
  rw [← hb0] at hdc
  rw [hdc, numL_cases]
  obtain ⟨neg, hneg⟩ : ∃ neg, neg = ((b0.toNat : Int) == 45) := ⟨_, rfl⟩
  obtain ⟨q, hq⟩ : ∃ q, q = if neg = true then p + 1 else p := ⟨_, rfl⟩
  have hlq : (if neg = true then s.data.toList.drop (p + 1) else b0 :: s.data.toList.drop (p + 1)) = s.data.toList.drop q := by
    cases neg with
    | true => rw [hq]; rfl
    | false => rw [hq, if_neg (by simp), if_neg (by simp)]; exact hdc.symm
  have hpq : p ≤ q := by rw [hq]; split <;> omega
  have hqs : q ≤ s.size := by rw [hq]; split <;> omega
  rw [← hneg, hlq]
  have c0 := hB.cell 0 _ rfl
  have c1 := hB.cell 1 _ rfl
  have hjb : decide ((p : Int) < (s.size : Int)) = true := decide_eq_true (by omega)
  have HN := Lib.hid hneg
  have HQ := Lib.hid hq
  clear hdc hb0 hneg hlq hq
  go_enter Tryd.func74, Tryd.ntmps74
  go_upto_region 1 with (fail)
  go_cut [3] (fun v3 wx => v3 = .bool neg ∧ Cr g s p 0 wx ∧ w.grownBy wx (some g))
  case first =>
    go_quiet (fail)
    go_wp2_with fail
    go_meet
    exact ⟨by rw [HN.out], hB.drewN _, grownBy_drewN _ _ _⟩
  case rest =>
  obtain ⟨rfl, hBx, hgx⟩ := hcut
  clear c0 c1 hbt
  have c1 := hBx.cell 1 _ rfl
  have f1 := hBx.free 1
  go_upto_if 16 with (fail)
  go_cut [] (fun wx => Cr g s q 0 wx ∧ w.grownBy wx (some g))
  case first =>
    cases neg with
    | true =>
      go_wp2
      go_meet
      exact ⟨by rw [HQ.out]; exact hBx.at0 (p + 1) _ (by go_num), hgx.trans (grownBy_set _ g 1 _)⟩
    | false =>
      go_wp2
      go_meet
      exact ⟨by rw [HQ.out]; exact hBx, hgx⟩
  case rest =>
  obtain ⟨hB2, hg2⟩ := hcut
  clear c1 f1 hBx hgx
  have c1 := hB2.cell 1 _ rfl
  go_wp2
  clear c1
  go_loopg [5] (s.size - q) (fun gk v5 wr => ∃ (k X : Nat), v5 = .int .i64 X ∧ Cr g s (q + k) 0 wr ∧ gk + (q + k) = s.size ∧ w.grownBy wr (some g) ∧ Hid (NumRel X (digV 0 ((s.data.toList.drop q).take k))) ∧ Hid (k + digN (s.data.toList.drop (q + k)) = digN (s.data.toList.drop q)))
  case atStart => exact ⟨0, 0, rfl, hB2, by omega, hg2, .inl ⟨by omega, rfl⟩, by show 0 + _ = _; rw [Nat.zero_add]; rfl⟩
  case round =>
    obtain ⟨k, X, rfl, hBk, hgk, hg, hR, hD⟩ := hrel
    have HGK := Lib.hid hgk
    obtain ⟨a, ha⟩ : ∃ a, a = q + k := ⟨_, rfl⟩
    rw [← ha] at hBk hgk hD
    have hqa : q ≤ a := by omega
    have has : a ≤ s.size := by omega
    have HA := Lib.hid ha
    clear hgk ha
    have c0 := hBk.cell 0 _ rfl
    have c1 := hBk.cell 1 _ rfl
    go_upto_region 5 with (fail)
    go_cut [49] (fun v49 wx => v49 = .bool (digGo (s.data.toList.drop a)) ∧ Cr g s a 0 wx ∧ w.grownBy wx (some g))
    case first =>
      have HBK := Lib.hid hBk
      clear hBk hR hD
      by_cases h : a < s.size
      · have hdc := drop_cons s a h
        obtain ⟨b, hb⟩ : ∃ b : UInt8, b = s[a]'h := ⟨_, rfl⟩
        have hbt : ∀ h', ((s[a]'h').toNat : Nat) = b.toNat := fun h' => by rw [hb]
        rw [← hb] at hdc
        have hlt := b.toNat_lt
        have hgo : digGo (s.data.toList.drop a) = digitI b.toNat := by rw [hdc]; rfl
        have HGO := Lib.hid hgo
        clear hdc hb hgo
        generalize b.toNat = c at *
        have hjb : decide ((a : Int) < (s.size : Int)) = true := decide_eq_true (by omega)
        go_quiet ((go_at_call 43; refine Calls.quiet_of_same (rdigit_q c (digitI c) _ hlt rfl)))
        go_wp2_with fail
        go_meet
        exact ⟨by rw [HGO.out], HBK.out.drewN _, hg.trans (grownBy_drewN _ _ _)⟩
      · obtain rfl : a = s.size := by omega
        have hjb : decide ((s.size : Int) < (s.size : Int)) = false := decide_eq_false (by omega)
        have hgo : digGo (s.data.toList.drop s.size) = false := by rw [List.drop_eq_nil_of_le (Nat.le_of_eq hll)]; rfl
        have HGO := Lib.hid hgo
        clear hgo
        go_quiet (fail)
        go_wp2_with fail
        go_meet
        exact ⟨by rw [HGO.out], HBK.out.drewN _, hg.trans (grownBy_drewN _ _ _)⟩
    case rest =>
    obtain ⟨rfl, hBx, hgx⟩ := hcut
    clear c0 c1 hBk hg
    cases hgo : digGo (s.data.toList.drop a) with
    | true =>
      obtain ⟨b, t, hbt, hdb, hdn⟩ := digN_go hgo
      have hq : a < s.size := by
        have := congrArg List.length hbt
        rw [List.length_drop, hll, List.length_cons] at this
        omega
      have hdc := drop_cons s a hq
      rw [hbt] at hdc
      obtain ⟨hb, ht⟩ := List.cons.inj hdc
      have hbq : ∀ h', ((s[a]'h').toNat : Nat) = b.toNat := fun h' => by rw [hb]
      have hbr : 48 ≤ b.toNat ∧ b.toNat ≤ 57 := by rw [digitI_true] at hdb; omega
      have hsn : (s.data.toList.drop q).take (k + 1) = (s.data.toList.drop q).take k ++ [b] := by
        have hlk : k < (s.data.toList.drop q).length := by rw [List.length_drop, hll]; have := HA.out; omega
        rw [List.take_succ_eq_append_getElem hlk]
        congr 2
        rw [List.getElem_drop, hb]
        have := HA.out
        subst this
        rfl
      have hdv : digV 0 ((s.data.toList.drop q).take (k + 1)) = min (10 * digV 0 ((s.data.toList.drop q).take k) + (b.toNat - 48)) 9007199254740992 := by rw [hsn, digV_snoc]
      have hD2 : Hid (k + 1 + digN (s.data.toList.drop (a + 1)) = digN (s.data.toList.drop q)) := by
        have := hD.out
        rw [hdn, ht] at this
        show _ = _
        omega
      have hX9 : X ≤ 90071992547409919 := by rcases hR.out with ⟨h, _⟩ | ⟨_, h, _⟩ <;> omega
      obtain ⟨X2, hX2, hX3, hR2⟩ : ∃ X2, (X ≤ 9007199254740991 → X2 = 10 * X + (b.toNat - 48)) ∧ (¬ X ≤ 9007199254740991 → X2 = X) ∧ NumRel X2 (digV 0 ((s.data.toList.drop q).take (k + 1))) := by
        rw [hdv]
        by_cases hM : X ≤ 9007199254740991
        · exact ⟨_, fun _ => rfl, fun h => absurd hM h, hR.out.step hM (by omega)⟩
        · exact ⟨_, fun h => absurd h hM, fun _ => rfl, hR.out.stay hM⟩
      have HX2 := Lib.hid hX2
      have HX3 := Lib.hid hX3
      have HR2 := Lib.hid hR2
      have hjb : decide ((a : Int) < (s.size : Int)) = true := decide_eq_true (by omega)
      have c0 := hBx.cell 0 _ rfl
      have c1 := hBx.cell 1 _ rfl
      clear hdv hsn hdc ht hb hdb hdn hbt hR hD hgo hX2 hX3 hR2
      go_upto_if 51 with (fail)
      go_cut [5] (fun v5 wx => v5 = .int .i64 X2 ∧ Cr g s a 0 wx ∧ w.grownBy wx (some g))
      case first =>
        by_cases hM : X ≤ 9007199254740991
        · have hMb : decide ((X : Int) ≤ 9007199254740991) = true := decide_eq_true (by omega)
          have h2 := HX2.out hM
          have hw1 : IntKind.i64.wrap (10 * (X : Int)) = 10 * (X : Int) := IntWalk.i64_in _ ⟨by omega, by omega⟩
          have hw2 : IntKind.u8.wrap ((b.toNat : Int) - 48) = (b.toNat : Int) - 48 := IntWalk.u8_in _ ⟨by omega, by omega⟩
          have hw3 : IntKind.i64.wrap ((b.toNat : Int) - 48) = (b.toNat : Int) - 48 := IntWalk.i64_in _ ⟨by omega, by omega⟩
          have hw4 : IntKind.i64.wrap (10 * (X : Int) + ((b.toNat : Int) - 48)) = 10 * (X : Int) + ((b.toNat : Int) - 48) := IntWalk.i64_in _ ⟨by omega, by omega⟩
          have hfin : (10 * (X : Int) + ((b.toNat : Int) - 48)) = (X2 : Int) := by omega
          have HFIN := Lib.hid hfin
          clear h2 hfin
          go_wp2_with fail
          go_quiet (fail)
          go_wp2_with fail
          go_meet
          exact ⟨by rw [← HFIN.out], hBx.drewN _, hgx.trans (grownBy_drewN _ _ _)⟩
        · have hMb : decide ((X : Int) ≤ 9007199254740991) = false := decide_eq_false (by omega)
          have h2 := Lib.hid (HX3.out hM)
          go_wp2_with fail
          go_meet
          exact ⟨by rw [h2.out], hBx, hgx⟩
      case rest =>
      obtain ⟨rfl, hBx, hgx⟩ := hcut
      clear c0 c1
      have c1 := hBx.cell 1 _ rfl
      have f1 := hBx.free 1
      go_wp2
      go_roundg (gk - 1)
      case measure => have := HGK.out; have := HA.out; omega
      case rel => exact ⟨k + 1, X2, rfl, by have := HA.out; rw [show q + (k + 1) = a + 1 by omega]; exact hBx.at0 (a + 1) _ (by go_num), by have := HGK.out; have := HA.out; omega, hgx.trans (grownBy_set _ g 1 _), HR2.out, by have := HA.out; rw [show q + (k + 1) = a + 1 by omega]; exact hD2⟩
    | false =>
      have hk := hD.out
      rw [digN_no hgo, Nat.add_zero] at hk
      have hRR := hR.out
      rw [hk] at hRR
      have hnt : numT neg (s.data.toList.drop q) = if 0 < k ∧ X ≤ 9007199254740991 then .ok (if neg = true then -(X : Int) else X, s.data.toList.drop a) else .error 1402 := by
        unfold numT
        rw [← hk] at hRR ⊢
        have hda : (s.data.toList.drop q).drop k = s.data.toList.drop a := by rw [List.drop_drop, HA.out]
        rw [hda]
        rcases hRR with ⟨h1, h2⟩ | ⟨h1, _, h2⟩
        · rw [← h2]
        · rw [h2, if_neg (by omega), if_neg (by omega)]
      have hX9 : X ≤ 90071992547409919 := by rcases hRR with ⟨h, _⟩ | ⟨_, h, _⟩ <;> omega
      have c1 := hBx.cell 1 _ rfl
      have HNT := Lib.hid hnt
      clear hk hRR hnt hD hR hgo
      by_cases hk : 0 < k
      · have e1 : ((a : Int) == (q : Int)) = false := beq_eq_false_iff_ne.2 (by have := HA.out; omega)
        by_cases hM : X ≤ 9007199254740991
        · have e2 : decide ((9007199254740991 : Int) < (X : Int)) = false := decide_eq_false (by omega)
          have hT := HNT.out
          rw [if_pos ⟨hk, hM⟩] at hT
          have HT := Lib.hid hT
          clear hT HNT
          cases neg with
          | true =>
            have hw : IntKind.i64.wrap (-(X : Int)) = -(X : Int) := IntWalk.i64_in _ ⟨by omega, by omega⟩
            go_wp2
            go_ret
            exact ⟨_, a, 0, rfl, hBx, by omega, has, hgx, fun y r' h => (by rw [HT.out] at h; cases h; exact ⟨rfl, rfl, rfl⟩), fun c h => (by rw [HT.out] at h; cases h)⟩
          | false =>
            go_wp2
            go_ret
            exact ⟨_, a, 0, rfl, hBx, by omega, has, hgx, fun y r' h => (by rw [HT.out] at h; cases h; exact ⟨rfl, rfl, rfl⟩), fun c h => (by rw [HT.out] at h; cases h)⟩
        · have e2 : decide ((9007199254740991 : Int) < (X : Int)) = true := decide_eq_true (by omega)
          have hT := HNT.out
          rw [if_neg (fun h => hM h.2)] at hT
          have HT := Lib.hid hT
          clear hT HNT
          go_wp2_with (go_at_call 50; refine (rfail_calls g s a 1402 _ hBx).mono ?_; rintro e w9 ⟨rfl, hB9, hg9⟩)
          go_ret
          exact ⟨_, a, 1402, rfl, hB9, by omega, has, hgx.trans hg9, fun y r' h => (by rw [HT.out] at h; cases h), fun c h => (by rw [HT.out] at h; cases h; rfl)⟩
      · have e1 : ((a : Int) == (q : Int)) = true := beq_iff_eq.2 (by have := HA.out; omega)
        have hT := HNT.out
        rw [if_neg (fun h => hk h.1)] at hT
        have HT := Lib.hid hT
        clear hT HNT
        go_wp2_with (go_at_call 50; refine (rfail_calls g s a 1402 _ hBx).mono ?_; rintro e w9 ⟨rfl, hB9, hg9⟩)
        go_ret
        exact ⟨_, a, 1402, rfl, hB9, by omega, has, hgx.trans hg9, fun y r' h => (by rw [HT.out] at h; cases h), fun c h => (by rw [HT.out] at h; cases h; rfl)⟩
end Go.Proofs.YtblkbhomlblfnaaDoor.S
