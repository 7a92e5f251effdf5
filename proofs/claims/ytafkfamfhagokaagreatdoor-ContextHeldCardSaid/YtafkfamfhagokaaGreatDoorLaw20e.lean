/-
  THE WALK of the law ContextHeld (chapter 20).
-/
import Derived.Test.YtafkfamfhagokaaGreatDoorUse20
set_option linter.unusedVariables false
set_option linter.unusedSimpArgs false
namespace Go.Proofs.YtafkfamfhagokaaGreatDoor.S
open Go.RowKit

def keepH (b : UInt8) : Bool := b != 34 && b != 39
theorem keepH_no {b : UInt8} (h : keepH b = true) : b.toNat ≠ 34 ∧ b.toNat ≠ 39 := by
  unfold keepH at h
  simp at h
  exact ⟨fun e => h.1 (UInt8.toNat_inj.1 (by show _ = 34; exact e)), fun e => h.2 (UInt8.toNat_inj.1 (by show _ = 39; exact e))⟩
theorem keepH_or (b : UInt8) : b = 34 ∨ b = 39 ∨ keepH b = true := by
  by_cases h1 : b = 34
  · exact .inl h1
  by_cases h2 : b = 39
  · exact .inr (.inl h2)
  exact .inr (.inr (by unfold keepH; simp [h1, h2]))
theorem heldR_cons (b : UInt8) (r : List UInt8) : heldR (b :: r) = if b.toNat = 58 ∨ b.toNat = 38 then some true else if b.toNat = 47 ∨ b.toNat = 63 ∨ b.toNat = 35 then some false else heldR r := rfl
set_option maxRecDepth 100000 in
set_option maxHeartbeats 8000000 in
theorem contextHeld_39 (s : ByteArray) (w : World) (hE : Env w) :
    Calls Tryz.prog 10 #[.string s, .bool false] w fun e w' => e = .returned (.bool true) ∧ Below w.heap.size w w' := by
  go_enter Tryz.func10, Tryz.ntmps10
  go_upto_region 3 with (go_at_call 21; refine (awake20_calls _ hE).mono ?_; rintro e w1 ⟨rfl, hb1⟩)
  have hbw := hb1
  clear hb1
  obtain ⟨hT0, hH0, hH2, hm2⟩ := held_begin (q := 39) (.inr rfl)
  change textC cx0 (hrP ++ [39]) = .ok (hrC 39 0) at hT0
  change holeC (hrC 39 0) = .ok (1, hrC 39 2) at hH0
  change holeC (hrC 39 2) = .ok (2, hrC 39 2) at hH2
  change mayX (hrC 39 2) = true at hm2
  have hm0 : mayX (hrC 39 0) = true := by decide +kernel
  have HS := Lib.hid (fun t h => held_plain (q := 39) (.inr rfl) t h)
  obtain ⟨c1, hc1, hz1, hcat1⟩ := join20 ⟨#[60, 97, 32, 104, 114, 101, 102, 61]⟩ ⟨#[39]⟩ hrP [39] (by show _ = _; rfl) (by show _ = _; rfl) (by decide)
  obtain ⟨d0, hd0⟩ : ∃ d, d = hrC 39 0 := ⟨_, rfl⟩
  obtain ⟨d2, hd2⟩ : ∃ d, d = hrC 39 2 := ⟨_, rfl⟩
  rw [← hd0] at hT0 hH0 hm0
  rw [← hd2] at hH0 hH2 hm2 HS
  have HA1 := Lib.hid (fun W => at_ok hc1 (by omega) hT0 W)
  have HH0 := Lib.hid (fun W => hole_ok hm0 hH0 W)
  have HH2 := Lib.hid (fun W => hole_ok hm2 hH2 W)
  have HM2 := Lib.hid hm2
  clear hT0 hH0 hH2 hm2 hm0 hc1 hz1 hd0 hd2
  go_upto_region 7 with ((go_at_call 22; refine (HA1.out _).mono ?_; rintro e wa ⟨rfl, hbwa⟩))
  refine wp_at_world ?_
  intro va hww
  have hBva : Blk wa.heap.size 25 (cxCells d0) va := by rw [hww]; exact Blk.new wa (cxCells d0) _
  have hbbva : Below wa.heap.size wa va := by rw [hww]; exact (Below.refl _ wa).alloc (Nat.le_refl _) _
  clear hww
  have hbw := hbw.trans (hbwa.mono hbw.size)
  have hbw := hbw.trans (hbbva.mono hbw.size)
  clear hbwa hbbva
  generalize wa.heap.size = gva at *
  have e0 := hBva.cell 0 _ rfl
  have e1 := hBva.cell 1 _ rfl
  have e2 := hBva.cell 2 _ rfl
  have e3 := hBva.cell 3 _ rfl
  have e4 := hBva.cell 4 _ rfl
  have e5 := hBva.cell 5 _ rfl
  have e6 := hBva.cell 6 _ rfl
  have e7 := hBva.cell 7 _ rfl
  have e8 := hBva.cell 8 _ rfl
  have e9 := hBva.cell 9 _ rfl
  go_upto_region 8 with ((go_at_call 15; refine (HH0.out _).mono ?_; rintro e wb ⟨rfl, hbwb⟩))
  refine wp_at_world ?_
  intro vb hww
  have hBvb : Blk wb.heap.size 25 (cxCells d2) vb := by rw [hww]; exact Blk.new wb (cxCells d2) _
  have hbbvb : Below wb.heap.size wb vb := by rw [hww]; exact (Below.refl _ wb).alloc (Nat.le_refl _) _
  clear hww
  have hbw := hbw.trans (hbwb.mono hbw.size)
  have hbw := hbw.trans (hbbvb.mono hbw.size)
  clear hbwb hbbvb
  generalize wb.heap.size = gvb at *
  clear e0 e1 e2 e3 e4 e5 e6 e7 e8 e9 hBva hcat1
  go_wp2_with (go_at_call 19; go_in)
  go_loopg [11, 12] s.size (fun gk v11 v12 wr => ∃ (k : Nat) (x : ByteArray), v12 = .int .i64 k ∧ v11 = .string x ∧ k + gk = s.size ∧ k ≤ 100 ∧ StrIs x (sieveL keepH s.data.toList k) ∧ vb = wr)
  case atStart => exact ⟨0, ⟨#[]⟩, rfl, rfl, by omega, by omega, rfl, rfl⟩
  case round =>
    obtain ⟨k, x, rfl, rfl, hkg, hk2, hx, rfl⟩ := hrel
    have HKG := Lib.hid hkg
    have hks : k ≤ s.size := by omega
    clear hkg
    have hxs : x.size ≤ 100 := by rw [hx.size]; exact Nat.le_trans (sieve_len _ _ _) hk2
    by_cases h : k < s.size ∧ k < 100
    · obtain ⟨h1, h2⟩ := h
      have h1b : decide ((k : Int) < (s.size : Int)) = true := decide_eq_true (by omega)
      have h2b : decide ((k : Int) < 100) = true := decide_eq_true (by omega)
      have hst := sieve_succ keepH s k h1
      have hone := one20 s k h1
      have hsl := fun W => slice20 s (k : Int) ((k : Int) + 1) k (k + 1) (by omega) (by omega) (by omega) (by omega) W
      obtain ⟨b, hb⟩ : ∃ b : UInt8, b = s[k]'h1 := ⟨_, rfl⟩
      have hbt : ∀ h', ((s[k]'h').toNat : Nat) = b.toNat := fun h' => by rw [hb]
      rw [← hb] at hst hone
      clear hb
      have h1s := hone.size
      generalize s.extract k (k + 1) = y at *
      have hcat := cat20 x y (by rw [h1s]; simp; omega)
      rcases keepH_or b with hz | hz | hz
      · rw [hz] at hst
        rw [if_neg (by decide)] at hst
        have e0 : ((b.toNat : Int) != 34) = false := by rw [hz]; rfl
        have HST := Lib.hid hst
        clear hst hone h1s hz
        generalize b.toNat = c at *
        go_wp2
        go_roundg (gk - 1)
        case measure => have := HKG.out; omega
        case rel => exact ⟨k + 1, x, by go_num, rfl, by have := HKG.out; omega, by omega, by rw [HST.out]; exact hx, rfl⟩
      · rw [hz] at hst
        rw [if_neg (by decide)] at hst
        have e0 : ((b.toNat : Int) != 34) = true := by rw [hz]; rfl
        have e1 : ((b.toNat : Int) != 39) = false := by rw [hz]; rfl
        have HST := Lib.hid hst
        clear hst hone h1s hz
        generalize b.toNat = c at *
        go_wp2
        go_roundg (gk - 1)
        case measure => have := HKG.out; omega
        case rel => exact ⟨k + 1, x, by go_num, rfl, by have := HKG.out; omega, by omega, by rw [HST.out]; exact hx, rfl⟩
      · rw [if_pos hz] at hst
        have hzz := keepH_no hz
        have e1 : ((b.toNat : Int) != 34) = true := bne_iff_ne.2 (by omega)
        have e2 : ((b.toNat : Int) != 39) = true := bne_iff_ne.2 (by omega)
        have hxy := hx.cat20 hone
        rw [← hst] at hxy
        have HXY := Lib.hid hxy
        clear hst hone h1s hz hxy hzz
        generalize b.toNat = c at *
        go_wp2
        go_roundg (gk - 1)
        case measure => have := HKG.out; omega
        case rel => exact ⟨k + 1, _, by go_num, rfl, by have := HKG.out; omega, by omega, HXY.out, rfl⟩
    · go_upto_region 12 with (fail)
      go_cut [50] (fun v50 wx => v50 = .bool false ∧ vb = wx)
      case first =>
        by_cases h1 : k < s.size
        · have h1b : decide ((k : Int) < (s.size : Int)) = true := decide_eq_true (by omega)
          have h2b : decide ((k : Int) < 100) = false := decide_eq_false (by omega)
          clear h
          go_wp2
          go_meet
          exact ⟨rfl, rfl⟩
        · have h1b : decide ((k : Int) < (s.size : Int)) = false := decide_eq_false (by omega)
          clear h
          go_wp2
          go_meet
          exact ⟨rfl, rfl⟩
      case rest =>
      obtain ⟨rfl, rfl⟩ := hcut
      have hall := sieve_all keepH s.data.toList k
      have hlen := sieve_len keepH s.data.toList k
      generalize sieveL keepH s.data.toList k = L at *
      obtain ⟨X, rfl⟩ : ∃ X, X = x := ⟨_, rfl⟩
      obtain ⟨hs1, hs2, hs3⟩ := HS.out L (fun b hb => (keepH_no (hall b hb)).2)
      obtain ⟨R, hR⟩ : ∃ R, R = textC d2 L := ⟨_, rfl⟩
      have hRS : R = stepsC d2 L := by rw [hR]; unfold textC; rw [if_pos HM2.out]
      obtain ⟨d, kk, hRk⟩ : ∃ (d : Cx) (kk : Nat), R = .ok d ∧ kk = 0 ∨ R = .error kk ∧ d = cx0 := by
        cases R with
        | ok d => exact ⟨d, 0, .inl ⟨rfl, rfl⟩⟩
        | error e => exact ⟨cx0, e, .inr ⟨rfl, rfl⟩⟩
      have HX := Lib.hid hx
      have HT := Lib.hid (fun W => text_at (s := X) hx (by omega) HM2.out (by rw [← hR]; exact hRk) W)
      rw [← hRS] at hs1 hs2 hs3
      have k1 : heldR L = some true → kk = 2003 := fun e => by
        rcases hRk with ⟨a, -⟩ | ⟨a, -⟩
        · rw [hs1 e] at a; cases a
        · rw [hs1 e] at a; cases a; rfl
      have k2 : heldR L = some false → kk = 0 := fun e => by
        obtain ⟨y, hy⟩ := hs2 e
        rcases hRk with ⟨-, a⟩ | ⟨a, -⟩
        · exact a
        · rw [hy] at a; cases a
      have k3 : heldR L = none → kk = 0 ∧ d = d2 := fun e => by
        rcases hRk with ⟨b, a⟩ | ⟨a, -⟩
        · rw [hs3 e] at b; cases b; exact ⟨a, rfl⟩
        · rw [hs3 e] at a; cases a
      have K1 := Lib.hid k1
      have K2 := Lib.hid k2
      have K3 := Lib.hid k3
      have hXs : X.size ≤ 100 := hxs
      have HXL := Lib.hid (show L.length = X.size from hx.size.symm)
      clear hall hlen hk2 hks h HKG hxs hx hs1 hs2 hs3 hR hRS hRk k1 k2 k3 HS HA1 HH0
      have f0 := hBvb.cell 0 _ rfl
      have f1 := hBvb.cell 1 _ rfl
      have f2 := hBvb.cell 2 _ rfl
      have f3 := hBvb.cell 3 _ rfl
      have f4 := hBvb.cell 4 _ rfl
      have f5 := hBvb.cell 5 _ rfl
      have f6 := hBvb.cell 6 _ rfl
      have f7 := hBvb.cell 7 _ rfl
      have f8 := hBvb.cell 8 _ rfl
      have f9 := hBvb.cell 9 _ rfl
      go_upto_region 17 with ((go_at_call 13; refine (HT.out _).mono ?_; rintro e wc ⟨rfl, hbwc⟩))
      refine wp_at_world ?_
      intro vc hww
      have hBvc : Blk wc.heap.size 25 (cxCells d) vc := by rw [hww]; exact Blk.new wc (cxCells d) _
      have hbbvc : Below wc.heap.size wc vc := by rw [hww]; exact (Below.refl _ wc).alloc (Nat.le_refl _) _
      clear hww
      have hBvb := (hBvb.below hbwc).below hbbvc
      have hbw := hbw.trans (hbwc.mono hbw.size)
      have hbw := hbw.trans (hbbvc.mono hbw.size)
      clear hbwc hbbvc
      generalize wc.heap.size = gvc at *
      clear hBvc f0 f1 f2 f3 f4 f5 f6 f7 f8 f9
      go_wp2
      go_loopg [15] X.size (fun gk v15 wr => ∃ k : Nat, k + gk = X.size ∧ v15 = .int .i64 k ∧ vc = wr ∧ heldR L = heldR (L.drop k))
      case atStart => exact ⟨0, by omega, rfl, rfl, rfl⟩
      case round =>
        obtain ⟨k, hkg, rfl, rfl, hRk⟩ := hrel
        have HKG := Lib.hid hkg
        have HRK := Lib.hid hRk
        have hks : k ≤ X.size := by omega
        clear hkg hRk
        by_cases h1 : k < X.size
        · have h1b : decide ((k : Int) < (X.size : Int)) = true := decide_eq_true (by omega)
          have hXd := drop20 X k h1
          have hXL : X.data.toList = L := HX.out
          rw [hXL] at hXd
          obtain ⟨b, hb⟩ : ∃ b : UInt8, b = X[k]'h1 := ⟨_, rfl⟩
          have hbt : ∀ h', ((X[k]'h').toNat : Nat) = b.toNat := fun h' => by rw [hb]
          rw [← hb] at hXd
          have hRd : heldR L = if b.toNat = 58 ∨ b.toNat = 38 then some true else if b.toNat = 47 ∨ b.toNat = 63 ∨ b.toNat = 35 then some false else heldR (L.drop (k + 1)) := by
            rw [HRK.out, hXd, heldR_cons]
          clear hb hXd hXL
          generalize b.toNat = c at *
          by_cases hc : c = 58 ∨ c = 38
          · rw [if_pos hc] at hRd
            have hkk : kk = 2003 := K1.out hRd
            subst hkk
            clear hRd
            rcases hc with rfl | rfl
            all_goals go_wp2_with (go_at_call 19; go_in)
            all_goals go_ret
            all_goals exact ⟨rfl, hbw⟩
          · rw [if_neg hc] at hRd
            by_cases hd : c = 47 ∨ c = 63 ∨ c = 35
            · rw [if_pos hd] at hRd
              have hkk : kk = 0 := K2.out hRd
              subst hkk
              clear hRd hc
              rcases hd with rfl | rfl | rfl
              all_goals go_wp2_with (go_at_call 19; go_in)
              all_goals go_ret
              all_goals exact ⟨rfl, hbw⟩
            · rw [if_neg hd] at hRd
              have HRD := Lib.hid hRd
              have e1 : ((c : Int) == 58) = false := beq_eq_false_iff_ne.2 (by omega)
              have e2 : ((c : Int) == 38) = false := beq_eq_false_iff_ne.2 (by omega)
              have e3 : ((c : Int) == 47) = false := beq_eq_false_iff_ne.2 (by omega)
              have e4 : ((c : Int) == 63) = false := beq_eq_false_iff_ne.2 (by omega)
              have e5 : ((c : Int) == 35) = false := beq_eq_false_iff_ne.2 (by omega)
              clear hRd hc hd
              go_wp2
              go_roundg (gk - 1)
              case measure => have := HKG.out; omega
              case rel => exact ⟨k + 1, by have := HKG.out; omega, by go_num, rfl, HRD.out⟩
        · have h1b : decide ((k : Int) < (X.size : Int)) = false := decide_eq_false (by omega)
          have h0 : heldR L = none := by rw [HRK.out, List.drop_eq_nil_of_le (by rw [HXL.out]; omega)]; rfl
          obtain ⟨rfl, rfl⟩ := K3.out h0
          clear h0 HKG HRK hks
          have f0 := hBvb.cell 0 _ rfl
          have f1 := hBvb.cell 1 _ rfl
          have f2 := hBvb.cell 2 _ rfl
          have f3 := hBvb.cell 3 _ rfl
          have f4 := hBvb.cell 4 _ rfl
          have f5 := hBvb.cell 5 _ rfl
          have f6 := hBvb.cell 6 _ rfl
          have f7 := hBvb.cell 7 _ rfl
          have f8 := hBvb.cell 8 _ rfl
          have f9 := hBvb.cell 9 _ rfl
          go_upto_region 29 with ((go_at_call 13; refine (HT.out _).mono ?_; rintro e wd ⟨rfl, hbwd⟩))
          refine wp_at_world ?_
          intro vd hww
          have hBvd : Blk wd.heap.size 25 (cxCells d) vd := by rw [hww]; exact Blk.new wd (cxCells d) _
          have hbbvd : Below wd.heap.size wd vd := by rw [hww]; exact (Below.refl _ wd).alloc (Nat.le_refl _) _
          clear hww
          have hbw := hbw.trans (hbwd.mono hbw.size)
          have hbw := hbw.trans (hbbvd.mono hbw.size)
          clear hbwd hbbvd
          generalize wd.heap.size = gvd at *
          have i0 := hBvd.cell 0 _ rfl
          have i1 := hBvd.cell 1 _ rfl
          have i2 := hBvd.cell 2 _ rfl
          have i3 := hBvd.cell 3 _ rfl
          have i4 := hBvd.cell 4 _ rfl
          have i5 := hBvd.cell 5 _ rfl
          have i6 := hBvd.cell 6 _ rfl
          have i7 := hBvd.cell 7 _ rfl
          have i8 := hBvd.cell 8 _ rfl
          have i9 := hBvd.cell 9 _ rfl
          go_upto_region 30 with ((go_at_call 15; refine (HH2.out _).mono ?_; rintro e we ⟨rfl, hbwe⟩))
          refine wp_at_world ?_
          intro ve hww
          have hBve : Blk we.heap.size 25 (cxCells d) ve := by rw [hww]; exact Blk.new we (cxCells d) _
          have hbbve : Below we.heap.size we ve := by rw [hww]; exact (Below.refl _ we).alloc (Nat.le_refl _) _
          clear hww
          have hbw := hbw.trans (hbwe.mono hbw.size)
          have hbw := hbw.trans (hbbve.mono hbw.size)
          clear hbwe hbbve
          generalize we.heap.size = gve at *
          go_wp2_with (go_at_call 19; go_in)
          go_ret
          exact ⟨rfl, hbw⟩
set_option maxRecDepth 100000 in
set_option maxHeartbeats 8000000 in
theorem contextHeld_34 (s : ByteArray) (w : World) (hE : Env w) :
    Calls Tryz.prog 10 #[.string s, .bool true] w fun e w' => e = .returned (.bool true) ∧ Below w.heap.size w w' := by
  go_enter Tryz.func10, Tryz.ntmps10
  go_upto_region 3 with (go_at_call 21; refine (awake20_calls _ hE).mono ?_; rintro e w1 ⟨rfl, hb1⟩)
  have hbw := hb1
  clear hb1
  obtain ⟨hT0, hH0, hH2, hm2⟩ := held_begin (q := 34) (.inl rfl)
  change textC cx0 (hrP ++ [34]) = .ok (hrC 34 0) at hT0
  change holeC (hrC 34 0) = .ok (1, hrC 34 2) at hH0
  change holeC (hrC 34 2) = .ok (2, hrC 34 2) at hH2
  change mayX (hrC 34 2) = true at hm2
  have hm0 : mayX (hrC 34 0) = true := by decide +kernel
  have HS := Lib.hid (fun t h => held_plain (q := 34) (.inl rfl) t h)
  obtain ⟨c1, hc1, hz1, hcat1⟩ := join20 ⟨#[60, 97, 32, 104, 114, 101, 102, 61]⟩ ⟨#[34]⟩ hrP [34] (by show _ = _; rfl) (by show _ = _; rfl) (by decide)
  obtain ⟨d0, hd0⟩ : ∃ d, d = hrC 34 0 := ⟨_, rfl⟩
  obtain ⟨d2, hd2⟩ : ∃ d, d = hrC 34 2 := ⟨_, rfl⟩
  rw [← hd0] at hT0 hH0 hm0
  rw [← hd2] at hH0 hH2 hm2 HS
  have HA1 := Lib.hid (fun W => at_ok hc1 (by omega) hT0 W)
  have HH0 := Lib.hid (fun W => hole_ok hm0 hH0 W)
  have HH2 := Lib.hid (fun W => hole_ok hm2 hH2 W)
  have HM2 := Lib.hid hm2
  clear hT0 hH0 hH2 hm2 hm0 hc1 hz1 hd0 hd2
  go_upto_region 7 with ((go_at_call 22; refine (HA1.out _).mono ?_; rintro e wa ⟨rfl, hbwa⟩))
  refine wp_at_world ?_
  intro va hww
  have hBva : Blk wa.heap.size 25 (cxCells d0) va := by rw [hww]; exact Blk.new wa (cxCells d0) _
  have hbbva : Below wa.heap.size wa va := by rw [hww]; exact (Below.refl _ wa).alloc (Nat.le_refl _) _
  clear hww
  have hbw := hbw.trans (hbwa.mono hbw.size)
  have hbw := hbw.trans (hbbva.mono hbw.size)
  clear hbwa hbbva
  generalize wa.heap.size = gva at *
  have e0 := hBva.cell 0 _ rfl
  have e1 := hBva.cell 1 _ rfl
  have e2 := hBva.cell 2 _ rfl
  have e3 := hBva.cell 3 _ rfl
  have e4 := hBva.cell 4 _ rfl
  have e5 := hBva.cell 5 _ rfl
  have e6 := hBva.cell 6 _ rfl
  have e7 := hBva.cell 7 _ rfl
  have e8 := hBva.cell 8 _ rfl
  have e9 := hBva.cell 9 _ rfl
  go_upto_region 8 with ((go_at_call 15; refine (HH0.out _).mono ?_; rintro e wb ⟨rfl, hbwb⟩))
  refine wp_at_world ?_
  intro vb hww
  have hBvb : Blk wb.heap.size 25 (cxCells d2) vb := by rw [hww]; exact Blk.new wb (cxCells d2) _
  have hbbvb : Below wb.heap.size wb vb := by rw [hww]; exact (Below.refl _ wb).alloc (Nat.le_refl _) _
  clear hww
  have hbw := hbw.trans (hbwb.mono hbw.size)
  have hbw := hbw.trans (hbbvb.mono hbw.size)
  clear hbwb hbbvb
  generalize wb.heap.size = gvb at *
  clear e0 e1 e2 e3 e4 e5 e6 e7 e8 e9 hBva hcat1
  go_wp2_with (go_at_call 19; go_in)
  go_loopg [11, 12] s.size (fun gk v11 v12 wr => ∃ (k : Nat) (x : ByteArray), v12 = .int .i64 k ∧ v11 = .string x ∧ k + gk = s.size ∧ k ≤ 100 ∧ StrIs x (sieveL keepH s.data.toList k) ∧ vb = wr)
  case atStart => exact ⟨0, ⟨#[]⟩, rfl, rfl, by omega, by omega, rfl, rfl⟩
  case round =>
    obtain ⟨k, x, rfl, rfl, hkg, hk2, hx, rfl⟩ := hrel
    have HKG := Lib.hid hkg
    have hks : k ≤ s.size := by omega
    clear hkg
    have hxs : x.size ≤ 100 := by rw [hx.size]; exact Nat.le_trans (sieve_len _ _ _) hk2
    by_cases h : k < s.size ∧ k < 100
    · obtain ⟨h1, h2⟩ := h
      have h1b : decide ((k : Int) < (s.size : Int)) = true := decide_eq_true (by omega)
      have h2b : decide ((k : Int) < 100) = true := decide_eq_true (by omega)
      have hst := sieve_succ keepH s k h1
      have hone := one20 s k h1
      have hsl := fun W => slice20 s (k : Int) ((k : Int) + 1) k (k + 1) (by omega) (by omega) (by omega) (by omega) W
      obtain ⟨b, hb⟩ : ∃ b : UInt8, b = s[k]'h1 := ⟨_, rfl⟩
      have hbt : ∀ h', ((s[k]'h').toNat : Nat) = b.toNat := fun h' => by rw [hb]
      rw [← hb] at hst hone
      clear hb
      have h1s := hone.size
      generalize s.extract k (k + 1) = y at *
      have hcat := cat20 x y (by rw [h1s]; simp; omega)
      rcases keepH_or b with hz | hz | hz
      · rw [hz] at hst
        rw [if_neg (by decide)] at hst
        have e0 : ((b.toNat : Int) != 34) = false := by rw [hz]; rfl
        have HST := Lib.hid hst
        clear hst hone h1s hz
        generalize b.toNat = c at *
        go_wp2
        go_roundg (gk - 1)
        case measure => have := HKG.out; omega
        case rel => exact ⟨k + 1, x, by go_num, rfl, by have := HKG.out; omega, by omega, by rw [HST.out]; exact hx, rfl⟩
      · rw [hz] at hst
        rw [if_neg (by decide)] at hst
        have e0 : ((b.toNat : Int) != 34) = true := by rw [hz]; rfl
        have e1 : ((b.toNat : Int) != 39) = false := by rw [hz]; rfl
        have HST := Lib.hid hst
        clear hst hone h1s hz
        generalize b.toNat = c at *
        go_wp2
        go_roundg (gk - 1)
        case measure => have := HKG.out; omega
        case rel => exact ⟨k + 1, x, by go_num, rfl, by have := HKG.out; omega, by omega, by rw [HST.out]; exact hx, rfl⟩
      · rw [if_pos hz] at hst
        have hzz := keepH_no hz
        have e1 : ((b.toNat : Int) != 34) = true := bne_iff_ne.2 (by omega)
        have e2 : ((b.toNat : Int) != 39) = true := bne_iff_ne.2 (by omega)
        have hxy := hx.cat20 hone
        rw [← hst] at hxy
        have HXY := Lib.hid hxy
        clear hst hone h1s hz hxy hzz
        generalize b.toNat = c at *
        go_wp2
        go_roundg (gk - 1)
        case measure => have := HKG.out; omega
        case rel => exact ⟨k + 1, _, by go_num, rfl, by have := HKG.out; omega, by omega, HXY.out, rfl⟩
    · go_upto_region 12 with (fail)
      go_cut [50] (fun v50 wx => v50 = .bool false ∧ vb = wx)
      case first =>
        by_cases h1 : k < s.size
        · have h1b : decide ((k : Int) < (s.size : Int)) = true := decide_eq_true (by omega)
          have h2b : decide ((k : Int) < 100) = false := decide_eq_false (by omega)
          clear h
          go_wp2
          go_meet
          exact ⟨rfl, rfl⟩
        · have h1b : decide ((k : Int) < (s.size : Int)) = false := decide_eq_false (by omega)
          clear h
          go_wp2
          go_meet
          exact ⟨rfl, rfl⟩
      case rest =>
      obtain ⟨rfl, rfl⟩ := hcut
      have hall := sieve_all keepH s.data.toList k
      have hlen := sieve_len keepH s.data.toList k
      generalize sieveL keepH s.data.toList k = L at *
      obtain ⟨X, rfl⟩ : ∃ X, X = x := ⟨_, rfl⟩
      obtain ⟨hs1, hs2, hs3⟩ := HS.out L (fun b hb => (keepH_no (hall b hb)).1)
      obtain ⟨R, hR⟩ : ∃ R, R = textC d2 L := ⟨_, rfl⟩
      have hRS : R = stepsC d2 L := by rw [hR]; unfold textC; rw [if_pos HM2.out]
      obtain ⟨d, kk, hRk⟩ : ∃ (d : Cx) (kk : Nat), R = .ok d ∧ kk = 0 ∨ R = .error kk ∧ d = cx0 := by
        cases R with
        | ok d => exact ⟨d, 0, .inl ⟨rfl, rfl⟩⟩
        | error e => exact ⟨cx0, e, .inr ⟨rfl, rfl⟩⟩
      have HX := Lib.hid hx
      have HT := Lib.hid (fun W => text_at (s := X) hx (by omega) HM2.out (by rw [← hR]; exact hRk) W)
      rw [← hRS] at hs1 hs2 hs3
      have k1 : heldR L = some true → kk = 2003 := fun e => by
        rcases hRk with ⟨a, -⟩ | ⟨a, -⟩
        · rw [hs1 e] at a; cases a
        · rw [hs1 e] at a; cases a; rfl
      have k2 : heldR L = some false → kk = 0 := fun e => by
        obtain ⟨y, hy⟩ := hs2 e
        rcases hRk with ⟨-, a⟩ | ⟨a, -⟩
        · exact a
        · rw [hy] at a; cases a
      have k3 : heldR L = none → kk = 0 ∧ d = d2 := fun e => by
        rcases hRk with ⟨b, a⟩ | ⟨a, -⟩
        · rw [hs3 e] at b; cases b; exact ⟨a, rfl⟩
        · rw [hs3 e] at a; cases a
      have K1 := Lib.hid k1
      have K2 := Lib.hid k2
      have K3 := Lib.hid k3
      have hXs : X.size ≤ 100 := hxs
      have HXL := Lib.hid (show L.length = X.size from hx.size.symm)
      clear hall hlen hk2 hks h HKG hxs hx hs1 hs2 hs3 hR hRS hRk k1 k2 k3 HS HA1 HH0
      have f0 := hBvb.cell 0 _ rfl
      have f1 := hBvb.cell 1 _ rfl
      have f2 := hBvb.cell 2 _ rfl
      have f3 := hBvb.cell 3 _ rfl
      have f4 := hBvb.cell 4 _ rfl
      have f5 := hBvb.cell 5 _ rfl
      have f6 := hBvb.cell 6 _ rfl
      have f7 := hBvb.cell 7 _ rfl
      have f8 := hBvb.cell 8 _ rfl
      have f9 := hBvb.cell 9 _ rfl
      go_upto_region 17 with ((go_at_call 13; refine (HT.out _).mono ?_; rintro e wc ⟨rfl, hbwc⟩))
      refine wp_at_world ?_
      intro vc hww
      have hBvc : Blk wc.heap.size 25 (cxCells d) vc := by rw [hww]; exact Blk.new wc (cxCells d) _
      have hbbvc : Below wc.heap.size wc vc := by rw [hww]; exact (Below.refl _ wc).alloc (Nat.le_refl _) _
      clear hww
      have hBvb := (hBvb.below hbwc).below hbbvc
      have hbw := hbw.trans (hbwc.mono hbw.size)
      have hbw := hbw.trans (hbbvc.mono hbw.size)
      clear hbwc hbbvc
      generalize wc.heap.size = gvc at *
      clear hBvc f0 f1 f2 f3 f4 f5 f6 f7 f8 f9
      go_wp2
      go_loopg [15] X.size (fun gk v15 wr => ∃ k : Nat, k + gk = X.size ∧ v15 = .int .i64 k ∧ vc = wr ∧ heldR L = heldR (L.drop k))
      case atStart => exact ⟨0, by omega, rfl, rfl, rfl⟩
      case round =>
        obtain ⟨k, hkg, rfl, rfl, hRk⟩ := hrel
        have HKG := Lib.hid hkg
        have HRK := Lib.hid hRk
        have hks : k ≤ X.size := by omega
        clear hkg hRk
        by_cases h1 : k < X.size
        · have h1b : decide ((k : Int) < (X.size : Int)) = true := decide_eq_true (by omega)
          have hXd := drop20 X k h1
          have hXL : X.data.toList = L := HX.out
          rw [hXL] at hXd
          obtain ⟨b, hb⟩ : ∃ b : UInt8, b = X[k]'h1 := ⟨_, rfl⟩
          have hbt : ∀ h', ((X[k]'h').toNat : Nat) = b.toNat := fun h' => by rw [hb]
          rw [← hb] at hXd
          have hRd : heldR L = if b.toNat = 58 ∨ b.toNat = 38 then some true else if b.toNat = 47 ∨ b.toNat = 63 ∨ b.toNat = 35 then some false else heldR (L.drop (k + 1)) := by
            rw [HRK.out, hXd, heldR_cons]
          clear hb hXd hXL
          generalize b.toNat = c at *
          by_cases hc : c = 58 ∨ c = 38
          · rw [if_pos hc] at hRd
            have hkk : kk = 2003 := K1.out hRd
            subst hkk
            clear hRd
            rcases hc with rfl | rfl
            all_goals go_wp2_with (go_at_call 19; go_in)
            all_goals go_ret
            all_goals exact ⟨rfl, hbw⟩
          · rw [if_neg hc] at hRd
            by_cases hd : c = 47 ∨ c = 63 ∨ c = 35
            · rw [if_pos hd] at hRd
              have hkk : kk = 0 := K2.out hRd
              subst hkk
              clear hRd hc
              rcases hd with rfl | rfl | rfl
              all_goals go_wp2_with (go_at_call 19; go_in)
              all_goals go_ret
              all_goals exact ⟨rfl, hbw⟩
            · rw [if_neg hd] at hRd
              have HRD := Lib.hid hRd
              have e1 : ((c : Int) == 58) = false := beq_eq_false_iff_ne.2 (by omega)
              have e2 : ((c : Int) == 38) = false := beq_eq_false_iff_ne.2 (by omega)
              have e3 : ((c : Int) == 47) = false := beq_eq_false_iff_ne.2 (by omega)
              have e4 : ((c : Int) == 63) = false := beq_eq_false_iff_ne.2 (by omega)
              have e5 : ((c : Int) == 35) = false := beq_eq_false_iff_ne.2 (by omega)
              clear hRd hc hd
              go_wp2
              go_roundg (gk - 1)
              case measure => have := HKG.out; omega
              case rel => exact ⟨k + 1, by have := HKG.out; omega, by go_num, rfl, HRD.out⟩
        · have h1b : decide ((k : Int) < (X.size : Int)) = false := decide_eq_false (by omega)
          have h0 : heldR L = none := by rw [HRK.out, List.drop_eq_nil_of_le (by rw [HXL.out]; omega)]; rfl
          obtain ⟨rfl, rfl⟩ := K3.out h0
          clear h0 HKG HRK hks
          have f0 := hBvb.cell 0 _ rfl
          have f1 := hBvb.cell 1 _ rfl
          have f2 := hBvb.cell 2 _ rfl
          have f3 := hBvb.cell 3 _ rfl
          have f4 := hBvb.cell 4 _ rfl
          have f5 := hBvb.cell 5 _ rfl
          have f6 := hBvb.cell 6 _ rfl
          have f7 := hBvb.cell 7 _ rfl
          have f8 := hBvb.cell 8 _ rfl
          have f9 := hBvb.cell 9 _ rfl
          go_upto_region 29 with ((go_at_call 13; refine (HT.out _).mono ?_; rintro e wd ⟨rfl, hbwd⟩))
          refine wp_at_world ?_
          intro vd hww
          have hBvd : Blk wd.heap.size 25 (cxCells d) vd := by rw [hww]; exact Blk.new wd (cxCells d) _
          have hbbvd : Below wd.heap.size wd vd := by rw [hww]; exact (Below.refl _ wd).alloc (Nat.le_refl _) _
          clear hww
          have hbw := hbw.trans (hbwd.mono hbw.size)
          have hbw := hbw.trans (hbbvd.mono hbw.size)
          clear hbwd hbbvd
          generalize wd.heap.size = gvd at *
          have i0 := hBvd.cell 0 _ rfl
          have i1 := hBvd.cell 1 _ rfl
          have i2 := hBvd.cell 2 _ rfl
          have i3 := hBvd.cell 3 _ rfl
          have i4 := hBvd.cell 4 _ rfl
          have i5 := hBvd.cell 5 _ rfl
          have i6 := hBvd.cell 6 _ rfl
          have i7 := hBvd.cell 7 _ rfl
          have i8 := hBvd.cell 8 _ rfl
          have i9 := hBvd.cell 9 _ rfl
          go_upto_region 30 with ((go_at_call 15; refine (HH2.out _).mono ?_; rintro e we ⟨rfl, hbwe⟩))
          refine wp_at_world ?_
          intro ve hww
          have hBve : Blk we.heap.size 25 (cxCells d) ve := by rw [hww]; exact Blk.new we (cxCells d) _
          have hbbve : Below we.heap.size we ve := by rw [hww]; exact (Below.refl _ we).alloc (Nat.le_refl _) _
          clear hww
          have hbw := hbw.trans (hbwe.mono hbw.size)
          have hbw := hbw.trans (hbbve.mono hbw.size)
          clear hbwe hbbve
          generalize we.heap.size = gve at *
          go_wp2_with (go_at_call 19; go_in)
          go_ret
          exact ⟨rfl, hbw⟩
theorem contextHeld_calls (s : ByteArray) (quote : Bool) (w : World) (hE : Env w) :
    Calls Tryz.prog 10 #[.string s, .bool quote] w fun e w' => e = .returned (.bool true) ∧ Below w.heap.size w w' := by
  cases quote
  · exact contextHeld_39 s w hE
  · exact contextHeld_34 s w hE
end Go.Proofs.YtafkfamfhagokaaGreatDoor.S
