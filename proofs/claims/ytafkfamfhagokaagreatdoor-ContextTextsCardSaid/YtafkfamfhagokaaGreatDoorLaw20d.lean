/-
  THE WALK of the law ContextTexts (chapter 20).
-/
import Derived.Test.YtafkfamfhagokaaGreatDoorUse20
set_option linter.unusedVariables false
set_option linter.unusedSimpArgs false
namespace Go.Proofs.YtafkfamfhagokaaGreatDoor.S
open Go.RowKit

def keepT (q b : UInt8) : Bool := b != q && (b != 92 && (b != 10 && b != 60))
theorem keepT_no {q b : UInt8} (h : keepT q b = true) : b.toNat ≠ q.toNat ∧ b.toNat ≠ 92 ∧ b.toNat ≠ 10 ∧ b.toNat ≠ 60 := by
  unfold keepT at h
  simp at h
  exact ⟨fun e => h.1 (UInt8.toNat_inj.1 e), fun e => h.2.1 (UInt8.toNat_inj.1 (by show _ = 92; exact e)), fun e => h.2.2.1 (UInt8.toNat_inj.1 (by show _ = 10; exact e)), fun e => h.2.2.2 (UInt8.toNat_inj.1 (by show _ = 60; exact e))⟩
theorem keepT_or (q b : UInt8) : b = q ∨ b = 92 ∨ b = 10 ∨ b = 60 ∨ keepT q b = true := by
  by_cases h1 : b = q
  · exact .inl h1
  by_cases h2 : b = 92
  · exact .inr (.inl h2)
  by_cases h3 : b = 10
  · exact .inr (.inr (.inl h3))
  by_cases h4 : b = 60
  · exact .inr (.inr (.inr (.inl h4)))
  exact .inr (.inr (.inr (.inr (by unfold keepT; simp [h1, h2, h3, h4]))))
theorem one_cell20 (W : World) (x : Value) (T : TypeId) : (W.alloc (.cells #[x] T)).cell? ((⟨W.heap.size, 0, none⟩ : Addr).add (0 : Nat)) = some x := (Blk.new W [x] T).cell 0 _ rfl
section
open Instr
theorem byte_string (W : World) (K : UInt8) : (convert 59 9 (.slice (some ⟨W.heap.size, 0, none⟩) 1 1)).run Tryz.prog (W.alloc (.cells #[.int .u8 K.toNat] 5)) = .ok (.string ⟨#[K]⟩) (W.alloc (.cells #[.int .u8 K.toNat] 5)) := by
  have h := run_convert_bytes_arg (P := Tryz.prog) (w := W.alloc (.cells #[.int .u8 K.toNat] 5)) 59 5 Tryz.underlying59 Tryz.underlying5 W.heap.size 0 1 1 [(K.toNat : Int)] rfl (by intro i hi; obtain rfl : i = 0 := (by simp at hi; omega); exact one_cell20 _ _ _) 9 Tryz.underlying9
  rw [h]
  have e := nums_bytes [K]
  rw [show strOfNums [(K.toNat : Int)] = ⟨#[K]⟩ from e]
end
set_option maxRecDepth 100000 in
set_option maxHeartbeats 8000000 in
theorem contextTexts_34 (s : ByteArray) (c : Int) (w : World) (hE : Env w) :
    Calls Tryz.prog 11 #[.string s, .bool false, .int .i64 c] w fun e w' => e = .returned (.bool true) ∧ Below w.heap.size w w' := by
  go_enter Tryz.func11, Tryz.ntmps11
  go_upto_region 3 with (go_at_call 21; refine (awake20_calls _ hE).mono ?_; rintro e w1 ⟨rfl, hb1⟩)
  have hbw := hb1
  clear hb1
  go_wp2
  go_loopg [8, 9] s.size (fun gk v8 v9 wr => ∃ (k : Nat) (x : ByteArray), v9 = .int .i64 k ∧ v8 = .string x ∧ k + gk = s.size ∧ k ≤ 200 ∧ StrIs x (sieveL (keepT 34) s.data.toList k) ∧ Below w.heap.size w wr)
  case atStart => exact ⟨0, ⟨#[]⟩, rfl, rfl, by omega, by omega, rfl, hbw⟩
  case round =>
    obtain ⟨k, x, rfl, rfl, hkg, hk2, hx, hbr⟩ := hrel
    have HKG := Lib.hid hkg
    have hks : k ≤ s.size := by omega
    clear hkg hbw
    have hxs : x.size ≤ 200 := by rw [hx.size]; exact Nat.le_trans (sieve_len _ _ _) hk2
    by_cases h : k < s.size ∧ k < 200
    · obtain ⟨h1, h2⟩ := h
      have h1b : decide ((k : Int) < (s.size : Int)) = true := decide_eq_true (by omega)
      have h2b : decide ((k : Int) < 200) = true := decide_eq_true (by omega)
      have hst := sieve_succ (keepT 34) s k h1
      have hone := one20 s k h1
      have hsl := fun W => slice20 s (k : Int) ((k : Int) + 1) k (k + 1) (by omega) (by omega) (by omega) (by omega) W
      obtain ⟨b, hb⟩ : ∃ b : UInt8, b = s[k]'h1 := ⟨_, rfl⟩
      have hbt : ∀ h', ((s[k]'h').toNat : Nat) = b.toNat := fun h' => by rw [hb]
      rw [← hb] at hst hone
      clear hb
      have h1s := hone.size
      generalize s.extract k (k + 1) = y at *
      have hcat := cat20 x y (by rw [h1s]; simp; omega)
      have hq0 : ∀ h', ((⟨#[34]⟩ : ByteArray)[0]'h').toNat = 34 := fun _ => rfl
      have HBR := Lib.hid hbr
      clear hbr
      rcases keepT_or 34 b with hz | hz | hz | hz | hz
      · rw [hz] at hst
        rw [if_neg (by decide)] at hst
        have e0 : ((b.toNat : Int) != 34) = false := by rw [hz]; rfl
        have HST := Lib.hid hst
        clear hst hone h1s hz
        generalize b.toNat = c at *
        go_wp2
        go_quiet (fail)
        go_wp2
        go_roundg (gk - 1)
        case measure => have := HKG.out; omega
        case rel => exact ⟨k + 1, x, by go_num, rfl, by have := HKG.out; omega, by omega, by rw [HST.out]; exact hx, below_drewN HBR.out _⟩
      · rw [hz] at hst
        rw [if_neg (by decide)] at hst
        have e0 : ((b.toNat : Int) != 34) = true := by rw [hz]; rfl
        have e1 : ((b.toNat : Int) != 92) = false := by rw [hz]; rfl
        have HST := Lib.hid hst
        clear hst hone h1s hz
        generalize b.toNat = c at *
        go_wp2
        go_quiet (fail)
        go_wp2
        go_roundg (gk - 1)
        case measure => have := HKG.out; omega
        case rel => exact ⟨k + 1, x, by go_num, rfl, by have := HKG.out; omega, by omega, by rw [HST.out]; exact hx, below_drewN HBR.out _⟩
      · rw [hz] at hst
        rw [if_neg (by decide)] at hst
        have e0 : ((b.toNat : Int) != 34) = true := by rw [hz]; rfl
        have e1 : ((b.toNat : Int) != 92) = true := by rw [hz]; rfl
        have e2 : ((b.toNat : Int) != 10) = false := by rw [hz]; rfl
        have HST := Lib.hid hst
        clear hst hone h1s hz
        generalize b.toNat = c at *
        go_wp2
        go_quiet (fail)
        go_wp2
        go_roundg (gk - 1)
        case measure => have := HKG.out; omega
        case rel => exact ⟨k + 1, x, by go_num, rfl, by have := HKG.out; omega, by omega, by rw [HST.out]; exact hx, below_drewN HBR.out _⟩
      · rw [hz] at hst
        rw [if_neg (by decide)] at hst
        have e0 : ((b.toNat : Int) != 34) = true := by rw [hz]; rfl
        have e1 : ((b.toNat : Int) != 92) = true := by rw [hz]; rfl
        have e2 : ((b.toNat : Int) != 10) = true := by rw [hz]; rfl
        have e3 : ((b.toNat : Int) != 60) = false := by rw [hz]; rfl
        have HST := Lib.hid hst
        clear hst hone h1s hz
        generalize b.toNat = c at *
        go_wp2
        go_quiet (fail)
        go_wp2
        go_roundg (gk - 1)
        case measure => have := HKG.out; omega
        case rel => exact ⟨k + 1, x, by go_num, rfl, by have := HKG.out; omega, by omega, by rw [HST.out]; exact hx, below_drewN HBR.out _⟩
      · rw [if_pos hz] at hst
        have hzz := keepT_no hz
        have e0 : ((b.toNat : Int) != 34) = true := bne_iff_ne.2 (fun e => hzz.1 (by show b.toNat = 34; omega))
        have e1 : ((b.toNat : Int) != 92) = true := bne_iff_ne.2 (fun e => hzz.2.1 (by show b.toNat = 92; omega))
        have e2 : ((b.toNat : Int) != 10) = true := bne_iff_ne.2 (fun e => hzz.2.2.1 (by show b.toNat = 10; omega))
        have e3 : ((b.toNat : Int) != 60) = true := bne_iff_ne.2 (fun e => hzz.2.2.2 (by show b.toNat = 60; omega))
        have hxy := hx.cat20 hone
        rw [← hst] at hxy
        have HXY := Lib.hid hxy
        clear hst hone h1s hz hxy hzz
        generalize b.toNat = c at *
        go_wp2
        go_quiet (fail)
        go_wp2
        go_roundg (gk - 1)
        case measure => have := HKG.out; omega
        case rel => exact ⟨k + 1, _, by go_num, rfl, by have := HKG.out; omega, by omega, HXY.out, below_drewN HBR.out _⟩
    · go_upto_region 8 with (fail)
      go_cut [34] (fun v34 wx => v34 = .bool false ∧ Below w.heap.size w wx)
      case first =>
        by_cases h1 : k < s.size
        · have h1b : decide ((k : Int) < (s.size : Int)) = true := decide_eq_true (by omega)
          have h2b : decide ((k : Int) < 200) = false := decide_eq_false (by omega)
          clear h
          go_wp2
          go_meet
          exact ⟨rfl, hbr⟩
        · have h1b : decide ((k : Int) < (s.size : Int)) = false := decide_eq_false (by omega)
          clear h
          go_wp2
          go_meet
          exact ⟨rfl, hbr⟩
      case rest =>
      obtain ⟨rfl, hbw⟩ := hcut
      have hall := sieve_all (keepT 34) s.data.toList k
      have hlen := sieve_len (keepT 34) s.data.toList k
      generalize sieveL (keepT 34) s.data.toList k = L at *
      obtain ⟨X, rfl⟩ : ∃ X, X = x := ⟨_, rfl⟩
      have hzL : L.length ≤ 200 := Nat.le_trans hlen hk2
      have HALL := Lib.hid (fun b hb => keepT_no (hall b hb))
      have HZL := Lib.hid hzL
      obtain ⟨c1, hc1, hz1, hcat1⟩ := join20 ⟨#[60, 115, 99, 114, 105, 112, 116, 62]⟩ ⟨#[34]⟩ scrP [34] (by show _ = _; rfl) (by show _ = _; rfl) (by decide)
      obtain ⟨c2, hc2, hz2, hcat2⟩ := join20 c1 X (scrP ++ [34]) L hc1 hx (by simp [scrP]; omega)
      obtain ⟨c3, hc3, hz3, hcat3⟩ := join20 c2 ⟨#[92]⟩ (scrP ++ [34] ++ L) [92] hc2 (by show _ = _; rfl) (by simp [scrP]; omega)
      obtain ⟨c5, hc5, hz5, hcat5⟩ := join20 ⟨#[60, 115, 99, 114, 105, 112, 116, 62, 120, 61]⟩ ⟨#[34]⟩ (scrP ++ [120, 61]) [34] (by show _ = _; rfl) (by show _ = _; rfl) (by decide)
      obtain ⟨c6, hc6, hz6, hcat6⟩ := join20 c5 X (scrP ++ [120, 61] ++ [34]) L hc5 hx (by simp [scrP]; omega)
      obtain ⟨c7, hc7, hz7, hcat7⟩ := join20 c6 ⟨#[34]⟩ (scrP ++ [120, 61] ++ [34] ++ L) [34] hc6 (by show _ = _; rfl) (by simp [scrP]; omega)
      obtain ⟨d1, hd1⟩ : ∃ d, d = scrC (quoteL 34) := ⟨_, rfl⟩
      obtain ⟨d2, hd2⟩ : ∃ d, d = scrC 0 := ⟨_, rfl⟩
      obtain ⟨hT1, hT2, -, hT3, hT4, hH⟩ := texts_plain (q := 34) (.inl rfl) HALL.out (k := 0) (by decide)
      have hm : mayX (scrC (quoteL 34)) = true := by decide +kernel
      have HP := Lib.hid (fun (K : UInt8) (h : K.toNat ≠ 60) => (texts_plain (q := 34) (.inl rfl) HALL.out h).2.2.1)
      change textC cx0 (scrP ++ [34]) = .ok (scrC (quoteL 34)) at hT1
      change textC cx0 (scrP ++ [34] ++ L) = .ok (scrC (quoteL 34)) at hT2
      change holeC (scrC (quoteL 34)) = .ok (4, scrC (quoteL 34)) at hH
      rw [← hd1] at hT1 hT2 hH hm
      rw [← hd2] at hT3 hT4
      have HA1 := Lib.hid (fun W => at_ok hc1 (by omega) hT1 W)
      have HA2 := Lib.hid (fun W => at_ok hc2 (by omega) hT2 W)
      have HA7 := Lib.hid (fun W => at_ok hc7 (by omega) hT3 W)
      have HA8 := Lib.hid (fun W => at_ok (s := ⟨#[60, 115, 99, 114, 105, 112, 116, 62, 120, 61]⟩) (l := scrP ++ [120, 61]) (by show _ = _; rfl) (by decide) hT4 W)
      have HH := Lib.hid (fun W => hole_ok hm hH W)
      have HD1 := Lib.hid hd1
      have HC3 := Lib.hid hc3
      clear hall hlen hk2 hks h HKG hxs hx hc1 hc2 hz1 hz2 hzL hT1 hT2 hT3 hT4 hH hm hd1 hd2 hc3 hc5 hc6 hc7 hz5 hz6 hz7 HALL
      have heq1 := fun W => eq_cx d1 W
      have heq2 := fun W => eq_cx d2 W
      go_upto_region 13 with ((go_at_call 22; refine (HA1.out _).mono ?_; rintro e wa ⟨rfl, hbwa⟩))
      refine wp_at_world ?_
      intro va hww
      have hBva : Blk wa.heap.size 25 (cxCells d1) va := by rw [hww]; exact Blk.new wa (cxCells d1) _
      have hbbva : Below wa.heap.size wa va := by rw [hww]; exact (Below.refl _ wa).alloc (Nat.le_refl _) _
      clear hww
      have hbw := hbw.trans (hbwa.mono hbw.size)
      have hbw := hbw.trans (hbbva.mono hbw.size)
      clear hbwa hbbva
      generalize wa.heap.size = gva at *
      go_upto_region 14 with ((go_at_call 22; refine (HA2.out _).mono ?_; rintro e wb ⟨rfl, hbwb⟩))
      refine wp_at_world ?_
      intro vb hww
      have hBvb : Blk wb.heap.size 25 (cxCells d1) vb := by rw [hww]; exact Blk.new wb (cxCells d1) _
      have hbbvb : Below wb.heap.size wb vb := by rw [hww]; exact (Below.refl _ wb).alloc (Nat.le_refl _) _
      clear hww
      have hBva := (hBva.below hbwb).below hbbvb
      have hbw := hbw.trans (hbwb.mono hbw.size)
      have hbw := hbw.trans (hbbvb.mono hbw.size)
      clear hbwb hbbvb
      generalize wb.heap.size = gvb at *
      obtain ⟨k0, hk0, hk1⟩ : ∃ k0 : Nat, IntKind.u8.wrap (bits .and .i64 c 255) = (k0 : Int) ∧ k0 < 256 := by
        rw [IntKind.wrap_u8]
        exact ⟨((bits .and .i64 c 255) % 256).toNat, by omega, by omega⟩
      go_upto_if 86 with (fail)
      go_cut [14] (fun v14 wx => ∃ K : UInt8, v14 = .int .u8 K.toNat ∧ K.toNat ≠ 60 ∧ vb = wx)
      case first =>
        by_cases h6 : k0 = 60
        · have e6 : ((k0 : Int) == 60) = true := by rw [h6]; rfl
          go_wp2
          go_meet
          exact ⟨120, rfl, by decide, rfl⟩
        · have e6 : ((k0 : Int) == 60) = false := beq_eq_false_iff_ne.2 (by omega)
          go_wp2
          go_meet
          have hk : (k0.toUInt8).toNat = k0 := by simp; omega
          exact ⟨k0.toUInt8, by rw [hk], by rw [hk]; exact h6, rfl⟩
      case rest =>
      obtain ⟨K, rfl, hK, rfl⟩ := hcut
      obtain ⟨c4, hc4, hz4, hcat4⟩ := join20 c3 ⟨#[K]⟩ _ [K] HC3.out (by show _ = _; rfl) (by have := HZL.out; simp [scrP]; omega)
      have hT4 := HP.out K hK
      change textC cx0 (scrP ++ [34] ++ L ++ [92] ++ [K]) = .ok (scrC (quoteL 34)) at hT4
      rw [← HD1.out] at hT4
      have HA4 := Lib.hid (fun W => at_ok hc4 (by omega) hT4 W)
      have hbs := byte_string vb K
      clear hk0 hk1 hK hc4 hz4 hT4 HC3 HP HD1 hz3 HZL
      generalize K.toNat = kn at *
      have hBva := hBva.below ((Below.refl _ vb).alloc (Nat.le_refl _) (.cells #[.int .u8 kn] 5))
      have hBvb := hBvb.below ((Below.refl _ vb).alloc (Nat.le_refl _) (.cells #[.int .u8 kn] 5))
      have hbw := hbw.alloc hbw.size (.cells #[.int .u8 kn] 5)
      go_upto_region 18 with ((go_at_call 22; refine (HA4.out _).mono ?_; rintro e wc ⟨rfl, hbwc⟩))
      refine wp_at_world ?_
      intro vc hww
      have hBvc : Blk wc.heap.size 25 (cxCells d1) vc := by rw [hww]; exact Blk.new wc (cxCells d1) _
      have hbbvc : Below wc.heap.size wc vc := by rw [hww]; exact (Below.refl _ wc).alloc (Nat.le_refl _) _
      clear hww
      have hBva := (hBva.below hbwc).below hbbvc
      have hBvb := (hBvb.below hbwc).below hbbvc
      have hbw := hbw.trans (hbwc.mono hbw.size)
      have hbw := hbw.trans (hbbvc.mono hbw.size)
      clear hbwc hbbvc
      generalize wc.heap.size = gvc at *
      go_upto_region 19 with ((go_at_call 22; refine (HA7.out _).mono ?_; rintro e wd ⟨rfl, hbwd⟩))
      refine wp_at_world ?_
      intro vd hww
      have hBvd : Blk wd.heap.size 25 (cxCells d2) vd := by rw [hww]; exact Blk.new wd (cxCells d2) _
      have hbbvd : Below wd.heap.size wd vd := by rw [hww]; exact (Below.refl _ wd).alloc (Nat.le_refl _) _
      clear hww
      have hBva := (hBva.below hbwd).below hbbvd
      have hBvb := (hBvb.below hbwd).below hbbvd
      have hBvc := (hBvc.below hbwd).below hbbvd
      have hbw := hbw.trans (hbwd.mono hbw.size)
      have hbw := hbw.trans (hbbvd.mono hbw.size)
      clear hbwd hbbvd
      generalize wd.heap.size = gvd at *
      go_upto_region 20 with ((go_at_call 22; refine (HA8.out _).mono ?_; rintro e we ⟨rfl, hbwe⟩))
      refine wp_at_world ?_
      intro ve hww
      have hBve : Blk we.heap.size 25 (cxCells d2) ve := by rw [hww]; exact Blk.new we (cxCells d2) _
      have hbbve : Below we.heap.size we ve := by rw [hww]; exact (Below.refl _ we).alloc (Nat.le_refl _) _
      clear hww
      have hBva := (hBva.below hbwe).below hbbve
      have hBvb := (hBvb.below hbwe).below hbbve
      have hBvc := (hBvc.below hbwe).below hbbve
      have hBvd := (hBvd.below hbwe).below hbbve
      have hbw := hbw.trans (hbwe.mono hbw.size)
      have hbw := hbw.trans (hbbve.mono hbw.size)
      clear hbwe hbbve
      generalize we.heap.size = gve at *
      have yb0 := hBvb.cell 0 _ rfl
      have yb1 := hBvb.cell 1 _ rfl
      have yb2 := hBvb.cell 2 _ rfl
      have yb3 := hBvb.cell 3 _ rfl
      have yb4 := hBvb.cell 4 _ rfl
      have yb5 := hBvb.cell 5 _ rfl
      have yb6 := hBvb.cell 6 _ rfl
      have yb7 := hBvb.cell 7 _ rfl
      have yb8 := hBvb.cell 8 _ rfl
      have yb9 := hBvb.cell 9 _ rfl
      go_upto_region 21 with ((go_at_call 15; refine (HH.out _).mono ?_; rintro e wf ⟨rfl, hbwf⟩))
      refine wp_at_world ?_
      intro vf hww
      have hBvf : Blk wf.heap.size 25 (cxCells d1) vf := by rw [hww]; exact Blk.new wf (cxCells d1) _
      have hbbvf : Below wf.heap.size wf vf := by rw [hww]; exact (Below.refl _ wf).alloc (Nat.le_refl _) _
      clear hww
      have hBva := (hBva.below hbwf).below hbbvf
      have hBvb := (hBvb.below hbwf).below hbbvf
      have hBvc := (hBvc.below hbwf).below hbbvf
      have hBvd := (hBvd.below hbwf).below hbbvf
      have hBve := (hBve.below hbwf).below hbbvf
      have hbw := hbw.trans (hbwf.mono hbw.size)
      have hbw := hbw.trans (hbbvf.mono hbw.size)
      clear hbwf hbbvf
      generalize wf.heap.size = gvf at *
      have ya0 := hBva.cell 0 _ rfl
      have ya1 := hBva.cell 1 _ rfl
      have ya2 := hBva.cell 2 _ rfl
      have ya3 := hBva.cell 3 _ rfl
      have ya4 := hBva.cell 4 _ rfl
      have ya5 := hBva.cell 5 _ rfl
      have ya6 := hBva.cell 6 _ rfl
      have ya7 := hBva.cell 7 _ rfl
      have ya8 := hBva.cell 8 _ rfl
      have ya9 := hBva.cell 9 _ rfl
      have yb0 := hBvb.cell 0 _ rfl
      have yb1 := hBvb.cell 1 _ rfl
      have yb2 := hBvb.cell 2 _ rfl
      have yb3 := hBvb.cell 3 _ rfl
      have yb4 := hBvb.cell 4 _ rfl
      have yb5 := hBvb.cell 5 _ rfl
      have yb6 := hBvb.cell 6 _ rfl
      have yb7 := hBvb.cell 7 _ rfl
      have yb8 := hBvb.cell 8 _ rfl
      have yb9 := hBvb.cell 9 _ rfl
      have yc0 := hBvc.cell 0 _ rfl
      have yc1 := hBvc.cell 1 _ rfl
      have yc2 := hBvc.cell 2 _ rfl
      have yc3 := hBvc.cell 3 _ rfl
      have yc4 := hBvc.cell 4 _ rfl
      have yc5 := hBvc.cell 5 _ rfl
      have yc6 := hBvc.cell 6 _ rfl
      have yc7 := hBvc.cell 7 _ rfl
      have yc8 := hBvc.cell 8 _ rfl
      have yc9 := hBvc.cell 9 _ rfl
      have yd0 := hBvd.cell 0 _ rfl
      have yd1 := hBvd.cell 1 _ rfl
      have yd2 := hBvd.cell 2 _ rfl
      have yd3 := hBvd.cell 3 _ rfl
      have yd4 := hBvd.cell 4 _ rfl
      have yd5 := hBvd.cell 5 _ rfl
      have yd6 := hBvd.cell 6 _ rfl
      have yd7 := hBvd.cell 7 _ rfl
      have yd8 := hBvd.cell 8 _ rfl
      have yd9 := hBvd.cell 9 _ rfl
      have ye0 := hBve.cell 0 _ rfl
      have ye1 := hBve.cell 1 _ rfl
      have ye2 := hBve.cell 2 _ rfl
      have ye3 := hBve.cell 3 _ rfl
      have ye4 := hBve.cell 4 _ rfl
      have ye5 := hBve.cell 5 _ rfl
      have ye6 := hBve.cell 6 _ rfl
      have ye7 := hBve.cell 7 _ rfl
      have ye8 := hBve.cell 8 _ rfl
      have ye9 := hBve.cell 9 _ rfl
      go_wp2_with (go_at_call 19; go_in)
      go_ret
      exact ⟨rfl, hbw⟩
set_option maxRecDepth 100000 in
set_option maxHeartbeats 8000000 in
theorem contextTexts_39 (s : ByteArray) (c : Int) (w : World) (hE : Env w) :
    Calls Tryz.prog 11 #[.string s, .bool true, .int .i64 c] w fun e w' => e = .returned (.bool true) ∧ Below w.heap.size w w' := by
  go_enter Tryz.func11, Tryz.ntmps11
  go_upto_region 3 with (go_at_call 21; refine (awake20_calls _ hE).mono ?_; rintro e w1 ⟨rfl, hb1⟩)
  have hbw := hb1
  clear hb1
  go_wp2
  go_loopg [8, 9] s.size (fun gk v8 v9 wr => ∃ (k : Nat) (x : ByteArray), v9 = .int .i64 k ∧ v8 = .string x ∧ k + gk = s.size ∧ k ≤ 200 ∧ StrIs x (sieveL (keepT 39) s.data.toList k) ∧ Below w.heap.size w wr)
  case atStart => exact ⟨0, ⟨#[]⟩, rfl, rfl, by omega, by omega, rfl, hbw⟩
  case round =>
    obtain ⟨k, x, rfl, rfl, hkg, hk2, hx, hbr⟩ := hrel
    have HKG := Lib.hid hkg
    have hks : k ≤ s.size := by omega
    clear hkg hbw
    have hxs : x.size ≤ 200 := by rw [hx.size]; exact Nat.le_trans (sieve_len _ _ _) hk2
    by_cases h : k < s.size ∧ k < 200
    · obtain ⟨h1, h2⟩ := h
      have h1b : decide ((k : Int) < (s.size : Int)) = true := decide_eq_true (by omega)
      have h2b : decide ((k : Int) < 200) = true := decide_eq_true (by omega)
      have hst := sieve_succ (keepT 39) s k h1
      have hone := one20 s k h1
      have hsl := fun W => slice20 s (k : Int) ((k : Int) + 1) k (k + 1) (by omega) (by omega) (by omega) (by omega) W
      obtain ⟨b, hb⟩ : ∃ b : UInt8, b = s[k]'h1 := ⟨_, rfl⟩
      have hbt : ∀ h', ((s[k]'h').toNat : Nat) = b.toNat := fun h' => by rw [hb]
      rw [← hb] at hst hone
      clear hb
      have h1s := hone.size
      generalize s.extract k (k + 1) = y at *
      have hcat := cat20 x y (by rw [h1s]; simp; omega)
      have hq0 : ∀ h', ((⟨#[39]⟩ : ByteArray)[0]'h').toNat = 39 := fun _ => rfl
      have HBR := Lib.hid hbr
      clear hbr
      rcases keepT_or 39 b with hz | hz | hz | hz | hz
      · rw [hz] at hst
        rw [if_neg (by decide)] at hst
        have e0 : ((b.toNat : Int) != 39) = false := by rw [hz]; rfl
        have HST := Lib.hid hst
        clear hst hone h1s hz
        generalize b.toNat = c at *
        go_wp2
        go_quiet (fail)
        go_wp2
        go_roundg (gk - 1)
        case measure => have := HKG.out; omega
        case rel => exact ⟨k + 1, x, by go_num, rfl, by have := HKG.out; omega, by omega, by rw [HST.out]; exact hx, below_drewN HBR.out _⟩
      · rw [hz] at hst
        rw [if_neg (by decide)] at hst
        have e0 : ((b.toNat : Int) != 39) = true := by rw [hz]; rfl
        have e1 : ((b.toNat : Int) != 92) = false := by rw [hz]; rfl
        have HST := Lib.hid hst
        clear hst hone h1s hz
        generalize b.toNat = c at *
        go_wp2
        go_quiet (fail)
        go_wp2
        go_roundg (gk - 1)
        case measure => have := HKG.out; omega
        case rel => exact ⟨k + 1, x, by go_num, rfl, by have := HKG.out; omega, by omega, by rw [HST.out]; exact hx, below_drewN HBR.out _⟩
      · rw [hz] at hst
        rw [if_neg (by decide)] at hst
        have e0 : ((b.toNat : Int) != 39) = true := by rw [hz]; rfl
        have e1 : ((b.toNat : Int) != 92) = true := by rw [hz]; rfl
        have e2 : ((b.toNat : Int) != 10) = false := by rw [hz]; rfl
        have HST := Lib.hid hst
        clear hst hone h1s hz
        generalize b.toNat = c at *
        go_wp2
        go_quiet (fail)
        go_wp2
        go_roundg (gk - 1)
        case measure => have := HKG.out; omega
        case rel => exact ⟨k + 1, x, by go_num, rfl, by have := HKG.out; omega, by omega, by rw [HST.out]; exact hx, below_drewN HBR.out _⟩
      · rw [hz] at hst
        rw [if_neg (by decide)] at hst
        have e0 : ((b.toNat : Int) != 39) = true := by rw [hz]; rfl
        have e1 : ((b.toNat : Int) != 92) = true := by rw [hz]; rfl
        have e2 : ((b.toNat : Int) != 10) = true := by rw [hz]; rfl
        have e3 : ((b.toNat : Int) != 60) = false := by rw [hz]; rfl
        have HST := Lib.hid hst
        clear hst hone h1s hz
        generalize b.toNat = c at *
        go_wp2
        go_quiet (fail)
        go_wp2
        go_roundg (gk - 1)
        case measure => have := HKG.out; omega
        case rel => exact ⟨k + 1, x, by go_num, rfl, by have := HKG.out; omega, by omega, by rw [HST.out]; exact hx, below_drewN HBR.out _⟩
      · rw [if_pos hz] at hst
        have hzz := keepT_no hz
        have e0 : ((b.toNat : Int) != 39) = true := bne_iff_ne.2 (fun e => hzz.1 (by show b.toNat = 39; omega))
        have e1 : ((b.toNat : Int) != 92) = true := bne_iff_ne.2 (fun e => hzz.2.1 (by show b.toNat = 92; omega))
        have e2 : ((b.toNat : Int) != 10) = true := bne_iff_ne.2 (fun e => hzz.2.2.1 (by show b.toNat = 10; omega))
        have e3 : ((b.toNat : Int) != 60) = true := bne_iff_ne.2 (fun e => hzz.2.2.2 (by show b.toNat = 60; omega))
        have hxy := hx.cat20 hone
        rw [← hst] at hxy
        have HXY := Lib.hid hxy
        clear hst hone h1s hz hxy hzz
        generalize b.toNat = c at *
        go_wp2
        go_quiet (fail)
        go_wp2
        go_roundg (gk - 1)
        case measure => have := HKG.out; omega
        case rel => exact ⟨k + 1, _, by go_num, rfl, by have := HKG.out; omega, by omega, HXY.out, below_drewN HBR.out _⟩
    · go_upto_region 8 with (fail)
      go_cut [34] (fun v34 wx => v34 = .bool false ∧ Below w.heap.size w wx)
      case first =>
        by_cases h1 : k < s.size
        · have h1b : decide ((k : Int) < (s.size : Int)) = true := decide_eq_true (by omega)
          have h2b : decide ((k : Int) < 200) = false := decide_eq_false (by omega)
          clear h
          go_wp2
          go_meet
          exact ⟨rfl, hbr⟩
        · have h1b : decide ((k : Int) < (s.size : Int)) = false := decide_eq_false (by omega)
          clear h
          go_wp2
          go_meet
          exact ⟨rfl, hbr⟩
      case rest =>
      obtain ⟨rfl, hbw⟩ := hcut
      have hall := sieve_all (keepT 39) s.data.toList k
      have hlen := sieve_len (keepT 39) s.data.toList k
      generalize sieveL (keepT 39) s.data.toList k = L at *
      obtain ⟨X, rfl⟩ : ∃ X, X = x := ⟨_, rfl⟩
      have hzL : L.length ≤ 200 := Nat.le_trans hlen hk2
      have HALL := Lib.hid (fun b hb => keepT_no (hall b hb))
      have HZL := Lib.hid hzL
      obtain ⟨c1, hc1, hz1, hcat1⟩ := join20 ⟨#[60, 115, 99, 114, 105, 112, 116, 62]⟩ ⟨#[39]⟩ scrP [39] (by show _ = _; rfl) (by show _ = _; rfl) (by decide)
      obtain ⟨c2, hc2, hz2, hcat2⟩ := join20 c1 X (scrP ++ [39]) L hc1 hx (by simp [scrP]; omega)
      obtain ⟨c3, hc3, hz3, hcat3⟩ := join20 c2 ⟨#[92]⟩ (scrP ++ [39] ++ L) [92] hc2 (by show _ = _; rfl) (by simp [scrP]; omega)
      obtain ⟨c5, hc5, hz5, hcat5⟩ := join20 ⟨#[60, 115, 99, 114, 105, 112, 116, 62, 120, 61]⟩ ⟨#[39]⟩ (scrP ++ [120, 61]) [39] (by show _ = _; rfl) (by show _ = _; rfl) (by decide)
      obtain ⟨c6, hc6, hz6, hcat6⟩ := join20 c5 X (scrP ++ [120, 61] ++ [39]) L hc5 hx (by simp [scrP]; omega)
      obtain ⟨c7, hc7, hz7, hcat7⟩ := join20 c6 ⟨#[39]⟩ (scrP ++ [120, 61] ++ [39] ++ L) [39] hc6 (by show _ = _; rfl) (by simp [scrP]; omega)
      obtain ⟨d1, hd1⟩ : ∃ d, d = scrC (quoteL 39) := ⟨_, rfl⟩
      obtain ⟨d2, hd2⟩ : ∃ d, d = scrC 0 := ⟨_, rfl⟩
      obtain ⟨hT1, hT2, -, hT3, hT4, hH⟩ := texts_plain (q := 39) (.inr rfl) HALL.out (k := 0) (by decide)
      have hm : mayX (scrC (quoteL 39)) = true := by decide +kernel
      have HP := Lib.hid (fun (K : UInt8) (h : K.toNat ≠ 60) => (texts_plain (q := 39) (.inr rfl) HALL.out h).2.2.1)
      change textC cx0 (scrP ++ [39]) = .ok (scrC (quoteL 39)) at hT1
      change textC cx0 (scrP ++ [39] ++ L) = .ok (scrC (quoteL 39)) at hT2
      change holeC (scrC (quoteL 39)) = .ok (4, scrC (quoteL 39)) at hH
      rw [← hd1] at hT1 hT2 hH hm
      rw [← hd2] at hT3 hT4
      have HA1 := Lib.hid (fun W => at_ok hc1 (by omega) hT1 W)
      have HA2 := Lib.hid (fun W => at_ok hc2 (by omega) hT2 W)
      have HA7 := Lib.hid (fun W => at_ok hc7 (by omega) hT3 W)
      have HA8 := Lib.hid (fun W => at_ok (s := ⟨#[60, 115, 99, 114, 105, 112, 116, 62, 120, 61]⟩) (l := scrP ++ [120, 61]) (by show _ = _; rfl) (by decide) hT4 W)
      have HH := Lib.hid (fun W => hole_ok hm hH W)
      have HD1 := Lib.hid hd1
      have HC3 := Lib.hid hc3
      clear hall hlen hk2 hks h HKG hxs hx hc1 hc2 hz1 hz2 hzL hT1 hT2 hT3 hT4 hH hm hd1 hd2 hc3 hc5 hc6 hc7 hz5 hz6 hz7 HALL
      have heq1 := fun W => eq_cx d1 W
      have heq2 := fun W => eq_cx d2 W
      go_upto_region 13 with ((go_at_call 22; refine (HA1.out _).mono ?_; rintro e wa ⟨rfl, hbwa⟩))
      refine wp_at_world ?_
      intro va hww
      have hBva : Blk wa.heap.size 25 (cxCells d1) va := by rw [hww]; exact Blk.new wa (cxCells d1) _
      have hbbva : Below wa.heap.size wa va := by rw [hww]; exact (Below.refl _ wa).alloc (Nat.le_refl _) _
      clear hww
      have hbw := hbw.trans (hbwa.mono hbw.size)
      have hbw := hbw.trans (hbbva.mono hbw.size)
      clear hbwa hbbva
      generalize wa.heap.size = gva at *
      go_upto_region 14 with ((go_at_call 22; refine (HA2.out _).mono ?_; rintro e wb ⟨rfl, hbwb⟩))
      refine wp_at_world ?_
      intro vb hww
      have hBvb : Blk wb.heap.size 25 (cxCells d1) vb := by rw [hww]; exact Blk.new wb (cxCells d1) _
      have hbbvb : Below wb.heap.size wb vb := by rw [hww]; exact (Below.refl _ wb).alloc (Nat.le_refl _) _
      clear hww
      have hBva := (hBva.below hbwb).below hbbvb
      have hbw := hbw.trans (hbwb.mono hbw.size)
      have hbw := hbw.trans (hbbvb.mono hbw.size)
      clear hbwb hbbvb
      generalize wb.heap.size = gvb at *
      obtain ⟨k0, hk0, hk1⟩ : ∃ k0 : Nat, IntKind.u8.wrap (bits .and .i64 c 255) = (k0 : Int) ∧ k0 < 256 := by
        rw [IntKind.wrap_u8]
        exact ⟨((bits .and .i64 c 255) % 256).toNat, by omega, by omega⟩
      go_upto_if 86 with (fail)
      go_cut [14] (fun v14 wx => ∃ K : UInt8, v14 = .int .u8 K.toNat ∧ K.toNat ≠ 60 ∧ vb = wx)
      case first =>
        by_cases h6 : k0 = 60
        · have e6 : ((k0 : Int) == 60) = true := by rw [h6]; rfl
          go_wp2
          go_meet
          exact ⟨120, rfl, by decide, rfl⟩
        · have e6 : ((k0 : Int) == 60) = false := beq_eq_false_iff_ne.2 (by omega)
          go_wp2
          go_meet
          have hk : (k0.toUInt8).toNat = k0 := by simp; omega
          exact ⟨k0.toUInt8, by rw [hk], by rw [hk]; exact h6, rfl⟩
      case rest =>
      obtain ⟨K, rfl, hK, rfl⟩ := hcut
      obtain ⟨c4, hc4, hz4, hcat4⟩ := join20 c3 ⟨#[K]⟩ _ [K] HC3.out (by show _ = _; rfl) (by have := HZL.out; simp [scrP]; omega)
      have hT4 := HP.out K hK
      change textC cx0 (scrP ++ [39] ++ L ++ [92] ++ [K]) = .ok (scrC (quoteL 39)) at hT4
      rw [← HD1.out] at hT4
      have HA4 := Lib.hid (fun W => at_ok hc4 (by omega) hT4 W)
      have hbs := byte_string vb K
      clear hk0 hk1 hK hc4 hz4 hT4 HC3 HP HD1 hz3 HZL
      generalize K.toNat = kn at *
      have hBva := hBva.below ((Below.refl _ vb).alloc (Nat.le_refl _) (.cells #[.int .u8 kn] 5))
      have hBvb := hBvb.below ((Below.refl _ vb).alloc (Nat.le_refl _) (.cells #[.int .u8 kn] 5))
      have hbw := hbw.alloc hbw.size (.cells #[.int .u8 kn] 5)
      go_upto_region 18 with ((go_at_call 22; refine (HA4.out _).mono ?_; rintro e wc ⟨rfl, hbwc⟩))
      refine wp_at_world ?_
      intro vc hww
      have hBvc : Blk wc.heap.size 25 (cxCells d1) vc := by rw [hww]; exact Blk.new wc (cxCells d1) _
      have hbbvc : Below wc.heap.size wc vc := by rw [hww]; exact (Below.refl _ wc).alloc (Nat.le_refl _) _
      clear hww
      have hBva := (hBva.below hbwc).below hbbvc
      have hBvb := (hBvb.below hbwc).below hbbvc
      have hbw := hbw.trans (hbwc.mono hbw.size)
      have hbw := hbw.trans (hbbvc.mono hbw.size)
      clear hbwc hbbvc
      generalize wc.heap.size = gvc at *
      go_upto_region 19 with ((go_at_call 22; refine (HA7.out _).mono ?_; rintro e wd ⟨rfl, hbwd⟩))
      refine wp_at_world ?_
      intro vd hww
      have hBvd : Blk wd.heap.size 25 (cxCells d2) vd := by rw [hww]; exact Blk.new wd (cxCells d2) _
      have hbbvd : Below wd.heap.size wd vd := by rw [hww]; exact (Below.refl _ wd).alloc (Nat.le_refl _) _
      clear hww
      have hBva := (hBva.below hbwd).below hbbvd
      have hBvb := (hBvb.below hbwd).below hbbvd
      have hBvc := (hBvc.below hbwd).below hbbvd
      have hbw := hbw.trans (hbwd.mono hbw.size)
      have hbw := hbw.trans (hbbvd.mono hbw.size)
      clear hbwd hbbvd
      generalize wd.heap.size = gvd at *
      go_upto_region 20 with ((go_at_call 22; refine (HA8.out _).mono ?_; rintro e we ⟨rfl, hbwe⟩))
      refine wp_at_world ?_
      intro ve hww
      have hBve : Blk we.heap.size 25 (cxCells d2) ve := by rw [hww]; exact Blk.new we (cxCells d2) _
      have hbbve : Below we.heap.size we ve := by rw [hww]; exact (Below.refl _ we).alloc (Nat.le_refl _) _
      clear hww
      have hBva := (hBva.below hbwe).below hbbve
      have hBvb := (hBvb.below hbwe).below hbbve
      have hBvc := (hBvc.below hbwe).below hbbve
      have hBvd := (hBvd.below hbwe).below hbbve
      have hbw := hbw.trans (hbwe.mono hbw.size)
      have hbw := hbw.trans (hbbve.mono hbw.size)
      clear hbwe hbbve
      generalize we.heap.size = gve at *
      have yb0 := hBvb.cell 0 _ rfl
      have yb1 := hBvb.cell 1 _ rfl
      have yb2 := hBvb.cell 2 _ rfl
      have yb3 := hBvb.cell 3 _ rfl
      have yb4 := hBvb.cell 4 _ rfl
      have yb5 := hBvb.cell 5 _ rfl
      have yb6 := hBvb.cell 6 _ rfl
      have yb7 := hBvb.cell 7 _ rfl
      have yb8 := hBvb.cell 8 _ rfl
      have yb9 := hBvb.cell 9 _ rfl
      go_upto_region 21 with ((go_at_call 15; refine (HH.out _).mono ?_; rintro e wf ⟨rfl, hbwf⟩))
      refine wp_at_world ?_
      intro vf hww
      have hBvf : Blk wf.heap.size 25 (cxCells d1) vf := by rw [hww]; exact Blk.new wf (cxCells d1) _
      have hbbvf : Below wf.heap.size wf vf := by rw [hww]; exact (Below.refl _ wf).alloc (Nat.le_refl _) _
      clear hww
      have hBva := (hBva.below hbwf).below hbbvf
      have hBvb := (hBvb.below hbwf).below hbbvf
      have hBvc := (hBvc.below hbwf).below hbbvf
      have hBvd := (hBvd.below hbwf).below hbbvf
      have hBve := (hBve.below hbwf).below hbbvf
      have hbw := hbw.trans (hbwf.mono hbw.size)
      have hbw := hbw.trans (hbbvf.mono hbw.size)
      clear hbwf hbbvf
      generalize wf.heap.size = gvf at *
      have ya0 := hBva.cell 0 _ rfl
      have ya1 := hBva.cell 1 _ rfl
      have ya2 := hBva.cell 2 _ rfl
      have ya3 := hBva.cell 3 _ rfl
      have ya4 := hBva.cell 4 _ rfl
      have ya5 := hBva.cell 5 _ rfl
      have ya6 := hBva.cell 6 _ rfl
      have ya7 := hBva.cell 7 _ rfl
      have ya8 := hBva.cell 8 _ rfl
      have ya9 := hBva.cell 9 _ rfl
      have yb0 := hBvb.cell 0 _ rfl
      have yb1 := hBvb.cell 1 _ rfl
      have yb2 := hBvb.cell 2 _ rfl
      have yb3 := hBvb.cell 3 _ rfl
      have yb4 := hBvb.cell 4 _ rfl
      have yb5 := hBvb.cell 5 _ rfl
      have yb6 := hBvb.cell 6 _ rfl
      have yb7 := hBvb.cell 7 _ rfl
      have yb8 := hBvb.cell 8 _ rfl
      have yb9 := hBvb.cell 9 _ rfl
      have yc0 := hBvc.cell 0 _ rfl
      have yc1 := hBvc.cell 1 _ rfl
      have yc2 := hBvc.cell 2 _ rfl
      have yc3 := hBvc.cell 3 _ rfl
      have yc4 := hBvc.cell 4 _ rfl
      have yc5 := hBvc.cell 5 _ rfl
      have yc6 := hBvc.cell 6 _ rfl
      have yc7 := hBvc.cell 7 _ rfl
      have yc8 := hBvc.cell 8 _ rfl
      have yc9 := hBvc.cell 9 _ rfl
      have yd0 := hBvd.cell 0 _ rfl
      have yd1 := hBvd.cell 1 _ rfl
      have yd2 := hBvd.cell 2 _ rfl
      have yd3 := hBvd.cell 3 _ rfl
      have yd4 := hBvd.cell 4 _ rfl
      have yd5 := hBvd.cell 5 _ rfl
      have yd6 := hBvd.cell 6 _ rfl
      have yd7 := hBvd.cell 7 _ rfl
      have yd8 := hBvd.cell 8 _ rfl
      have yd9 := hBvd.cell 9 _ rfl
      have ye0 := hBve.cell 0 _ rfl
      have ye1 := hBve.cell 1 _ rfl
      have ye2 := hBve.cell 2 _ rfl
      have ye3 := hBve.cell 3 _ rfl
      have ye4 := hBve.cell 4 _ rfl
      have ye5 := hBve.cell 5 _ rfl
      have ye6 := hBve.cell 6 _ rfl
      have ye7 := hBve.cell 7 _ rfl
      have ye8 := hBve.cell 8 _ rfl
      have ye9 := hBve.cell 9 _ rfl
      go_wp2_with (go_at_call 19; go_in)
      go_ret
      exact ⟨rfl, hbw⟩
theorem contextTexts_calls (s : ByteArray) (quote : Bool) (c : Int) (w : World) (hE : Env w) :
    Calls Tryz.prog 11 #[.string s, .bool quote, .int .i64 c] w fun e w' => e = .returned (.bool true) ∧ Below w.heap.size w w' := by
  cases quote
  · exact contextTexts_34 s c w hE
  · exact contextTexts_39 s c w hE
end Go.Proofs.YtafkfamfhagokaaGreatDoor.S
