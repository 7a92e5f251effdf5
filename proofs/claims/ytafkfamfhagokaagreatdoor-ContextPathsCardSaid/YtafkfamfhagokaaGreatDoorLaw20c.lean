/-
  THE WALK of the law ContextPaths (chapter 20).
-/
import Derived.Test.YtafkfamfhagokaaGreatDoorUse20
set_option linter.unusedVariables false
set_option linter.unusedSimpArgs false
namespace Go.Proofs.YtafkfamfhagokaaGreatDoor.S
open Go.RowKit

def keepP (b : UInt8) : Bool := b != 39 && b != 38
theorem keepP_no {b : UInt8} (h : keepP b = true) : b.toNat ≠ 39 ∧ b.toNat ≠ 38 := by
  unfold keepP at h
  simp at h
  exact ⟨fun e => h.1 (UInt8.toNat_inj.1 (by show _ = 39; exact e)), fun e => h.2 (UInt8.toNat_inj.1 (by show _ = 38; exact e))⟩
def headV : List Value := headsL.map fun l => .string ⟨l.toArray⟩
theorem head_cell (n : Nat) (h : n ≤ 8) : headV[n]? = some (.string ⟨(headL n).toArray⟩) := by
  have hl : n < headsL.length := by have : headsL.length = 9 := by kernel_rfl
                                    omega
  unfold headV headL
  rw [List.getElem?_map, List.getElem?_eq_getElem hl, List.getD_eq_getElem?_getD, List.getElem?_eq_getElem hl]
  rfl
theorem head_len (n : Nat) (h : n ≤ 8) : (headL n).length ≤ 16 := by
  have key : ∀ n : Fin 9, (headL n.val).length ≤ 16 := by decide +kernel
  exact key ⟨n, by omega⟩
set_option maxRecDepth 100000 in
set_option maxHeartbeats 4000000 in
theorem contextPaths_calls (s : ByteArray) (which : Int) (w : World) (hE : Env w) :
    Calls Tryz.prog 12 #[.string s, .int .i64 which] w fun e w' => e = .returned (.bool true) ∧ Below w.heap.size w w' := by
  go_enter Tryz.func12, Tryz.ntmps12
  go_upto_region 3 with (go_at_call 21; refine (awake20_calls _ hE).mono ?_; rintro e w1 ⟨rfl, hb1⟩)
  have hbw := hb1
  clear hb1
  go_wp2
  go_loopg [5, 6] s.size (fun gk v5 v6 wr => ∃ (k : Nat) (x : ByteArray), v6 = .int .i64 k ∧ v5 = .string x ∧ k + gk = s.size ∧ k ≤ 200 ∧ StrIs x (sieveL keepP s.data.toList k) ∧ w1 = wr)
  case atStart => exact ⟨0, ⟨#[]⟩, rfl, rfl, by omega, by omega, rfl, rfl⟩
  case round =>
    obtain ⟨k, x, rfl, rfl, hkg, hk2, hx, rfl⟩ := hrel
    have HKG := Lib.hid hkg
    have hks : k ≤ s.size := by omega
    clear hkg
    have hxs : x.size ≤ 200 := by rw [hx.size]; exact Nat.le_trans (sieve_len _ _ _) hk2
    by_cases h : k < s.size ∧ k < 200
    · obtain ⟨h1, h2⟩ := h
      have h1b : decide ((k : Int) < (s.size : Int)) = true := decide_eq_true (by omega)
      have h2b : decide ((k : Int) < 200) = true := decide_eq_true (by omega)
      have hst := sieve_succ keepP s k h1
      have hone := one20 s k h1
      have hsl := fun W => slice20 s (k : Int) ((k : Int) + 1) k (k + 1) (by omega) (by omega) (by omega) (by omega) W
      obtain ⟨b, hb⟩ : ∃ b : UInt8, b = s[k]'h1 := ⟨_, rfl⟩
      have hbt : ∀ h', ((s[k]'h').toNat : Nat) = b.toNat := fun h' => by rw [hb]
      rw [← hb] at hst hone
      clear hb
      have h1s := hone.size
      generalize s.extract k (k + 1) = y at *
      have hcat := cat20 x y (by rw [h1s]; simp; omega)
      have hz : b = 39 ∨ b = 38 ∨ keepP b = true := by
        by_cases h1 : b = 39
        · exact .inl h1
        · by_cases h2 : b = 38
          · exact .inr (.inl h2)
          · exact .inr (.inr (by unfold keepP; simp [h1, h2]))
      rcases hz with hz | hz | hz
      · rw [hz] at hst
        rw [if_neg (by decide)] at hst
        have e1 : ((b.toNat : Int) != 39) = false := by rw [hz]; rfl
        have HST := Lib.hid hst
        clear hst hone h1s hz
        generalize b.toNat = c at *
        go_wp2
        go_roundg (gk - 1)
        case measure => have := HKG.out; omega
        case rel => exact ⟨k + 1, x, by go_num, rfl, by have := HKG.out; omega, by omega, by rw [HST.out]; exact hx, rfl⟩
      · rw [hz] at hst
        rw [if_neg (by decide)] at hst
        have e1 : ((b.toNat : Int) != 39) = true := by rw [hz]; rfl
        have e2 : ((b.toNat : Int) != 38) = false := by rw [hz]; rfl
        have HST := Lib.hid hst
        clear hst hone h1s hz
        generalize b.toNat = c at *
        go_wp2
        go_roundg (gk - 1)
        case measure => have := HKG.out; omega
        case rel => exact ⟨k + 1, x, by go_num, rfl, by have := HKG.out; omega, by omega, by rw [HST.out]; exact hx, rfl⟩
      · rw [if_pos hz] at hst
        have hzz := keepP_no hz
        have e1 : ((b.toNat : Int) != 39) = true := bne_iff_ne.2 (by omega)
        have e2 : ((b.toNat : Int) != 38) = true := bne_iff_ne.2 (by omega)
        have hxy := hx.cat20 hone
        rw [← hst] at hxy
        have HXY := Lib.hid hxy
        clear hst hone h1s hz hxy hzz
        generalize b.toNat = c at *
        go_wp2
        go_roundg (gk - 1)
        case measure => have := HKG.out; omega
        case rel => exact ⟨k + 1, _, by go_num, rfl, by have := HKG.out; omega, by omega, HXY.out, rfl⟩
    · go_upto_region 5 with (fail)
      go_cut [22] (fun v22 wx => v22 = .bool false ∧ w1 = wx)
      case first =>
        by_cases h1 : k < s.size
        · have h1b : decide ((k : Int) < (s.size : Int)) = true := decide_eq_true (by omega)
          have h2b : decide ((k : Int) < 200) = false := decide_eq_false (by omega)
          clear h
          go_wp2
          go_meet
          exact ⟨rfl, rfl⟩
        · have h1b : decide ((k : Int) < (s.size : Int)) = false := decide_eq_false (by omega)
          clear h
          go_wp2
          go_meet
          exact ⟨rfl, rfl⟩
      case rest =>
      obtain ⟨rfl, rfl⟩ := hcut
      have hall := sieve_all keepP s.data.toList k
      have hlen := sieve_len keepP s.data.toList k
      generalize sieveL keepP s.data.toList k = L at *
      obtain ⟨X, rfl⟩ : ∃ X, X = x := ⟨_, rfl⟩
      have hzL : L.length ≤ 200 := Nat.le_trans hlen hk2
      obtain ⟨n, hn, hn8⟩ : ∃ n : Nat, wrap64 ((IntKind.u64.wrap which).tmod 9) = (n : Int) ∧ n ≤ 8 := by
        have h0 : 0 ≤ which % 18446744073709551616 := Int.emod_nonneg _ (by decide)
        refine ⟨((which % 18446744073709551616) % 9).toNat, ?_, by omega⟩
        rw [IntKind.wrap_u64, Int.tmod_eq_emod_of_nonneg h0]
        unfold wrap64
        omega
      obtain ⟨u, hu, hT, hH⟩ := paths_plain n hn8 L fun b hb => keepP_no (hall b hb)
      have hm : mayX (hrC 39 u) = true := may_hr (.inr rfl) (by omega) (by omega)
      obtain ⟨d, hd⟩ : ∃ d, d = hrC 39 u := ⟨_, rfl⟩
      rw [← hd] at hT hH hm
      obtain ⟨c1, hc1, hz1, hcat1⟩ := join20 ⟨#[60, 97, 32, 104, 114, 101, 102, 61, 39]⟩ ⟨(headL n).toArray⟩ (hrP ++ [39]) (headL n) (by show _ = _; rfl) (by show _ = _; rfl) (by have := head_len n hn8; simp [hrP]; omega)
      obtain ⟨c2, hc2, hz2, hcat2⟩ := join20 c1 X (hrP ++ [39] ++ headL n) L hc1 hx (by have := head_len n hn8; simp [hrP]; omega)
      have HA := Lib.hid (fun W => at_ok hc2 (by omega) hT W)
      have HH := Lib.hid (fun W => hole_ok hm hH W)
      have c0 := head_cell n hn8
      clear hall hlen hk2 hks h HKG hxs hx hc1 hc2 hz1 hz2 hzL hT hH hm hd hu
      have heq := fun W => eq_cx d W
      go_upto_region 10 with (fail)
      refine wp_at_world ?_
      intro w2 hw2
      have hP : Blk w1.heap.size 9 headV w2 := by rw [hw2]; exact Blk.new w1 headV _
      have hb2 : Below w1.heap.size w1 w2 := by rw [hw2]; exact (Below.refl _ w1).alloc (Nat.le_refl _) _
      clear hw2
      have hbw := hbw.trans (hb2.mono hbw.size)
      have c0 := hP.cell n _ c0
      clear hP hb2
      generalize (⟨(headL n).toArray⟩ : ByteArray) = hy at *
      generalize w1.heap.size = g0 at *
      go_upto_region 11 with ((go_at_call 22; refine (HA.out _).mono ?_; rintro e w3 ⟨rfl, hbw3⟩))
      refine wp_at_world ?_
      intro w4 hww
      have hBw4 : Blk w3.heap.size 25 (cxCells d) w4 := by rw [hww]; exact Blk.new w3 (cxCells d) _
      have hbbw4 : Below w3.heap.size w3 w4 := by rw [hww]; exact (Below.refl _ w3).alloc (Nat.le_refl _) _
      clear hww
      have hbw := hbw.trans (hbw3.mono hbw.size)
      have hbw := hbw.trans (hbbw4.mono hbw.size)
      clear hbw3 hbbw4
      generalize w3.heap.size = gw4 at *
      have e0 := hBw4.cell 0 _ rfl
      have e1 := hBw4.cell 1 _ rfl
      have e2 := hBw4.cell 2 _ rfl
      have e3 := hBw4.cell 3 _ rfl
      have e4 := hBw4.cell 4 _ rfl
      have e5 := hBw4.cell 5 _ rfl
      have e6 := hBw4.cell 6 _ rfl
      have e7 := hBw4.cell 7 _ rfl
      have e8 := hBw4.cell 8 _ rfl
      have e9 := hBw4.cell 9 _ rfl
      go_upto_region 12 with ((go_at_call 15; refine (HH.out _).mono ?_; rintro e w5 ⟨rfl, hbw5⟩))
      refine wp_at_world ?_
      intro w6 hww
      have hBw6 : Blk w5.heap.size 25 (cxCells d) w6 := by rw [hww]; exact Blk.new w5 (cxCells d) _
      have hbbw6 : Below w5.heap.size w5 w6 := by rw [hww]; exact (Below.refl _ w5).alloc (Nat.le_refl _) _
      clear hww
      have hBw4 := (hBw4.below hbw5).below hbbw6
      have hbw := hbw.trans (hbw5.mono hbw.size)
      have hbw := hbw.trans (hbbw6.mono hbw.size)
      clear hbw5 hbbw6
      generalize w5.heap.size = gw6 at *
      have e0 := hBw4.cell 0 _ rfl
      have e1 := hBw4.cell 1 _ rfl
      have e2 := hBw4.cell 2 _ rfl
      have e3 := hBw4.cell 3 _ rfl
      have e4 := hBw4.cell 4 _ rfl
      have e5 := hBw4.cell 5 _ rfl
      have e6 := hBw4.cell 6 _ rfl
      have e7 := hBw4.cell 7 _ rfl
      have e8 := hBw4.cell 8 _ rfl
      have e9 := hBw4.cell 9 _ rfl
      have f0 := hBw6.cell 0 _ rfl
      have f1 := hBw6.cell 1 _ rfl
      have f2 := hBw6.cell 2 _ rfl
      have f3 := hBw6.cell 3 _ rfl
      have f4 := hBw6.cell 4 _ rfl
      have f5 := hBw6.cell 5 _ rfl
      have f6 := hBw6.cell 6 _ rfl
      have f7 := hBw6.cell 7 _ rfl
      have f8 := hBw6.cell 8 _ rfl
      have f9 := hBw6.cell 9 _ rfl
      go_wp2_with (go_at_call 19; go_in)
      go_ret
      exact ⟨rfl, hbw⟩
end Go.Proofs.YtafkfamfhagokaaGreatDoor.S
