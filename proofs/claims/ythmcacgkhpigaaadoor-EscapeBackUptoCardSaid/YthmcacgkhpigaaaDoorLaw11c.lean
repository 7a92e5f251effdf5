/-
  THE WALK of the law EscapeBack (chapter 11).
-/
import Derived.Test.YthmcacgkhpigaaaDoorJW10
import Derived.Test.YthmcacgkhpigaaaDoorLaw11b
import Derived.Test.YthmcacgkhpigaaaDoorRefNorm
import Derived.Deep.RegionHeld3
set_option linter.unusedVariables false
set_option linter.unusedSimpArgs false
namespace Go.Proofs.YthmcacgkhpigaaaDoor.S
open Go.RowKit

theorem jnum_all (c : Int) (W : World) : Calls Tryd.prog 8 #[.int .i64 c] W fun e w' => e = .returned (.int .i64 c) ∧ W = w' := by
  go_enter Tryd.func8, Tryd.ntmps8
  go_wp2
  go_ret
  exact ⟨rfl, rfl⟩
theorem escR_le (l : List UInt8) : (escR l).length ≤ 6 * l.length := by
  fun_induction escR l with
  | case1 => exact Nat.le_refl _
  | case2 r ih => simp; omega
  | case3 r ih => simp; omega
  | case4 c r _ _ ih => have := escJ_len c; simp; omega
theorem jcat (a b : ByteArray) (l r : List UInt8) (h1 : StrIs a l) (h2 : StrIs b r) (h : a.size + b.size ≤ 9223372036854775807) : ∃ c : ByteArray, StrIs c (l ++ r) ∧ ∀ W, (Op.stringOp .add a b).run Tryd.prog W = .ok (.string c) W := by
  refine ⟨a ++ b, ?_, fun W => run_string_add_sum W a b h⟩
  unfold StrIs at *
  rw [← h1, ← h2]
  simp [ByteArray.data_append]
theorem agg4 (u : List UInt8) (iv kv : Value) : aggV (.mk 4 0 0 u [] []) iv kv = .agg #[.int .i64 4, .int .i64 0, .int .u64 0, .string ⟨u.toArray⟩, iv, kv] := rfl
theorem okE_not {b : UInt8} (h : okE b = true) : ((b.toNat : Int) == 34) = false ∧ ((b.toNat : Int) == 39) = false ∧ ((b.toNat : Int) == 96) = false ∧ ((b.toNat : Int) == 60) = false ∧ ((b.toNat : Int) == 62) = false ∧ ((b.toNat : Int) == 38) = false ∧ decide ((b.toNat : Int) < 32) = false := by
  revert h
  exact all_bytes (fun b => okE b = true → ((b.toNat : Int) == 34) = false ∧ ((b.toNat : Int) == 39) = false ∧ ((b.toNat : Int) == 96) = false ∧ ((b.toNat : Int) == 60) = false ∧ ((b.toNat : Int) == 62) = false ∧ ((b.toNat : Int) == 38) = false ∧ decide ((b.toNat : Int) < 32) = false) (by decide +kernel) b
set_option maxRecDepth 100000 in
set_option maxHeartbeats 8000000 in
theorem escapeBack_calls (s t : ByteArray) (w : World) (hE : Env w) (hs : s.size ≤ 1048576) (ht : t.size ≤ 1048576) :
    Calls Tryd.prog 3 #[.string s, .string t] w fun e w' => e = .returned (.bool true) ∧ Below w.heap.size w w' := by
  have hnl := norm_len s.data.toList
  have hnt := norm_len t.data.toList
  have hsl : s.data.toList.length = s.size := rfl
  have htl : t.data.toList.length = t.size := rfl
  have hNm := nm_norm s.data.toList
  obtain ⟨u, hu⟩ : ∃ u, u = norm s.data.toList := ⟨_, rfl⟩
  rw [← hu] at hnl hNm
  have hxl := escR_le u
  have hxt := escR_le (norm t.data.toList)
  have HU := Lib.hid hu
  have HN := Lib.hid hNm
  clear hu hNm
  go_enter Tryd.func3, Tryd.ntmps3
  go_wp2_with fail
  refine (awake11_calls w hE).mono ?_
  rintro e w1 ⟨rfl, hb1⟩
  have hE1 := hE.below hb1
  go_wp2_with fail
  refine (escape_calls' s w1 hE1 (by omega)).mono ?_
  rintro e w2 ⟨x, rfl, hx, hb2⟩
  have hE2 := hE1.below hb2
  have hbA := hb1.trans (hb2.mono hb1.size)
  rw [escape_same, ← HU.out] at hx
  have hxz : x.size ≤ 18874368 := by rw [hx.size]; omega
  have HX := Lib.hid hx
  have HBA := Lib.hid hbA
  clear hx hbA hb1 hb2
  go_wp2
  go_loopg [6] x.size (fun gk v6 wr => ∃ k : Nat, v6 = .int .i64 k ∧ k + gk = x.size ∧ w2 = wr)
  case atStart => exact ⟨0, rfl, by omega, rfl⟩
  case round =>
    obtain ⟨k, rfl, hkg, rfl⟩ := hrel
    have HKG := Lib.hid hkg
    have hkx : k ≤ x.size := by omega
    clear hkg
    by_cases hk : k < x.size
    · have hkb : decide ((k : Int) < (x.size : Int)) = true := decide_eq_true (by omega)
      obtain ⟨b, hb⟩ : ∃ b : UInt8, b = x[k]'hk := ⟨_, rfl⟩
      have hbt : ∀ h', ((x[k]'h').toNat : Nat) = b.toNat := fun h' => by rw [hb]
      have hmem : b ∈ escR u := by
        rw [← HX.out, hb]
        exact Array.getElem_mem_toList (xs := x.data) hk
      obtain ⟨q1, q2, q3, q4, q5, q6, q7⟩ := okE_not (escR_ok u b hmem)
      clear hb hmem
      generalize b.toNat = d at *
      go_wp2
      go_roundg (gk - 1)
      case measure => have := HKG.out; omega
      case rel => exact ⟨k + 1, by go_num, by have := HKG.out; omega, rfl⟩
    · have hkb : decide ((k : Int) < (x.size : Int)) = false := decide_eq_false (by omega)
      clear HKG hkx
      go_wp2_with fail
      refine (rnorm_calls s w2 (by omega)).mono ?_
      rintro e w3 ⟨n, rfl, hn, hb3⟩
      rw [← HU.out] at hn
      have hE3 := hE2.below hb3
      have hnz : n.size ≤ 3145728 := by rw [hn.size]; omega
      obtain ⟨nt, hcat, hj1⟩ := jcat n t u t.data.toList hn rfl (by omega)
      have hntz : nt.size ≤ 4194304 := by rw [hcat.size, List.length_append]; omega
      go_wp2_with fail
      refine (escape_calls' nt w3 hE3 (by omega)).mono ?_
      rintro e w4 ⟨y, rfl, hy, hb4⟩
      have hE4 := hE3.below hb4
      rw [escape_same, show nt.data.toList = u ++ t.data.toList from hcat, HN.out.norm_app, HN.out.escR_app] at hy
      go_wp2_with fail
      refine (escape_calls' t w4 hE4 (by omega)).mono ?_
      rintro e w5 ⟨z, rfl, hz, hb5⟩
      have hE5 := hE4.below hb5
      rw [escape_same] at hz
      have hzz : z.size ≤ 18874368 := by rw [hz.size]; omega
      obtain ⟨xz, hxzl, hj2⟩ := jcat x z (escR u) _ HX.out hz (by omega)
      have hyx : y = xz := by
        have : y.data = xz.data := Array.toList_inj.1 ((show y.data.toList = _ from hy).trans (show xz.data.toList = _ from hxzl).symm)
        exact ByteArray.ext this
      have hbB := (HBA.out.trans (hb3.mono HBA.out.size)).trans ((hb4.mono (Nat.le_trans HBA.out.size hb3.size)).trans (hb5.mono (Nat.le_trans HBA.out.size (Nat.le_trans hb3.size hb4.size))))
      have HBB := Lib.hid hbB
      have HE5 := Lib.hid hE5
      subst hyx
      clear hbB hb3 hb4 hb5 hE1 hE2 hE3 hE4 hE5 hy hz hcat hn hE hxzl
      go_upto_region 11 with (fail)
      by_cases hA : 65534 < x.size
      · have hAb : decide ((65534 : Int) < (x.size : Int)) = true := decide_eq_true (by omega)
        go_wp2
        go_ret
        exact ⟨rfl, HBB.out⟩
      · have hAb : decide ((65534 : Int) < (x.size : Int)) = false := decide_eq_false (by omega)
        by_cases hB : 21845 < s.size
        · have hBb : decide ((21845 : Int) < (s.size : Int)) = true := decide_eq_true (by omega)
          go_wp2
          go_ret
          exact ⟨rfl, HBB.out⟩
        · have hBb : decide ((21845 : Int) < (s.size : Int)) = false := decide_eq_false (by omega)
          obtain ⟨q1, hq1, hj3⟩ := jcat ⟨#[34]⟩ x [34] (escR u) rfl HX.out (by show 1 + x.size ≤ _; omega)
          have hq1z : q1.size = x.size + 1 := by rw [hq1.size, HX.out.size]; simp
          obtain ⟨q2, hq2, hj4⟩ := jcat q1 ⟨#[34]⟩ _ [34] hq1 rfl (by show q1.size + 1 ≤ _; omega)
          have hget : getJ q2.data.toList = some (.mk 4 0 0 u [] []) := by
            rw [show q2.data.toList = [34] ++ escR u ++ [34] from hq2]
            exact getJ_text HN.out (by rw [← HX.out.size]; omega)
          have HG := Lib.hid hget
          clear hget hq1 hq2
          go_wp2_with fail
          refine (jGet_calls q2 w5 HE5.out).mono ?_
          rintro e w6 ⟨hok, -, hb6⟩
          obtain ⟨iv, kv, rfl, hVR, hKR⟩ := hok _ HG.out
          obtain ⟨ia, ic, hiv⟩ := hVR.slice
          obtain ⟨ka, kc, hkv⟩ := hKR.slice
          subst hiv hkv
          rw [agg4]
          dsimp only [JV.items, JV.keys, List.length_nil]
          have HB6 := Lib.hid (HBB.out.trans (hb6.mono HBB.out.size))
          clear hok hVR hKR hb6
          have hX7 : Blk w6.heap.size 28 [.int .i64 4, .int .i64 0, .int .u64 0, .string ⟨u.toArray⟩, .slice ia 0 ic, .slice ka 0 kc] (w6.alloc (.cells #[.int .i64 4, .int .i64 0, .int .u64 0, .string ⟨u.toArray⟩, .slice ia 0 ic, .slice ka 0 kc] 28)) := Blk.new w6 _ _
          have hb7 : Below w6.heap.size w6 (w6.alloc (.cells #[.int .i64 4, .int .i64 0, .int .u64 0, .string ⟨u.toArray⟩, .slice ia 0 ic, .slice ka 0 kc] 28)) := (Below.refl _ w6).alloc (Nat.le_refl _) _
          have HB7 := Lib.hid (HB6.out.trans (hb7.mono HB6.out.size))
          clear hb7
          go_upto_region 14 with (fail)
          generalize w6.alloc (.cells #[.int .i64 4, .int .i64 0, .int .u64 0, .string ⟨u.toArray⟩, .slice ia 0 ic, .slice ka 0 kc] 28) = w7 at *
          have c0 := hX7.cell 0 _ rfl
          have c3 := hX7.cell 3 _ rfl
          have hkk : ∀ W, Below w7.heap.size w7 W → Below w7.heap.size w7 W ∧ W.cell? ⟨w6.heap.size, 0, none⟩ = some (.int .i64 4) ∧ W.cell? ⟨w6.heap.size, 3, none⟩ = some (.string ⟨u.toArray⟩) := fun W h => ⟨h, (hX7.below h).cell 0 _ rfl, (hX7.below h).cell 3 _ rfl⟩
          have hnr : ∀ W, Below w7.heap.size w7 W → Calls Tryd.prog 6 #[.string s] W fun e w' => e = .returned (.string ⟨u.toArray⟩) ∧ Below w7.heap.size w7 w' := fun W h => (rnorm_calls s W (by omega)).mono fun e w' ⟨r, he, hr, hb⟩ => ⟨by rw [he, hr.eq, ← HU.out], h.trans (hb.mono h.size)⟩
          have hnu : ∀ W, Below w7.heap.size w7 W → Calls Tryd.prog 8 #[.int .i64 0] W fun e w' => e = .returned (.int .i64 0) ∧ Below w7.heap.size w7 w' := fun W h => (jnum_all 0 W).mono fun e w' ⟨he, hb⟩ => ⟨he, by rw [← hb]; exact h⟩
          have HK := Lib.hid hkk
          have HNR := Lib.hid hnr
          have HNU := Lib.hid hnu
          generalize (⟨u.toArray⟩ : ByteArray) = ub at *
          clear hkk hnr hnu hX7 hj1 hj2 hj3 hj4
          have hr7 := Below.refl w7.heap.size w7
          go_region_held3 (fun w' => Below w7.heap.size w7 w' ∧ w'.cell? ⟨w6.heap.size, 0, none⟩ = some (.int .i64 4) ∧ w'.cell? ⟨w6.heap.size, 3, none⟩ = some (.string ub))
            (first | exact HK.out _ (by assumption) | exact HK.out _ (Below.drew (by assumption)))
            (first | (go_at_call 8; obtain ⟨hbq, -⟩ := ‹Below w7.heap.size w7 _ ∧ _›; refine (HNU.out _ hbq).mono ?_; rintro e w' ⟨rfl, hbn⟩) | (go_at_call 6; obtain ⟨hbq, -⟩ := ‹Below w7.heap.size w7 _ ∧ _›; refine (HNR.out _ hbq).mono ?_; rintro e w' ⟨rfl, hbn⟩))
          go_wp2_with fail
          go_ret
          refine ⟨by first | rfl | simp, HB7.out.trans (Below.mono ?_ HB7.out.size)⟩
          first | assumption | exact Below.drew (by assumption) | (obtain ⟨hbq, -⟩ := ‹Below w7.heap.size w7 _ ∧ _›; exact hbq) | trace_state
end Go.Proofs.YthmcacgkhpigaaaDoor.S
