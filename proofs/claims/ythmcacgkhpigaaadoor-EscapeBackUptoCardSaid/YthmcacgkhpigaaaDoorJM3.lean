/-
  THE WALKS of package value's own, may, May.
-/
import Derived.Test.YthmcacgkhpigaaaDoorJM2
set_option linter.unusedVariables false
set_option linter.unusedSimpArgs false
namespace Go.Proofs.YthmcacgkhpigaaaDoor.S
open Go.RowKit

theorem below_drewN {B : Nat} {a w : World} (h : Below B a w) (n : Nat) : Below B a (w.drewN n) := ⟨h.os, h.tape, h.output, h.size, h.block⟩
theorem jint_all (x : Int) (w : World) :
    Calls Tryd.prog 54 #[.int .i64 x] w fun e w' => e = .returned (.bool (decide (-9007199254740991 ≤ x) && decide (x ≤ 9007199254740991))) ∧ w = w' := by
  go_enter Tryd.func54, Tryd.ntmps54
  by_cases h2 : -9007199254740991 ≤ x
  · have hb : decide ((-9007199254740991 : Int) ≤ x) = true := decide_eq_true h2
    go_wp2
    go_ret
    exact ⟨by rw [hb, Bool.true_and]; rfl, rfl⟩
  · have hb : decide ((-9007199254740991 : Int) ≤ x) = false := decide_eq_false h2
    go_wp2
    go_ret
    exact ⟨rfl, rfl⟩
theorem ownV_mk (kd num : Int) (bits : Nat) (text : List UInt8) (items : List JV) (keys : List (List UInt8)) : ownV (.mk kd num bits text items keys) = (plainV (.mk kd num bits text items keys) && decide (items.length ≤ 64) &&
    (if kd = 0 ∨ kd = 3 ∨ kd = 5 then true else if kd = 1 then num == 0 || num == 1 else if kd = 2 then decide (-9007199254740991 ≤ num) && decide (num ≤ 9007199254740991) else if kd = 4 then decide (text.length ≤ 65536) else if kd = 6 then keys.length == items.length && keysO keys else false)) := rfl
set_option maxRecDepth 100000 in
set_option maxHeartbeats 8000000 in
theorem jown_calls (P : Nat → Prop) (g o : Nat) (z : Vc) (w : World) (hc : At6 g o z w) (hK : KR P w z.kv z.jv.keys) (hI : ∃ a c, z.iv = .slice a z.jv.items.length c) :
    Calls Tryd.prog 40 #[.pointer (some ⟨g, o, none⟩)] w fun e w' => e = .returned (.bool (ownV z.jv)) ∧ ∃ m, w' = w.drewN m := by
  have hP := jplain_calls g o z w hc hI hK.slice
  obtain ⟨⟨kd, num, bits, text, items, keys⟩, iv, kv⟩ := z
  obtain ⟨ia, ic, hiv⟩ := hI
  obtain ⟨ka, kc, hkv⟩ := hK.slice
  dsimp only at hiv hkv
  subst hiv hkv
  have c0 := hc 0 (by omega)
  have c1 := hc 1 (by omega)
  have c3 := hc 3 (by omega)
  have c4 := hc 4 (by omega)
  have c5 := hc 5 (by omega)
  obtain ⟨R, hR⟩ : ∃ R, R = ownV (.mk kd num bits text items keys) := ⟨_, rfl⟩
  dsimp only at hP hK ⊢
  rw [← hR]
  rw [ownV_mk] at hR
  generalize hPP : plainV (.mk kd num bits text items keys) = Pl at *
  simp only [Vc.cells, JV.kind, JV.num, JV.bits, JV.text, JV.items, JV.keys, List.getElem?_cons_zero, List.getElem?_cons_succ, Nat.add_zero] at c0 c1 c3 c4 c5 hK
  obtain ⟨tx, htx⟩ : ∃ tx : ByteArray, tx = ⟨text.toArray⟩ := ⟨_, rfl⟩
  have hts : tx.size = text.length := by rw [htx]; rfl
  rw [← htx] at c3
  have HR := Lib.hid hR
  have HTS := Lib.hid hts
  have HK := Lib.hid hK
  clear hc hR htx hPP hts hK
  go_enter Tryd.func40, Tryd.ntmps40
  go_wp2_with fail
  refine hP.mono ?_
  rintro e w' ⟨rfl, rfl⟩
  clear hP
  cases Pl with
  | false =>
    have HF := Lib.hid (show R = false by rw [HR.out, Bool.false_and, Bool.false_and])
    clear HR
    go_wp2
    go_ret
    exact ⟨by rw [HF.out]; rfl, 0, rfl⟩
  | true =>
    by_cases hil : items.length ≤ 64
    · have hilb : decide ((64 : Int) < (items.length : Int)) = false := decide_eq_false (by omega)
      have hR2 : R = (if kd = 0 ∨ kd = 3 ∨ kd = 5 then true else if kd = 1 then num == 0 || num == 1 else if kd = 2 then decide (-9007199254740991 ≤ num) && decide (num ≤ 9007199254740991) else if kd = 4 then decide (text.length ≤ 65536) else if kd = 6 then keys.length == items.length && keysO keys else false) := by
        rw [HR.out, decide_eq_true hil, Bool.true_and, Bool.true_and]
      have HR2 := Lib.hid hR2
      clear HR hR2
      by_cases h0 : kd = 0
      · subst h0
        have HF := Lib.hid (show R = true from HR2.out)
        clear HR2
        go_wp2
        go_ret
        exact ⟨by rw [HF.out]; rfl, 0, rfl⟩
      have e0 : (kd == 0) = false := beq_eq_false_iff_ne.2 h0
      by_cases h3 : kd = 3
      · subst h3
        have HF := Lib.hid (show R = true from HR2.out)
        clear HR2
        go_wp2
        go_ret
        exact ⟨by rw [HF.out]; rfl, 0, rfl⟩
      have e3 : (kd == 3) = false := beq_eq_false_iff_ne.2 h3
      by_cases h5 : kd = 5
      · subst h5
        have HF := Lib.hid (show R = true from HR2.out)
        clear HR2
        go_wp2
        go_ret
        exact ⟨by rw [HF.out]; rfl, 0, rfl⟩
      have e5 : (kd == 5) = false := beq_eq_false_iff_ne.2 h5
      by_cases h1 : kd = 1
      · subst h1
        have hf : R = (num == 0 || num == 1) := HR2.out
        cases hn : (num == 0) with
        | true =>
          rw [hn] at hf
          have HF := Lib.hid hf
          clear HR2 hf
          go_wp2
          go_ret
          exact ⟨by rw [HF.out]; rfl, 0, rfl⟩
        | false =>
          rw [hn, Bool.false_or] at hf
          have HF := Lib.hid hf
          clear HR2 hf
          go_wp2
          go_ret
          exact ⟨by rw [HF.out]; rfl, 0, rfl⟩
      have e1 : (kd == 1) = false := beq_eq_false_iff_ne.2 h1
      by_cases h2 : kd = 2
      · subst h2
        have HF := Lib.hid (show R = (decide (-9007199254740991 ≤ num) && decide (num ≤ 9007199254740991)) from HR2.out)
        have hJ := jint_all num w
        generalize (decide (-9007199254740991 ≤ num) && decide (num ≤ 9007199254740991)) = J at *
        clear HR2
        go_wp2_with fail
        refine hJ.mono ?_
        rintro e w' ⟨rfl, rfl⟩
        go_wp2
        go_ret
        exact ⟨by rw [HF.out]; rfl, 0, rfl⟩
      have e2 : (kd == 2) = false := beq_eq_false_iff_ne.2 h2
      by_cases h4 : kd = 4
      · subst h4
        have hf : R = decide (text.length ≤ 65536) := HR2.out
        have hf2 : R = decide ((tx.size : Int) ≤ 65536) := by rw [hf]; exact decide_eq_decide.2 (by have := HTS.out; omega)
        have HF := Lib.hid hf2
        clear HR2 hf hf2
        go_wp2
        go_ret
        exact ⟨by rw [HF.out]; rfl, 0, rfl⟩
      have e4 : (kd == 4) = false := beq_eq_false_iff_ne.2 h4
      by_cases h6 : kd = 6
      · subst h6
        have hf : R = (keys.length == items.length && keysO keys) := HR2.out
        have hbb : (keys.length == items.length) = (((keys.length : Int)) == (items.length : Int)) := by
          by_cases h : keys.length = items.length
          · rw [h]; simp
          · rw [beq_eq_false_iff_ne.2 h]; exact (beq_eq_false_iff_ne.2 (by omega)).symm
        rw [hbb] at hf
        have hKC : ∀ n, keys.length ≤ 64 → Calls Tryd.prog 55 #[.slice ka keys.length kc] (w.drewN n) fun e w' => e = .returned (.bool (keysO keys)) ∧ w' = w.drewN n := fun n h => (jkeys_calls P _ keys (w.drewN n) (HK.out.blw (below_drewN (Below.refl _ w) n)) (by omega)).mono fun _ _ ⟨he, hw⟩ => ⟨he, hw.symm⟩
        have hkl : (((keys.length : Int)) == (items.length : Int)) = true → keys.length ≤ 64 := fun h => by have := beq_iff_eq.1 h; omega
        generalize keysO keys = KO at *
        generalize keys.length = kn at *
        generalize items.length = iln at *
        cases hq : ((kn : Int) == (iln : Int)) with
        | false =>
          rw [hq, Bool.false_and] at hf
          have HF := Lib.hid hf
          clear HR2 hf hbb hKC hkl
          go_upto_region 15 with (fail)
          go_quiet (fail)
          go_wp2
          go_ret
          exact ⟨by rw [HF.out]; rfl, _, rfl⟩
        | true =>
          rw [hq, Bool.true_and] at hf
          have HF := Lib.hid hf
          have HKC := Lib.hid (fun n => hKC n (hkl hq))
          clear HR2 hf hbb hKC hkl
          go_upto_region 15 with (fail)
          go_quiet ((go_at_call 55; exact Calls.quiet_of_same (HKC.out _)))
          go_wp2
          go_ret
          exact ⟨by rw [HF.out]; rfl, _, rfl⟩
      have e6 : (kd == 6) = false := beq_eq_false_iff_ne.2 h6
      have HF := Lib.hid (show R = false by rw [HR2.out, if_neg (by rintro (h | h | h) <;> contradiction), if_neg h1, if_neg h2, if_neg h4, if_neg h6])
      clear HR2 h0 h1 h2 h3 h4 h5 h6
      go_wp2
      go_ret
      exact ⟨by rw [HF.out]; rfl, 0, rfl⟩
    · have hilb : decide ((64 : Int) < (items.length : Int)) = true := decide_eq_true (by omega)
      have HF := Lib.hid (show R = false by rw [HR.out, decide_eq_false hil, Bool.and_false, Bool.false_and])
      clear HR
      go_wp2
      go_ret
      exact ⟨by rw [HF.out]; rfl, 0, rfl⟩
end Go.Proofs.YthmcacgkhpigaaaDoor.S
