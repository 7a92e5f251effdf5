/-
  THE WALKS of package value's may, May.
-/
import Derived.Test.YthmcacgkhpigaaaDoorJM3
set_option linter.unusedVariables false
set_option linter.unusedSimpArgs false
namespace Go.Proofs.YthmcacgkhpigaaaDoor.S
open Go.RowKit

/-- what is left behind a value -/
def MPost (R : Option Nat) (W : World) (gl : Nat) (e : Ending) (w' : World) : Prop :=
  e = .returned (.bool R.isSome) ∧ (∀ k, R = some k → Blk gl 3 [.int .i64 (k : Nat)] w') ∧ W.grownBy w' (some gl)
theorem MPost.no {R : Option Nat} {W w' : World} {gl : Nat} (h : R = none) (hg : W.grownBy w' (some gl)) : MPost R W gl (.returned (.bool false)) w' :=
  ⟨by rw [h]; rfl, (fun k h' => by rw [h] at h'; cases h'), hg⟩
theorem MPost.ok {R : Option Nat} {W w' : World} {gl k : Nat} (h : R = some k) (hb : Blk gl 3 [.int .i64 (k : Nat)] w') (hg : W.grownBy w' (some gl)) : MPost R W gl (.returned (.bool true)) w' :=
  ⟨by rw [h]; rfl, (fun k' h' => by rw [h] at h'; cases h'; exact hb), hg⟩
theorem mayJ_zero (d : Nat) (v : JV) : mayJ (d + 1) v 0 = none := by rw [mayJ, if_pos rfl]
theorem mayJ_own {d n : Nat} {v : JV} (h : ownV v = false) : mayJ (d + 1) v (n + 1) = none := by rw [mayJ, if_neg (by omega), if_pos h]
theorem mayJ_row {d n : Nat} {v : JV} (h : ownV v = true) : mayJ (d + 1) v (n + 1) = mayRow (mayJ d) v.items n := by rw [mayJ, if_neg (by omega), if_neg (by rw [h]; simp)]; rfl
theorem ownV_len {v : JV} (h : ownV v = true) : v.items.length ≤ 64 := by
  unfold ownV at h
  simp only [Bool.and_eq_true, decide_eq_true_eq] at h
  exact h.1.2
theorem mayRow_le {f : JV → Nat → Option Nat} (hf : ∀ v n m, f v n = some m → m ≤ n) : ∀ (l : List JV) (n m : Nat), mayRow f l n = some m → m ≤ n
  | [], n, m, h => by rw [mayRow] at h; cases h; exact Nat.le_refl _
  | v :: r, n, m, h => by
    rw [mayRow] at h
    cases hv : f v n with
    | none => rw [hv] at h; cases h
    | some k =>
      rw [hv] at h
      exact Nat.le_trans (mayRow_le hf r k m h) (hf v n k hv)
theorem mayJ_le : ∀ (d : Nat) (v : JV) (n m : Nat), mayJ d v n = some m → m ≤ n
  | 0, v, n, m, h => by rw [mayJ] at h; cases h
  | d + 1, v, n, m, h => by
    rw [mayJ] at h
    split at h
    · cases h
    · split at h
      · cases h
      · have := mayRow_le (mayJ_le d) _ _ _ h
        omega
theorem jgrown_drewN {w w' : World} {row : Option Nat} (h : w.grownBy w' row) (n : Nat) : w.grownBy (w'.drewN n) row := ⟨h.os, h.tape, h.output, h.size, h.block⟩
set_option maxRecDepth 100000 in
set_option maxHeartbeats 8000000 in
theorem jmay_step (d m : Nat) (hd : m + d = 8) (IH : ∀ (P : Nat → Prop) (g o gl : Nat) (z : Vc) (n : Nat) (W : World), At6 g o z W → P g → ¬ P gl → g < W.heap.size → n ≤ 1024 → Blk gl 3 [.int .i64 (n : Nat)] W → KR P W z.kv z.jv.keys → VR P W z.iv z.jv.items → Calls Tryd.prog 27 #[.pointer (some ⟨g, o, none⟩), .int .i64 ((m : Int) + 1), .pointer (some ⟨gl, 0, none⟩)] W (MPost (mayJ d z.jv n) W gl))
    (P : Nat → Prop) (g o gl : Nat) (z : Vc) (n : Nat) (W : World) (hA : At6 g o z W) (hPg : P g) (hPl : ¬ P gl) (hgl : g < W.heap.size) (hn : n ≤ 1024) (hB : Blk gl 3 [.int .i64 (n : Nat)] W) (hK : KR P W z.kv z.jv.keys) (hV : VR P W z.iv z.jv.items) :
    Calls Tryd.prog 27 #[.pointer (some ⟨g, o, none⟩), .int .i64 m, .pointer (some ⟨gl, 0, none⟩)] W (MPost (mayJ (d + 1) z.jv n) W gl) := by
  have hne : g ≠ gl := fun e => hPl (by rw [← e]; exact hPg)
  have c0 := hB.cell 0 _ rfl
  have f0 := hB.free 0
  have hm8 : decide ((8 : Int) < (m : Int)) = false := decide_eq_false (by omega)
  have hw1 : IntKind.i64.wrap ((m : Int) + 1) = (m : Int) + 1 := IntWalk.i64_in _ (by omega)
  obtain ⟨T, hT0⟩ : ∃ T, T = mayJ (d + 1) z.jv n := ⟨_, rfl⟩
  rw [← hT0]
  have HT0 := Lib.hid hT0
  clear hT0
  go_enter Tryd.func27, Tryd.ntmps27
  cases n with
  | zero =>
    have HT := Lib.hid (HT0.out.trans (mayJ_zero d z.jv))
    go_wp2
    go_ret
    exact MPost.no HT.out (grownBy_set W gl 0 _)
  | succ n =>
    have hw : IntKind.i64.wrap (((n + 1 : Nat) : Int) - 1) = (n : Int) := by rw [IntWalk.i64_in _ (by omega)]; omega
    have hw2 : ((n + 1 : Nat) : Int) - 1 = (n : Int) := by omega
    have hw3 : ((n : Int) + 1) - 1 = (n : Int) := by omega
    have hn0 : decide ((n : Int) < 0) = false := decide_eq_false (by omega)
    have hB1 : Blk gl 3 [.int .i64 (n : Nat)] (W.setCell ⟨gl, 0, none⟩ (.int .i64 (n : Int))) := hB.set 0 _
    have hg1 := grownBy_set W gl 0 (.int .i64 (n : Int))
    have hkeep : ∀ (W' : World), W.grownBy W' (some gl) → (∀ b, P b → b < W.heap.size → W'.heap[b]? = W.heap[b]?) := fun W' h b hp hb => h.block b hb (by simp; intro e; exact hPl (by rw [← e]; exact hp))
    have hA' : ∀ W', W.grownBy W' (some gl) → At6 g o z W' := fun W' h j hj => (World.cell?_of_block (hkeep W' h g hPg hgl)).trans (hA j hj)
    have HA := Lib.hid hA'
    have HKP := Lib.hid hkeep
    clear hA' hkeep hA
    go_upto_region 2 with (fail)
    generalize W.setCell ⟨gl, 0, none⟩ (.int .i64 (n : Int)) = w1 at *
    have c1 := hB1.cell 0 _ rfl
    have hOC := jown_calls P g o z w1 (HA.out w1 hg1) (hK.keep (HKP.out w1 hg1)) hV.slice
    cases ho : ownV z.jv with
    | false =>
      rw [ho] at hOC
      have HT := Lib.hid (HT0.out.trans (mayJ_own (d := d) (n := n) ho))
      clear ho
      go_wp2_with (go_at_call 40; refine hOC.mono ?_; rintro e w2 ⟨rfl, k, rfl⟩)
      go_ret
      exact MPost.no HT.out (jgrown_drewN hg1 k)
    | true =>
      rw [ho] at hOC
      have hlen := ownV_len ho
      have hT := HT0.out.trans (mayJ_row (d := d) (n := n) ho)
      have HT := Lib.hid hT
      obtain ⟨ia, ic, zs, hiv, hzs, hat⟩ := hV.open
      have hvl : z.jv.items.length = zs.length := by rw [← hzs, List.length_map]
      have HV := Lib.hid hat
      have HZ := Lib.hid hzs
      have hc4 : w1.cell? ⟨g, o + 4, none⟩ = some (.slice ia zs.length ic) := by have := HA.out w1 hg1 4 (by omega); rw [this]; simp [Vc.cells, hiv]
      rw [hvl] at hlen
      have HIV := Lib.hid hiv
      clear ho hT hat hV hK hzs hiv hvl HT0
      go_wp2_with (go_at_call 40; refine hOC.mono ?_; rintro e w2 ⟨rfl, k, rfl⟩; have hg2 := jgrown_drewN hg1 k; have hB2 : Blk gl 3 [.int .i64 (n : Nat)] (w1.drewN k) := hB1)
      clear hOC hB1 hg1 c0 c1
      generalize w1.drewN k = w2 at *
      go_loopg [7, 31] zs.length (fun gk _ v31 wr => ∃ (i a : Nat), v31 = .int .i64 i ∧ i + gk = zs.length ∧ a ≤ 1024 ∧ Blk gl 3 [.int .i64 (a : Nat)] wr ∧ W.grownBy wr (some gl) ∧ Hid (T = mayRow (mayJ d) (z.jv.items.drop i) a))
      case atStart => exact ⟨0, n, rfl, by omega, by omega, hB2, hg2, HT⟩
      case round =>
        obtain ⟨i, a, rfl, hik, ha, hBr, hgr, hH⟩ := hrel
        have HIK := Lib.hid hik
        have hi2 : i ≤ zs.length := by omega
        clear hik hB2 hg2
        by_cases hi : i < zs.length
        · have hib : decide ((i : Int) < (zs.length : Int)) = true := decide_eq_true (by omega)
          obtain ⟨b, p, rfl, hPb, hbl, hcl, hKb, hVb⟩ := HV.out i hi
          have hdr : z.jv.items.drop i = (zs[i]'hi).jv :: z.jv.items.drop (i + 1) := by
            have hl : i < z.jv.items.length := by rw [← HZ.out, List.length_map]; exact hi
            rw [List.drop_eq_getElem_cons hl]
            congr 1
            simp only [← HZ.out, List.getElem_map]
          have hst := hH.out
          rw [hdr, mayRow] at hst
          obtain ⟨y, hy⟩ : ∃ y, y = zs[i]'hi := ⟨_, rfl⟩
          rw [← hy] at hst hcl hKb hVb
          have hA3 : At6 b (p + i * 6) y wr := fun j hj => by
            rw [Nat.add_assoc]
            exact (World.cell?_of_block (HKP.out wr hgr b hPb hbl)).trans (hcl j hj)
          have hc4r : wr.cell? ⟨g, o + 4, none⟩ = some (.slice (some ⟨b, p, none⟩) zs.length ic) := by
            rw [HA.out wr hgr 4 (by omega)]
            simp [Vc.cells, HIV.out]
          have hIC := IH P b (p + i * 6) gl y a wr hA3 hPb hPl (Nat.lt_of_lt_of_le hbl hgr.size) ha hBr (hKb.keep (HKP.out wr hgr)) (hVb.keep (HKP.out wr hgr))
          have HST := Lib.hid hst
          have HIC := Lib.hid hIC
          clear hst hdr hA3 hIC hy hcl hKb hVb hH hc4
          go_wp2_with fail
          refine HIC.out.mono ?_
          rintro e w3 ⟨rfl, hok, hg3⟩
          have hgr3 := hgr.trans hg3
          have hst := HST.out
          cases hm : mayJ d y.jv a with
          | none =>
            rw [hm] at hst
            have HT2 := Lib.hid hst
            clear hst hm hok
            go_wp2
            go_ret
            exact MPost.no HT2.out hgr3
          | some a2 =>
            rw [hm] at hst
            have hB3 := hok a2 hm
            have HT2 := Lib.hid hst
            have ha2 : a2 ≤ 1024 := Nat.le_trans (mayJ_le d _ _ _ hm) ha
            clear hst hm hok
            go_wp2
            go_roundg (gk - 1)
            case measure => have := HIK.out; omega
            case rel => exact ⟨i + 1, a2, by go_num, by have := HIK.out; omega, ha2, hB3, hgr3, HT2.out⟩
        · have hib : decide ((i : Int) < (zs.length : Int)) = false := decide_eq_false (by omega)
          have hst := hH.out
          rw [List.drop_eq_nil_of_le (by rw [← HZ.out, List.length_map]; omega), mayRow] at hst
          have HT2 := Lib.hid hst
          clear hst hH
          go_wp2
          go_ret
          exact MPost.ok HT2.out hBr hgr
theorem jmay_calls : ∀ (d m : Nat) (hd : m + d = 9) (P : Nat → Prop) (g o gl : Nat) (z : Vc) (n : Nat) (W : World), At6 g o z W → P g → ¬ P gl → g < W.heap.size → n ≤ 1024 → Blk gl 3 [.int .i64 (n : Nat)] W → KR P W z.kv z.jv.keys → VR P W z.iv z.jv.items →
    Calls Tryd.prog 27 #[.pointer (some ⟨g, o, none⟩), .int .i64 m, .pointer (some ⟨gl, 0, none⟩)] W (MPost (mayJ d z.jv n) W gl)
  | 0, m, hd, P, g, o, gl, z, n, W, hA, hPg, hPl, hgl, hn, hB, hK, hV => by
    obtain rfl : m = 9 := by omega
    have c0 := hB.cell 0 _ rfl
    have f0 := hB.free 0
    have hw : IntKind.i64.wrap ((n : Int) - 1) = (n : Int) - 1 := IntWalk.i64_in _ (by omega)
    go_enter Tryd.func27, Tryd.ntmps27
    go_wp2
    go_ret
    exact MPost.no rfl (grownBy_set W gl 0 _)
  | d + 1, m, hd, P, g, o, gl, z, n, W, hA, hPg, hPl, hgl, hn, hB, hK, hV =>
    jmay_step d m (by omega) (fun P g o gl z n W h1 h2 h3 h4 h5 h6 h7 h8 => jmay_calls d (m + 1) (by omega) P g o gl z n W h1 h2 h3 h4 h5 h6 h7 h8) P g o gl z n W hA hPg hPl hgl hn hB hK hV
set_option maxRecDepth 100000 in
set_option maxHeartbeats 4000000 in
theorem jMay_calls (v : JV) (iv kv : Value) (W : World) (hK : KR (fun b => b < W.heap.size) W kv v.keys) (hV : VR (fun b => b < W.heap.size) W iv v.items) :
    Calls Tryd.prog 19 #[.agg #[.int .i64 v.kind, .int .i64 v.num, .int .u64 v.bits, .string ⟨v.text.toArray⟩, iv, kv]] W fun e w' => e = .returned (.bool (mayV v)) ∧ Below W.heap.size W w' := by
  obtain ⟨ia, ic, hiv⟩ := hV.slice
  obtain ⟨ka, kc, hkv⟩ := hK.slice
  subst hiv hkv
  have hX : Blk W.heap.size 28 [.int .i64 v.kind, .int .i64 v.num, .int .u64 v.bits, .string ⟨v.text.toArray⟩, .slice ia v.items.length ic, .slice ka v.keys.length kc] (W.alloc (.cells #[.int .i64 v.kind, .int .i64 v.num, .int .u64 v.bits, .string ⟨v.text.toArray⟩, .slice ia v.items.length ic, .slice ka v.keys.length kc] 28)) := Blk.new W _ _
  have hb1 : Below W.heap.size W (W.alloc (.cells #[.int .i64 v.kind, .int .i64 v.num, .int .u64 v.bits, .string ⟨v.text.toArray⟩, .slice ia v.items.length ic, .slice ka v.keys.length kc] 28)) := (Below.refl _ W).alloc (Nat.le_refl _) _
  have hz1 : (W.alloc (.cells #[.int .i64 v.kind, .int .i64 v.num, .int .u64 v.bits, .string ⟨v.text.toArray⟩, .slice ia v.items.length ic, .slice ka v.keys.length kc] 28)).heap.size = W.heap.size + 1 := by simp
  have hV1 := hV.blw hb1
  have hK1 := hK.blw hb1
  have HX := Lib.hid hX
  have HB := Lib.hid hb1
  have HV := Lib.hid hV1
  have HK := Lib.hid hK1
  clear hX hb1 hV1 hK1 hV hK
  go_enter Tryd.func19, Tryd.ntmps19
  go_upto_region 1 with (fail)
  generalize W.alloc (.cells #[.int .i64 v.kind, .int .i64 v.num, .int .u64 v.bits, .string ⟨v.text.toArray⟩, .slice ia v.items.length ic, .slice ka v.keys.length kc] 28) = w1 at *
  go_wp2_with fail
  have hB2 : Blk w1.heap.size 3 [.int .i64 (1024 : Nat)] (w1.alloc (.cells #[.int .i64 1024] 3)) := Blk.new w1 [.int .i64 1024] _
  have hb2 : Below w1.heap.size w1 (w1.alloc (.cells #[.int .i64 1024] 3)) := (Below.refl _ w1).alloc (Nat.le_refl _) _
  have hX2 := HX.out.below hb2
  have hV2 := (HV.out.blw hb2).mono (P' := fun b => b ≤ W.heap.size) fun b _ h => Nat.le_of_lt h
  have hK2 := (HK.out.blw hb2).mono (P' := fun b => b ≤ W.heap.size) fun b _ h => Nat.le_of_lt h
  have hlt := hX2.lt
  generalize w1.alloc (.cells #[.int .i64 1024] 3) = w2 at *
  rw [hz1] at hB2
  refine (jmay_calls 8 1 rfl (fun b => b ≤ W.heap.size) W.heap.size 0 (W.heap.size + 1) ⟨v, .slice ia v.items.length ic, .slice ka v.keys.length kc⟩ 1024 w2 (fun j hj => ?_) (Nat.le_refl _) (by omega) hlt (by omega) hB2 hK2 hV2).mono ?_
  · rw [Nat.zero_add]
    obtain ⟨u, hu⟩ : ∃ u, (Vc.cells ⟨v, .slice ia v.items.length ic, .slice ka v.keys.length kc⟩)[j]? = some u := ⟨_, List.getElem?_eq_getElem (by simpa [Vc.cells] using hj)⟩
    rw [hu]
    exact hX2.cell j u hu
  · rintro e w3 ⟨rfl, -, hg3⟩
    have hb3 : Below W.heap.size W w3 := ((HB.out.trans (hb2.mono (by omega)))).trans (Below.grow1 hg3 (by have := hb2.size; omega) (by omega))
    go_wp2
    go_ret
    exact ⟨rfl, hb3⟩
end Go.Proofs.YthmcacgkhpigaaaDoor.S
