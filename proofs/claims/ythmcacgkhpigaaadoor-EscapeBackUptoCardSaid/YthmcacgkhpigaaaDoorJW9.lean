/-
  THE WALK of package json's read.
-/
import Derived.Test.YthmcacgkhpigaaaDoorJW8
import Derived.Test.YthmcacgkhpigaaaDoorJC
set_option linter.unusedVariables false
set_option linter.unusedSimpArgs false
namespace Go.Proofs.YthmcacgkhpigaaaDoor.S
open Go.RowKit

theorem jbelow_put6 {B b : Nat} {w W : World} (h : Below B w W) (hb : B ≤ b) (v0 v1 v2 v3 v4 v5 : Value) :
    Below B w ((((((W.setCell ⟨b, 0, none⟩ v0).setCell ⟨b, 1, none⟩ v1).setCell ⟨b, 2, none⟩ v2).setCell ⟨b, 3, none⟩ v3).setCell ⟨b, 4, none⟩ v4).setCell ⟨b, 5, none⟩ v5) :=
  have one : ∀ (W : World) (j : Nat) (v : Value), Below B w W → Below B w (W.setCell ⟨b, j, none⟩ v) := fun W j v h => h.setCell (p := ⟨b, j, none⟩) hb v
  one _ _ _ (one _ _ _ (one _ _ _ (one _ _ _ (one _ _ _ (one _ _ _ h)))))
def RdEnd (w : World) (cs : List Value) (t : Bool) (v : JV) (iv kv : Value) (W : World) : Prop :=
  Blk w.heap.size 28 cs W ∧ Blk (w.heap.size + 1) 4 [.bool t] W ∧ Below w.heap.size w W ∧ VR (fun b => w.heap.size + 1 < b) W iv v.items ∧ KR (fun b => w.heap.size + 1 < b) W kv v.keys
theorem RdEnd.set1 {w W : World} {cs : List Value} {t : Bool} {v : JV} {iv kv : Value} (h : RdEnd w cs t v iv kv W) (j : Nat) (x : Value) : RdEnd w (cs.set j x) t v iv kv (W.setCell ⟨w.heap.size, j, none⟩ x) :=
  ⟨h.1.set j x, h.2.1.grown (grownBy_set _ _ _ _) (by simp), h.2.2.1.setCell (p := ⟨w.heap.size, j, none⟩) (Nat.le_refl _) x, h.2.2.2.1.keep (fun b hb hl => (grownBy_set W w.heap.size j x).block b hl (by simp; omega)), h.2.2.2.2.keep (fun b hb hl => (grownBy_set W w.heap.size j x).block b hl (by simp; omega))⟩
theorem RdEnd.set2 {w W : World} {cs : List Value} {t : Bool} {v : JV} {iv kv : Value} (h : RdEnd w cs t v iv kv W) (u : Bool) : RdEnd w cs u v iv kv (W.setCell ⟨w.heap.size + 1, 0, none⟩ (.bool u)) :=
  ⟨h.1.grown (grownBy_set _ _ _ _) (by simp), h.2.1.set 0 _, h.2.2.1.setCell (p := ⟨w.heap.size + 1, 0, none⟩) (Nat.le_succ _) _, h.2.2.2.1.keep (fun b hb hl => (grownBy_set W (w.heap.size + 1) 0 _).block b hl (by simp; omega)), h.2.2.2.2.keep (fun b hb hl => (grownBy_set W (w.heap.size + 1) 0 _).block b hl (by simp; omega))⟩
theorem RdEnd.drew {w W : World} {cs : List Value} {t : Bool} {v : JV} {iv kv : Value} (h : RdEnd w cs t v iv kv W) : RdEnd w cs t v iv kv W.drew :=
  ⟨h.1, h.2.1, h.2.2.1.drew, h.2.2.2.1.blw ((Below.refl _ W).drew), h.2.2.2.2.blw ((Below.refl _ W).drew)⟩
def ReadPost (R : Option JV) (w : World) (e : Ending) (w' : World) : Prop :=
  (∀ v, R = some v → ∃ iv kv, e = .returned (.tuple #[aggV v iv kv, .bool true]) ∧ VR (fun b => w.heap.size ≤ b) w' iv v.items ∧ KR (fun b => w.heap.size ≤ b) w' kv v.keys) ∧
  (R = none → ∃ (v : JV) (a1 : Option Addr) (n1 e1 : Nat) (a2 : Option Addr) (n2 e2 : Nat), e = .returned (.tuple #[aggV v (.slice a1 n1 e1) (.slice a2 n2 e2), .bool false])) ∧ Below w.heap.size w w'
theorem ReadPost.ok {R : Option JV} {w w' : World} {v : JV} {iv kv : Value} (h : R = some v) (hV : VR (fun b => w.heap.size ≤ b) w' iv v.items) (hK : KR (fun b => w.heap.size ≤ b) w' kv v.keys) (hb : Below w.heap.size w w') : ReadPost R w (.returned (.tuple #[aggV v iv kv, .bool true])) w' :=
  ⟨(fun v' h' => by rw [h] at h'; cases h'; exact ⟨iv, kv, rfl, hV, hK⟩), (fun h' => by rw [h] at h'; cases h'), hb⟩
theorem ReadPost.no {R : Option JV} {w w' : World} {v : JV} {a1 a2 : Option Addr} {n1 e1 n2 e2 : Nat} (h : R = none) (hb : Below w.heap.size w w') : ReadPost R w (.returned (.tuple #[aggV v (.slice a1 n1 e1) (.slice a2 n2 e2), .bool false])) w' :=
  ⟨(fun v' h' => by rw [h] at h'; cases h'), (fun _ => ⟨v, a1, n1, e1, a2, n2, e2, rfl⟩), hb⟩
set_option maxRecDepth 100000 in
set_option maxHeartbeats 8000000 in
theorem jread_calls (s : ByteArray) (w : World) (hE : Env w) (hs : s.size ≤ 65536) :
    Calls Tryd.prog 18 #[.string s] w (ReadPost (readJ s.data.toList) w) := by
  have hmf : ∀ (fn : Fn) (first cap : Array Value) (w : World), (Instr.makeFunc fn first cap).run Tryd.prog w = .ok (.func fn first cap) w := fun _ _ _ _ => rfl
  obtain ⟨R, hR⟩ : ∃ R, R = readJ s.data.toList := ⟨_, rfl⟩
  rw [← hR]
  unfold readJ at hR
  have HR := Lib.hid hR
  clear hR
  go_enter_defers Tryd.func18, Tryd.ntmps18
  go_wp2_with fail
  have hA1 : Blk w.heap.size 28 zeroV (w.alloc (.cells #[.int .i64 0, .int .i64 0, .int .u64 0, .string ⟨#[]⟩, .slice none 0 0, .slice none 0 0] 28)) := Blk.new w zeroV _
  have hb1 : Below w.heap.size w (w.alloc (.cells #[.int .i64 0, .int .i64 0, .int .u64 0, .string ⟨#[]⟩, .slice none 0 0, .slice none 0 0] 28)) := (Below.refl _ w).alloc (Nat.le_refl _) _
  have hz1 : (w.alloc (.cells #[.int .i64 0, .int .i64 0, .int .u64 0, .string ⟨#[]⟩, .slice none 0 0, .slice none 0 0] 28)).heap.size = w.heap.size + 1 := by simp
  generalize w.alloc (.cells #[.int .i64 0, .int .i64 0, .int .u64 0, .string ⟨#[]⟩, .slice none 0 0, .slice none 0 0] 28) = w1 at *
  have hB2 : Blk w1.heap.size 4 [.bool false] (w1.alloc (.cells #[.bool false] 4)) := Blk.new w1 [.bool false] _
  have hb2 : Below w1.heap.size w1 (w1.alloc (.cells #[.bool false] 4)) := (Below.refl _ w1).alloc (Nat.le_refl _) _
  have hz2 : (w1.alloc (.cells #[.bool false] 4)).heap.size = w1.heap.size + 1 := by simp
  have hA2 := hA1.below hb2
  generalize w1.alloc (.cells #[.bool false] 4) = w2 at *
  have hR3 : Blk w2.heap.size 62 [.string s] (w2.alloc (.cells #[.string s] 62)) := Blk.new w2 [.string s] _
  have hb3 : Below w2.heap.size w2 (w2.alloc (.cells #[.string s] 62)) := (Below.refl _ w2).alloc (Nat.le_refl _) _
  have hA3 := hA2.below hb3
  have hB3 := hB2.below hb3
  generalize w2.alloc (.cells #[.string s] 62) = w3 at *
  obtain ⟨g, hg⟩ : ∃ g, g = w.heap.size + 1 + 1 := ⟨_, rfl⟩
  rw [hz2, hz1, ← hg] at hR3
  rw [hz1] at hB3
  rw [← hg]
  have hbA := (hb1.trans (hb2.mono (by omega))).trans (hb3.mono (by omega))
  have hE3 : EnvAt g w3 := by
    have h := hE.at.below hbA
    exact ⟨h.env, by have := h.b0; omega, by have := h.b1; omega, by have := h.b2; omega⟩
  have hzg : g < w3.heap.size := hR3.lt
  clear hA1 hA2 hB2 hb1 hb2 hb3 hz1 hz2
  refine (jval_calls 8 1 rfl g s s.data.toList w3 hE3 hR3 rfl hs).mono ?_
  rintro e w4 ⟨hok, hno, hg4⟩
  have hA4 := Blk.grown hA3 hg4 (by simp; omega)
  have hB4 := Blk.grown hB3 hg4 (by simp; omega)
  have hbB := hbA.trans (Below.grow1 hg4 (by omega) (by omega : w.heap.size ≤ g))
  have hne : (⟨w.heap.size, 0, none⟩ : Addr) ≠ ⟨w.heap.size + 1, 0, none⟩ := by simp
  have hR := HR.out
  cases hr : valJ 8 s.data.toList with
  | none =>
    obtain rfl := hno hr
    rw [hr] at hR
    have HRR := Lib.hid hR
    clear hr hok hno hR HR
    unfold panJ
    go_wp2
    refine leaves_cons (f := 24) (args := #[.pointer (some ⟨w.heap.size, 0, none⟩), .pointer (some ⟨w.heap.size + 1, 0, none⟩)]) (by simp) (by simp [go_sem]) ?_
    refine (jcatch_panicking w.heap.size (w.heap.size + 1) _ hA4 _ hB4 (by omega)).mono ?_
    rintro e u' w'' ⟨rfl, rfl, hA5, hB5, hbl⟩
    have hbC := hbB.trans (hbl w.heap.size (Nat.le_refl _) (Nat.le_succ _) hbB.size)
    have d0 := hA5.cell 0 _ rfl
    have d1 := hA5.cell 1 _ rfl
    have d2 := hA5.cell 2 _ rfl
    have d3 := hA5.cell 3 _ rfl
    have d4 := hA5.cell 4 _ rfl
    have d5 := hA5.cell 5 _ rfl
    have e0 := hB5.cell 0 _ rfl
    simp [Leaves, settle, results, Tryd.results18, go_sem, d0, d1, d2, d3, d4, d5, e0]
    exact ReadPost.no (v := jNull) HRR.out hbC
  | some y =>
    obtain ⟨v, r⟩ := y
    obtain ⟨iv, kv, s', rfl, hV, hK, hs', hB'⟩ := hok v r hr
    rw [hr] at hR
    dsimp only at hR
    have HRR := Lib.hid hR
    obtain ⟨ia, ic, hiv⟩ := hV.slice
    obtain ⟨ka, kc, hkv⟩ := hK.slice
    subst hiv hkv
    generalize v.items.length = nl at *
    generalize v.keys.length = kl at *
    subst hg
    unfold aggV
    have k0 := hA4.cell 0 _ rfl
    have k1 := hA4.cell 1 _ rfl
    have k2 := hA4.cell 2 _ rfl
    have k3 := hA4.cell 3 _ rfl
    have k4 := hA4.cell 4 _ rfl
    have k5 := hA4.cell 5 _ rfl
    have z0 := hA4.free 0
    have z1 := hA4.free 1
    have z2 := hA4.free 2
    have z3 := hA4.free 3
    have z4 := hA4.free 4
    have z5 := hA4.free 5
    have hA6 : Blk w.heap.size 28 [.int .i64 v.kind, .int .i64 v.num, .int .u64 v.bits, .string ⟨v.text.toArray⟩, .slice ia nl ic, .slice ka kl kc] ((((((w4.setCell ⟨w.heap.size, 0, none⟩ (.int .i64 v.kind)).setCell ⟨w.heap.size, 1, none⟩ (.int .i64 v.num)).setCell ⟨w.heap.size, 2, none⟩ (.int .u64 v.bits)).setCell ⟨w.heap.size, 3, none⟩ (.string ⟨v.text.toArray⟩)).setCell ⟨w.heap.size, 4, none⟩ (.slice ia nl ic)).setCell ⟨w.heap.size, 5, none⟩ (.slice ka kl kc)) := (((((hA4.set 0 _).set 1 _).set 2 _).set 3 _).set 4 _).set 5 _
    have hB6 : Blk (w.heap.size + 1) 4 [.bool false] ((((((w4.setCell ⟨w.heap.size, 0, none⟩ (.int .i64 v.kind)).setCell ⟨w.heap.size, 1, none⟩ (.int .i64 v.num)).setCell ⟨w.heap.size, 2, none⟩ (.int .u64 v.bits)).setCell ⟨w.heap.size, 3, none⟩ (.string ⟨v.text.toArray⟩)).setCell ⟨w.heap.size, 4, none⟩ (.slice ia nl ic)).setCell ⟨w.heap.size, 5, none⟩ (.slice ka kl kc)) := jblk_put6 hB4 (by omega) _ _ _ _ _ _
    have hR6 : JRd (w.heap.size + 1 + 1) s' ((((((w4.setCell ⟨w.heap.size, 0, none⟩ (.int .i64 v.kind)).setCell ⟨w.heap.size, 1, none⟩ (.int .i64 v.num)).setCell ⟨w.heap.size, 2, none⟩ (.int .u64 v.bits)).setCell ⟨w.heap.size, 3, none⟩ (.string ⟨v.text.toArray⟩)).setCell ⟨w.heap.size, 4, none⟩ (.slice ia nl ic)).setCell ⟨w.heap.size, 5, none⟩ (.slice ka kl kc)) := jblk_put6 hB' (by omega) _ _ _ _ _ _
    have hb6 := jbelow_put6 (Below.refl w.heap.size w4) (Nat.le_refl _) (.int .i64 v.kind) (.int .i64 v.num) (.int .u64 v.bits) (.string ⟨v.text.toArray⟩) (.slice ia nl ic) (.slice ka kl kc)
    have hk6 := fun b (hb1 : w3.heap.size ≤ b) (hb2 : b < w4.heap.size) => put6_block w4 w.heap.size (.int .i64 v.kind) (.int .i64 v.num) (.int .u64 v.bits) (.string ⟨v.text.toArray⟩) (.slice ia nl ic) (.slice ka kl kc) b (by omega)
    have hV6 := hV.keep hk6
    have hK6 := hK.keep hk6
    have HB6' := Lib.hid (hbB.trans hb6)
    have HVV := Lib.hid hV6
    have HKK := Lib.hid hK6
    have HZ := Lib.hid hzg
    clear hr hok hno hR HR hV hK hV6 hK6 hk6 hb6 hB' hbB hbA hE3 hA3 hB3 hR3
    go_upto_region 4 with (fail)
    clear k0 k1 k2 k3 k4 k5 z0 z1 z2 z3 z4 z5
    generalize (((((w4.setCell ⟨w.heap.size, 0, none⟩ (.int .i64 v.kind)).setCell ⟨w.heap.size, 1, none⟩ (.int .i64 v.num)).setCell ⟨w.heap.size, 2, none⟩ (.int .u64 v.bits)).setCell ⟨w.heap.size, 3, none⟩ (.string ⟨v.text.toArray⟩)).setCell ⟨w.heap.size, 4, none⟩ (.slice ia nl ic)).setCell ⟨w.heap.size, 5, none⟩ (.slice ka kl kc) = w5 at *
    go_wp2_with fail
    refine (jblanks_calls (w.heap.size + 1 + 1) s' r _ hR6 hs').mono ?_
    rintro e w6 ⟨s6, rfl, hs6, hR7, hg6⟩
    have hA7 := Blk.grown hA6 hg6 (fun e => by injection e with e; omega)
    have hB7 := Blk.grown hB6 hg6 (fun e => by injection e with e; omega)
    have hb7 := HB6'.out.trans (Below.grow1 hg6 (by have := HB6'.out.size; omega) (by omega : w.heap.size ≤ w.heap.size + 1 + 1))
    have hV7 := HVV.out.keep (W' := w6) fun b hb1 hb2 => hg6.block b hb2 (fun e => by have := HZ.out; injection e with e; omega)
    have hK7 := HKK.out.keep (W' := w6) fun b hb1 hb2 => hg6.block b hb2 (fun e => by have := HZ.out; injection e with e; omega)
    have hre : RdEnd w [.int .i64 v.kind, .int .i64 v.num, .int .u64 v.bits, .string ⟨v.text.toArray⟩, .slice ia nl ic, .slice ka kl kc] false v (.slice ia nl ic) (.slice ka kl kc) w6 := ⟨hA7, hB7, hb7, hV7.mono fun b _ h => by have := HZ.out; omega, hK7.mono fun b _ h => by have := HZ.out; omega⟩
    clear hA6 hB6 hR6 HB6' HVV HKK hV7 hK7 hb7 hg6 hg4
    have hred := hre.drew
    obtain ⟨t, ht⟩ : ∃ t, t = s6.toList.isEmpty := ⟨_, rfl⟩
    have h1s : s6.toList.isEmpty = t := ht.symm
    have hx1 := (((((((hre.set1 0 (.int .i64 v.kind)).set1 1 (.int .i64 v.num)).set1 2 (.int .u64 v.bits)).set1 3 (.string ⟨v.text.toArray⟩)).set1 4 (.slice ia nl ic)).set1 5 (.slice ka kl kc)).set2 t).drew
    have HX1 : Hid (RdEnd w [.int .i64 v.kind, .int .i64 v.num, .int .u64 v.bits, .string ⟨v.text.toArray⟩, .slice ia nl ic, .slice ka kl kc] t v (.slice ia nl ic) (.slice ka kl kc) _) := hx1
    have hc := hR7.cell 0 _ rfl
    have k0 := hA7.cell 0 _ rfl
    have k1 := hA7.cell 1 _ rfl
    have k2 := hA7.cell 2 _ rfl
    have k3 := hA7.cell 3 _ rfl
    have k4 := hA7.cell 4 _ rfl
    have k5 := hA7.cell 5 _ rfl
    have z0 := hA7.free 0
    have z1 := hA7.free 1
    have z2 := hA7.free 2
    have z3 := hA7.free 3
    have z4 := hA7.free 4
    have z5 := hA7.free 5
    have j0 := hB7.cell 0 _ rfl
    have j1 := hB7.free 0
    have HT := Lib.hid ht
    clear hx1 hre hred hR7 hA7 hB7 ht
    go_upto_region 5 with (fail)
    go_cut [] from 13 to 18 (fun wx => RdEnd w [.int .i64 v.kind, .int .i64 v.num, .int .u64 v.bits, .string ⟨v.text.toArray⟩, .slice ia nl ic, .slice ka kl kc] t v (.slice ia nl ic) (.slice ka kl kc) wx)
    case first =>
      go_region
      all_goals go_wp2_with fail
      all_goals go_meet
      all_goals exact HX1.out
    case rest =>
    clear k0 k1 k2 k3 k4 k5 z0 z1 z2 z3 z4 z5 j0 j1 hc
    have hA8 := hcut.1
    have hB8 := hcut.2.1
    have hbw : Below wc.heap.size wc (wc.alloc (.cells #[] 58)) := (Below.refl _ wc).alloc (Nat.le_refl _) _
    have hb9 := hcut.2.2.1.trans (hbw.mono hcut.2.2.1.size)
    have hV9 := (hcut.2.2.2.1.blw hbw).mono (P' := fun b => w.heap.size ≤ b) fun b _ h => by omega
    have hK9 := (hcut.2.2.2.2.blw hbw).mono (P' := fun b => w.heap.size ≤ b) fun b _ h => by omega
    have hA9 := hA8.below hbw
    have hB9 := hB8.below hbw
    have H9 := Lib.hid (And.intro hb9 (And.intro hV9 hK9))
    clear hb9 hV9 hK9 hcut hA8 hB8 hbw
    go_wp2
    refine leaves_cons (f := 24) (args := #[.pointer (some ⟨w.heap.size, 0, none⟩), .pointer (some ⟨w.heap.size + 1, 0, none⟩)]) (by simp) (by simp [go_sem]) ?_
    refine (jcatch_idle ⟨w.heap.size, 0, none⟩ ⟨w.heap.size + 1, 0, none⟩ _).mono ?_
    rintro e u' w'' ⟨rfl, rfl, hw''⟩
    rw [← hw''] at hA9 hB9 H9
    have d0 := hA9.cell 0 _ rfl
    have d1 := hA9.cell 1 _ rfl
    have d2 := hA9.cell 2 _ rfl
    have d3 := hA9.cell 3 _ rfl
    have d4 := hA9.cell 4 _ rfl
    have d5 := hA9.cell 5 _ rfl
    have e0 := hB9.cell 0 _ rfl
    clear hw''
    simp [Leaves, settle, results, Tryd.results18, go_sem, d0, d1, d2, d3, d4, d5, e0]
    have hRR := HRR.out
    obtain ⟨hb9, hV9, hK9⟩ := H9.out
    by_cases hbl : blJ r = []
    · have htt : t = true := by rw [HT.out, Lib.toList_data, show s6.data.toList = blJ r from hs6, hbl]; rfl
      subst htt
      rw [if_pos hbl] at hRR
      exact ReadPost.ok hRR hV9 hK9 hb9
    · have htt : t = false := by rw [HT.out, Lib.toList_data, show s6.data.toList = blJ r from hs6]; cases hq : blJ r with | nil => exact absurd hq hbl | cons x y => rfl
      subst htt
      rw [if_neg hbl] at hRR
      exact ReadPost.no hRR hb9
end Go.Proofs.YthmcacgkhpigaaaDoor.S
