/-
  THE WALK of package json's Get.
-/
import Derived.Test.YthmcacgkhpigaaaDoorJW9
import Derived.Test.YthmcacgkhpigaaaDoorJM4
set_option linter.unusedVariables false
set_option linter.unusedSimpArgs false
namespace Go.Proofs.YthmcacgkhpigaaaDoor.S
open Go.RowKit

def GetPost (R : Option JV) (w : World) (e : Ending) (w' : World) : Prop :=
  (∀ v, R = some v → ∃ iv kv, e = .returned (.tuple #[aggV v iv kv, .int .i64 0]) ∧ VR (fun b => w.heap.size ≤ b) w' iv v.items ∧ KR (fun b => w.heap.size ≤ b) w' kv v.keys) ∧
  (R = none → e = .returned (.tuple #[aggV jNull (.slice none 0 0) (.slice none 0 0), .int .i64 1000])) ∧ Below w.heap.size w w'
theorem GetPost.ok {R : Option JV} {w w' : World} {v : JV} {iv kv : Value} (h : R = some v) (hV : VR (fun b => w.heap.size ≤ b) w' iv v.items) (hK : KR (fun b => w.heap.size ≤ b) w' kv v.keys) (hb : Below w.heap.size w w') : GetPost R w (.returned (.tuple #[aggV v iv kv, .int .i64 0])) w' :=
  ⟨(fun v' h' => by rw [h] at h'; cases h'; exact ⟨iv, kv, rfl, hV, hK⟩), (fun h' => by rw [h] at h'; cases h'), hb⟩
theorem GetPost.no {R : Option JV} {w w' : World} (h : R = none) (hb : Below w.heap.size w w') : GetPost R w (.returned (.tuple #[aggV jNull (.slice none 0 0) (.slice none 0 0), .int .i64 1000])) w' :=
  ⟨(fun v' h' => by rw [h] at h'; cases h'), (fun _ => rfl), hb⟩
theorem getJ_long {l : List UInt8} (h : 65536 < l.length) : getJ l = none := by unfold getJ; rw [if_pos h]
theorem getJ_no {l : List UInt8} (h : readJ l = none) : getJ l = none := by unfold getJ; rw [h]; split <;> rfl
theorem getJ_may {l : List UInt8} {v : JV} (h : ¬ 65536 < l.length) (h1 : readJ l = some v) : getJ l = if mayV v = true then some v else none := by unfold getJ; rw [if_neg h, h1]
set_option maxRecDepth 100000 in
set_option maxHeartbeats 8000000 in
theorem jGet_calls (s : ByteArray) (w : World) (hE : Env w) :
    Calls Tryd.prog 7 #[.string s] w (GetPost (getJ s.data.toList) w) := by
  have hsl : s.data.toList.length = s.size := rfl
  obtain ⟨R, hR⟩ : ∃ R, R = getJ s.data.toList := ⟨_, rfl⟩
  rw [← hR]
  have HR := Lib.hid hR
  have hV : Blk w.heap.size 28 zeroV (w.alloc (.cells #[.int .i64 0, .int .i64 0, .int .u64 0, .string ⟨#[]⟩, .slice none 0 0, .slice none 0 0] 28)) := Blk.new w zeroV _
  have hb0 : Below w.heap.size w (w.alloc (.cells #[.int .i64 0, .int .i64 0, .int .u64 0, .string ⟨#[]⟩, .slice none 0 0, .slice none 0 0] 28)) := (Below.refl _ w).alloc (Nat.le_refl _) _
  have hz0 : (w.alloc (.cells #[.int .i64 0, .int .i64 0, .int .u64 0, .string ⟨#[]⟩, .slice none 0 0, .slice none 0 0] 28)).heap.size = w.heap.size + 1 := by simp
  have HB0 := Lib.hid hb0
  have hE0 := hE.below hb0
  clear hR hb0
  go_enter Tryd.func7, Tryd.ntmps7
  go_upto_region 1 with (fail)
  generalize w.alloc (.cells #[.int .i64 0, .int .i64 0, .int .u64 0, .string ⟨#[]⟩, .slice none 0 0, .slice none 0 0] 28) = w0 at *
  have hb0 := HB0.out
  clear HB0
  by_cases h65 : 65536 < s.size
  · have hb : decide ((65536 : Int) < (s.size : Int)) = true := decide_eq_true (by omega)
    have HT := Lib.hid (HR.out.trans (getJ_long (by rw [hsl]; exact h65)))
    clear HR hsl h65
    have HBQ := Lib.hid hb0
    clear hb0
    have k0 := hV.cell 0 _ rfl
    have z0 := hV.free 0
    have k1 := hV.cell 1 _ rfl
    have z1 := hV.free 1
    have k2 := hV.cell 2 _ rfl
    have z2 := hV.free 2
    have k3 := hV.cell 3 _ rfl
    have z3 := hV.free 3
    have k4 := hV.cell 4 _ rfl
    have z4 := hV.free 4
    have k5 := hV.cell 5 _ rfl
    have z5 := hV.free 5
    have hW6 : Blk w.heap.size 28 [.int .i64 0, .int .i64 0, .int .u64 0, .string ⟨#[]⟩, .slice none 0 0, .slice none 0 0] ((((((w0.setCell ⟨w.heap.size, 0, none⟩ (.int .i64 0)).setCell ⟨w.heap.size, 1, none⟩ (.int .i64 0)).setCell ⟨w.heap.size, 2, none⟩ (.int .u64 0)).setCell ⟨w.heap.size, 3, none⟩ (.string ⟨#[]⟩)).setCell ⟨w.heap.size, 4, none⟩ (.slice none 0 0)).setCell ⟨w.heap.size, 5, none⟩ (.slice none 0 0)) := (((((hV.set 0 _).set 1 _).set 2 _).set 3 _).set 4 _).set 5 _
    have hb6 := Lib.hid (jbelow_put6 (B := w.heap.size) (b := w.heap.size) (HBQ.out) (Nat.le_refl _) (.int .i64 0) (.int .i64 0) (.int .u64 0) (.string ⟨#[]⟩) (.slice none 0 0) (.slice none 0 0))
    go_wp2
    clear k0 k1 k2 k3 k4 k5 z0 z1 z2 z3 z4 z5
    generalize (((((w0.setCell ⟨w.heap.size, 0, none⟩ (.int .i64 0)).setCell ⟨w.heap.size, 1, none⟩ (.int .i64 0)).setCell ⟨w.heap.size, 2, none⟩ (.int .u64 0)).setCell ⟨w.heap.size, 3, none⟩ (.string ⟨#[]⟩)).setCell ⟨w.heap.size, 4, none⟩ (.slice none 0 0)).setCell ⟨w.heap.size, 5, none⟩ (.slice none 0 0) = w40 at *
    have d0 := hW6.cell 0 _ rfl
    have d1 := hW6.cell 1 _ rfl
    have d2 := hW6.cell 2 _ rfl
    have d3 := hW6.cell 3 _ rfl
    have d4 := hW6.cell 4 _ rfl
    have d5 := hW6.cell 5 _ rfl
    refine bodyPost_ret (v := .tuple #[.agg #[.int .i64 0, .int .i64 0, .int .u64 0, .string ⟨#[]⟩, .slice none 0 0, .slice none 0 0], .int .i64 1000]) (by simp [results, Tryd.results7, go_sem, d0, d1, d2, d3, d4, d5]) rfl ?_
    exact GetPost.no HT.out hb6.out
  · have hb : decide ((65536 : Int) < (s.size : Int)) = false := decide_eq_false (by omega)
    have HL := Lib.hid (show ¬ 65536 < s.data.toList.length by rw [hsl]; exact h65)
    have hs : s.size ≤ 65536 := by omega
    have HBQ := Lib.hid hb0
    clear hsl h65 hb0
    go_wp2_with fail
    refine (jread_calls s w0 hE0 hs).mono ?_
    rintro e w1 ⟨hok, hno, hb1⟩
    have hV1 := hV.below hb1
    have HB1 := Lib.hid (HBQ.out.trans (hb1.mono (by omega)))
    have hzz := hb1.size
    cases hr : readJ s.data.toList with
    | none =>
      obtain ⟨v, ia, nl, ic, ka, kl, kc, rfl⟩ := hno hr
      have HT := Lib.hid (HR.out.trans (getJ_no hr))
      have hbv : Below w1.heap.size w1 (w1.alloc (.cells #[.int .i64 v.kind, .int .i64 v.num, .int .u64 v.bits, .string ⟨v.text.toArray⟩, .slice ia nl ic, .slice ka kl kc] 28)) := (Below.refl _ w1).alloc (Nat.le_refl _) _
      have hV2 := hV1.below hbv
      have HB2 := Lib.hid (HB1.out.trans (hbv.mono (by omega)))
      unfold aggV
      clear hr hok hno HR hbv hb1 hV hV1
      go_upto_region 4 with (fail)
      generalize w1.alloc (.cells #[.int .i64 v.kind, .int .i64 v.num, .int .u64 v.bits, .string ⟨v.text.toArray⟩, .slice ia nl ic, .slice ka kl kc] 28) = w2 at *
      have k0 := hV2.cell 0 _ rfl
      have z0 := hV2.free 0
      have k1 := hV2.cell 1 _ rfl
      have z1 := hV2.free 1
      have k2 := hV2.cell 2 _ rfl
      have z2 := hV2.free 2
      have k3 := hV2.cell 3 _ rfl
      have z3 := hV2.free 3
      have k4 := hV2.cell 4 _ rfl
      have z4 := hV2.free 4
      have k5 := hV2.cell 5 _ rfl
      have z5 := hV2.free 5
      have hW6 : Blk w.heap.size 28 [.int .i64 0, .int .i64 0, .int .u64 0, .string ⟨#[]⟩, .slice none 0 0, .slice none 0 0] ((((((w2.setCell ⟨w.heap.size, 0, none⟩ (.int .i64 0)).setCell ⟨w.heap.size, 1, none⟩ (.int .i64 0)).setCell ⟨w.heap.size, 2, none⟩ (.int .u64 0)).setCell ⟨w.heap.size, 3, none⟩ (.string ⟨#[]⟩)).setCell ⟨w.heap.size, 4, none⟩ (.slice none 0 0)).setCell ⟨w.heap.size, 5, none⟩ (.slice none 0 0)) := (((((hV2.set 0 _).set 1 _).set 2 _).set 3 _).set 4 _).set 5 _
      have hb6 := Lib.hid (jbelow_put6 (B := w.heap.size) (b := w.heap.size) (HB2.out) (Nat.le_refl _) (.int .i64 0) (.int .i64 0) (.int .u64 0) (.string ⟨#[]⟩) (.slice none 0 0) (.slice none 0 0))
      go_wp2
      clear k0 k1 k2 k3 k4 k5 z0 z1 z2 z3 z4 z5
      generalize (((((w2.setCell ⟨w.heap.size, 0, none⟩ (.int .i64 0)).setCell ⟨w.heap.size, 1, none⟩ (.int .i64 0)).setCell ⟨w.heap.size, 2, none⟩ (.int .u64 0)).setCell ⟨w.heap.size, 3, none⟩ (.string ⟨#[]⟩)).setCell ⟨w.heap.size, 4, none⟩ (.slice none 0 0)).setCell ⟨w.heap.size, 5, none⟩ (.slice none 0 0) = w40 at *
      have d0 := hW6.cell 0 _ rfl
      have d1 := hW6.cell 1 _ rfl
      have d2 := hW6.cell 2 _ rfl
      have d3 := hW6.cell 3 _ rfl
      have d4 := hW6.cell 4 _ rfl
      have d5 := hW6.cell 5 _ rfl
      refine bodyPost_ret (v := .tuple #[.agg #[.int .i64 0, .int .i64 0, .int .u64 0, .string ⟨#[]⟩, .slice none 0 0, .slice none 0 0], .int .i64 1000]) (by simp [results, Tryd.results7, go_sem, d0, d1, d2, d3, d4, d5]) rfl ?_
      exact GetPost.no HT.out hb6.out
    | some v =>
      obtain ⟨iv, kv, rfl, hVR, hKR⟩ := hok v hr
      obtain ⟨ia, ic, hiv⟩ := hVR.slice
      obtain ⟨ka, kc, hkv⟩ := hKR.slice
      subst hiv hkv
      have hT := HR.out.trans (getJ_may HL.out hr)
      have hbv : Below w1.heap.size w1 (w1.alloc (.cells #[.int .i64 v.kind, .int .i64 v.num, .int .u64 v.bits, .string ⟨v.text.toArray⟩, .slice ia v.items.length ic, .slice ka v.keys.length kc] 28)) := (Below.refl _ w1).alloc (Nat.le_refl _) _
      have hX2 : Blk w1.heap.size 28 [.int .i64 v.kind, .int .i64 v.num, .int .u64 v.bits, .string ⟨v.text.toArray⟩, .slice ia v.items.length ic, .slice ka v.keys.length kc] (w1.alloc (.cells #[.int .i64 v.kind, .int .i64 v.num, .int .u64 v.bits, .string ⟨v.text.toArray⟩, .slice ia v.items.length ic, .slice ka v.keys.length kc] 28)) := Blk.new w1 _ _
      have hV2 := hV1.below hbv
      have HB2 := Lib.hid (HB1.out.trans (hbv.mono (by omega)))
      have HVR := Lib.hid ((hVR.blw hbv).mono (P' := fun b => w.heap.size + 1 ≤ b) fun b _ h => by omega)
      have HKR := Lib.hid ((hKR.blw hbv).mono (P' := fun b => w.heap.size + 1 ≤ b) fun b _ h => by omega)
      unfold aggV
      clear hr hok hno HR hbv hb1 hV hV1 hVR hKR
      go_upto_region 4 with (fail)
      generalize w1.alloc (.cells #[.int .i64 v.kind, .int .i64 v.num, .int .u64 v.bits, .string ⟨v.text.toArray⟩, .slice ia v.items.length ic, .slice ka v.keys.length kc] 28) = w2 at *
      have y0 := hX2.cell 0 _ rfl
      have y1 := hX2.cell 1 _ rfl
      have y2 := hX2.cell 2 _ rfl
      have y3 := hX2.cell 3 _ rfl
      have y4 := hX2.cell 4 _ rfl
      have y5 := hX2.cell 5 _ rfl
      have hMC := jMay_calls v (.slice ia v.items.length ic) (.slice ka v.keys.length kc) w2 (HKR.out.mono fun b h _ => h) (HVR.out.mono fun b h _ => h)
      cases hm : mayV v with
      | false =>
        rw [hm] at hT hMC
        rw [if_neg (by simp)] at hT
        have HT := Lib.hid hT
        clear hT hm
        go_upto_region 5 with (go_at_call 19; refine hMC.mono ?_; rintro e w3 ⟨rfl, hb3⟩; have hV3 := hV2.below hb3; have HB3 := Lib.hid (HB2.out.trans (hb3.mono HB2.out.size)); clear hb3)
        clear y0 y1 y2 y3 y4 y5 hV2 hMC
        have k0 := hV3.cell 0 _ rfl
        have z0 := hV3.free 0
        have k1 := hV3.cell 1 _ rfl
        have z1 := hV3.free 1
        have k2 := hV3.cell 2 _ rfl
        have z2 := hV3.free 2
        have k3 := hV3.cell 3 _ rfl
        have z3 := hV3.free 3
        have k4 := hV3.cell 4 _ rfl
        have z4 := hV3.free 4
        have k5 := hV3.cell 5 _ rfl
        have z5 := hV3.free 5
        have hW6 : Blk w.heap.size 28 [.int .i64 0, .int .i64 0, .int .u64 0, .string ⟨#[]⟩, .slice none 0 0, .slice none 0 0] ((((((w3.setCell ⟨w.heap.size, 0, none⟩ (.int .i64 0)).setCell ⟨w.heap.size, 1, none⟩ (.int .i64 0)).setCell ⟨w.heap.size, 2, none⟩ (.int .u64 0)).setCell ⟨w.heap.size, 3, none⟩ (.string ⟨#[]⟩)).setCell ⟨w.heap.size, 4, none⟩ (.slice none 0 0)).setCell ⟨w.heap.size, 5, none⟩ (.slice none 0 0)) := (((((hV3.set 0 _).set 1 _).set 2 _).set 3 _).set 4 _).set 5 _
        have hb6 := Lib.hid (jbelow_put6 (B := w.heap.size) (b := w.heap.size) (HB3.out) (Nat.le_refl _) (.int .i64 0) (.int .i64 0) (.int .u64 0) (.string ⟨#[]⟩) (.slice none 0 0) (.slice none 0 0))
        go_wp2
        clear k0 k1 k2 k3 k4 k5 z0 z1 z2 z3 z4 z5
        generalize (((((w3.setCell ⟨w.heap.size, 0, none⟩ (.int .i64 0)).setCell ⟨w.heap.size, 1, none⟩ (.int .i64 0)).setCell ⟨w.heap.size, 2, none⟩ (.int .u64 0)).setCell ⟨w.heap.size, 3, none⟩ (.string ⟨#[]⟩)).setCell ⟨w.heap.size, 4, none⟩ (.slice none 0 0)).setCell ⟨w.heap.size, 5, none⟩ (.slice none 0 0) = w40 at *
        have d0 := hW6.cell 0 _ rfl
        have d1 := hW6.cell 1 _ rfl
        have d2 := hW6.cell 2 _ rfl
        have d3 := hW6.cell 3 _ rfl
        have d4 := hW6.cell 4 _ rfl
        have d5 := hW6.cell 5 _ rfl
        refine bodyPost_ret (v := .tuple #[.agg #[.int .i64 0, .int .i64 0, .int .u64 0, .string ⟨#[]⟩, .slice none 0 0, .slice none 0 0], .int .i64 1000]) (by simp [results, Tryd.results7, go_sem, d0, d1, d2, d3, d4, d5]) rfl ?_
        exact GetPost.no HT.out hb6.out
      | true =>
        rw [hm] at hT hMC
        rw [if_pos rfl] at hT
        have HT := Lib.hid hT
        clear hT hm
        go_upto_region 6 with (go_at_call 19; refine hMC.mono ?_; rintro e w3 ⟨rfl, hb3⟩; have hV3 := hV2.below hb3; have HB3 := Lib.hid (HB2.out.trans (hb3.mono HB2.out.size)); have hX3 := hX2.below hb3; have HVR3 := Lib.hid (HVR.out.blw hb3); have HKR3 := Lib.hid (HKR.out.blw hb3); clear hb3)
        clear y0 y1 y2 y3 y4 y5 hV2 hMC hX2 HVR HKR
        generalize v.items.length = nl at *
        generalize v.keys.length = kl at *
        have x0 := hX3.cell 0 _ rfl
        have x1 := hX3.cell 1 _ rfl
        have x2 := hX3.cell 2 _ rfl
        have x3 := hX3.cell 3 _ rfl
        have x4 := hX3.cell 4 _ rfl
        have x5 := hX3.cell 5 _ rfl
        have k0 := hV3.cell 0 _ rfl
        have z0 := hV3.free 0
        have k1 := hV3.cell 1 _ rfl
        have z1 := hV3.free 1
        have k2 := hV3.cell 2 _ rfl
        have z2 := hV3.free 2
        have k3 := hV3.cell 3 _ rfl
        have z3 := hV3.free 3
        have k4 := hV3.cell 4 _ rfl
        have z4 := hV3.free 4
        have k5 := hV3.cell 5 _ rfl
        have z5 := hV3.free 5
        have hW6 : Blk w.heap.size 28 [.int .i64 v.kind, .int .i64 v.num, .int .u64 v.bits, .string ⟨v.text.toArray⟩, .slice ia nl ic, .slice ka kl kc] ((((((w3.setCell ⟨w.heap.size, 0, none⟩ (.int .i64 v.kind)).setCell ⟨w.heap.size, 1, none⟩ (.int .i64 v.num)).setCell ⟨w.heap.size, 2, none⟩ (.int .u64 v.bits)).setCell ⟨w.heap.size, 3, none⟩ (.string ⟨v.text.toArray⟩)).setCell ⟨w.heap.size, 4, none⟩ (.slice ia nl ic)).setCell ⟨w.heap.size, 5, none⟩ (.slice ka kl kc)) := (((((hV3.set 0 _).set 1 _).set 2 _).set 3 _).set 4 _).set 5 _
        have hb6 := Lib.hid (jbelow_put6 (B := w.heap.size) (b := w.heap.size) (HB3.out) (Nat.le_refl _) (.int .i64 v.kind) (.int .i64 v.num) (.int .u64 v.bits) (.string ⟨v.text.toArray⟩) (.slice ia nl ic) (.slice ka kl kc))
        have hk6 : ∀ b, w.heap.size + 1 ≤ b → b < w3.heap.size → ((((((w3.setCell ⟨w.heap.size, 0, none⟩ (.int .i64 v.kind)).setCell ⟨w.heap.size, 1, none⟩ (.int .i64 v.num)).setCell ⟨w.heap.size, 2, none⟩ (.int .u64 v.bits)).setCell ⟨w.heap.size, 3, none⟩ (.string ⟨v.text.toArray⟩)).setCell ⟨w.heap.size, 4, none⟩ (.slice ia nl ic)).setCell ⟨w.heap.size, 5, none⟩ (.slice ka kl kc)).heap[b]? = w3.heap[b]? := fun b hb1 hb2 => put6_block w3 w.heap.size _ _ _ _ _ _ b (by omega)
        have HV6 := Lib.hid ((HVR3.out.keep hk6).mono (P' := fun b => w.heap.size ≤ b) fun b _ hb => by omega)
        have HK6 := Lib.hid ((HKR3.out.keep hk6).mono (P' := fun b => w.heap.size ≤ b) fun b _ hb => by omega)
        clear hk6
        go_wp2
        clear k0 k1 k2 k3 k4 k5 z0 z1 z2 z3 z4 z5
        generalize (((((w3.setCell ⟨w.heap.size, 0, none⟩ (.int .i64 v.kind)).setCell ⟨w.heap.size, 1, none⟩ (.int .i64 v.num)).setCell ⟨w.heap.size, 2, none⟩ (.int .u64 v.bits)).setCell ⟨w.heap.size, 3, none⟩ (.string ⟨v.text.toArray⟩)).setCell ⟨w.heap.size, 4, none⟩ (.slice ia nl ic)).setCell ⟨w.heap.size, 5, none⟩ (.slice ka kl kc) = w40 at *
        have d0 := hW6.cell 0 _ rfl
        have d1 := hW6.cell 1 _ rfl
        have d2 := hW6.cell 2 _ rfl
        have d3 := hW6.cell 3 _ rfl
        have d4 := hW6.cell 4 _ rfl
        have d5 := hW6.cell 5 _ rfl
        refine bodyPost_ret (v := .tuple #[.agg #[.int .i64 v.kind, .int .i64 v.num, .int .u64 v.bits, .string ⟨v.text.toArray⟩, .slice ia nl ic, .slice ka kl kc], .int .i64 0]) (by simp [results, Tryd.results7, go_sem, d0, d1, d2, d3, d4, d5]) rfl ?_
        exact GetPost.ok (v := v) HT.out HV6.out HK6.out hb6.out
end Go.Proofs.YthmcacgkhpigaaaDoor.S
