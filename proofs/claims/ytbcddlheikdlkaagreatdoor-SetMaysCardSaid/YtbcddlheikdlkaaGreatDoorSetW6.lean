/-
  THE WALK of package set's walk over one item.
-/
import Derived.Test.YtbcddlheikdlkaaGreatDoorSetW5
import Derived.Test.YtbcddlheikdlkaaGreatDoorPlainN2
set_option linter.unusedVariables false
set_option linter.unusedSimpArgs false
namespace Go.Proofs.YtbcddlheikdlkaaGreatDoor.S
open Go.RowKit

/-- the walker's block -/
abbrev WkB (g : Nat) (nsv : Value) (n m : Int) (w : World) : Prop := Blk g 97 [nsv, .int .i64 n, .int .i64 m] w
/-- an item whose pipes are as they were read -/
inductive ItOk : It → Prop
  | mk (k : Nat) (t : List UInt8) (p : List Cm) (th el : List It) (hp : ∀ c ∈ p, ∀ a ∈ c.args, ArOk a) (hs : th.length + el.length ≤ 9223372036854775807) (ht : t.length ≤ 9223372036854775807) (hth : ∀ i ∈ th, ItOk i) (hel : ∀ i ∈ el, ItOk i) : ItOk (.mk k t p th el)
def MayPost (R : Option (Nat × Nat)) (g : Nat) (nsv : Value) (w0 : World) (e : Ending) (w' : World) : Prop :=
  (∀ n m, R = some (n, m) → e = .returned (.bool true) ∧ WkB g nsv n m w') ∧ (R = none → e = .returned (.bool false)) ∧ Below w0.heap.size w0 w'
theorem MayPost.yes {R : Option (Nat × Nat)} {g : Nat} {nsv : Value} {w0 w' : World} {n m : Nat} (h : R = some (n, m)) (hB : WkB g nsv n m w') (hb : Below w0.heap.size w0 w') : MayPost R g nsv w0 (.returned (.bool true)) w' :=
  ⟨(fun n' m' h' => by rw [h] at h'; cases h'; exact ⟨rfl, hB⟩), (fun h' => by rw [h] at h'; cases h'), hb⟩
theorem MayPost.no {R : Option (Nat × Nat)} {g : Nat} {nsv : Value} {w0 w' : World} (h : R = none) (hb : Below w0.heap.size w0 w') : MayPost R g nsv w0 (.returned (.bool false)) w' :=
  ⟨(fun n' m' h' => by rw [h] at h'; cases h'), fun _ => rfl, hb⟩
/-- what a row's walk is to do -/
def RowMay (ns : List Nm) (is : List It) : Prop := ∀ (g : Nat) (nsv v : Value) (deep : Nat) (loop : Bool) (n m : Nat) (w0 w : World), NmV nsv ns w0 → Its 0 (fun _ => True) w0 v is → Below w0.heap.size w0 w → w0.heap.size ≤ g → WkB g nsv n m w → deep ≤ 16 → n ≤ 1024 → m ≤ 65536 →
  Calls Tryz.prog 45 #[.pointer (some ⟨g, 0, none⟩), v, .int .i64 deep, .bool loop] w (MayPost (mayR (ns.map Prod.fst) is deep loop n m) g nsv w0)
set_option maxRecDepth 100000 in
set_option maxHeartbeats 16000000 in
theorem item_plain (ns : List Nm) (k : Nat) (t : List UInt8) (p : List Cm) (th el : List It) (hp : ∀ c ∈ p, ∀ a ∈ c.args, ArOk a) (hs : th.length + el.length ≤ 9223372036854775807) (htl : t.length ≤ 9223372036854775807)
    (hth : RowMay ns th) (hel : RowMay ns el) (g b off : Nat) (nsv pv tv ev : Value) (deep : Nat) (loop : Bool) (n m : Nat) (w0 w : World) (hV : NmV nsv ns w0) (hP : Cms 0 pv p w0) (hT : Its 0 (fun _ => True) w0 tv th) (hE : Its 0 (fun _ => True) w0 ev el)
    (c0 : w0.cell? ⟨b, off, none⟩ = some (.int .i64 k)) (c1 : w0.cell? ⟨b, off + 1, none⟩ = some (.string ⟨t.toArray⟩)) (c2 : w0.cell? ⟨b, off + 2, none⟩ = some pv) (c3 : w0.cell? ⟨b, off + 3, none⟩ = some tv) (c4 : w0.cell? ⟨b, off + 4, none⟩ = some ev)
    (hb : Below w0.heap.size w0 w) (hg : w0.heap.size ≤ g) (hB : WkB g nsv n m w) (hd : deep ≤ 16) (hn : n ≤ 1024) (hm : m ≤ 65536) (hk345 : ¬ (k = 3 ∨ k = 4 ∨ k = 5)) :
    Calls Tryz.prog 74 #[.pointer (some ⟨g, 0, none⟩), .pointer (some ⟨b, off, none⟩), .int .i64 deep, .bool loop] w (MayPost (may1 (ns.map Prod.fst) (.mk k t p th el) deep loop n m) g nsv w0) := by
  obtain ⟨na, nc, rfl⟩ := hV.slice
  obtain ⟨pa, pc, rfl⟩ := hP.slice
  obtain ⟨ta, tc, rfl⟩ := hT.slice
  obtain ⟨ea, ec, rfl⟩ := hE.slice
  obtain ⟨R, hR⟩ : ∃ R, R = may1 (ns.map Prod.fst) (.mk k t p th el) deep loop n m := ⟨_, rfl⟩
  rw [← hR]
  rw [may1] at hR
  have hB1 := hB.set 1 (.int .i64 ((n : Int) - 1))
  have hb1 := hb.setCell (p := ⟨g, 1, none⟩) hg (.int .i64 ((n : Int) - 1))
  have x1 := hB.cell 1 _ rfl
  have f1 := hB.free 1
  have hks : StrIs (⟨t.toArray⟩ : ByteArray) t := rfl
  have hsn : 0 ≤ (n : Int) := by omega
  have hw1 : IntKind.i64.wrap ((n : Int) - 1) = (n : Int) - 1 := by rw [IntWalk.i64_in _ (by omega)]
  go_enter Tryz.func74, Tryz.ntmps74
  go_upto_region 2 with (fail)
  generalize w.setCell ⟨g, 1, none⟩ (.int .i64 ((n : Int) - 1)) = w1 at *
  clear x1 f1 hw1 hB hb
  cases n with
  | zero =>
    have x1 := hB1.cell 1 _ rfl
    have HR := Lib.hid (show R = none from hR)
    have HB := Lib.hid hb1
    clear hR hb1 hB1
    go_wp2
    go_ret
    exact MayPost.no HR.out HB.out
  | succ n =>
  rw [if_neg (Nat.succ_ne_zero n), Nat.add_sub_cancel] at hR
  have hn1 : ((n + 1 : Nat) : Int) - 1 = (n : Int) := by omega
  rw [hn1] at hB1
  have x1 := hB1.cell 1 _ rfl
  have hnb : decide ((n : Int) < 0) = false := decide_eq_false (by omega)
  have d0 := cell_keep hb1 c0
  have d1 := cell_keep hb1 c1
  have d2 := cell_keep hb1 c2
  have d3 := cell_keep hb1 c3
  have d4 := cell_keep hb1 c4
  have hC := bare_calls b off k ⟨t.toArray⟩ t rfl p.length th.length el.length pa ta ea pc tc ec hs w1 d0 d1 d2 d3 d4
  have hbi : ((isBlock k || th.length + el.length == 0) && (isTexted k || t.isEmpty) && (isPiped k || p.length == 0)) = bareI (.mk k t p th el) := rfl
  rw [hbi] at hC
  cases hba : bareI (.mk k t p th el) with
  | false =>
    rw [hba] at hC
    rw [if_pos hba] at hR
    have HR := Lib.hid hR
    have HB := Lib.hid hb1
    clear hR hb1 hB1 hbi hba
    go_wp2_with (go_at_call 97; refine hC.mono ?_; rintro e w2 ⟨rfl, hb2⟩)
    go_ret
    exact MayPost.no HR.out (HB.out.trans (hb2.mono HB.out.size))
  | true =>
  rw [hba] at hC
  rw [if_neg (by rw [hba]; decide)] at hR
  clear hbi hba d0 d1 d2 d3 d4
  go_upto_region 4 with (go_at_call 97; refine hC.mono ?_; rintro e w2 ⟨rfl, hb2⟩)
  have hbw := hb1.trans (hb2.mono hb1.size)
  have hB2 := hB1.below hb2
  clear hC hb1 hb2 hB1 x1 hnb
  have d0 := cell_keep hbw c0
  have d1 := cell_keep hbw c1
  have d2 := cell_keep hbw c2
  have d3 := cell_keep hbw c3
  have d4 := cell_keep hbw c4
  have HBW := Lib.hid hbw
  have HB2 := Lib.hid hB2
  have hPM := fun W (h : Below w0.heap.size w0 W) => pipeMay_calls 0 (.slice pa p.length pc) p W (hP.below h) hp
  have hFD := fun W (h : Below w0.heap.size w0 W) => find_calls (.slice na ns.length nc) ns W (hV.below h) ⟨t.toArray⟩ t rfl
  have hNM := fun W => wName_calls ⟨t.toArray⟩ t rfl W
  have HTH := Lib.hid hth
  have HEL := Lib.hid hel
  have HV := Lib.hid hV
  have HT := Lib.hid hT
  have HE := Lib.hid hE
  have HR := Lib.hid hR
  have HC1 := Lib.hid c1
  have HC0 := Lib.hid c0
  have HC2' := Lib.hid c2
  have HC3' := Lib.hid c3
  have HC4' := Lib.hid c4
  have HTX := Lib.hid hks
  have hts : (⟨t.toArray⟩ : ByteArray).size = t.length := rfl
  clear hth hel hV hT hE hP c0 c1 c2 c3 c4 hR hbw hB2 hks
  generalize (⟨t.toArray⟩ : ByteArray) = tx at *
  rcases (show k = 0 ∨ k = 1 ∨ k = 2 ∨ k = 6 ∨ (k = 7 ∨ k = 8) ∨ 9 ≤ k by omega) with rfl | rfl | rfl | rfl | h78 | h9
  · have hR : R = if t ≠ [] ∧ t.length ≤ m then some (n, m - t.length) else none := HR.out
    have x2 := HB2.out.cell 2 _ rfl
    have f2 := HB2.out.free 2
    have HRR := Lib.hid hR
    clear hPM hNM hFD hR HR
    go_upto_region 6 with (fail)
    go_region
    obtain ⟨y, hy⟩ : ∃ y : Int, y = (m : Int) - min (t.length : Int) ((m : Int) + 1) := ⟨_, rfl⟩
    rw [← hy]
    have hb3 := Below.drew (HBW.out.setCell (p := ⟨g, 2, none⟩) hg (.int .i64 y))
    have hB3 := (HB2.out.set 2 (.int .i64 y)).below (Below.drew (Below.refl _ _))
    have HY := Lib.hid hy
    have HB3 := Lib.hid hB3
    have Hb3 := Lib.hid hb3
    have m1 := cell_keep hb3 HC1.out
    clear hy hB3 hb3 x2 f2 d0 d1 d2 d3 d4
    generalize (w2.setCell ⟨g, 2, none⟩ (.int .i64 y)).drew = w3 at *
    have k2 := HB3.out.cell 2 _ rfl
    by_cases h0 : t.length = 0
    · have hR : R = none := by
        rw [HRR.out, if_neg]
        rintro ⟨h1, -⟩
        exact h1 (List.eq_nil_of_length_eq_zero h0)
      obtain rfl : tx = ⟨#[]⟩ := by
        rw [h0] at hts
        have : tx.data.size = 0 := hts
        cases tx
        simp at this
        subst this
        rfl
      have HR2 := Lib.hid hR
      clear hR h0 hts
      go_wp2
      go_ret
      exact MayPost.no HR2.out Hb3.out
    · have hne := nonempty_test (show ¬ tx.size = 0 by omega)
      by_cases hlm : t.length ≤ m
      · have hR : R = some (n, m - t.length) := by
          rw [HRR.out, if_pos ⟨fun e => h0 (by rw [e]; rfl), hlm⟩]
        have hyv : y = ((m - t.length : Nat) : Int) := by have := HY.out; omega
        have hyb : decide (0 ≤ y) = true := decide_eq_true (by omega)
        have HR2 := Lib.hid hR
        have HYV := Lib.hid hyv
        clear hR hyv
        go_wp2
        go_ret
        have hB4 := HB3.out
        rw [HYV.out] at hB4
        exact MayPost.yes HR2.out hB4 Hb3.out
      · have hR : R = none := by
          rw [HRR.out, if_neg (fun h => hlm h.2)]
        have hyb : decide (0 ≤ y) = false := decide_eq_false (by have := HY.out; omega)
        have HR2 := Lib.hid hR
        clear hR
        go_wp2
        go_ret
        exact MayPost.no HR2.out Hb3.out
  · have hR : R = if mayP p = true then some (n, m) else none := HR.out
    have HPM := Lib.hid hPM
    cases hmp : mayP p with
    | true =>
      rw [hmp, if_pos rfl] at hR
      go_wp2_with (go_at_call 98; refine (HPM.out _ HBW.out).mono ?_; rw [hmp]; rintro e w3 ⟨rfl, hb3⟩)
      go_ret
      exact MayPost.yes hR (HB2.out.below hb3) (HBW.out.trans (hb3.mono HBW.out.size))
    | false =>
      rw [hmp, if_neg (by decide)] at hR
      go_wp2_with (go_at_call 98; refine (HPM.out _ HBW.out).mono ?_; rw [hmp]; rintro e w3 ⟨rfl, hb3⟩)
      go_ret
      exact MayPost.no hR (HBW.out.trans (hb3.mono HBW.out.size))
  · have hR : R = if (nameOk t && mayP p) = true then some (n, m) else none := HR.out
    have HPM := Lib.hid hPM
    have HNM := Lib.hid hNM
    clear hPM hNM hFD
    cases hnm : nameOk t with
    | false =>
      rw [hnm, Bool.false_and, if_neg (by decide)] at hR
      go_wp2_with (go_at_call 99; refine (HNM.out _).mono ?_; rw [hnm]; rintro e w3 ⟨rfl, hw⟩; subst hw)
      go_ret
      exact MayPost.no hR HBW.out
    | true =>
      rw [hnm, Bool.true_and] at hR
      cases hmp : mayP p with
      | true =>
        rw [hmp, if_pos rfl] at hR
        go_wp2_with (first | (go_at_call 99; refine (HNM.out _).mono ?_; rw [hnm]; rintro e w3 ⟨rfl, hw⟩; subst hw) | (go_at_call 98; refine (HPM.out _ HBW.out).mono ?_; rw [hmp]; rintro e w3 ⟨rfl, hb3⟩))
        go_ret
        exact MayPost.yes hR (HB2.out.below hb3) (HBW.out.trans (hb3.mono HBW.out.size))
      | false =>
        rw [hmp, if_neg (by decide)] at hR
        go_wp2_with (first | (go_at_call 99; refine (HNM.out _).mono ?_; rw [hnm]; rintro e w3 ⟨rfl, hw⟩; subst hw) | (go_at_call 98; refine (HPM.out _ HBW.out).mono ?_; rw [hmp]; rintro e w3 ⟨rfl, hb3⟩))
        go_ret
        exact MayPost.no hR (HBW.out.trans (hb3.mono HBW.out.size))
  · have hR : R = if (hasN (ns.map Prod.fst) t && (p.isEmpty || mayP p)) = true then some (n, m) else none := HR.out
    have k0 := HB2.out.cell 0 _ rfl
    have HK := Lib.hid (fun (W : World) (h : Below w2.heap.size w2 W) => (⟨h, cell_keep h k0, cell_keep h d1, cell_keep h d2⟩ : Below w2.heap.size w2 W ∧ W.cell? ⟨g, 0, none⟩ = some (.slice na ns.length nc) ∧ W.cell? ⟨b, off + 1, none⟩ = some (.string tx) ∧ W.cell? ⟨b, off + 2, none⟩ = some (.slice pa p.length pc)))
    have HQ := Lib.hid (fun (W : World) (h : Below w2.heap.size w2 W) => (hPM W (HBW.out.trans (h.mono HBW.out.size))).mono (fun e w' (hw : e = .returned (.bool (mayP p)) ∧ Below W.heap.size W w') => (⟨hw.1, h.trans (hw.2.mono h.size)⟩ : e = .returned (.bool (mayP p)) ∧ Below w2.heap.size w2 w')))
    have hF0 := fun (W : World) (h : Below w2.heap.size w2 W) => hFD W (HBW.out.trans (h.mono HBW.out.size))
    have HRR := Lib.hid hR
    have hbw : Below w2.heap.size w2 w2 := Below.refl _ _
    clear hPM hNM hFD HR hR
    go_upto_region 13 with (fail)
    go_cut [8] (fun v8 wx => ∃ c : Bool, v8 = .bool c ∧ (R = if c = true then some (n, m) else none) ∧ Below w2.heap.size w2 wx)
    case first =>
      cases hh : hasN (ns.map Prod.fst) t with
      | false =>
        have hQ : findQ na (ns.map Prod.fst) t = none := by
          have := HV.out.findQ_some t
          rw [hh] at this
          cases hq : findQ na (ns.map Prod.fst) t with
          | none => rfl
          | some a => rw [hq] at this; cases this
        have HFQ := Lib.hid (fun (m : Nat) => (find_at na ns.length nc ns (w2.drewN m) (HV.out.below (Below.drewN HBW.out m)) tx t HTX.out).mono (fun e w' hw => (⟨by rw [hw.1, hQ], hw.2⟩ : e = .returned (.pointer none) ∧ w' = w2.drewN m)))
        clear hF0 hQ
        go_quiet ((go_at_call 44; exact Calls.quiet_of_same (HFQ.out _)))
        go_wp2_with fail
        go_meet
        exact ⟨false, by first | rfl | simp, by rw [HRR.out, hh]; rfl, Below.drewN (Below.refl _ _) _⟩
      | true =>
        have HF := Lib.hid (fun (W : World) (h : Below w2.heap.size w2 W) => (hF0 W h).mono (fun e w' hw => (show ∃ a, e = .returned (.pointer (some a)) ∧ Below w2.heap.size w2 w' by
          obtain ⟨q, he, hq, hw⟩ := hw
          rw [hh] at hq
          obtain ⟨a, rfl⟩ : ∃ a, q = some a := by cases q; cases hq; exact ⟨_, rfl⟩
          exact ⟨a, he, hw ▸ h⟩)))
        clear hF0
        by_cases hp0 : p.length = 0
        · have hpz : ((p.length : Int) == 0) = true := beq_iff_eq.2 (by omega)
          have HP0 := Lib.hid hp0
          clear hp0
          have hQ : ∃ a, findQ na (ns.map Prod.fst) t = some a := by
            have := HV.out.findQ_some t
            rw [hh] at this
            cases hq : findQ na (ns.map Prod.fst) t with
            | none => rw [hq] at this; cases this
            | some a => exact ⟨a, rfl⟩
          obtain ⟨qa, hQ⟩ := hQ
          have HFQ := Lib.hid (fun (m : Nat) => (find_at na ns.length nc ns (w2.drewN m) (HV.out.below (Below.drewN HBW.out m)) tx t HTX.out).mono (fun e w' hw => (⟨by rw [hw.1, hQ], hw.2⟩ : e = .returned (.pointer (some qa)) ∧ w' = w2.drewN m)))
          clear hQ
          go_quiet ((go_at_call 44; exact Calls.quiet_of_same (HFQ.out _)))
          go_wp2_with fail
          go_meet
          exact ⟨true, by first | rfl | simp, by rw [HRR.out, hh, List.eq_nil_of_length_eq_zero HP0.out]; rfl, Below.drewN (Below.refl _ _) _⟩
        · have hpz : ((p.length : Int) == 0) = false := beq_eq_false_iff_ne.2 (by omega)
          have hpe : p.isEmpty = false := by cases p; simp at hp0; rfl
          cases hmp : mayP p
          all_goals
            rw [hmp] at HQ
            go_region_held3 (fun w' => Below w2.heap.size w2 w' ∧ w'.cell? ⟨g, 0, none⟩ = some (.slice na ns.length nc) ∧ w'.cell? ⟨b, off + 1, none⟩ = some (.string tx) ∧ w'.cell? ⟨b, off + 2, none⟩ = some (.slice pa p.length pc))
          (first | exact HK.out _ (by assumption) | exact HK.out _ (Below.drew (by assumption)))
          (first | (go_at_call 44; obtain ⟨hbq, -⟩ := ‹Below w2.heap.size w2 _ ∧ _›; refine (HF.out _ hbq).mono ?_; rintro e w' ⟨qa, rfl, hbn⟩) | (go_at_call 98; obtain ⟨hbq, -⟩ := ‹Below w2.heap.size w2 _ ∧ _›; refine (HQ.out _ hbq).mono ?_; rintro e w' ⟨rfl, hbn⟩))
            go_wp2_with fail
            go_meet
            exact ⟨_, by first | rfl | simp, by rw [HRR.out, hh, hpe, hmp]; rfl, by first | assumption | exact Below.drew (by assumption)⟩
    case rest =>
    obtain ⟨c, rfl, hRc, hbx⟩ := hcut
    have HRc := Lib.hid hRc
    have HBx := Lib.hid (HB2.out.below hbx)
    have Hbx := Lib.hid (HBW.out.trans (hbx.mono HBW.out.size))
    clear hRc hbx hF0
    go_wp2
    go_ret
    cases c with
    | true => exact MayPost.yes HRc.out HBx.out Hbx.out
    | false => exact MayPost.no HRc.out Hbx.out
  · have hR : R = if loop = true then some (n, m) else none := by
      rw [HR.out]
      rcases h78 with rfl | rfl <;> rfl
    clear hPM hNM hFD
    cases loop with
    | true =>
      rw [if_pos rfl] at hR
      have HR2 := Lib.hid hR
      clear hR
      rcases h78 with rfl | rfl
      all_goals
        go_wp2
        go_ret
        exact MayPost.yes HR2.out HB2.out HBW.out
    | false =>
      rw [if_neg (by decide)] at hR
      have HR2 := Lib.hid hR
      clear hR
      rcases h78 with rfl | rfl
      all_goals
        go_wp2
        go_ret
        exact MayPost.no HR2.out HBW.out
  · have hR : R = none := by
      rw [HR.out, if_neg (by omega), if_neg (by omega), if_neg (by omega), if_neg (by omega), if_neg (by omega), if_neg (by rw [(big_k (by omega)).1]; decide)]
    have q0 : ((k : Int) == 0) = false := beq_eq_false_iff_ne.2 (by omega)
    have q1 : ((k : Int) == 1) = false := beq_eq_false_iff_ne.2 (by omega)
    have q2 : ((k : Int) == 2) = false := beq_eq_false_iff_ne.2 (by omega)
    have q3 : ((k : Int) == 3) = false := beq_eq_false_iff_ne.2 (by omega)
    have q4 : ((k : Int) == 4) = false := beq_eq_false_iff_ne.2 (by omega)
    have q5 : ((k : Int) == 5) = false := beq_eq_false_iff_ne.2 (by omega)
    have q6 : ((k : Int) == 6) = false := beq_eq_false_iff_ne.2 (by omega)
    have q7 : ((k : Int) == 7) = false := beq_eq_false_iff_ne.2 (by omega)
    have q8 : ((k : Int) == 8) = false := beq_eq_false_iff_ne.2 (by omega)
    clear hPM hNM hFD
    go_wp2
    go_ret
    exact MayPost.no hR HBW.out
end Go.Proofs.YtbcddlheikdlkaaGreatDoor.S
