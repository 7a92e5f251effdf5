/-
  THE WALK of the reference's Split.
-/
import Derived.Test.YtblkbhomlblfnaaDoorRefLex4
set_option linter.unusedVariables false
set_option linter.unusedSimpArgs false
namespace Go.Proofs.YtblkbhomlblfnaaDoor.S
open Go.RowKit

theorem parts_nil {T : Option (List Pc)} {ps : List Pc} {n i : Nat} {tr : Bool} (h : T = some ps) : Parts T ps n [] i tr := by
  unfold Parts
  rw [splitF_nil, h]
  simp
theorem parts_end {T : Option (List Pc)} {ps : List Pc} {n : Nat} {l : List UInt8} {i : Nat} {tr : Bool} (h : Parts T ps n l i tr) (hh : hasI [123, 123] l = false) (hn : 1 ≤ n) : T = some (ps ++ txtP (textT l tr) i) := by
  unfold Parts at h
  cases l with
  | nil =>
    rw [splitF_nil] at h
    have : textT [] tr = [] := by cases tr <;> rfl
    rw [h, this]
    simp [txtP]
  | cons b r =>
    obtain ⟨m, rfl⟩ : ∃ m, n = m + 1 := ⟨n - 1, by omega⟩
    rw [splitF_none i tr (by simp) hh] at h
    exact h

/-- an action as it stands: how long, its text, whether it trims, whether it is a comment -/
def actR (l : List UInt8) : Option (Nat × List UInt8 × Bool × Bool) :=
  if List.isPrefixOf [47, 42] (l.drop (openN l)) = true then (comL (l.drop (openN l + 2))).map fun x => (openN l + 2 + x.1, [], x.2, true)
  else (endL false (l.drop (openN l))).map fun m => (openN l + m + 2, actText ((l.drop (openN l)).take m), actTrims ((l.drop (openN l)).take m), false)
def actP (l : List UInt8) (i : Nat) (a : List UInt8) (c : Bool) : List Pc := if c = true then [] else [⟨true, a, i + cutI [123, 123] l⟩]
theorem actR_pos {l : List UInt8} {k : Nat} {a : List UInt8} {t c : Bool} (h : actR l = some (k, a, t, c)) : openN l + 2 ≤ k := by
  unfold actR at h
  split at h
  · cases hc : comL (l.drop (openN l + 2)) with
    | none => rw [hc] at h; cases h
    | some x => rw [hc] at h; cases h; omega
  · cases hc : endL false (l.drop (openN l)) with
    | none => rw [hc] at h; cases h
    | some x => rw [hc] at h; cases h; omega
theorem act_none {T : Option (List Pc)} {ps : List Pc} {n i : Nat} {l : List UInt8} {tr : Bool} (h : Parts T ps (n + 1) l i tr) (hh : hasI [123, 123] l = true) (ha : actR l = none) : T = none := by
  unfold Parts at h
  rw [splitF_some i tr hh] at h
  unfold actR at ha
  split at ha
  · rename_i hp
    rw [if_pos hp] at h
    cases hc : comL (l.drop (openN l + 2)) with
    | none => rw [hc] at h; exact h
    | some x => rw [hc] at ha; cases ha
  · rename_i hp
    rw [if_neg hp] at h
    cases hc : endL false (l.drop (openN l)) with
    | none => rw [hc] at h; exact h
    | some x => rw [hc] at ha; cases ha
theorem act_some {T : Option (List Pc)} {ps : List Pc} {n i k : Nat} {l a : List UInt8} {tr t c : Bool} (h : Parts T ps (n + 1) l i tr) (hh : hasI [123, 123] l = true) (ha : actR l = some (k, a, t, c)) : Parts T (ps ++ (txtP (textT l tr) i ++ actP l i a c)) n (l.drop k) (i + k) t := by
  refine parts_step h ?_
  rw [splitF_some i tr hh]
  unfold actR at ha
  split at ha
  · rename_i hp
    rw [if_pos hp]
    cases hc : comL (l.drop (openN l + 2)) with
    | none => rw [hc] at ha; cases ha
    | some x =>
      rw [hc] at ha
      cases ha
      simp [actP]
  · rename_i hp
    rw [if_neg hp]
    cases hc : endL false (l.drop (openN l)) with
    | none => rw [hc] at ha; cases ha
    | some x =>
      rw [hc] at ha
      cases ha
      simp [actP]
theorem grownBy_row {g : Nat} {T : TypeId} {cs : List Value} {w : World} (h : Blk g T cs w) (cs' : Array Value) : w.grownBy (w.setRow g cs') (some g) :=
  ⟨rfl, rfl, rfl, by simp [World.setRow], fun k _ hk => setRow_other w g k _ (fun e => hk (by simp [e]))⟩
theorem Blk.row {g : Nat} {T : TypeId} {cs : List Value} {w : World} (h : Blk g T cs w) (cs' : List Value) : Blk g T cs' (w.setRow g cs'.toArray) := setRow_heap w g cs.toArray cs'.toArray T (0, 0) h
theorem store_row {g : Nat} {T : TypeId} {cs : List Value} {w : World} (h : Blk g T cs w) (cs' : List Value) (hl : cs'.length = cs.length) (h1 : ∀ v ∈ cs', v.oneCell' = true) :
    (storeCells ⟨g, 0, none⟩ cs').run Tryd.prog w = .ok () (w.setRow g cs'.toArray) := by
  have := run_storeCells_from (P := Tryd.prog) g T cs' 0 cs.toArray w h (by simpa using hl) h1
  simpa using this
theorem own_ne {g base : Nat} {T : TypeId} {cs : List Value} {w : World} {v : Value} {ps : List Pc} (h : Blk g T cs w) (hP : Pcs base v ps w) (hT : T ≠ 52) : some g ≠ v.ownBlock := by
  intro e
  rcases hP.2 with ⟨rfl, _⟩ | ⟨g', cap, cur, rfl, _, hh, _⟩
  · simp [Value.ownBlock] at e
  · have : g = g' := by simpa [Value.ownBlock] using e
    subst this
    unfold Blk at h
    rw [h] at hh
    injection hh with hh
    injection hh with _ h2
    exact hT h2
/-- the action in its variable, as it stands in the text -/
def Act5 (l : List UInt8) (i z en : Nat) (ax : ByteArray) (at_ ac ok : Bool) : Prop :=
  (actR l = none → ok = false) ∧ ∀ k a t c, actR l = some (k, a, t, c) → en = i + k ∧ StrIs ax a ∧ at_ = t ∧ ac = c ∧ ok = true ∧ i + k ≤ z

set_option maxRecDepth 200000 in
set_option maxHeartbeats 8000000 in
theorem rsplit_calls (s : ByteArray) (w : World) (hs : s.size ≤ 1073741824) :
    Calls Tryd.prog 27 #[.string s] w fun e w' => ∃ v ps n, e = .returned (.tuple #[v, .int .i64 (n : Nat)]) ∧ Pcs w.heap.size v ps w' ∧ Below w.heap.size w w' ∧ splitR s.data.toList = (ps, n) := by
  by_cases h : 65536 < s.size
  · have hr : splitR s.data.toList = ([], 1301) := if_pos h
    go_enter Tryd.func27, Tryd.ntmps27
    go_wp2
    go_ret2
    exact ⟨_, [], 1301, rfl, pcs_nil _ _, Below.refl _ _, hr⟩
  · have hr : splitR s.data.toList = match splitL s.data.toList with
      | none => ([], 1300)
      | some ps => limR ps := if_neg h
    have HR := Lib.hid hr
    clear hr
    go_enter Tryd.func27, Tryd.ntmps27
    go_wp2_with fail
    refine (rlines_calls s _ (by omega)).mono ?_
    rintro e w1 ⟨t, rfl, ht, hb1⟩
    have hts : t.size ≤ 65536 := by rw [ht.size]; exact Nat.le_trans (linesL_len _) (by rw [size_list]; omega)
    have hsp : splitL s.data.toList = splitF t.size t.data.toList 0 false := by
      unfold splitL
      rw [← show t.data.toList = linesL s.data.toList from ht]
      rfl
    obtain ⟨T, hT⟩ : ∃ T, T = splitF t.size t.data.toList 0 false := ⟨_, rfl⟩
    rw [← hT] at hsp
    have hT' : Parts T [] t.size t.data.toList 0 false := by unfold Parts; rw [hT]; simp
    have HSP := Lib.hid hsp
    clear hT hsp ht h
    go_wp2
    go_loopg [5, 6, 7, 8, 9, 10, 11, 12] t.size (fun gk v5 v6 v7 _ _ _ _ _ wr => ∃ (i : Nat) (tr : Bool) (ps : List Pc), v6 = .int .i64 i ∧ v7 = .bool tr ∧ t.size - i + tr.toNat ≤ gk ∧ i ≤ t.size ∧ Pcs w.heap.size v5 ps wr ∧ Below w.heap.size w wr ∧ Hid (Parts T ps gk (t.data.toList.drop i) i tr) ∧ ps.length + 2 * gk ≤ 2 * t.size)
    case atStart => exact ⟨0, false, [], rfl, rfl, by simp, by omega, pcs_nil _ _, hb1, hT', by simp⟩
    case round =>
      obtain ⟨i, tr, ps, rfl, rfl, hig, his, hO, hbr, hPt, hpl⟩ := hrel
      have HIG := Lib.hid hig
      have HPL := Lib.hid hpl
      clear hig hpl hT'
      obtain ⟨og, hog⟩ : ∃ g, g = gk := ⟨_, rfl⟩
      rw [← hog] at HIG HPL hPt
      have HOG := Lib.hid hog
      clear hog
      by_cases hgo : i < t.size ∨ tr = true
      · obtain ⟨l, hl0⟩ : ∃ l, l = t.data.toList.drop i := ⟨_, rfl⟩
        have hll := congrArg List.length hl0
        rw [List.length_drop, size_list] at hll
        rw [← hl0] at hPt
        have HL := Lib.hid hl0
        have HLL := Lib.hid hll
        clear hl0 hll
        have hgob : (decide ((i : Int) < (t.size : Int)) || tr) = true := by
          rcases hgo with h | h
          · rw [show decide ((i : Int) < (t.size : Int)) = true from decide_eq_true (by omega)]; rfl
          · rw [h, Bool.or_true]
        have HGO := Lib.hid hgo
        go_upto_region 6 with (fail)
        go_cut [24] (fun v24 wx => v24 = .bool true ∧ wr = wx)
        case first =>
          by_cases hi : i < t.size
          · have hib : decide ((i : Int) < (t.size : Int)) = true := decide_eq_true (by omega)
            clear hgo hgob
            go_wp2
            go_meet
            exact ⟨rfl, rfl⟩
          · have hib : decide ((i : Int) < (t.size : Int)) = false := decide_eq_false (by omega)
            have htr : tr = true := by rcases hgo with h | h; exact absurd h hi; exact h
            clear hgo hgob
            go_wp2
            go_meet
            exact ⟨by first | rfl | rw [htr], rfl⟩
        case rest =>
        obtain ⟨rfl, rfl⟩ := hcut
        clear hgo hgob
        go_wp2
        go_loopg [8] (t.size - i) (fun gi v8 wx => ∃ j : Nat, v8 = .int .i64 (i + j : Nat) ∧ gi = t.size - (i + j) ∧ i + j ≤ t.size ∧ Hid (hasI [123, 123] (l.drop j) = hasI [123, 123] l ∧ j + cutI [123, 123] (l.drop j) = cutI [123, 123] l) ∧ wr = wx)
        case atStart => exact ⟨0, rfl, rfl, his, ⟨rfl, by simp⟩, rfl⟩
        case round =>
          obtain ⟨j, rfl, hgi, hjs, hH, rfl⟩ := hrel
          have HGI := Lib.hid hgi
          clear hgi
          by_cases h1 : i + j < t.size
          · have h1b : decide ((i : Int) + j < (t.size : Int)) = true := decide_eq_true (by omega)
            have hdc := at_drop HL.out (i + j) j rfl h1
            have hc := cutI_cons [123, 123] (t[i + j]'h1) (l.drop (j + 1))
            have hh := hasI_cons [123, 123] (t[i + j]'h1) (l.drop (j + 1))
            rw [← hdc] at hc hh
            clear hdc
            by_cases h2 : i + j + 1 < t.size
            · have h2b : decide ((t.size : Int) ≤ (i : Int) + j + 1) = false := decide_eq_false (by omega)
              have heq := slice2 t (i + j) 123 123 (by omega)
              rw [show t.data.toList.drop (i + j) = l.drop j by rw [HL.out, List.drop_drop]] at heq
              have hsl := fun W => slice_at t ((i : Int) + j) ((i : Int) + j + 2) (i + j) (i + j + 2) (by omega) (by omega) (by omega) (by omega) W
              cases hp : List.isPrefixOf [123, 123] (l.drop j) with
              | false =>
                rw [hp] at heq hc hh
                simp only [Bool.false_eq_true, if_false, Bool.false_or] at hc hh
                have HC := Lib.hid hc
                have HH := Lib.hid hh
                clear hc hh hp
                go_wp2
                go_roundg (gk - 1)
                case measure => have := HGI.out; omega
                case rel =>
                  refine ⟨j + 1, by go_num, by have := HGI.out; omega, by omega, ⟨HH.out.symm.trans hH.out.1, ?_⟩, rfl⟩
                  have h1 := hH.out.2
                  have h2 := HC.out
                  omega
              | true =>
                rw [hp] at heq hc hh
                simp only [if_true, Bool.true_or] at hc hh
                have hx := hH.out
                rw [hc, hh] at hx
                have hhl : hasI [123, 123] l = true := hx.1.symm
                have hcl : cutI [123, 123] l = j := by have := hx.2; omega
                clear hp hx hc hh hH
                have hTT := textT_cut l tr hhl
                have hTN := textN_some hhl
                have hON := openN_text hhl
                have hNL := textN_le hhl
                have hhd := headT_cut l tr
                rw [hcl] at hTT hTN hhd
                rw [HLL.out] at hNL
                have hog : 1 ≤ og := by
                  have h1 := HIG.out
                  rcases HGO.out with h | h
                  · omega
                  · rw [h] at h1; simp only [Bool.toNat_true] at h1; omega
                have hAN := fun h => act_none (n := og - 1) (by rw [show og - 1 + 1 = og by omega]; exact hPt.out) hhl h
                have hAS := fun k a t' c (h : actR l = some (k, a, t', c)) => act_some (n := og - 1) (by rw [show og - 1 + 1 = og by omega]; exact hPt.out) hhl h
                have hOG2 : openN l = textN l + blkN (l.drop (textN l)) ∧ 2 ≤ openN l := ⟨hON, by omega⟩
                have HTT := Lib.hid hTT
                have HTN := Lib.hid hTN
                have HOP := Lib.hid hOG2
                have HHD := Lib.hid hhd
                have HCL := Lib.hid hcl
                have HAN := Lib.hid hAN
                have HO1 := Lib.hid hog
                have HAS := Lib.hid hAS
                have hq : i + textN l ≤ t.size := by omega
                have hjq : j + 2 ≤ textN l := by omega
                have HJQ := Lib.hid hjq
                clear hTT hTN hON hNL hhd hhl hcl hAN hAS hOG2 hPt hog hjq
                have hsl2 := fun W => slice_at t (i : Int) ((i : Int) + j) i (i + j) (by omega) (by omega) (by omega) (by omega) W
                go_upto_if 51 with (fail)
                clear hsl heq h2b h2
                have hx0 : StrIs (t.extract i (i + j)) (l.take j) := by
                  show _ = _
                  rw [Lib.extract_data, HL.out, show i + j - i = j by omega]
                generalize t.extract i (i + j) = x0 at *
                have hx0s : x0.size ≤ 4611686018427387904 := by rw [hx0.size, List.length_take, HLL.out]; omega
                go_cut [9] (fun v9 wx => ∃ x, v9 = .string x ∧ StrIs x (headT l tr) ∧ wr = wx)
                case first =>
                  cases tr with
                  | true =>
                    go_wp2_with fail
                    refine (rleft_calls x0 _ hx0 _ hx0s).mono ?_
                    rintro e w3 ⟨x, rfl, hx, rfl⟩
                    go_wp2
                    go_meet
                    exact ⟨x, rfl, by rw [HHD.out]; exact hx, rfl⟩
                  | false =>
                    go_wp2
                    go_meet
                    exact ⟨x0, rfl, by rw [HHD.out]; exact hx0, rfl⟩
                case rest =>
                obtain ⟨x, rfl, hx, rfl⟩ := hcut
                clear hx0 hx0s hsl2
                go_upto_region 18 with (fail)
                have hA : Blk wr.heap.size 92 [.int .i64 0, .string ⟨#[]⟩, .bool false, .bool false, .bool false] (wr.alloc (.cells #[.int .i64 0, .string ⟨#[]⟩, .bool false, .bool false, .bool false] 92)) := Blk.new wr _ _
                have hO2 : Pcs w.heap.size u5 ps (wr.alloc (.cells #[.int .i64 0, .string ⟨#[]⟩, .bool false, .bool false, .bool false] 92)) := World.ownsRow.alloc hO _
                have hb2 := hbr.alloc hbr.size (.cells #[.int .i64 0, .string ⟨#[]⟩, .bool false, .bool false, .bool false] 92)
                have hna : some wr.heap.size ≠ u5.ownBlock := fun e => by have := own_lt hO _ e.symm; omega
                generalize wr.alloc (.cells #[.int .i64 0, .string ⟨#[]⟩, .bool false, .bool false, .bool false] 92) = w2 at *
                have hz2 := hb2.size
                have hgl := hbr.size
                have hxs : x.size ≤ 4611686018427387904 := by have := headT_len l tr; rw [← hx.size, HLL.out] at this; omega
                generalize wr.heap.size = ga at *
                clear hO hbr
                go_cut [78] (fun v78 wx => v78 = .bool (markL (l.drop (j + 2))) ∧ w2 = wx)
                case first =>
                  by_cases h3 : i + j + 3 < t.size
                  · have h3b : decide ((i : Int) + j + 2 + 1 < (t.size : Int)) = true := decide_eq_true (by omega)
                    have hd1 := at_drop HL.out (i + j + 2) (j + 2) (by omega) (by omega)
                    have hd2 := at_drop HL.out (i + j + 2 + 1) (j + 3) (by omega) (by omega)
                    obtain ⟨b1, hb1'⟩ : ∃ b : UInt8, b = t[i + j + 2]'(by omega) := ⟨_, rfl⟩
                    obtain ⟨b2, hb2'⟩ : ∃ b : UInt8, b = t[i + j + 2 + 1]'(by omega) := ⟨_, rfl⟩
                    have hbt1 : ∀ h', ((t[i + j + 2]'h').toNat : Nat) = b1.toNat := fun h' => by rw [hb1']
                    have hbt2 : ∀ h', ((t[i + j + 2 + 1]'h').toNat : Nat) = b2.toNat := fun h' => by rw [hb2']
                    rw [← hb1'] at hd1
                    rw [← hb2'] at hd2
                    have hm : markL (l.drop (j + 2)) = (b1.toNat == 45 && blk b2.toNat) := by rw [hd1, show j + 2 + 1 = j + 3 from rfl, hd2]; rfl
                    have hlt2 := b2.toNat_lt
                    have hlt1 := b1.toNat_lt
                    clear hd1 hd2 hb1' hb2'
                    generalize b1.toNat = c1 at *
                    generalize b2.toNat = c2 at *
                    by_cases h45 : c1 = 45
                    · have h45b : ((c1 : Int) == 45) = true := beq_iff_eq.2 (by omega)
                      rw [show (c1 == 45) = true from beq_iff_eq.2 h45, Bool.true_and] at hm
                      have HM := Lib.hid hm
                      clear hm h45
                      go_wp2_with (go_at_call 48; refine (rblank_calls c2 _ hlt2).mono ?_; rintro e w' ⟨rfl, rfl⟩)
                      go_meet
                      exact ⟨by rw [HM.out], rfl⟩
                    · have h45b : ((c1 : Int) == 45) = false := beq_eq_false_iff_ne.2 (by omega)
                      rw [show (c1 == 45) = false from beq_eq_false_iff_ne.2 h45, Bool.false_and] at hm
                      have HM := Lib.hid hm
                      clear hm h45
                      go_wp2
                      go_meet
                      exact ⟨by rw [HM.out], rfl⟩
                  · have h3b : decide ((i : Int) + j + 2 + 1 < (t.size : Int)) = false := decide_eq_false (by omega)
                    have hm : markL (l.drop (j + 2)) = false := by
                      rw [markL_eq, show decide (2 ≤ (l.drop (j + 2)).length) = false from decide_eq_false (by rw [List.length_drop, HLL.out]; omega), Bool.false_and]
                    have HM := Lib.hid hm
                    clear hm
                    go_wp2
                    go_meet
                    exact ⟨by rw [HM.out], rfl⟩
                case rest =>
                obtain ⟨rfl, rfl⟩ := hcut
                go_upto_if 78 with (fail)
                go_cut [9, 12] (fun v9 v12 wx => ∃ x, v9 = .string x ∧ v12 = .int .i64 (i + textN l : Nat) ∧ StrIs x (textT l tr) ∧ w2 = wx)
                case first =>
                  have hmN := markN_eq (l := l.drop (j + 2)) rfl
                  cases hm : markL (l.drop (j + 2)) with
                  | true =>
                    rw [hm, if_pos rfl] at hmN
                    have htn := HTN.out
                    rw [hmN] at htn
                    have htt := HTT.out
                    rw [hm, if_pos rfl] at htt
                    have HTN2 := Lib.hid htn
                    have HTT2 := Lib.hid htt
                    clear htn htt hmN hm
                    go_wp2_with fail
                    refine (rright_calls x _ hx _ hxs).mono ?_
                    rintro e w3 ⟨x', rfl, hx', rfl⟩
                    go_wp2
                    go_meet
                    exact ⟨x', rfl, by rw [HTN2.out]; go_num, by rw [HTT2.out]; exact hx', rfl⟩
                  | false =>
                    rw [hm, if_neg (by simp)] at hmN
                    have htn := HTN.out
                    rw [hmN] at htn
                    have htt := HTT.out
                    rw [hm, if_neg (by simp)] at htt
                    have HTN2 := Lib.hid htn
                    have HTT2 := Lib.hid htt
                    clear htn htt hmN hm
                    go_wp2
                    go_meet
                    exact ⟨x, rfl, by rw [HTN2.out]; go_num, by rw [HTT2.out]; exact hx, rfl⟩
                case rest =>
                obtain ⟨x1, rfl, rfl, hx1, rfl⟩ := hcut
                clear hx hxs HTT HTN HHD
                generalize textN l = q at *
                go_wp2
                go_loopg [12] (t.size - (i + q)) (fun gi v12 wx => ∃ kk : Nat, v12 = .int .i64 (i + q + kk : Nat) ∧ gi = t.size - (i + q + kk) ∧ i + q + kk ≤ t.size ∧ Hid (kk + blkN (l.drop (q + kk)) = blkN (l.drop q)) ∧ w2 = wx)
                case atStart => exact ⟨0, by go_num, rfl, by omega, by show _ = _; simp, rfl⟩
                case round =>
                  obtain ⟨kk, rfl, hgi3, hks, hK, rfl⟩ := hrel
                  have HGI3 := Lib.hid hgi3
                  clear hgi3
                  obtain ⟨B, hB⟩ : ∃ B, B = decide (0 < blkN (l.drop (q + kk))) := ⟨_, rfl⟩
                  have HB := Lib.hid hB
                  clear hB
                  go_upto_region 21 with (fail)
                  go_cut [92] (fun v92 wx => v92 = .bool B ∧ w2 = wx)
                  case first =>
                    by_cases h : i + q + kk < t.size
                    · have hib : decide ((i : Int) + q + kk < (t.size : Int)) = true := decide_eq_true (by omega)
                      have hdc := at_drop HL.out (i + q + kk) (q + kk) (by omega) h
                      obtain ⟨b, hb⟩ : ∃ b : UInt8, b = t[i + q + kk]'h := ⟨_, rfl⟩
                      have hbt : ∀ h', ((t[i + q + kk]'h').toNat : Nat) = b.toNat := fun h' => by rw [hb]
                      rw [← hb] at hdc
                      have hlt := b.toNat_lt
                      have hbn : B = blk b.toNat := by
                        rw [HB.out, hdc, blkN_cons]
                        cases blk b.toNat <;> simp
                      have HBN := Lib.hid hbn
                      clear hdc hb hbn
                      generalize b.toNat = c at *
                      go_wp2_with (go_at_call 48; refine (rblank_calls c _ hlt).mono ?_; rintro e w' ⟨rfl, rfl⟩)
                      go_meet
                      exact ⟨by rw [HBN.out], rfl⟩
                    · have hib : decide ((i : Int) + q + kk < (t.size : Int)) = false := decide_eq_false (by omega)
                      have hbn : B = false := by rw [HB.out, List.drop_eq_nil_of_le (by rw [HLL.out]; omega)]; rfl
                      have HBN := Lib.hid hbn
                      clear hbn
                      go_wp2
                      go_meet
                      exact ⟨by rw [HBN.out], rfl⟩
                  case rest =>
                  obtain ⟨rfl, rfl⟩ := hcut
                  cases B with
                  | true =>
                    have hb0 : 0 < blkN (l.drop (q + kk)) := of_decide_eq_true HB.out.symm
                    have hlt : q + kk < l.length := by
                      refine Nat.lt_of_not_le fun h => ?_
                      rw [List.drop_eq_nil_of_le h] at hb0
                      exact absurd hb0 (by decide)
                    have hbs : blkN (l.drop (q + kk)) = blkN (l.drop (q + kk + 1)) + 1 := by
                      rw [List.drop_eq_getElem_cons hlt, blkN_cons] at hb0 ⊢
                      cases hbl : blk (l[q + kk]).toNat with
                      | false => rw [hbl] at hb0; simp at hb0
                      | true => rfl
                    have hlt2 : i + q + kk + 1 ≤ t.size := by have := HLL.out; omega
                    have HBS := Lib.hid hbs
                    clear hb0 hlt hbs
                    go_wp2
                    go_roundg (gk - 1)
                    case measure => have := HGI3.out; omega
                    case rel => exact ⟨kk + 1, by go_num, by have := HGI3.out; omega, by omega, (by have := hK.out; have := HBS.out; show _ = _; rw [show q + (kk + 1) = q + kk + 1 by omega]; omega), rfl⟩
                  | false =>
                    have hb0 : blkN (l.drop (q + kk)) = 0 := by have := of_decide_eq_false HB.out.symm; omega
                    have hK2 : openN l = q + kk := by have := hK.out; have := HOP.out.1; omega
                    have HK := Lib.hid hK2
                    clear hb0 hK2 hK HGI3 HB
                    go_upto_region 23 with (fail)
                    obtain ⟨P, hP⟩ : ∃ P, P = List.isPrefixOf [47, 42] (l.drop (q + kk)) := ⟨_, rfl⟩
                    have HP := Lib.hid hP
                    clear hP
                    go_cut [107] (fun v107 wx => v107 = .bool P ∧ w2 = wx)
                    case first =>
                      by_cases h2 : i + q + kk + 2 ≤ t.size
                      · have hlb : decide (2 ≤ (t.size : Int) - ((i : Int) + q + kk)) = true := decide_eq_true (by omega)
                        have heq := slice2 t (i + q + kk) 47 42 (by omega)
                        rw [show t.data.toList.drop (i + q + kk) = l.drop (q + kk) by rw [HL.out, List.drop_drop]; congr 1; omega] at heq
                        have hsl := fun W => slice_at t ((i : Int) + q + kk) ((i : Int) + q + kk + 2) (i + q + kk) (i + q + kk + 2) (by omega) (by omega) (by omega) (by omega) W
                        rw [← HP.out] at heq
                        go_wp2
                        go_meet
                        exact ⟨by first | rfl | rw [heq], rfl⟩
                      · have hlb : decide (2 ≤ (t.size : Int) - ((i : Int) + q + kk)) = false := decide_eq_false (by omega)
                        have hp := pre_short [47, 42] (l.drop (q + kk)) (by rw [List.length_drop, HLL.out]; simp only [List.length_cons, List.length_nil]; omega)
                        obtain rfl : P = false := HP.out.trans hp
                        clear hp
                        go_wp2
                        go_meet
                        exact ⟨rfl, rfl⟩
                    case rest =>
                    obtain ⟨rfl, rfl⟩ := hcut
                    go_upto_if 107 with (fail)
                    go_cut [12] (fun v12 wx => ∃ en ax at_ ac ok, Blk ga 92 [.int .i64 (en : Nat), .string ax, .bool at_, .bool ac, .bool ok] wx ∧ Pcs w.heap.size u5 ps wx ∧ Below w.heap.size w wx ∧ Hid (Act5 l i t.size en ax at_ ac ok))
                    case first =>
                      have hld : ∀ z, t.data.toList.drop (i + q + kk + z) = l.drop (openN l + z) := fun z => by rw [HK.out, HL.out, List.drop_drop]; congr 1; omega
                      have hld0 := hld 0
                      simp only [Nat.add_zero] at hld0
                      cases P with
                      | true =>
                        have hpf := HP.out.symm
                        have hpl := pre_len hpf
                        rw [List.length_drop, HLL.out] at hpl
                        simp only [List.length_cons, List.length_nil] at hpl
                        have har : actR l = (comL (l.drop (openN l + 2))).map fun x => (openN l + 2 + x.1, [], x.2, true) := if_pos (by rw [HK.out]; exact hpf)
                        have hcc := fun W => rcomment_calls t (i + q + kk + 2) W (by omega) (by omega)
                        rw [hld 2] at hcc
                        have HCC := Lib.hid hcc
                        have HAR := Lib.hid har
                        clear hcc har hld hld0 hpf hpl
                        go_wp2_with fail
                        rw [show ((i : Int) + q + kk + 2) = ((i + q + kk + 2 : Nat) : Int) by omega]
                        refine (HCC.out _).mono ?_
                        rintro e w3 ⟨en, at_, cm, ok, rfl, hb3, hs3, hn3⟩
                        have hA3 := hA.below hb3
                        have HS3 := Lib.hid hs3
                        have HN3 := Lib.hid hn3
                        clear hs3 hn3
                        have hA4 : Blk ga 92 [.int .i64 (en : Nat), .string ⟨#[]⟩, .bool at_, .bool cm, .bool ok] (((((w3.setCell ⟨ga, 0, none⟩ (.int .i64 (en : Nat))).setCell ⟨ga, 1, none⟩ (.string ⟨#[]⟩)).setCell ⟨ga, 2, none⟩ (.bool at_)).setCell ⟨ga, 3, none⟩ (.bool cm)).setCell ⟨ga, 4, none⟩ (.bool ok)) := ((((hA3.set 0 _).set 1 _).set 2 _).set 3 _).set 4 _
                        have hg4 : w3.grownBy (((((w3.setCell ⟨ga, 0, none⟩ (.int .i64 (en : Nat))).setCell ⟨ga, 1, none⟩ (.string ⟨#[]⟩)).setCell ⟨ga, 2, none⟩ (.bool at_)).setCell ⟨ga, 3, none⟩ (.bool cm)).setCell ⟨ga, 4, none⟩ (.bool ok)) (some ga) := ((((grownBy_set w3 ga 0 _).trans (grownBy_set _ ga 1 _)).trans (grownBy_set _ ga 2 _)).trans (grownBy_set _ ga 3 _)).trans (grownBy_set _ ga 4 _)
                        have hO4 := World.ownsRow.kept (own_below hO2 hb3) hg4 (.inr (Ne.symm hna))
                        have hb4 := (hb2.trans (hb3.mono hz2)).grown hg4 (Nat.le_trans hz2 hb3.size) fun k hk => by cases hk; exact hgl
                        have c0 := hA3.cell 0 _ rfl
                        have c1 := hA3.cell 1 _ rfl
                        have c2 := hA3.cell 2 _ rfl
                        have c3 := hA3.cell 3 _ rfl
                        have c4 := hA3.cell 4 _ rfl
                        have f0 := hA3.free 0
                        have f1 := hA3.free 1
                        have f2 := hA3.free 2
                        have f3 := hA3.free 3
                        have f4 := hA3.free 4
                        unfold actV
                        go_wp2
                        go_meet
                        refine ⟨en, ⟨#[]⟩, at_, cm, ok, hA4, hO4, hb4, ?_, ?_⟩
                        · intro h
                          rw [HAR.out] at h
                          cases hc : comL (l.drop (openN l + 2)) with
                          | none => exact HN3.out hc
                          | some y => rw [hc] at h; cases h
                        · intro k a t' c h
                          rw [HAR.out] at h
                          cases hc : comL (l.drop (openN l + 2)) with
                          | none => rw [hc] at h; cases h
                          | some y =>
                            rw [hc] at h
                            cases h
                            obtain ⟨h1, h2, h3, h4, h5⟩ := HS3.out y.1 y.2 hc
                            have := HK.out
                            exact ⟨by omega, rfl, h2, h3, h4, by omega⟩
                      | false =>
                        have hpf := HP.out.symm
                        have har : actR l = (endL false (l.drop (openN l))).map fun m => (openN l + m + 2, actText ((l.drop (openN l)).take m), actTrims ((l.drop (openN l)).take m), false) := if_neg (by rw [HK.out, hpf]; simp)
                        have hcc := fun W => rplain_calls t (i + q + kk) W (by omega) (by omega)
                        rw [hld0] at hcc
                        have HCC := Lib.hid hcc
                        have HAR := Lib.hid har
                        clear hcc har hld hld0 hpf
                        go_wp2_with fail
                        rw [show ((i : Int) + q + kk) = ((i + q + kk : Nat) : Int) by omega]
                        refine (HCC.out _).mono ?_
                        rintro e w3 ⟨en, ax, at_, ok, rfl, hb3, hs3, hn3⟩
                        have hA3 := hA.below hb3
                        have HS3 := Lib.hid hs3
                        have HN3 := Lib.hid hn3
                        clear hs3 hn3
                        have hA4 : Blk ga 92 [.int .i64 (en : Nat), .string ax, .bool at_, .bool false, .bool ok] (((((w3.setCell ⟨ga, 0, none⟩ (.int .i64 (en : Nat))).setCell ⟨ga, 1, none⟩ (.string ax)).setCell ⟨ga, 2, none⟩ (.bool at_)).setCell ⟨ga, 3, none⟩ (.bool false)).setCell ⟨ga, 4, none⟩ (.bool ok)) := ((((hA3.set 0 _).set 1 _).set 2 _).set 3 _).set 4 _
                        have hg4 : w3.grownBy (((((w3.setCell ⟨ga, 0, none⟩ (.int .i64 (en : Nat))).setCell ⟨ga, 1, none⟩ (.string ax)).setCell ⟨ga, 2, none⟩ (.bool at_)).setCell ⟨ga, 3, none⟩ (.bool false)).setCell ⟨ga, 4, none⟩ (.bool ok)) (some ga) := ((((grownBy_set w3 ga 0 _).trans (grownBy_set _ ga 1 _)).trans (grownBy_set _ ga 2 _)).trans (grownBy_set _ ga 3 _)).trans (grownBy_set _ ga 4 _)
                        have hO4 := World.ownsRow.kept (own_below hO2 hb3) hg4 (.inr (Ne.symm hna))
                        have hb4 := (hb2.trans (hb3.mono hz2)).grown hg4 (Nat.le_trans hz2 hb3.size) fun k hk => by cases hk; exact hgl
                        have c0 := hA3.cell 0 _ rfl
                        have c1 := hA3.cell 1 _ rfl
                        have c2 := hA3.cell 2 _ rfl
                        have c3 := hA3.cell 3 _ rfl
                        have c4 := hA3.cell 4 _ rfl
                        have f0 := hA3.free 0
                        have f1 := hA3.free 1
                        have f2 := hA3.free 2
                        have f3 := hA3.free 3
                        have f4 := hA3.free 4
                        unfold actV
                        go_wp2
                        go_meet
                        refine ⟨en, ax, at_, false, ok, hA4, hO4, hb4, ?_, ?_⟩
                        · intro h
                          rw [HAR.out] at h
                          cases hc : endL false (l.drop (openN l)) with
                          | none => exact HN3.out hc
                          | some y => rw [hc] at h; cases h
                        · intro k a t' c h
                          rw [HAR.out] at h
                          cases hc : endL false (l.drop (openN l)) with
                          | none => rw [hc] at h; cases h
                          | some y =>
                            rw [hc] at h
                            cases h
                            obtain ⟨h1, h2, h3, h4, h5⟩ := HS3.out y hc
                            have := HK.out
                            exact ⟨by omega, h2, h3, rfl, h4, by omega⟩
                    case rest =>
                    obtain ⟨en, ax, at_, ac, ok, hA4, hO4, hb4, hAct⟩ := hcut
                    clear hA hO2 hb2 hz2
                    have hz4 := hb4.size
                    have hgl4 := hA4.lt
                    cases hr : actR l with
                    | none =>
                      obtain rfl := hAct.out.1 hr
                      have hT := HAN.out hr
                      have hR : splitR s.data.toList = ([], 1300) := by have h := HR.out; rw [HSP.out, hT] at h; exact h
                      have HR2 := Lib.hid hR
                      clear hT hR hr
                      have c4 := hA4.cell 4 _ rfl
                      go_wp2
                      go_ret2
                      exact ⟨_, [], 1300, rfl, pcs_nil _ _, hb4, HR2.out⟩
                    | some rr =>
                      obtain ⟨k, a, t', c⟩ := rr
                      obtain ⟨rfl, hax, rfl, rfl, rfl, hik⟩ := hAct.out.2 k a t' c hr
                      have hS := HAS.out k a at_ ac hr
                      have hk2 : 4 ≤ k := by have := actR_pos hr; have := HOP.out.2; omega
                      have HS := Lib.hid hS
                      have HK2 := Lib.hid hk2
                      clear hS hk2 hr hAct
                      have hldk : t.data.toList.drop (i + k) = l.drop k := by rw [HL.out, List.drop_drop]
                      have HLDK := Lib.hid hldk
                      clear hldk
                      have c4 := hA4.cell 4 _ rfl
                      go_upto_if 119 with (fail)
                      clear c4
                      go_cut [5] (fun v5 wx => Blk ga 92 [.int .i64 (i + k : Nat), .string ax, .bool at_, .bool ac, .bool true] wx ∧ Pcs w.heap.size v5 (ps ++ txtP (textT l tr) i) wx ∧ Below w.heap.size w wx)
                      case first =>
                        cases h1 : x1.toList.isEmpty with
                        | true =>
                          have h0 : x1.size = 0 := Decidable.byContradiction fun h => by rw [nonempty_test h] at h1; cases h1
                          have h2 : txtP (textT l tr) i = [] := if_pos (by rw [← hx1]; exact nil_of_size h0)
                          have H2 := Lib.hid h2
                          clear h2 h0
                          go_wp2
                          go_meet
                          exact ⟨hA4, by rw [H2.out, List.append_nil]; exact hO4, hb4⟩
                        | false =>
                          have h0 : ¬ x1.size = 0 := fun h => by rw [empty_test h] at h1; cases h1
                          have h2 : txtP (textT l tr) i = [⟨false, textT l tr, i⟩] := if_neg fun h => h0 (by rw [hx1.size, h]; rfl)
                          have H2 := Lib.hid h2
                          have HEQ := Lib.hid hx1.eq
                          clear h2 h0 hx1
                          go_wp2_with (at_builtin; refine wp_appPiece w.heap.size w.heap.size rfl (.tmp 120) (.tmp 124) rfl _ ps ⟨false, textT l tr, i⟩ _ 1 ?hcs rfl rfl hO4 hb4 (Nat.le_refl _) hz4 (by have := HPL.out; omega) ?_; (case hcs => rw [HEQ.out]; rfl); intro v6 w6 hP6 hb6 hg6; have hA6 := Blk.grown hA4 hg6 hna)
                          go_meet
                          exact ⟨hA6, by rw [H2.out]; exact hP6, hb6⟩
                      case rest =>
                      obtain ⟨hA6, hO6, hb6⟩ := hcut
                      have hp6 : (ps ++ txtP (textT l tr) i).length ≤ ps.length + 1 := by
                        have := txtP_len (textT l tr) i
                        rw [List.length_append]; omega
                      have HT6 := Lib.hid (List.append_assoc ps (txtP (textT l tr) i) (actP l i a ac))
                      generalize ps ++ txtP (textT l tr) i = ps6 at *
                      clear hA4 hO4 hb4 hz4 hx1 hna
                      have hz6 := hb6.size
                      have c3 := hA6.cell 3 _ rfl
                      have c4 := hA6.cell 4 _ rfl
                      go_upto_if 132 with (fail)
                      clear c3 c4
                      go_cut [5] (fun v5 wx => Blk ga 92 [.int .i64 (i + k : Nat), .string ax, .bool at_, .bool ac, .bool true] wx ∧ Pcs w.heap.size v5 (ps6 ++ actP l i a ac) wx ∧ Below w.heap.size w wx)
                      case first =>
                        cases ac with
                        | true =>
                          go_wp2
                          go_meet
                          exact ⟨hA6, by rw [show actP l i a true = [] from rfl, List.append_nil]; exact hO6, hb6⟩
                        | false =>
                          have HAX := Lib.hid hax.eq
                          have hpn : ps6.length ≤ 1099511627776 := by have := HPL.out; omega
                          have c1 := hA6.cell 1 _ rfl
                          clear hax hp6
                          go_wp2_with (at_builtin; refine wp_appPiece w.heap.size w.heap.size rfl (.tmp 133) (.tmp 138) rfl _ ps6 ⟨true, a, i + cutI [123, 123] l⟩ _ 1 ?hcs rfl rfl hO6 hb6 (Nat.le_refl _) hz6 hpn ?_; (case hcs => rw [HAX.out, HCL.out]; go_num); intro v7 w7 hP7 hb7 hg7; have hA7 := Blk.grown hA6 hg7 (own_ne hA6 hO6 (by decide)))
                          go_meet
                          exact ⟨hA7, hP7, hb7⟩
                      case rest =>
                      obtain ⟨hA8, hO8, hb8⟩ := hcut
                      clear hA6 hO6 hb6 hz6
                      have c0 := hA8.cell 0 _ rfl
                      have c2 := hA8.cell 2 _ rfl
                      have c4 := hA8.cell 4 _ rfl
                      go_wp2
                      go_roundg (og - 1)
                      case measure => have := HOG.out; have := HO1.out; omega
                      case rel =>
                        refine ⟨i + k, at_, _, rfl, rfl, ?_, hik, hO8, hb8, ?_, ?_⟩
                        · have := HIG.out; have := HK2.out; have : at_.toNat ≤ 1 := by cases at_ <;> decide
                          omega
                        · show Parts _ _ _ _ _ _
                          rw [HLDK.out, HT6.out]
                          exact HS.out
                        · have := HPL.out; have := HIG.out; have := HK2.out
                          have h9 : (actP l i a ac).length ≤ 1 := by unfold actP; split <;> simp
                          rw [List.length_append]
                          omega
            · have h2b : decide ((t.size : Int) ≤ (i : Int) + j + 1) = true := decide_eq_true (by omega)
              have hp := pre_short [123, 123] (l.drop j) (by rw [List.length_drop, HLL.out]; simp only [List.length_cons, List.length_nil]; omega)
              rw [hp] at hc hh
              simp only [Bool.false_eq_true, if_false, Bool.false_or] at hc hh
              have HC := Lib.hid hc
              have HH := Lib.hid hh
              clear hc hh hp
              go_wp2
              go_roundg (gk - 1)
              case measure => have := HGI.out; omega
              case rel =>
                refine ⟨j + 1, by go_num, by have := HGI.out; omega, by omega, ⟨HH.out.symm.trans hH.out.1, ?_⟩, rfl⟩
                have h1 := hH.out.2
                have h2 := HC.out
                omega
          · have h1b : decide ((i : Int) + j < (t.size : Int)) = false := decide_eq_false (by omega)
            have hij : i + j = t.size := by omega
            have hn : l.drop j = [] := List.drop_eq_nil_of_le (by rw [HLL.out]; omega)
            have hh := hH.out
            rw [hn] at hh
            have hhl : hasI [123, 123] l = false := hh.1.symm
            have hcl : cutI [123, 123] l = j := hh.2.symm
            have hTT := textT_none l tr hhl
            have hhd := headT_cut l tr
            rw [hcl] at hhd
            have HTT := Lib.hid hTT
            have HHL := Lib.hid hhl
            have HHD := Lib.hid hhd
            have HIJ := Lib.hid hij
            clear hn hh hhl hcl hTT hhd hH h1 hij
            have hsl := fun W => slice_at t (i : Int) ((i : Int) + j) i (i + j) (by omega) (by omega) (by omega) (by omega) W
            go_upto_if 51 with (fail)
            have hx0 : StrIs (t.extract i (i + j)) (l.take j) := by
              show _ = _
              rw [Lib.extract_data, HL.out, show i + j - i = j by omega]
            generalize t.extract i (i + j) = x0 at *
            have hx0s : x0.size ≤ 4611686018427387904 := by rw [hx0.size, List.length_take, HLL.out]; omega
            go_cut [9] (fun v9 wx => ∃ x, v9 = .string x ∧ StrIs x (headT l tr) ∧ wr = wx)
            case first =>
              cases tr with
              | true =>
                go_wp2_with fail
                refine (rleft_calls x0 _ hx0 _ hx0s).mono ?_
                rintro e w3 ⟨x, rfl, hx, rfl⟩
                go_wp2
                go_meet
                exact ⟨x, rfl, by rw [HHD.out]; exact hx, rfl⟩
              | false =>
                go_wp2
                go_meet
                exact ⟨x0, rfl, by rw [HHD.out]; exact hx0, rfl⟩
            case rest =>
            obtain ⟨x, rfl, hx, rfl⟩ := hcut
            rw [← HTT.out] at hx
            clear hx0 hx0s hsl
            go_upto_region 28 with (fail)
            have hA : Blk wr.heap.size 92 [.int .i64 0, .string ⟨#[]⟩, .bool false, .bool false, .bool false] (wr.alloc (.cells #[.int .i64 0, .string ⟨#[]⟩, .bool false, .bool false, .bool false] 92)) := Blk.new wr _ _
            have hO2 : Pcs w.heap.size u5 ps (wr.alloc (.cells #[.int .i64 0, .string ⟨#[]⟩, .bool false, .bool false, .bool false] 92)) := World.ownsRow.alloc hO _
            have hb2 := hbr.alloc hbr.size (.cells #[.int .i64 0, .string ⟨#[]⟩, .bool false, .bool false, .bool false] 92)
            have hna : some wr.heap.size ≠ u5.ownBlock := fun e => by have := own_lt hO _ e.symm; omega
            generalize wr.alloc (.cells #[.int .i64 0, .string ⟨#[]⟩, .bool false, .bool false, .bool false] 92) = w2 at *
            have hz2 := hb2.size
            have hog : 1 ≤ og := by
              have h1 := HIG.out
              rcases HGO.out with h | h
              · omega
              · rw [h] at h1; simp only [Bool.toNat_true] at h1; omega
            have hpt2 := parts_end hPt.out HHL.out hog
            have hld : t.data.toList.drop (i + j) = [] := List.drop_eq_nil_of_le (by rw [size_list, HIJ.out]; exact Nat.le_refl _)
            have HPT2 := Lib.hid hpt2
            have HLD := Lib.hid hld
            clear hld hpt2
            by_cases h0 : x.size = 0
            · have h1 := empty_test h0
              have h2 : textT l tr = [] := by rw [← hx]; exact nil_of_size h0
              have H2 := Lib.hid h2
              have c3 := hA.cell 3 _ rfl
              have c4 := hA.cell 4 _ rfl
              clear h2
              go_wp2
              go_roundg (og - 1)
              case measure => have := HOG.out; omega
              case rel =>
                refine ⟨i + j, false, ps, rfl, rfl, ?_, hjs, hO2, hb2, ?_, ?_⟩
                · have := HIJ.out; simp only [Bool.toNat_false]; omega
                · show Parts _ _ _ _ _ _
                  rw [HLD.out]
                  have := HPT2.out
                  rw [H2.out] at this
                  exact parts_nil (by simpa [txtP] using this)
                · have := HPL.out; omega
            · have h1 := nonempty_test h0
              have h2 : textT l tr ≠ [] := fun h => h0 (by rw [hx.size, h]; rfl)
              have h3 : txtP (textT l tr) i = [⟨false, textT l tr, i⟩] := if_neg h2
              have H3 := Lib.hid h3
              have HEQ := Lib.hid hx.eq
              clear h2 h3 hx
              go_wp2_with (at_builtin; refine wp_appPiece w.heap.size w.heap.size rfl (.tmp 120) (.tmp 124) rfl u5 ps ⟨false, textT l tr, i⟩ _ 1 ?hcs rfl rfl hO2 hb2 (Nat.le_refl _) hz2 (by have := HPL.out; omega) ?_; (case hcs => rw [HEQ.out]; rfl); intro v6 w6 hP6 hb6 hg6; have hA6 := Blk.grown hA hg6 hna; have c3 := hA6.cell 3 _ rfl; have c4 := hA6.cell 4 _ rfl)
              go_roundg (og - 1)
              case measure => have := HOG.out; omega
              case rel =>
                refine ⟨i + j, false, _, rfl, rfl, ?_, hjs, hP6, hb6, ?_, ?_⟩
                · have := HIJ.out; simp only [Bool.toNat_false]; omega
                · show Parts _ _ _ _ _ _
                  rw [HLD.out]
                  have := HPT2.out
                  rw [H3.out] at this
                  exact parts_nil this
                · have := HPL.out
                  simp only [List.length_append, List.length_cons, List.length_nil]
                  omega
      · have hi : i = t.size := by have : ¬ i < t.size := fun h => hgo (Or.inl h); omega
        have htr : tr = false := by cases tr with | false => rfl | true => exact absurd (Or.inr rfl) hgo
        subst htr
        have hib : decide ((i : Int) < (t.size : Int)) = false := decide_eq_false (by omega)
        have hT : T = some ps := by
          have h := hPt.out
          unfold Parts at h
          rw [List.drop_eq_nil_of_le (by rw [size_list]; omega), splitF_nil] at h
          simpa using h
        have hR : splitR s.data.toList = limR ps := by have h := HR.out; rw [HSP.out, hT] at h; exact h
        have HR2 := Lib.hid hR
        clear hT hR hPt hi
        go_wp2_with fail
        refine (limits_calls w.heap.size u5 ps _ hO).mono ?_
        rintro e w3 ⟨v', qs, n, rfl, rfl, hP', hl⟩
        have HL := Lib.hid hl
        clear hl
        go_wp2
        go_ret2
        exact ⟨v', qs, n, rfl, hP', hbr, HR2.out.trans HL.out⟩
end Go.Proofs.YtblkbhomlblfnaaDoor.S
