/-
  THE WALK of package lex's split, Split; of utf's Lines.
-/
import Derived.Test.YtdaffedbboofjaaGreatDoorLexComment
import Derived.Test.YtdaffedbboofjaaGreatDoorLexAction
set_option linter.unusedVariables false
set_option linter.unusedSimpArgs false
namespace Go.Proofs.YtdaffedbboofjaaGreatDoor.S
open Go.RowKit

theorem lines_calls (s : ByteArray) (w : World) (hE : Env w) (hs : s.size ≤ 1048576) :
    Calls Tryz.prog 51 #[.string s] w fun e w' => ∃ r : ByteArray, e = .returned (.string r) ∧ StrIs r (linesL s.data.toList) ∧ Below w.heap.size w w' := by
  go_enter Tryz.func51, Tryz.ntmps51
  go_wp2_with fail
  have hl2 := replaceAll_len s.data.toList [13, 10] [10]
  rw [size_list] at hl2
  simp only [List.length_cons, List.length_nil] at hl2
  refine (replaceAll_calls s ⟨#[13, 10]⟩ ⟨#[10]⟩ _ hE (by omega) (by decide) (by rw [show (⟨#[10]⟩ : ByteArray).size = 1 from rfl]; omega)).mono ?_
  rintro e w1 ⟨r, rfl, hr, hb1⟩
  have hrs := hr.size
  have hrs2 : r.size ≤ 2 * s.size + 1 := by rw [hrs]; exact Nat.le_trans hl2 (by omega)
  clear hrs hl2
  go_wp2_with fail
  refine (replaceAll_calls r ⟨#[13]⟩ ⟨#[10]⟩ _ (hE.below hb1) (by omega) (by decide) (by rw [show (⟨#[10]⟩ : ByteArray).size = 1 from rfl]; omega)).mono ?_
  rintro e w2 ⟨z, rfl, hz, hb2⟩
  go_wp2
  go_ret
  refine ⟨z, rfl, ?_, hb1.trans (hb2.mono hb1.size)⟩
  unfold StrIs at *
  rw [hz, hr]
  exact lines_law _

theorem splitF_nil (n : Nat) (i : Nat) (tr : Bool) : splitF n [] i tr = some [] := by cases n <;> rfl
/-- where an action's own signs begin -/
theorem openN_text {l : List UInt8} (h : hasI [123, 123] l = true) : openN l = textN l + blkN (l.drop (textN l)) := by
  unfold openN
  rw [textN_some h]
  unfold markN
  dsimp only
  split <;> rfl
theorem splitF_none {n : Nat} {l : List UInt8} (i : Nat) (tr : Bool) (hl : l ≠ []) (h : hasI [123, 123] l = false) : splitF (n + 1) l i tr = some (txtP (textT l tr) i) := by
  cases l with
  | nil => exact absurd rfl hl
  | cons c r =>
    rw [splitF]
    simp only [h, Bool.false_eq_true, if_false]
    rw [textT_none _ _ h]
theorem splitF_some {n : Nat} {l : List UInt8} (i : Nat) (tr : Bool) (h : hasI [123, 123] l = true) : splitF (n + 1) l i tr =
    if List.isPrefixOf [47, 42] (l.drop (openN l)) = true then
      match comL (l.drop (openN l + 2)) with
      | none => none
      | some (m, tr') => (splitF n (l.drop (openN l + 2 + m)) (i + (openN l + 2 + m)) tr').map (txtP (textT l tr) i ++ ·)
    else
      match endL false (l.drop (openN l)) with
      | none => none
      | some m => (splitF n (l.drop (openN l + m + 2)) (i + (openN l + m + 2)) (actTrims ((l.drop (openN l)).take m))).map (txtP (textT l tr) i ++ [⟨true, actText ((l.drop (openN l)).take m), i + cutI [123, 123] l⟩] ++ ·) := by
  cases l with
  | nil => simp [hasI] at h
  | cons c r =>
    rw [splitF]
    simp only [h, if_true]
    rw [textT_cut _ _ h]
    rfl
theorem textN_le {l : List UInt8} (h : hasI [123, 123] l = true) : textN l ≤ l.length := by
  rw [textN_some h]
  have h1 := (cutI_some [123, 123] (by simp) l h).2
  simp only [List.length_cons, List.length_nil] at h1
  unfold markN
  split
  · rename_i hm
    rw [markL_eq] at hm
    simp only [Bool.and_eq_true, decide_eq_true_eq, List.length_drop] at hm
    omega
  · omega
/-- what is split so far, and the rest, make the whole -/
def Parts (T : Option (List Pc)) (ps : List Pc) (n : Nat) (l : List UInt8) (i : Nat) (tr : Bool) : Prop := T = (splitF n l i tr).map (ps ++ ·)
theorem parts_step {T : Option (List Pc)} {ps qs : List Pc} {n n' : Nat} {l l' : List UInt8} {i i' : Nat} {tr tr' : Bool} (h : Parts T ps n l i tr) (h2 : splitF n l i tr = (splitF n' l' i' tr').map (qs ++ ·)) : Parts T (ps ++ qs) n' l' i' tr' := by
  unfold Parts at *
  rw [h, h2, Option.map_map]
  congr 1
  funext x
  simp
theorem Cur.b {g : Nat} {s : ByteArray} {i : Nat} {tr : Bool} {ps : List Pc} {w : World} (h : Cur g s i tr ps w) : ∃ v, CurB g s i tr v w := let ⟨v, hv, _⟩ := h; ⟨v, hv⟩
theorem Cur.grown {g : Nat} {s : ByteArray} {i' : Nat} {tr' : Bool} {v : Value} {ps : List Pc} {w w' : World} (hP : Pcs (g + 1) v ps w) (hg : w.grownBy w' (some g)) (h : CurB g s i' tr' v w') : Cur g s i' tr' ps w' :=
  ⟨v, h, World.ownsRow.kept hP hg (.inr fun e => by have := own_base hP g e; omega)⟩
theorem Cur.below {g : Nat} {s : ByteArray} {i : Nat} {tr : Bool} {ps : List Pc} {w w' : World} (h : Cur g s i tr ps w) (hb : Below w.heap.size w w') : Cur g s i tr ps w' :=
  let ⟨v, hB, hP⟩ := h; ⟨v, hB.below hb, own_below hP hb⟩
theorem txtP_len (t : List UInt8) (i : Nat) : (txtP t i).length ≤ 1 := by unfold txtP; split <;> simp

set_option maxRecDepth 100000 in
set_option maxHeartbeats 4000000 in
theorem split_calls (g : Nat) (s : ByteArray) (w : World) (hE : EnvAt g w) (hC : Cur g s 0 false [] w) (hs : s.size ≤ 65536) :
    Calls Tryz.prog 52 #[.pointer (some ⟨g, 0, none⟩)] w fun e w' => ∃ b, e = .returned (.bool b) ∧ Below g w w' ∧ (∀ ps, splitF s.size s.data.toList 0 false = some ps → b = true ∧ ∃ i tr, Cur g s i tr ps w') ∧ (splitF s.size s.data.toList 0 false = none → b = false) := by
  obtain ⟨T, hT⟩ : ∃ T, T = splitF s.size s.data.toList 0 false := ⟨_, rfl⟩
  rw [← hT]
  have hT' : Parts T [] s.size s.data.toList 0 false := by unfold Parts; rw [hT]; simp
  clear hT
  go_enter Tryz.func52, Tryz.ntmps52
  go_wp2
  go_loopg [3, 4] s.size (fun gk _ _ wr => ∃ (i : Nat) (tr : Bool) (ps : List Pc), s.size - i ≤ gk ∧ i ≤ s.size ∧ Cur g s i tr ps wr ∧ Below g w wr ∧ Hid (Parts T ps gk (s.data.toList.drop i) i tr) ∧ ps.length + 2 * gk ≤ 2 * s.size)
  case atStart => exact ⟨0, false, [], by omega, by omega, hC, Below.refl _ _, hT', by simp⟩
  case round =>
    obtain ⟨i, tr, ps, hig, his, hCr, hbr, hPt, hpl⟩ := hrel
    obtain ⟨v, hB⟩ := hCr.b
    have c0 := hB.cell 0 _ rfl
    have c1 := hB.cell 1 _ rfl
    have HIG := Lib.hid hig
    have HPL := Lib.hid hpl
    clear hig hpl
    by_cases h : i < s.size
    · have hjb : decide ((i : Int) < (s.size : Int)) = true := decide_eq_true (by omega)
      obtain ⟨l, hl0⟩ : ∃ l, l = s.data.toList.drop i := ⟨_, rfl⟩
      have hll := congrArg List.length hl0
      rw [List.length_drop, size_list] at hll
      rw [← hl0] at hPt
      have HL := Lib.hid hl0
      have HLL := Lib.hid hll
      clear hl0 hll
      have hix : ∀ W : World, Env W → Calls Tryz.prog 81 #[.string (s.extract i s.size), .string ⟨#[123, 123]⟩] W fun e w' => e = .returned (.int .i64 (if hasI [123, 123] l = true then (cutI [123, 123] l : Int) else -1)) ∧ w' = W := fun W hW => by
        refine (index_calls (s.extract i s.size) ⟨#[123, 123]⟩ l ?_ W hW ?_ (by simp)).mono fun _ _ ⟨he, hw⟩ => ⟨he, hw.symm⟩
        · rw [HL.out]; exact extract_end s i
        · rw [ByteArray.size_extract]; omega
      have hEr := hE.below hbr
      cases hh : hasI [123, 123] l with
      | false =>
        rw [hh] at hix
        simp only [Bool.false_eq_true, if_false] at hix
        have HH := Lib.hid hh
        clear hh
        go_wp2_with fail
        go_quiet (fail)
        go_wp2_with fail
        have hB' : CurB g s i tr v (wr.drewN nq) := hB
        have hCr' : Cur g s i tr ps (wr.drewN nq) := hCr
        have hbr' := Below.drewN hbr nq
        have hEr' := hE.below hbr'
        clear c0 c1 hB hCr hbr hEr
        generalize wr.drewN nq = wq at *
        have c1 := hB'.cell 1 _ rfl
        have hR := fun n => Calls.quiet_of (rest_q g s i tr v (wq.drewN n) hB' his (by omega))
        have hI := fun n => Calls.quiet_of_same (n := n) (hix (wq.drewN n) (hEr'.below (Below.drewN (Below.refl g wq) n)).env)
        go_quiet ((first | (go_at_call 82; exact hR _) | (go_at_call 81; exact hI _)))
        clear hR hI hix
        have hB : CurB g s i tr v (wq.drewN nq) := hB'
        have hCr : Cur g s i tr ps (wq.drewN nq) := hCr'
        have hbr := Below.drewN hbr' nq
        have hEr := hE.below hbr
        clear c1 hB' hCr' hbr' hEr'
        generalize wq.drewN nq = wr at *
        have c1 := hB.cell 1 _ rfl
        go_wp2_with fail
        refine (text_calls g s i tr ps _ hEr.env hCr his hs (by have := HPL.out; omega)).mono ?_
        rw [← HL.out]
        rintro e w3 ⟨rfl, hC3, hb3⟩
        have hbr3 := hbr.trans hb3
        clear c1 hB hCr hbr hEr hb3
        have hcb : decide ((i : Int) ≤ (i : Int) + -1) = false := decide_eq_false (by omega)
        go_wp2
        go_ret
        have hp := hPt.out
        unfold Parts at hp
        obtain ⟨n, hn⟩ : ∃ n, gk = n + 1 := ⟨gk - 1, by have := HIG.out; omega⟩
        rw [hn, splitF_none i tr (fun e => by have := HLL.out; rw [e] at this; simp at this; omega) HH.out] at hp
        refine ⟨true, rfl, hbr3, fun qs hq => ⟨rfl, i + textN l, false, ?_⟩, fun hq => ?_⟩
        · rw [hp] at hq
          cases hq
          exact hC3
        · rw [hp] at hq
          cases hq
      | true =>
        rw [hh] at hix
        simp only [if_true] at hix
        have hle := (cutI_some [123, 123] (by simp) l hh).2
        have hopen := openN_text hh
        have htn := textN_le hh
        have hsp := fun n => splitF_some (n := n) i tr hh
        generalize cutI [123, 123] l = c at *
        simp only [List.length_cons, List.length_nil] at hle
        rw [HLL.out] at hle htn
        have hic : i + c + 2 ≤ s.size := by omega
        have hit : i + textN l ≤ s.size := by omega
        have HH := Lib.hid hh
        have HOP := Lib.hid hopen
        have HSP := Lib.hid hsp
        clear hh hle hopen htn hsp
        go_wp2_with fail
        go_quiet (fail)
        go_wp2_with fail
        have hB' : CurB g s i tr v (wr.drewN nq) := hB
        have hCr' : Cur g s i tr ps (wr.drewN nq) := hCr
        have hbr' := Below.drewN hbr nq
        have hEr' := hE.below hbr'
        clear c0 c1 hB hCr hbr hEr
        generalize wr.drewN nq = wq at *
        have c1 := hB'.cell 1 _ rfl
        have hR := fun n => Calls.quiet_of (rest_q g s i tr v (wq.drewN n) hB' his (by omega))
        have hI := fun n => Calls.quiet_of_same (n := n) (hix (wq.drewN n) (hEr'.below (Below.drewN (Below.refl g wq) n)).env)
        go_quiet ((first | (go_at_call 82; exact hR _) | (go_at_call 81; exact hI _)))
        clear hR hI hix
        have hB : CurB g s i tr v (wq.drewN nq) := hB'
        have hCr : Cur g s i tr ps (wq.drewN nq) := hCr'
        have hbr := Below.drewN hbr' nq
        have hEr := hE.below hbr
        clear c1 hB' hCr' hbr' hEr'
        generalize wq.drewN nq = wr at *
        have c1 := hB.cell 1 _ rfl
        go_wp2_with fail
        refine (text_calls g s i tr ps _ hEr.env hCr his hs (by have := HPL.out; omega)).mono ?_
        rw [← HL.out]
        rintro e w3 ⟨rfl, hC3, hb3⟩
        have hbr3 := hbr.trans hb3
        clear c1 hB hCr hbr hEr hb3
        have hcb : decide ((i : Int) ≤ (i : Int) + (c : Int)) = true := decide_eq_true (by omega)
        obtain ⟨v3, hB3, hP3⟩ := hC3
        have hsk := skip_calls g s (i + textN l) false v3 w3 hB3 hit (by omega)
        have hld : s.data.toList.drop (i + textN l) = l.drop (textN l) := by rw [HL.out, List.drop_drop]
        have hok : i + textN l + blkN (s.data.toList.drop (i + textN l)) = i + openN l := by rw [hld, HOP.out]; omega
        have hob : i + openN l ≤ s.size := by
          have := blkN_le (s.data.toList.drop (i + textN l))
          rw [List.length_drop, size_list] at this
          omega
        rw [hok] at hsk
        have HSK := Lib.hid hsk
        clear hok hld hsk
        have hgw : g ≤ w3.heap.size := Nat.le_of_lt hB3.lt
        obtain ⟨n, hn⟩ : ∃ n, gk = n + 1 := ⟨gk - 1, by have := HIG.out; omega⟩
        have hsp := HSP.out n
        rw [← hn] at hsp
        have hpt := fun T' (hT' : splitF gk l i tr = T') => hPt.out.trans (congrArg _ hT')
        have HPT := Lib.hid hpt
        clear hpt
        have hld2 : ∀ k, s.data.toList.drop (i + openN l + k) = l.drop (openN l + k) := fun k => by rw [HL.out, List.drop_drop]; congr 1; omega
        have HLD := Lib.hid hld2
        have hld2 := hld2 0
        simp only [Nat.add_zero] at hld2
        have hpl2 : (ps ++ txtP (textT l tr) i).length ≤ ps.length + 1 := by
          have := txtP_len (textT l tr) i
          simp; omega
        cases hpf : List.isPrefixOf [47, 42] (l.drop (openN l)) with
        | true =>
          rw [hpf, if_pos rfl] at hsp
          have hpl := pre_len hpf
          rw [List.length_drop, HLL.out] at hpl
          simp only [List.length_cons, List.length_nil] at hpl
          have hi2 : i + openN l + 2 ≤ s.size := by omega
          have HSP2 := Lib.hid hsp
          have HPF := Lib.hid (show List.isPrefixOf (⟨#[47, 42]⟩ : ByteArray).data.toList (s.data.toList.drop (i + openN l)) = true by rw [hld2]; exact hpf)
          clear hpl hsp hpf hld2
          go_wp2_with fail
          refine HSK.out.mono ?_
          rintro e w4 ⟨rfl, hB4, hg4⟩
          have hC4 := Cur.grown hP3 hg4 hB4
          have hbr4 := hbr3.trans (Below.grow1 hg4 hgw (Nat.le_refl g))
          go_wp2_with fail
          refine (rest_calls g s (i + openN l) false v3 _ hB4 hob (by omega)).mono ?_
          rintro e w5 ⟨r5, rfl, hr5, hb5⟩
          have hC5 := hC4.below hb5
          have hbr5 := hbr4.trans (hb5.mono (Nat.le_of_lt hB4.lt))
          go_wp2_with fail
          refine (prefix_calls r5 ⟨#[47, 42]⟩ _ hr5 _).mono ?_
          rw [HPF.out]
          rintro e w6 ⟨rfl, rfl⟩
          go_wp2_with fail
          refine (comment_calls g s (i + openN l) _ _ (hE.below hbr5) hC5 hi2 hs).mono ?_
          rw [HLD.out 2]
          cases hcm : comL (l.drop (openN l + 2)) with
          | none =>
            rintro e w7 ⟨b, rfl, hb7, -, hno⟩
            obtain rfl := hno rfl
            have hsp := HSP2.out
            rw [hcm] at hsp
            have HSP3 := Lib.hid (hPt.out.trans (congrArg _ hsp))
            clear hsp
            go_wp2
            go_ret
            refine ⟨false, rfl, hbr5.trans hb7, fun qs hq => ?_, fun _ => rfl⟩
            rw [HSP3.out] at hq
            cases hq
          | some x =>
            obtain ⟨m, tr'⟩ := x
            rintro e w7 ⟨b, rfl, hb7, hso, -⟩
            obtain ⟨rfl, hi7, hC7⟩ := hso m tr' rfl
            have hsp := HSP2.out
            rw [hcm] at hsp
            have HSP3 := Lib.hid (parts_step hPt.out (hsp.trans (by rfl)))
            clear hsp
            go_wp2
            go_roundg n
            case measure => omega
            case rel =>
              refine ⟨i + openN l + 2 + m, tr', _, ?_, hi7, hC7, hbr5.trans hb7, ?_, ?_⟩
              · have := HIG.out; omega
              · have e := HSP3.out
                have e2 := HLD.out (2 + m)
                show Parts _ _ _ _ _ _
                rw [show i + openN l + 2 + m = i + openN l + (2 + m) by omega, e2]
                rw [show i + (openN l + 2 + m) = i + openN l + (2 + m) by omega, show openN l + 2 + m = openN l + (2 + m) by omega] at e
                exact e
              · have := HPL.out; omega
        | false =>
          rw [hpf, if_neg (by simp)] at hsp
          have HSP2 := Lib.hid hsp
          have HPF := Lib.hid (show List.isPrefixOf (⟨#[47, 42]⟩ : ByteArray).data.toList (s.data.toList.drop (i + openN l)) = false by rw [hld2]; exact hpf)
          clear hsp hpf
          go_wp2_with fail
          refine HSK.out.mono ?_
          rintro e w4 ⟨rfl, hB4, hg4⟩
          have hC4 := Cur.grown hP3 hg4 hB4
          have hbr4 := hbr3.trans (Below.grow1 hg4 hgw (Nat.le_refl g))
          go_wp2_with fail
          refine (rest_calls g s (i + openN l) false v3 _ hB4 hob (by omega)).mono ?_
          rintro e w5 ⟨r5, rfl, hr5, hb5⟩
          have hC5 := hC4.below hb5
          have hbr5 := hbr4.trans (hb5.mono (Nat.le_of_lt hB4.lt))
          go_wp2_with fail
          refine (prefix_calls r5 ⟨#[47, 42]⟩ _ hr5 _).mono ?_
          rw [HPF.out]
          rintro e w6 ⟨rfl, rfl⟩
          go_wp2_with fail
          refine (action_calls g s (i + openN l) (i + c) _ _ (hE.below hbr5) hC5 hob hs (by have := HPL.out; omega)).mono ?_
          rw [hld2]
          cases hcm : endL false (l.drop (openN l)) with
          | none =>
            rintro e w7 ⟨b, rfl, hb7, -, hno⟩
            obtain rfl := hno rfl
            have hsp := HSP2.out
            rw [hcm] at hsp
            have HSP3 := Lib.hid (hPt.out.trans (congrArg _ hsp))
            clear hsp
            go_wp2
            go_ret
            refine ⟨false, rfl, hbr5.trans hb7, fun qs hq => ?_, fun _ => rfl⟩
            rw [HSP3.out] at hq
            cases hq
          | some m =>
            rintro e w7 ⟨b, rfl, hb7, hso, -⟩
            obtain ⟨rfl, hi7, hC7⟩ := hso m rfl
            have hsp := HSP2.out
            rw [hcm] at hsp
            have HSP3 := Lib.hid (parts_step hPt.out (hsp.trans (by rfl)))
            clear hsp
            go_wp2
            go_roundg n
            case measure => omega
            case rel =>
              refine ⟨i + openN l + m + 2, _, _, ?_, hi7, hC7, hbr5.trans hb7, ?_, ?_⟩
              · have := HIG.out; omega
              · have e := HSP3.out
                have e2 := HLD.out (m + 2)
                show Parts _ _ _ _ _ _
                rw [show i + openN l + m + 2 = i + openN l + (m + 2) by omega, e2]
                rw [show i + (openN l + m + 2) = i + openN l + (m + 2) by omega, ← List.append_assoc] at e
                exact e
              · have := HPL.out
                rw [List.length_append, List.length_singleton]
                omega
    · obtain rfl : i = s.size := by omega
      have hjb : decide ((s.size : Int) < (s.size : Int)) = false := decide_eq_false (by omega)
      have hp := hPt.out
      rw [List.drop_eq_nil_of_le (Nat.le_of_eq (size_list s))] at hp
      unfold Parts at hp
      rw [splitF_nil] at hp
      have HP := Lib.hid hp
      clear hp hPt
      go_wp2_with fail
      go_quiet (fail)
      go_wp2
      go_ret
      refine ⟨true, rfl, Below.drewN hbr nq, fun qs hq => ⟨rfl, s.size, tr, ?_⟩, fun hq => ?_⟩
      · rw [HP.out] at hq
        have : ps = qs := by simpa using hq
        rw [← this]
        exact hCr
      · rw [HP.out] at hq
        cases hq
end Go.Proofs.YtdaffedbboofjaaGreatDoor.S
