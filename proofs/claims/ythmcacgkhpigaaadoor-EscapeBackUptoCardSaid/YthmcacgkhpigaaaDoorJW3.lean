/-
  THE WALK of package json's text.
-/
import Derived.Test.YthmcacgkhpigaaaDoorJW2
set_option linter.unusedVariables false
set_option linter.unusedSimpArgs false
namespace Go.Proofs.YthmcacgkhpigaaaDoor.S
open Go.RowKit

theorem jBuilderGrown {B b g : Nat} {l : List UInt8} {w w' : World} (h : Tryd.BuilderHas B b l w) (hg : w.grownBy w' (some g)) (hgB : g < B) : Tryd.BuilderHas B b l w' := by
  have one : ∀ p, Lib.BuilderAtF 39 5 B b p (Lib.byteCells l) w → Lib.BuilderAtF 39 5 B b p (Lib.byteCells l) w' := fun p ⟨hB, v, hv, hr, hne⟩ =>
    ⟨hB, v, (hg.block b (Array.getElem?_eq_some_iff.1 hv).1 (by simp; omega)).trans hv, hr.kept hg (.inr fun e => by have := (hr.lt g e).1; omega), hne⟩
  exact h.elim (fun x => .inl (one _ x)) (fun x => .inr (one _ x))
theorem jgrown_below {w W W' : World} {row : Option Nat} {B : Nat} (h : w.grownBy W row) (hb : Below B W W') (hB : w.heap.size ≤ B) : w.grownBy W' row :=
  ⟨hb.os.trans h.os, hb.tape.trans h.tape, hb.output.trans h.output, Nat.le_trans h.size hb.size, fun i hi hne => (hb.block i (by omega)).trans (h.block i hi hne)⟩
theorem Blk.lowB {g B : Nat} {T : TypeId} {cs : List Value} {w w' : World} (h : Blk g T cs w) (hb : Below B w w') (hg : g < B) : Blk g T cs w' := (hb.block g hg).trans h
theorem dec_first (s : ByteArray) (c : UInt8) (r : List UInt8) (h : s.data.toList = c :: r) : Lib.decodeGo s = Lib.decodeN (r.length + 1) c.toNat (r.getD 0 0).toNat (r.getD 1 0).toNat (r.getD 2 0).toNat := by
  have hz : s.size = s.data.toList.length := rfl
  unfold Lib.decodeGo
  rw [if_neg (by rw [hz, h]; simp), Lib.decode_at]
  simp only [get_toList, Nat.sub_zero, hz, h]
  rfl
theorem decN_low (n b0 b1 b2 b3 : Nat) (h : b0 < 128) : Lib.decodeN n b0 b1 b2 b3 = (b0, 1) := by unfold Lib.decodeN; rw [if_pos h]
set_option maxRecDepth 100000 in
set_option maxHeartbeats 2000000 in
theorem decN_high (n b0 b1 b2 b3 : Nat) (h : 128 ≤ b0) : 128 ≤ (Lib.decodeN n b0 b1 b2 b3).1 ∧ (Lib.decodeN n b0 b1 b2 b3).1 ≤ 1114111 := by
  unfold Lib.decodeN
  rw [if_neg (by omega)]
  repeat' split
  all_goals dsimp only
  all_goals omega
theorem dec_low {s : ByteArray} {c : UInt8} {r : List UInt8} (h : s.data.toList = c :: r) (hc : c.toNat < 32) : (Lib.decodeGo s).1 < 32 := by
  rw [dec_first s c r h, decN_low _ _ _ _ _ (by omega)]; exact hc
theorem dec_le {s : ByteArray} {c : UInt8} {r : List UInt8} (h : s.data.toList = c :: r) (hc : 32 ≤ c.toNat) : 32 ≤ (Lib.decodeGo s).1 ∧ (Lib.decodeGo s).1 ≤ 1114111 := by
  rw [dec_first s c r h]
  by_cases h1 : c.toNat < 128
  · rw [decN_low _ _ _ _ _ h1]; dsimp only; omega
  · have := decN_high (r.length + 1) c.toNat (r.getD 0 0).toNat (r.getD 1 0).toNat (r.getD 2 0).toNat (by omega)
    omega
theorem dec_bad {s : ByteArray} {c : UInt8} {r : List UInt8} (h : s.data.toList = c :: r) (hc : 32 ≤ c.toNat) (hs : sign (c :: r) = 0) : (Lib.decodeGo s).1 = 65533 ∧ (Lib.decodeGo s).2 = 1 := by
  have hl := dec_le h hc
  have hd := sign_decode s
  rw [h, hs] at hd
  split at hd
  · omega
  · rename_i hn
    exfalso
    have h2 : (Lib.decodeGo s).2 = 0 := hd.symm
    rw [dec_first s c r h] at h2
    revert h2
    unfold Lib.decodeN
    repeat' split
    all_goals simp
theorem dec_ok {s : ByteArray} {c : UInt8} {r : List UInt8} (h : s.data.toList = c :: r) (hc : 32 ≤ c.toNat) (hs : sign (c :: r) ≠ 0) : (Lib.decodeGo s).2 = sign (c :: r) ∧ ((Lib.decodeGo s).1 ≠ 65533 ∨ 1 < (Lib.decodeGo s).2) := by
  have hd := sign_decode s
  rw [h] at hd
  split at hd
  · exact absurd hd hs
  · rename_i hn
    refine ⟨hd.symm, ?_⟩
    rw [hd] at hs
    omega
theorem escJL_le {l t r : List UInt8} (h : escJL l = some (t, r)) : t.length ≤ 4 := by
  unfold escJL at h
  split at h
  · cases h
  · rename_i c r1
    split at h
    · cases hs : signJL r1 with
      | none => rw [hs] at h; cases h
      | some y =>
        rw [hs] at h
        simp at h
        rw [← h.1]
        unfold encU
        repeat' split
        all_goals simp
    · cases hs : escV c with
      | none => rw [hs] at h; cases h
      | some y =>
        rw [hs] at h
        simp at h
        rw [← h.1]
        simp
def TxAt (T : Option (List UInt8 × List UInt8)) (n : Nat) (acc l : List UInt8) : Prop := T = (txF n l).map fun x => (acc ++ x.1, x.2)
theorem tx_nil {T : Option (List UInt8 × List UInt8)} {n : Nat} {acc : List UInt8} (h : TxAt T (n + 1) acc []) : T = none := by rw [h]; rfl
theorem tx_end {T : Option (List UInt8 × List UInt8)} {n : Nat} {acc r : List UInt8} (h : TxAt T (n + 1) acc (34 :: r)) : T = some (acc, r) := by
  rw [h, txF, if_pos rfl]; simp
theorem tx_escNo {T : Option (List UInt8 × List UInt8)} {n : Nat} {acc r : List UInt8} (h : TxAt T (n + 1) acc (92 :: r)) (he : escJL r = none) : T = none := by
  rw [h, txF, if_neg (by decide), if_pos rfl, he]; rfl
theorem tx_esc {T : Option (List UInt8 × List UInt8)} {n : Nat} {acc r t r2 : List UInt8} (h : TxAt T (n + 1) acc (92 :: r)) (he : escJL r = some (t, r2)) : TxAt T n (acc ++ t) r2 := by
  unfold TxAt at *
  rw [h, txF, if_neg (by decide), if_pos rfl, he]
  dsimp only
  cases txF n r2 with
  | none => rfl
  | some y => simp
theorem tx_low {T : Option (List UInt8 × List UInt8)} {n : Nat} {acc r : List UInt8} {c : UInt8} (h : TxAt T (n + 1) acc (c :: r)) (h1 : c ≠ 34) (h2 : c ≠ 92) (h3 : c.toNat < 32 ∨ sign (c :: r) = 0) : T = none := by
  rw [h, txF, if_neg h1, if_neg h2]
  split
  · rfl
  · rename_i hn
    rw [if_pos (h3.resolve_left hn)]
    rfl
theorem tx_go {T : Option (List UInt8 × List UInt8)} {n : Nat} {acc r : List UInt8} {c : UInt8} (h : TxAt T (n + 1) acc (c :: r)) (h1 : c ≠ 34) (h2 : c ≠ 92) (h3 : ¬ c.toNat < 32) (h4 : sign (c :: r) ≠ 0) : TxAt T n (acc ++ (c :: r).take (sign (c :: r))) ((c :: r).drop (sign (c :: r))) := by
  unfold TxAt at *
  rw [h, txF, if_neg h1, if_neg h2, if_neg h3, if_neg h4]
  cases txF n ((c :: r).drop (sign (c :: r))) with
  | none => rfl
  | some y => simp
set_option maxRecDepth 100000 in
set_option maxHeartbeats 4000000 in
theorem jtext_calls (g : Nat) (s : ByteArray) (l : List UInt8) (w : World) (hE : EnvAt g w) (hB : JRd g s w) (hl : StrIs s l) (hs : s.size ≤ 65536) :
    Calls Tryd.prog 36 #[.pointer (some ⟨g, 0, none⟩)] w fun e w' =>
      (∀ t r, txJ l = some (t, r) → ∃ b s' : ByteArray, e = .returned (.string b) ∧ StrIs b t ∧ StrIs s' r ∧ JRd g s' w') ∧ (txJ l = none → e = panJ) ∧ w.grownBy w' (some g) := by
  have hgl := hB.lt
  have hll : l.length = s.size := hl.size.symm
  obtain ⟨T, hT⟩ : ∃ T, T = txJ l := ⟨_, rfl⟩
  rw [← hT]
  have hT' : TxAt T (l.length + 1) [] l := by
    unfold TxAt
    rw [hT]
    unfold txJ
    cases txF (l.length + 1) l <;> rfl
  clear hT
  go_enter Tryd.func36, Tryd.ntmps36
  have hI := Tryd.freshBuilder w
  have hb1 : Below w.heap.size w (w.alloc (.cells #[.pointer none, .slice none 0 0] 39)) := (Below.refl _ w).alloc (Nat.le_refl _) _
  have hB1 := hB.below hb1
  have hg1 := grownBy_below (row := some g) hb1
  go_wp2
  generalize w.alloc (.cells #[.pointer none, .slice none 0 0] 39) = w1 at *
  obtain ⟨b, hbq⟩ : ∃ b, b = w.heap.size := ⟨_, rfl⟩
  rw [← hbq] at hI hgl ⊢
  have hzb : b ≤ w1.heap.size := by have := hb1.size; omega
  have HBQ := Lib.hid hbq
  clear hbq hb1 hB
  go_loopg [4, 5] (l.length + 1) (fun gk _ _ wr => ∃ (acc : List UInt8) (s' : ByteArray) (l' : List UInt8), l'.length < gk ∧ acc.length + 4 * l'.length ≤ 4 * l.length ∧ Tryd.BuilderHas b b acc wr ∧ StrIs s' l' ∧ JRd g s' wr ∧ w.grownBy wr (some g) ∧ b ≤ wr.heap.size ∧ Hid (TxAt T gk acc l'))
  case atStart => exact ⟨[], s, l, by omega, by simp, hI, hl, hB1, hg1, hzb, hT'⟩
  case round =>
    obtain ⟨acc, s', l', hlg, hag, hI, hs', hBr, hgr, hzr, hTA⟩ := hrel
    obtain ⟨n, rfl⟩ : ∃ n, gk = n + 1 := ⟨gk - 1, by omega⟩
    have HLG := Lib.hid hlg
    have HAG := Lib.hid hag
    have hsz' : s'.size ≤ 65536 := by rw [hs'.size]; omega
    have hlen4 : acc.length ≤ 262144 := by omega
    clear hlg hag hT'
    go_wp2_with fail
    refine (jhas_calls g s' ⟨#[34]⟩ l' _ hBr hs').mono ?_
    rintro e w2 ⟨s2, rfl, hs2, hB2, hg2⟩
    have hI2 := jBuilderGrown hI hg2 hgl
    have hgr2 := hgr.trans hg2
    have hzr2 := Nat.le_trans hzr hg2.size
    clear hI hBr hgr hg2
    cases l' with
    | nil =>
      have hT := tx_nil hTA.out
      have HT := Lib.hid hT
      have hs2' : StrIs s2 [] := hs2
      have hz : s2.size = 0 := hs2'.size
      clear hT hTA
      rw [show List.isPrefixOf (⟨#[34]⟩ : ByteArray).data.toList [] = false from rfl]
      go_wp2_with fail
      refine (jhas_calls g s2 ⟨#[92]⟩ [] _ hB2 hs2').mono ?_
      rw [show List.isPrefixOf (⟨#[92]⟩ : ByteArray).data.toList [] = false from rfl]
      rintro e w3 ⟨s3, rfl, hs3, hB3, hg3⟩
      have hs3' : StrIs s3 [] := hs3
      have hgr3 := hgr2.trans hg3
      have hz3 : s3.size = 0 := hs3'.size
      have hdg : Lib.decodeGo s3 = (65533, 0) := by unfold Lib.decodeGo; rw [if_pos hz3]
      have hE3 := (hE.below (Below.grow1 hgr3 (by rw [← HBQ.out]; omega) (Nat.le_refl g))).env
      have hD := Tryd.utf8_DecodeRuneInString s3 w3 hE3.tabs
      rw [hdg] at hD
      have HD := Lib.hid hD
      have c3 := hB3.cell 0 _ rfl
      clear hD hdg
      go_wp2_with (first | (go_at_call 28; refine HD.out.mono ?_; rintro e w4 ⟨rfl, hb4⟩) | (go_at_call 33; refine (must_no _).mono ?_; unfold panJ; rintro e w9 ⟨rfl, rfl⟩))
      refine ⟨rfl, fun x r h => ?_, fun _ => rfl, jgrown_below hgr3 hb4 (by have := hgr3.size; omega)⟩
      rw [HT.out] at h
      cases h
    | cons c r =>
      by_cases h34 : c = 34
      · subst h34
        have hp : List.isPrefixOf (⟨#[34]⟩ : ByteArray).data.toList (34 :: r) = true := rfl
        rw [cutJ_yes hp] at hs2
        have hT := tx_end hTA.out
        have HT := Lib.hid hT
        clear hT hTA HAG HLG
        rw [hp]
        go_wp2_with fail
        refine (Tryd.builderString' _ _ _ _ hI2 hzr2).mono ?_
        rintro e w3 ⟨t, rfl, ht, hb3⟩
        have hgr3 := jgrown_below hgr2 hb3 (by rw [HBQ.out]; exact Nat.le_refl _)
        have hB3 := Blk.lowB hB2 hb3 hgl
        go_wp2
        go_ret
        refine ⟨fun x r' h => ?_, fun h => ?_, hgr3⟩
        · rw [HT.out] at h
          cases h
          exact ⟨t, s2, rfl, ht, hs2, hB3⟩
        · rw [HT.out] at h
          cases h
      · have hp : List.isPrefixOf (⟨#[34]⟩ : ByteArray).data.toList (c :: r) = false := by show (34 == c && _) = false; simp [Ne.symm h34]
        rw [cutJ_no hp] at hs2
        rw [hp]
        go_wp2_with fail
        refine (jhas_calls g s2 ⟨#[92]⟩ (c :: r) _ hB2 hs2).mono ?_
        rintro e w3 ⟨s3, rfl, hs3, hB3, hg3⟩
        have hI3 := jBuilderGrown hI2 hg3 hgl
        have hgr3 := hgr2.trans hg3
        have hzr3 := Nat.le_trans hzr2 hg3.size
        clear hI2 hB2 hgr2 hg3 hp
        by_cases h92 : c = 92
        · subst h92
          have hp : List.isPrefixOf (⟨#[92]⟩ : ByteArray).data.toList (92 :: r) = true := rfl
          rw [cutJ_yes hp] at hs3
          rw [hp]
          have hs3' : StrIs s3 r := hs3
          have hz3 : s3.size ≤ 4611686018427387900 := by have h1 := hs3'.size; have h2 := hs'.size; simp at h2; omega
          go_wp2_with fail
          refine (jesc_calls g s3 r _ hB3 hs3' hz3).mono ?_
          rintro e w4 ⟨hok, hno, hg4⟩
          have hI4 := jBuilderGrown hI3 hg4 hgl
          have hgr4 := hgr3.trans hg4
          have hzr4 := Nat.le_trans hzr3 hg4.size
          cases he : escJL r with
          | none =>
            obtain rfl := hno he
            have hT := tx_escNo hTA.out he
            have HT := Lib.hid hT
            clear hT hok hno
            unfold panJ
            go_wp2
            refine ⟨rfl, fun x r h => ?_, fun _ => rfl, hgr4⟩
            rw [HT.out] at h
            cases h
          | some y =>
            obtain ⟨t, r2⟩ := y
            obtain ⟨tb, s4, rfl, htb, hs4, hB4⟩ := hok t r2 he
            have hTA2 := tx_esc hTA.out he
            have HTA := Lib.hid hTA2
            have ht4 := escJL_le he
            have hr2 := escJL_len he
            have hlen : acc.length + tb.size ≤ 140737488355328 := by rw [htb.size]; omega
            have HTB := Lib.hid htb
            clear hok hno hTA hTA2 he htb
            go_wp2_with (go_at_call 14; refine (Tryd.writeString _ _ _ _ _ hI4 hlen hzr4).mono ?_; rintro e w9 ⟨rfl, hI9, hb9⟩)
            go_roundg n
            case measure => omega
            case rel =>
              refine ⟨acc ++ t, s4, r2, by have := HLG.out; simp only [List.length_cons] at this; omega, by have h6 := HAG.out; simp only [List.length_cons] at h6; simp only [List.length_append]; omega, ?_, hs4, Blk.lowB hB4 hb9 hgl, jgrown_below hgr4 hb9 (by rw [HBQ.out]; exact Nat.le_refl _), Nat.le_trans hzr4 hb9.size, HTA.out⟩
              rw [show tb.data.toList = t from HTB.out] at hI9
              exact hI9
        · have hp : List.isPrefixOf (⟨#[92]⟩ : ByteArray).data.toList (c :: r) = false := by show (92 == c && _) = false; simp [Ne.symm h92]
          rw [cutJ_no hp] at hs3
          rw [hp]
          have hs3' : s3.data.toList = c :: r := hs3
          have hE3 := (hE.below (Below.grow1 hgr3 (by rw [← HBQ.out]; omega) (Nat.le_refl g))).env
          have hD := Tryd.utf8_DecodeRuneInString s3 w3 hE3.tabs
          have c3 := hB3.cell 0 _ rfl
          clear hp
          by_cases h32 : c.toNat < 32
          · have hT := tx_low hTA.out h34 h92 (.inl h32)
            have HT := Lib.hid hT
            have hd := dec_low hs3' h32
            have hdb : decide ((32 : Int) ≤ ((Lib.decodeGo s3).1 : Int)) = false := decide_eq_false (by omega)
            generalize (Lib.decodeGo s3).1 = d1 at *
            generalize (Lib.decodeGo s3).2 = d2 at *
            have HD := Lib.hid hD
            clear hT hTA hD hd h32
            go_wp2_with (first | (go_at_call 28; refine HD.out.mono ?_; rintro e w4 ⟨rfl, hb4⟩) | (go_at_call 33; refine (must_no _).mono ?_; unfold panJ; rintro e w9 ⟨rfl, rfl⟩))
            refine ⟨rfl, fun x r h => ?_, fun _ => rfl, jgrown_below hgr3 hb4 (by have := hgr3.size; omega)⟩
            rw [HT.out] at h
            cases h
          · have hdl := dec_le hs3' (by omega)
            have hdb : decide ((32 : Int) ≤ ((Lib.decodeGo s3).1 : Int)) = true := decide_eq_true (by omega)
            by_cases hsg : sign (c :: r) = 0
            · have hT := tx_low hTA.out h34 h92 (.inr hsg)
              have HT := Lib.hid hT
              obtain ⟨e1, e2⟩ := dec_bad hs3' (by omega) hsg
              rw [e1, e2] at hD
              have HD := Lib.hid hD
              clear hT hTA hD hdb hdl e1 e2 hsg h32
              go_wp2_with (first | (go_at_call 28; refine HD.out.mono ?_; rintro e w4 ⟨rfl, hb4⟩) | (go_at_call 33; refine (must_no _).mono ?_; unfold panJ; rintro e w9 ⟨rfl, rfl⟩))
              refine ⟨rfl, fun x r h => ?_, fun _ => rfl, jgrown_below hgr3 hb4 (by have := hgr3.size; omega)⟩
              rw [HT.out] at h
              cases h
            · obtain ⟨e2, hne⟩ := dec_ok hs3' (by omega) hsg
              have hTA2 := tx_go hTA.out h34 h92 h32 hsg
              have hsl := sign_le (c :: r)
              have hs3z : s3.size = (c :: r).length := hs3.size
              rw [← e2] at hTA2 hsl
              have e2' := e2
              rw [e2] at hne
              rw [e2] at hTA2 hsl
              rw [e2] at hD
              have hsg1 : 1 ≤ sign (c :: r) := by omega
              generalize sign (c :: r) = k at *
              have hk3 : k ≤ s3.size := by omega
              have hto := fun W => jslice_to s3 (k : Int) k rfl hk3 W
              have hfr := fun W => jslice_from s3 (k : Int) k rfl hk3 W
              have hx1 := jext_to s3 k
              have hx2 := jext_from s3 k
              rw [hs3'] at hx1 hx2
              generalize s3.extract 0 k = t1 at *
              generalize s3.extract k s3.size = t2 at *
              have hlen : acc.length + t1.size ≤ 140737488355328 := by rw [hx1.size, List.length_take]; omega
              have HTA := Lib.hid hTA2
              have HX1 := Lib.hid hx1
              have HX2 := Lib.hid hx2
              have HK := Lib.hid (And.intro hsl hsg1)
              have hb5 : ((((Lib.decodeGo s3).1 : Int) != 65533) || decide ((1 : Int) < (k : Int))) = true := by
                rcases hne with h | h
                · rw [show (((Lib.decodeGo s3).1 : Int) != 65533) = true from bne_iff_ne.2 (by omega)]; rfl
                · rw [show decide ((1 : Int) < (k : Int)) = true from decide_eq_true (by omega)]; simp
              generalize (Lib.decodeGo s3).1 = d1 at *
              have HD := Lib.hid hD
              clear hTA hTA2 hD hdl e2 e2' hsg h32 hx1 hx2 hsl hsg1 hne
              cases hq : ((d1 : Int) != 65533) with
              | true =>
                have hq2 : ((d1 : Int) == 65533) = false := by rw [bne] at hq; simpa using hq
                clear hb5
                go_wp2_with (first | (go_at_call 28; refine HD.out.mono ?_; rintro e w4 ⟨rfl, hb4⟩; have hzr4 := Nat.le_trans hzr3 hb4.size; have hB4 := hB3.below hb4; have hI4 := Tryd.builderBelow hI3 hb4; have c4 := hB4.cell 0 _ rfl) | (go_at_call 33; refine (must_ok _).mono ?_; rintro e w9 ⟨rfl, rfl⟩) | (go_at_call 14; refine (Tryd.writeString _ _ _ _ _ hI4 hlen hzr4).mono ?_; rintro e w9 ⟨rfl, hI9, hb9⟩; have hB9 := Blk.lowB hB4 hb9 hgl; have c9 := hB9.cell 0 _ rfl; have f9 := hB9.free 0))
                go_roundg n
                case measure => omega
                case rel =>
                  have hI9' : Tryd.BuilderHas b b (acc ++ (c :: r).take k) w9 := by rw [← HX1.out]; exact hI9
                  have hg9 := (jgrown_below (jgrown_below hgr3 hb4 (by have := hgr3.size; omega)) hb9 (by rw [HBQ.out]; exact Nat.le_refl _)).trans (grownBy_set w9 g 0 (.string t2))
                  obtain ⟨⟨k1, k4⟩, k2⟩ := HK.out
                  refine ⟨acc ++ (c :: r).take k, t2, (c :: r).drop k, ?_, ?_, jBuilderGrown hI9' (grownBy_set w9 g 0 (.string t2)) hgl, HX2.out, hB9.set 0 _, hg9, ?_, HTA.out⟩
                  · have := HLG.out; rw [List.length_drop]; omega
                  · have h6 := HAG.out; rw [List.length_append, List.length_take, List.length_drop]; omega
                  · have := hb9.size; simp [World.setCell]; omega
              | false =>
                have hq2 : ((d1 : Int) == 65533) = true := by rw [bne] at hq; simpa using hq
                rw [hq, Bool.false_or] at hb5
                go_wp2_with (first | (go_at_call 28; refine HD.out.mono ?_; rintro e w4 ⟨rfl, hb4⟩; have hzr4 := Nat.le_trans hzr3 hb4.size; have hB4 := hB3.below hb4; have hI4 := Tryd.builderBelow hI3 hb4; have c4 := hB4.cell 0 _ rfl) | (go_at_call 33; refine (must_ok _).mono ?_; rintro e w9 ⟨rfl, rfl⟩) | (go_at_call 14; refine (Tryd.writeString _ _ _ _ _ hI4 hlen hzr4).mono ?_; rintro e w9 ⟨rfl, hI9, hb9⟩; have hB9 := Blk.lowB hB4 hb9 hgl; have c9 := hB9.cell 0 _ rfl; have f9 := hB9.free 0))
                go_roundg n
                case measure => omega
                case rel =>
                  have hI9' : Tryd.BuilderHas b b (acc ++ (c :: r).take k) w9 := by rw [← HX1.out]; exact hI9
                  have hg9 := (jgrown_below (jgrown_below hgr3 hb4 (by have := hgr3.size; omega)) hb9 (by rw [HBQ.out]; exact Nat.le_refl _)).trans (grownBy_set w9 g 0 (.string t2))
                  obtain ⟨⟨k1, k4⟩, k2⟩ := HK.out
                  refine ⟨acc ++ (c :: r).take k, t2, (c :: r).drop k, ?_, ?_, jBuilderGrown hI9' (grownBy_set w9 g 0 (.string t2)) hgl, HX2.out, hB9.set 0 _, hg9, ?_, HTA.out⟩
                  · have := HLG.out; rw [List.length_drop]; omega
                  · have h6 := HAG.out; rw [List.length_append, List.length_take, List.length_drop]; omega
                  · have := hb9.size; simp [World.setCell]; omega
end Go.Proofs.YthmcacgkhpigaaaDoor.S
