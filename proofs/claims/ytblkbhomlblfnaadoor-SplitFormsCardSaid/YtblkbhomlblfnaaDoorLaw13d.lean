/-
  THE WALK of the law SplitOne (chapter 13).
-/
import Derived.Test.YtblkbhomlblfnaaDoorLaw13b
import Derived.Test.YtblkbhomlblfnaaDoorPlainS3
import Derived.Test.YtblkbhomlblfnaaDoorDecimal
import Derived.Laws.OwnMore
import Derived.Deep.Onto
set_option linter.unusedVariables false
set_option linter.unusedSimpArgs false
namespace Go.Proofs.YtblkbhomlblfnaaDoor.S
open Go.RowKit

set_option maxRecDepth 100000 in
set_option maxHeartbeats 4000000 in
theorem plain13_calls (s : ByteArray) (w : World) :
    Calls Tryd.prog 31 #[.string s] w fun e w' => ∃ r : ByteArray, e = .returned (.string r) ∧ (∀ b ∈ r.data.toList, b ≠ 123 ∧ b ≠ 13) ∧ r.size ≤ 200 ∧ w = w' := by
  go_enter Tryd.func31, Tryd.ntmps31
  go_wp2
  go_loopg [3, 4] s.size (fun gk v3 v4 wr => ∃ (k : Nat) (x : ByteArray), v4 = .int .i64 k ∧ v3 = .string x ∧ k + gk = s.size ∧ k ≤ 200 ∧ x.size ≤ k ∧ Hid (∀ b ∈ x.data.toList, b ≠ 123 ∧ b ≠ 13) ∧ w = wr)
  case atStart => exact ⟨0, ⟨#[]⟩, rfl, rfl, by omega, by omega, by show 0 ≤ 0; omega, (by intro b hb; cases hb), rfl⟩
  case round =>
    obtain ⟨k, x, rfl, rfl, hkg, hk2, hxk, hx, rfl⟩ := hrel
    have HKG := Lib.hid hkg
    have hks : k ≤ s.size := by omega
    clear hkg
    by_cases h : k < s.size ∧ k < 200
    · obtain ⟨h1, h2⟩ := h
      have h1b : decide ((k : Int) < (s.size : Int)) = true := decide_eq_true (by omega)
      have h2b : decide ((k : Int) < 200) = true := decide_eq_true (by omega)
      have hone := one_of s k h1
      have hsl := fun W => slice_at s (k : Int) ((k : Int) + 1) k (k + 1) (by omega) (by omega) (by omega) (by omega) W
      obtain ⟨b, hb⟩ : ∃ b : UInt8, b = s[k]'h1 := ⟨_, rfl⟩
      have hbt : ∀ h', ((s[k]'h').toNat : Nat) = b.toNat := fun h' => by rw [hb]
      rw [← hb] at hone
      clear hb
      have h1s := hone.size
      generalize s.extract k (k + 1) = y at *
      have hcat := cat_at x y (by rw [h1s]; simp; omega)
      have hxy : (x ++ y).size ≤ k + 1 := by rw [ByteArray.size_append, h1s]; simp; omega
      have hno : b ≠ 123 → b ≠ 13 → ∀ c ∈ (x ++ y).data.toList, c ≠ 123 ∧ c ≠ 13 := fun g1 g2 c hc => by
        rw [ByteArray.data_append, Array.toList_append] at hc
        rcases List.mem_append.1 hc with hc | hc
        · exact hx.out c hc
        · rw [show y.data.toList = [b] from hone] at hc
          rw [List.mem_singleton.1 hc]
          exact ⟨g1, g2⟩
      have HNO := Lib.hid hno
      have HXY := Lib.hid hxy
      clear hno hxy hone h1s
      by_cases hz : b = 123
      · have hzb : ((b.toNat : Int) == 123) = true := by rw [hz]; rfl
        have hzbn : ((b.toNat : Int) != 123) = false := by rw [bne, hzb]; rfl
        clear hz HNO HXY
        generalize b.toNat = c at *
        go_wp2
        go_roundg (gk - 1)
        case measure => have := HKG.out; omega
        case rel => exact ⟨k + 1, x, by go_num, rfl, by have := HKG.out; omega, by omega, by omega, hx, rfl⟩
      · have hzb : ((b.toNat : Int) == 123) = false := beq_eq_false_iff_ne.2 fun e => hz (UInt8.toNat_inj.1 (by show _ = 123; omega))
        have hzbn : ((b.toNat : Int) != 123) = true := by rw [bne, hzb]; rfl
        by_cases hy : b = 13
        · have hyb : ((b.toNat : Int) == 13) = true := by rw [hy]; rfl
          have hybn : ((b.toNat : Int) != 13) = false := by rw [bne, hyb]; rfl
          clear hz hy HNO HXY
          generalize b.toNat = c at *
          go_wp2
          go_roundg (gk - 1)
          case measure => have := HKG.out; omega
          case rel => exact ⟨k + 1, x, by go_num, rfl, by have := HKG.out; omega, by omega, by omega, hx, rfl⟩
        · have hyb : ((b.toNat : Int) == 13) = false := beq_eq_false_iff_ne.2 fun e => hy (UInt8.toNat_inj.1 (by show _ = 13; omega))
          have hybn : ((b.toNat : Int) != 13) = true := by rw [bne, hyb]; rfl
          have HN := Lib.hid (HNO.out hz hy)
          clear hz hy HNO
          generalize b.toNat = c at *
          go_wp2
          go_roundg (gk - 1)
          case measure => have := HKG.out; omega
          case rel => exact ⟨k + 1, _, by go_num, rfl, by have := HKG.out; omega, by omega, HXY.out, HN.out, rfl⟩
    · have hx2 : x.size ≤ 200 := by omega
      by_cases h1 : k < s.size
      · have h1b : decide ((k : Int) < (s.size : Int)) = true := decide_eq_true (by omega)
        have h2b : decide ((k : Int) < 200) = false := decide_eq_false (by omega)
        clear h
        go_wp2
        go_ret
        exact ⟨x, rfl, hx.out, hx2, rfl⟩
      · have h1b : decide ((k : Int) < (s.size : Int)) = false := decide_eq_false (by omega)
        clear h
        go_wp2
        go_ret
        exact ⟨x, rfl, hx.out, hx2, rfl⟩
section
variable {ops : Array Oper} {rest : List Oper} {o : Oper} {a : Act} {Q : Exit → Act → World → Prop}
/-- append([]Piece{p}, ps...) -/
theorem wp_consPiece {w0 W : World} (B base : Nat) (hgd : o.guard = none) (s x : Operand)
    (ho : o.op = .call { callee := .builtin .append, args := #[s, x], argTypes := #[45, 45] })
    (p : Pc) (cs : Array Value) (hcs : cs.toList = pcCells p) (v : Value) (ps : List Pc) (hs : a.eval s = .slice (some ⟨W.heap.size, 0, none⟩) 1 1) (hx : a.eval x = v) (h0 : ps ≠ [])
    (HO : Pcs base v ps W) (HB : Below B w0 W) (hBb : B ≤ base) (hbase : base ≤ W.heap.size) (hl : ps.length ≤ 1099511627776)
    (h : ∀ v1 w1, Pcs base v1 (p :: ps) w1 → Below B w0 w1 → W.heap.size ≤ w1.heap.size → wpList Tryd.prog ops Q rest (a.put o.dst v1) w1) :
    wpList Tryd.prog ops Q (o :: rest) a (W.alloc (.cells cs 52)) := by
  obtain ⟨i0, hi, hz0, hz1, hz2⟩ := info_parts pieceInfo
  have HO' : Pcs base v ps (W.alloc (.cells cs 52)) := own_below HO ((Below.refl _ W).alloc (Nat.le_refl _) _)
  have hpn : 0 < ps.length := List.length_pos_iff.2 h0
  have hcl : cs.size = 3 := by rw [← Array.length_toList, hcs]; rfl
  obtain ⟨g, cap, rfl, hbg, hcc⟩ := Pcs.form HO' hpn
  have HL : (W.alloc (.cells cs 52)).ownsRow base 52 3 (.slice (some ⟨W.heap.size, 0, none⟩) 1 1) 1 (pcCells p) := by
    rw [← hcs]
    exact World.ownsRow.mono (World.ownsRow_lit W cs 1 (Nat.le_refl _) (by decide) (by rw [hcl])) hbase
  have hpc : (ps.flatMap pcCells).length = ps.length * 3 := by
    clear HO HO' HL h hpn h0 hcc hl hx
    induction ps with
    | nil => rfl
    | cons p ps ih => simp [pcCells, ih]; omega
  refine wpList_append_own (W.alloc (.cells cs 52)) hgd s x 45 ho base 52 i0 (.agg #[.bool false, .string ⟨#[]⟩, .int .i64 0]) 3 32 Tryd.underlying45 hi hz0 hz1 hz2 rfl (by decide) (.slice (some ⟨W.heap.size, 0, none⟩) 1 1) 1 (pcCells p) hs HL
    ⟨g, 0, none⟩ ps.length cap (ps.flatMap pcCells) hx hpc ?_ ?_ (by simp only [maxLen]; omega) (by omega) (by simp; omega) ?_
  · exact World.ownsRow.cells HO' rfl
  · intro u hu
    obtain ⟨q, _, hq⟩ := List.mem_flatMap.1 hu
    simp only [pcCells, List.mem_cons, List.not_mem_nil, or_false] at hq
    rcases hq with rfl | rfl | rfl <;> rfl
  · intro v1 w1 hown hg _
    have hsz := hg.size
    refine h v1 w1 ?_ ((HB.alloc (Nat.le_trans hBb hbase) _).grown hg (by simp; omega) fun k hk => by simp [Value.ownBlock] at hk; omega) (by simp at hsz; omega)
    unfold Pcs
    rw [List.length_cons, Nat.add_comm, List.flatMap_cons]
    exact hown
end
theorem mask4095 (c : Int) : ∃ n : Nat, n ≤ 4095 ∧ bits .and .i64 c 4095 = (n : Int) :=
  ⟨(c % 4096).toNat, by omega, (i64_mask 12 (by decide) c).trans (by show c % 4096 = _; omega)⟩

set_option maxRecDepth 100000 in
set_option maxHeartbeats 4000000 in
theorem splitOne_calls (a b : ByteArray) (x : Int) (w : World) (hE : Env w) :
    Calls Tryd.prog 12 #[.string a, .string b, .int .i64 x] w fun e w' => e = .returned (.bool true) ∧ Below w.heap.size w w' := by
  obtain ⟨n, hn, hm⟩ := mask4095 x
  go_enter Tryd.func12, Tryd.ntmps12
  go_wp2_with fail
  refine (awake13_calls _ hE).mono ?_
  rintro e w1 ⟨rfl, hb1⟩
  go_wp2_with fail
  refine (plain13_calls a _).mono ?_
  rintro e w2 ⟨s, rfl, hs, hs2, rfl⟩
  go_wp2_with fail
  refine (plain13_calls b _).mono ?_
  rintro e w2 ⟨t, rfl, ht, ht2, rfl⟩
  go_wp2_with fail
  refine (decimal_calls n _ (by omega)).mono ?_
  rintro e w2 ⟨r, rfl, hr, hb2⟩
  have hdg := decR_digits n [] (by intro b hb; cases hb)
  have hdl := decR_len 4 n [] (by omega)
  have hrs : r.size ≤ 5 := by rw [hr.size]; exact hdl
  have hA : (⟨#[46, 107]⟩ ++ r : ByteArray).data.toList = 46 :: 107 :: decL n := by rw [ByteArray.data_append, Array.toList_append, hr]; rfl
  have hAs : (⟨#[46, 107]⟩ ++ r : ByteArray).size ≤ 7 := by rw [ByteArray.size_append]; show 2 + _ ≤ _; omega
  have hcA := cat_at ⟨#[46, 107]⟩ r (by show 2 + _ ≤ _; omega)
  have hp := splitR_one s.data.toList (decL n) t.data.toList hs ht hdg (by rw [size_list]; exact hs2) (by rw [size_list]; exact ht2) (by exact Nat.le_trans hdl (by simp))
  rw [← hA] at hp
  obtain ⟨A, hAA⟩ : ∃ A : ByteArray, A = ⟨#[46, 107]⟩ ++ r := ⟨_, rfl⟩
  rw [← hAA] at hp hAs hcA
  have HR := Lib.hid hb2
  clear hr hdg hdl hrs hA hAA hs ht
  have hc : ∀ p q : ByteArray, p.size ≤ 1000 → q.size ≤ 1000 → ∀ W, (Op.stringOp .add p q).run Tryd.prog W = .ok (.string (p ++ q)) W := fun p q hp hq W => cat_at p q (by omega) W
  obtain ⟨y1, h1⟩ : ∃ y : ByteArray, y = s ++ ⟨#[123, 123]⟩ := ⟨_, rfl⟩
  have c1 := hc s ⟨#[123, 123]⟩ (by omega) (by decide)
  have z1 : y1.size ≤ 202 := by rw [h1, ByteArray.size_append]; show _ + 2 ≤ _; omega
  rw [← h1] at c1
  obtain ⟨y2, h2⟩ : ∃ y : ByteArray, y = y1 ++ A := ⟨_, rfl⟩
  have c2 := hc y1 A (by omega) (by omega)
  have z2 : y2.size ≤ 209 := by rw [h2, ByteArray.size_append]; omega
  rw [← h2] at c2
  obtain ⟨y3, h3⟩ : ∃ y : ByteArray, y = y2 ++ ⟨#[125, 125, 123, 123, 32, 32]⟩ := ⟨_, rfl⟩
  have c3 := hc y2 ⟨#[125, 125, 123, 123, 32, 32]⟩ (by omega) (by decide)
  have z3 : y3.size ≤ 215 := by rw [h3, ByteArray.size_append]; show _ + 6 ≤ _; omega
  rw [← h3] at c3
  obtain ⟨y4, h4⟩ : ∃ y : ByteArray, y = y3 ++ A := ⟨_, rfl⟩
  have c4 := hc y3 A (by omega) (by omega)
  have z4 : y4.size ≤ 222 := by rw [h4, ByteArray.size_append]; omega
  rw [← h4] at c4
  obtain ⟨y5, h5⟩ : ∃ y : ByteArray, y = y4 ++ ⟨#[10, 125, 125]⟩ := ⟨_, rfl⟩
  have c5 := hc y4 ⟨#[10, 125, 125]⟩ (by omega) (by decide)
  have z5 : y5.size ≤ 225 := by rw [h5, ByteArray.size_append]; show _ + 3 ≤ _; omega
  rw [← h5] at c5
  obtain ⟨y6, h6⟩ : ∃ y : ByteArray, y = y5 ++ t := ⟨_, rfl⟩
  have c6 := hc y5 t (by omega) (by omega)
  rw [← h6] at c6
  have hl : y6.data.toList = s.data.toList ++ [123, 123] ++ A.data.toList ++ [125, 125, 123, 123, 32, 32] ++ A.data.toList ++ [10, 125, 125] ++ t.data.toList := by
    rw [h6, h5, h4, h3, h2, h1]
    simp [ByteArray.data_append]
  rw [← hl, size_list, size_list] at hp
  have HP := Lib.hid hp
  clear hp hl h1 h2 h3 h4 h5 h6 z1 z2 z3 z4 z5 hc
  go_wp2_with fail
  clear c1 c2 c3 c4 c5 c6 hcA
  refine (lexSplit_any _ _ ((hE.below hb1).below hb2)).mono ?_
  rintro e w4 ⟨v, ps, m, rfl, hP, hb4, hs⟩
  rw [HP.out] at hs
  obtain ⟨rfl, rfl⟩ := Prod.mk.inj hs.symm
  clear hs HP
  have hb12 := hb1.trans (hb2.mono hb1.size)
  have hbw := hb12.trans (hb4.mono hb12.size)
  go_upto_if 51 with (fail)
  have eA : (⟨A.data.toList.toArray⟩ : ByteArray) = A := (StrIs.eq (r := A) rfl).symm
  have es : (⟨s.data.toList.toArray⟩ : ByteArray) = s := (StrIs.eq (r := s) rfl).symm
  have et : (⟨t.data.toList.toArray⟩ : ByteArray) = t := (StrIs.eq (r := t) rfl).symm
  have hba := (Below.refl _ w4).alloc (Nat.le_refl _) (.cells #[.bool true, .string A, .int .i64 s.size, .bool true, .string A, .int .i64 ((s.size : Int) + A.size + 4)] 52)
  have hQ := pcs_lit w4 #[.bool true, .string A, .int .i64 s.size, .bool true, .string A, .int .i64 ((s.size : Int) + A.size + 4)] [⟨true, A.data.toList, s.size⟩, ⟨true, A.data.toList, s.size + A.size + 4⟩] 2 (by simp [pcCells, eA]) rfl (by omega)
  generalize w4.alloc (.cells #[.bool true, .string A, .int .i64 s.size, .bool true, .string A, .int .i64 ((s.size : Int) + A.size + 4)] 52) = w5 at *
  have hB5 := (Below.refl w4.heap.size w5)
  have hz5 := hba.size
  clear eA es et
  go_cut [12] (fun v12 wx => Pcs w4.heap.size v12 (txtP s.data.toList 0 ++ [⟨true, A.data.toList, s.size⟩, ⟨true, A.data.toList, s.size + A.size + 4⟩]) wx ∧ Below w4.heap.size w4 wx)
  case first =>
    cases h1 : s.toList.isEmpty with
    | true =>
      have h0 : s.size = 0 := Decidable.byContradiction fun h => by rw [nonempty_test h] at h1; cases h1
      have h2 : txtP s.data.toList 0 = [] := if_pos (nil_of_size h0)
      have H2 := Lib.hid h2
      clear h2 h0
      go_wp2
      go_meet
      exact ⟨by rw [H2.out]; exact hQ, hba⟩
    | false =>
      have h0 : ¬ s.size = 0 := fun h => by rw [empty_test h] at h1; cases h1
      have h2 : txtP s.data.toList 0 = [⟨false, s.data.toList, 0⟩] := if_neg fun h => h0 (by rw [← size_list, h]; rfl)
      have H2 := Lib.hid h2
      clear h2 h0
      go_wp2_with (at_builtin; refine wp_consPiece w4.heap.size w4.heap.size rfl (.tmp 54) (.tmp 55) rfl ⟨false, s.data.toList, 0⟩ _ ?hcs _ _ rfl rfl (by simp) hQ hba (Nat.le_refl _) hz5 (by simp) ?_; (case hcs => simp [pcCells]); intro v6 w6 hP6 hb6 hz6)
      go_meet
      exact ⟨by rw [H2.out]; exact hP6, hb6⟩
  case rest =>
  obtain ⟨hP6, hb6⟩ := hcut
  have hpl : (txtP s.data.toList 0 ++ ([⟨true, A.data.toList, s.size⟩, ⟨true, A.data.toList, s.size + A.size + 4⟩] : List Pc)).length ≤ 3 := by
    have := txtP_len s.data.toList 0
    simp only [List.length_append, List.length_cons, List.length_nil]
    omega
  generalize txtP s.data.toList 0 ++ ([⟨true, A.data.toList, s.size⟩, ⟨true, A.data.toList, s.size + A.size + 4⟩] : List Pc) = L at *
  go_upto_if 58 with (fail)
  have hz6 := hb6.size
  go_cut [12] (fun v12 wx => Pcs w4.heap.size v12 (L ++ txtP t.data.toList (s.size + 2 * A.size + 11)) wx ∧ Below w4.heap.size w4 wx)
  case first =>
    cases h1 : t.toList.isEmpty with
    | true =>
      have h0 : t.size = 0 := Decidable.byContradiction fun h => by rw [nonempty_test h] at h1; cases h1
      have h2 : txtP t.data.toList (s.size + 2 * A.size + 11) = [] := if_pos (nil_of_size h0)
      have H2 := Lib.hid h2
      clear h2 h0
      go_wp2
      go_meet
      exact ⟨by rw [H2.out, List.append_nil]; exact hP6, hb6⟩
    | false =>
      have h0 : ¬ t.size = 0 := fun h => by rw [empty_test h] at h1; cases h1
      have h2 : txtP t.data.toList (s.size + 2 * A.size + 11) = [⟨false, t.data.toList, s.size + 2 * A.size + 11⟩] := if_neg fun h => h0 (by rw [← size_list, h]; rfl)
      have H2 := Lib.hid h2
      clear h2 h0
      go_wp2_with (at_builtin; refine wp_appPiece w4.heap.size w4.heap.size rfl (.tmp 59) (.tmp 69) rfl _ L ⟨false, t.data.toList, s.size + 2 * A.size + 11⟩ _ 1 ?hcs rfl rfl hP6 hb6 (Nat.le_refl _) hz6 (by omega) ?_; (case hcs => simp [pcCells]); intro v7 w7 hP8 hb7 hg7)
      go_meet
      exact ⟨by rw [H2.out]; exact hP8, hb7⟩
  case rest =>
  obtain ⟨hP9, hb9⟩ := hcut
  have hP0 := own_below hP hb9
  have hbz := hbw.trans (hb9.mono hbw.size)
  generalize L ++ txtP t.data.toList (s.size + 2 * A.size + 11) = M at *
  clear hP6 hP
  go_wp2_with (go_at_call 18; go_in)
  refine (same_calls _ _ _ _ _ _ _ hP0 hP9).mono ?_
  rintro e w9 ⟨rfl, hb10⟩
  have hd : decide (M = M) = true := decide_eq_true rfl
  rw [hd]
  clear hd
  go_wp2
  go_ret
  exact ⟨rfl, hbz.trans (hb10.mono hbz.size)⟩
end Go.Proofs.YtblkbhomlblfnaaDoor.S
