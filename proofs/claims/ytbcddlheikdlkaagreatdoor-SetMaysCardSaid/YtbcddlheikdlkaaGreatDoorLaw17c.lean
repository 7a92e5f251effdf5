/-
  THE WALK of the law SetForms (chapter 17).
-/
import Derived.Test.YtbcddlheikdlkaaGreatDoorAwake17
import Derived.Test.YtbcddlheikdlkaaGreatDoorPlainN5
import Derived.Laws.MakeOwn
set_option linter.unusedVariables false
set_option linter.unusedSimpArgs false
namespace Go.Proofs.YtbcddlheikdlkaaGreatDoor.S
open Go.RowKit

theorem zeros_made17 (n : Nat) : (madeCells (Value.int .u8 0).cells (n * 1)).toList = Lib.byteCells (List.replicate n 0) := by
  apply List.ext_getElem
  · simp [madeCells, Lib.byteCells]
  · intro i h1 h2
    simp [madeCells, Lib.byteCells, Value.cells, Nat.mod_one]
theorem bytes_zeros17 {base : Nat} {v : Value} {w : World} (n : Nat) (h : w.ownsRow base 5 1 v n (madeCells (Value.int .u8 0).cells (n * 1)).toList) : Bytes base v (List.replicate n 0) w := by
  unfold Bytes
  rw [List.length_replicate, ← zeros_made17]
  exact h
theorem mask15c (c : Int) : ∃ n : Nat, n ≤ 15 ∧ bits .and .i64 c 15 = (n : Int) :=
  ⟨(c % 16).toNat, by omega, (i64_mask 4 (by decide) c).trans (by show c % 16 = _; omega)⟩
/-- an owned row of sources -/
def TpO (base : Nat) (v : Value) (ts : List Tp) (W : World) : Prop := W.ownsRow base 49 2 v ts.length (tpsCells ts)
theorem tpInfo : (Tryz.prog.info? 49).map (fun i => (i.zero, i.size, i.bytes)) = some (some (.agg #[.string ⟨#[]⟩, .string ⟨#[]⟩]), 2, 32) := by kernel_rfl
theorem tpO_nil (base : Nat) (W : World) : TpO base (.slice none 0 0) [] W := own_nil _ _ _ _
theorem TpO.v {base : Nat} {v : Value} {ts : List Tp} {W : World} (h : TpO base v ts W) (hl : ∀ t ∈ ts, t.1.length ≤ 9223372036854775807) : TpV v ts W := by
  have hr := h
  rcases h.2 with ⟨rfl, h0⟩ | ⟨g, cap, cur, rfl, hb, hh, h1, h2, h3⟩
  · refine ⟨none, 0, by rw [h0], by omega, by omega, fun k hk => ?_⟩
    rw [h0] at hk
    exact absurd hk (Nat.not_lt_zero _)
  · refine ⟨_, cap, rfl, h1, by unfold maxLen at h2; omega, fun k hk => ⟨g, 0, rfl, hl _ (List.getElem_mem hk), ?_, ?_⟩⟩
    · rw [Nat.zero_add]
      exact (World.ownsRow.cellAt hr (k * 2 + 0) (by omega)).trans (flatn_get tpCells 2 (fun _ => rfl) ts k hk 0 (by omega))
    · rw [Nat.zero_add]
      exact (World.ownsRow.cellAt hr (k * 2 + 1) (by omega)).trans (flatn_get tpCells 2 (fun _ => rfl) ts k hk 1 (by omega))
/-- append(ts, Template{..}) -/
theorem wp_appTp {a : Act} {o : Oper} {ops : Array Oper} {rest : List Oper} {Q : Exit → Act → World → Prop} {W : World} (base : Nat) (hgd : o.guard = none) (s x : Operand) (ho : o.op = .call { callee := .builtin .append, args := #[s, x], argTypes := #[33, 33] })
    (v : Value) (ts : List Tp) (t : Tp) (x1 x2 : ByteArray) (c : Nat) (hs : a.eval s = v) (hx : a.eval x = .slice (some ⟨W.heap.size, 0, none⟩) 1 c)
    (HR : TpO base v ts W) (h1 : StrIs x1 t.1) (h2 : StrIs x2 t.2) (hbase : base ≤ W.heap.size) (hn : ts.length ≤ 100000)
    (h : ∀ v1 w1, TpO base v1 (ts ++ [t]) w1 → (∀ w0, Below base w0 W → Below base w0 w1) → wpList Tryz.prog ops Q rest (a.put o.dst v1) w1) :
    wpList Tryz.prog ops Q (o :: rest) a (W.alloc (.cells #[.string x1, .string x2] 49)) := by
  obtain rfl := strIs_eq h1
  obtain rfl := strIs_eq h2
  refine wp_app1 tpInfo Tryz.underlying33 rfl (by decide) base hgd s x ho v ts.length (tpsCells ts) _ c hs hx rfl (by intro u hu; simp at hu; rcases hu with rfl | rfl <;> rfl) HR hbase (by simp only [maxLen]; omega) (by omega) ?_
  intro v1 w1 hown hg
  refine h v1 w1 ?_ fun w0 hb => hb.grown hg hbase fun k hk => own_base HR k hk
  unfold TpO tpsCells at *
  rw [List.length_append, List.flatMap_append]
  simpa [tpCells] using hown
def badV : List Value := badN.map fun l => .string ⟨l.toArray⟩
def goodV : List Value := goodN.map fun l => .string ⟨l.toArray⟩
theorem bad_cell (n : Nat) (h : n ≤ 5) : badV[n]? = some (.string ⟨(badN.getD n []).toArray⟩) := by
  rcases (show n = 0 ∨ n = 1 ∨ n = 2 ∨ n = 3 ∨ n = 4 ∨ n = 5 by omega) with rfl | rfl | rfl | rfl | rfl | rfl <;> rfl
theorem good_cell (n : Nat) (h : n ≤ 2) : goodV[n]? = some (.string ⟨(goodN.getD n []).toArray⟩) := by
  rcases (show n = 0 ∨ n = 1 ∨ n = 2 by omega) with rfl | rfl | rfl <;> rfl
theorem bad_len (n : Nat) (h : n ≤ 5) : (badN.getD n []).length ≤ 64 := by
  rcases (show n = 0 ∨ n = 1 ∨ n = 2 ∨ n = 3 ∨ n = 4 ∨ n = 5 by omega) with rfl | rfl | rfl | rfl | rfl | rfl <;> decide
theorem good_len (n : Nat) (h : n ≤ 2) : (goodN.getD n []).length ≤ 64 := by
  rcases (show n = 0 ∨ n = 1 ∨ n = 2 by omega) with rfl | rfl | rfl <;> decide
theorem f17_len (k i : Nat) : ∀ t ∈ formT k i, t.1.length ≤ 9223372036854775807 := by
  intro t ht
  unfold formT at ht
  obtain ⟨j, -, rfl⟩ := List.mem_map.1 ht
  have := dG_le j
  show ([110] ++ dG j).length ≤ _
  simp; omega
theorem join17 (a b : ByteArray) (l r : List UInt8) (h1 : StrIs a l) (h2 : StrIs b r) (h : l.length + r.length ≤ 100000) : ∃ c : ByteArray, StrIs c (l ++ r) ∧ ∀ W, (Op.stringOp .add a b).run Tryz.prog W = .ok (.string c) W := by
  refine ⟨a ++ b, ?_, fun W => run_string_add_sum W a b (by rw [h1.size, h2.size]; omega)⟩
  unfold StrIs at *
  rw [← h1, ← h2]
  simp [ByteArray.data_append]
set_option maxRecDepth 100000 in
set_option maxHeartbeats 16000000 in
theorem setForms_calls (which x : Int) (w : World) (hE : Env w) :
    Calls Tryz.prog 6 #[.int .i64 which, .int .i64 x] w fun e w' => e = .returned (.bool true) ∧ Below w.heap.size w w' := by
  obtain ⟨n15, hn15, hx15⟩ := mask15c x
  obtain ⟨k, hk⟩ : ∃ k : Nat, (10 : Int) + (n15 : Int) = (k : Int) := ⟨10 + n15, by omega⟩
  have hk10 : 10 ≤ k := by omega
  have hk25 : k ≤ 25 := by omega
  have HE := Lib.hid hE
  go_enter Tryz.func6, Tryz.ntmps6
  go_upto_region 3 with (go_at_call 23; refine (awake17_calls _ hE).mono ?_; rintro e w1 ⟨rfl, hb1⟩)
  clear hE
  obtain ⟨i0, hi, hz0, hz1, hz2⟩ := info_parts byteInfo
  obtain ⟨w6, hmk, hown, hg6⟩ := run_make_full (P := Tryz.prog) w1 w1.heap.size 52 5 i0 (.int .u8 0) 1 Tryz.underlying52 hi hz0 hz1 .i64 .i64 33 (by rw [hz2]; omega) (by simp only [maxLen]; omega) (Nat.le_refl _)
  rw [show (((33 : Nat) : Int)) = 33 from rfl] at hmk
  have hB6 := bytes_string (bytes_zeros17 33 hown)
  obtain ⟨Z, hZ⟩ : ∃ Z : ByteArray, Z = ⟨(List.replicate 33 0).toArray⟩ := ⟨_, rfl⟩
  rw [← hZ] at hB6
  have hbw : Below w.heap.size w w6 := hb1.grown hg6 hb1.size (fun k hk => by cases hk)
  have HZ := Lib.hid hZ
  clear hi hz0 hz1 hz2 hown hg6 hZ hb1
  go_upto_region 4 with (fail)
  refine wp_at_w17 ?_
  intro w7 hw7
  have hP : Blk w6.heap.size 9 badV w7 := by rw [hw7, HZ.out]; exact Blk.new w6 badV _
  have hb7 : Below w6.heap.size w6 w7 := by rw [hw7]; exact (Below.refl _ w6).alloc (Nat.le_refl _) _
  clear hw7 hmk hB6 HZ
  have hbw := hbw.trans (hb7.mono hbw.size)
  clear hb7
  generalize w6.heap.size = gp at *
  go_upto_region 5 with (fail)
  refine wp_at_w17 ?_
  intro w8 hw8
  have hQ : Blk w7.heap.size 9 goodV w8 := by rw [hw8]; exact Blk.new w7 goodV _
  have hb8 : Below w7.heap.size w7 w8 := by rw [hw8]; exact (Below.refl _ w7).alloc (Nat.le_refl _) _
  clear hw8
  have hP := hP.below hb8
  have hbw := hbw.trans (hb8.mono hbw.size)
  clear hb8
  generalize w7.heap.size = gq at *
  obtain ⟨n6, hn6, h5⟩ : ∃ n : Nat, wrap64 ((IntKind.u64.wrap which).tmod 6) = (n : Int) ∧ n ≤ 5 := by
    have h0 : 0 ≤ which % 18446744073709551616 := Int.emod_nonneg _ (by decide)
    refine ⟨((which % 18446744073709551616) % 6).toNat, ?_, by omega⟩
    rw [IntKind.wrap_u64, Int.tmod_eq_emod_of_nonneg h0]
    unfold wrap64
    omega
  obtain ⟨n3, hn3, h2⟩ : ∃ n : Nat, wrap64 ((IntKind.u64.wrap which).tmod 3) = (n : Int) ∧ n ≤ 2 := by
    have h0 : 0 ≤ which % 18446744073709551616 := Int.emod_nonneg _ (by decide)
    refine ⟨((which % 18446744073709551616) % 3).toNat, ?_, by omega⟩
    rw [IntKind.wrap_u64, Int.tmod_eq_emod_of_nonneg h0]
    unfold wrap64
    omega
  have c0 := hP.cell n6 _ (bad_cell n6 h5)
  have hR1 := bad_read n6 h5
  have hL1 := bad_len n6 h5
  obtain ⟨bl, hbl⟩ : ∃ l, l = badN.getD n6 [] := ⟨_, rfl⟩
  rw [← hbl] at c0 hR1 hL1
  have hbx := hbw.alloc hbw.size (.cells #[.string ⟨bl.toArray⟩, .string ⟨#[]⟩] 49)
  have HC1 := Lib.hid ((setRead_calls _ [(bl, [])] _ (HE.out.below hbx) (tps_lit w8 #[.string ⟨bl.toArray⟩, .string ⟨#[]⟩] _ 1 rfl rfl (by decide) (small_names (by intro t ht; simp at ht; subst ht; exact hL1)))).mono fun e w' h => (⟨h.2.1 1700 hR1, hbx.trans (h.2.2.mono hbx.size), ((Below.refl _ w8).alloc (Nat.le_refl _) _).trans (h.2.2.mono (by simp))⟩ : e = .returned (.tuple #[.slice none 0 0, .int .i64 1700]) ∧ Below w.heap.size w w' ∧ Below w8.heap.size w8 w'))
  generalize (⟨bl.toArray⟩ : ByteArray) = bs at *
  clear hbx hbl hR1 hL1 hP hbw
  go_upto_region 6 with (go_at_call 16; refine HC1.out.mono ?_; rintro e w9 ⟨rfl, hbw, hb9⟩)
  have hQ := hQ.below hb9
  have c1 := hQ.cell n3 _ (good_cell n3 h2)
  have hR2 := good_read n3 h2
  have hL2 := good_len n3 h2
  obtain ⟨gl, hgl⟩ : ∃ l, l = goodN.getD n3 [] := ⟨_, rfl⟩
  rw [← hgl] at c1 hR2 hL2
  have hbx := hbw.alloc hbw.size (.cells #[.string ⟨gl.toArray⟩, .string ⟨#[120]⟩] 49)
  have HC2 := Lib.hid ((setRead_calls _ [(gl, [120])] _ (HE.out.below hbx) (tps_lit w9 #[.string ⟨gl.toArray⟩, .string ⟨#[120]⟩] _ 1 rfl rfl (by decide) (small_names (by intro t ht; simp at ht; subst ht; exact hL2)))).mono fun e w' h => (by
    obtain ⟨nv, he, hN⟩ := h.1 _ hR2
    obtain ⟨na, nc, rfl⟩ := hN.slice
    exact ⟨na, nc, he, hbx.trans (h.2.2.mono hbx.size)⟩ : ∃ na nc, e = .returned (.tuple #[.slice na 1 nc, .int .i64 0]) ∧ Below w.heap.size w w'))
  generalize (⟨gl.toArray⟩ : ByteArray) = gs at *
  clear hbx hgl hR2 hL2 hQ hbw HC1 c0 hb9
  go_upto_region 7 with (go_at_call 16; refine HC2.out.mono ?_; rintro e w10 ⟨na, nc, rfl, hbw⟩)
  have HBW := Lib.hid hbw
  clear HC2 c1 hn6 hn3 h5 h2 hbw
  go_wp2
  clear hk hx15 hn15
  go_loopg [12, 13] k (fun gk v12 v13 wr => ∃ i : Nat, v13 = .int .i64 i ∧ i + gk = k ∧ TpO w.heap.size v12 (formT k i) wr ∧ Below w.heap.size w wr)
  case atStart => exact ⟨0, rfl, by omega, tpO_nil _ _, HBW.out⟩
  case round =>
    obtain ⟨i, rfl, hig, hT, hbr⟩ := hrel
    have HIG := Lib.hid hig
    have HT := Lib.hid hT
    have HBR := Lib.hid hbr
    have hil : i ≤ k := by omega
    obtain ⟨va, vc, rfl, -⟩ := own_slice hT
    clear hig hT hbr HBW
    by_cases hi : i < k
    · have hib : decide ((i : Int) < (k : Int)) = true := decide_eq_true (by omega)
      obtain ⟨j, hj⟩ : ∃ j : Nat, j = k - 1 - i := ⟨_, rfl⟩
      have hji : (k : Int) - 1 - (i : Int) = (j : Int) := by omega
      have hj25 : j < 26 := by omega
      have HJ := Lib.hid hj
      clear hj
      go_wp2_with fail
      refine (decimal_calls i _ (by omega)).mono ?_
      rintro e w11 ⟨d1, rfl, hd1, hb11⟩
      rw [dec_dG i (by omega)] at hd1
      have l1 := dG_le i
      obtain ⟨c1, hc1, hcat1⟩ := join17 ⟨#[110]⟩ d1 [110] (dG i) (by show _ = _; rfl) hd1 (by simp; omega)
      have HC1 := Lib.hid hc1
      clear hc1 hd1 l1
      go_wp2_with fail
      refine (decimal_calls j _ (by omega)).mono ?_
      rintro e w12 ⟨d2, rfl, hd2, hb12⟩
      rw [dec_dG j (by omega)] at hd2
      have l2 := dG_le j
      obtain ⟨c2, hc2, hcat2⟩ := join17 ⟨#[123, 123, 116, 101, 109, 112, 108, 97, 116, 101, 32, 34, 110]⟩ d2 [123, 123, 116, 101, 109, 112, 108, 97, 116, 101, 32, 34, 110] (dG j) (by show _ = _; rfl) hd2 (by simp; omega)
      obtain ⟨c3, hc3, hcat3⟩ := join17 c2 ⟨#[34, 125, 125]⟩ _ [34, 125, 125] hc2 (by show _ = _; rfl) (by simp; omega)
      have HC3 := Lib.hid hc3
      have hbx := HBR.out.trans ((hb11.trans (hb12.mono hb11.size)).mono HBR.out.size)
      have HBX := Lib.hid hbx
      have HTX := Lib.hid (show TpO w.heap.size (.slice va (formT k i).length vc) (formT k i) w12 from own_below HT.out (hb11.trans (hb12.mono hb11.size)))
      have HLN := Lib.hid (formT_len k i)
      clear hc2 hc3 hd2 l2 hbx hb11 hb12
      rw [formT_len] at HTX ⊢
      go_wp2_with (at_builtin; refine wp_appTp w.heap.size ?_ (.tmp 57) (.tmp 69) ?_ (.slice va i vc) (formT k i) (formS k i) c1 c3 1 ?_ ?_ HTX.out HC1.out (by rw [formS, ← HJ.out]; exact HC3.out) HBX.out.size ?_ ?_; rfl; rfl; rfl; rfl; (rw [formT_len]; omega); intro v5 w5 hN5 hb5; have HN5 := Lib.hid (show TpO w.heap.size v5 (formT k (i + 1)) w5 by rw [formT_succ]; exact hN5); have HB5 := Lib.hid (hb5 w HBX.out); clear hN5 hb5)
      go_roundg (gk - 1)
      case measure => have := HIG.out; omega
      case rel => exact ⟨i + 1, by go_num, by have := HIG.out; omega, HN5.out, HB5.out⟩
    · have hib : decide ((i : Int) < (k : Int)) = false := decide_eq_false (by omega)
      obtain rfl : i = k := by omega
      have hV := HT.out.v (f17_len i i)
      by_cases h16 : i ≤ 16
      · have h16b : decide ((i : Int) ≤ 16) = true := decide_eq_true (by omega)
        have hRd := f17_read i hk10 h16
        have hMy := f17_may i hk10 h16
        have HC3 := Lib.hid (setRead_calls _ _ _ (HE.out.below HBR.out) hV)
        rw [hRd] at HC3
        have HM := Lib.hid (fun nv W (h : NmV nv (formN i) W) => setMay_calls nv (formN i) W h (f17_ok i) (f17_names i))
        rw [hMy] at HM
        clear hV hRd hMy
        go_wp2_with (first | (go_at_call 16; refine HC3.out.mono ?_; rintro e w11 ⟨hok, -, hb11⟩; obtain ⟨nv, rfl, hN⟩ := hok _ rfl; have HNV := Lib.hid hN.v; have HB11 := Lib.hid hb11; clear hok hN hb11) | (go_at_call 11; go_in) | (go_at_call 20; refine (HM.out _ _ HNV.out).mono ?_; rintro e w12 ⟨rfl, hb12⟩; have HB12 := Lib.hid hb12; clear hb12))
        go_ret
        have h1 := HBR.out.trans (HB11.out.mono HBR.out.size)
        exact ⟨rfl, h1.trans (HB12.out.mono h1.size)⟩
      · have h16b : decide ((i : Int) ≤ 16) = false := decide_eq_false (by omega)
        have hRd := f17_big i (by omega)
        have HC3 := Lib.hid (setRead_calls _ _ _ (HE.out.below HBR.out) hV)
        rw [hRd] at HC3
        have HM := Lib.hid (fun W => setMay_calls _ [] W (nmV_nil W) (fun n hn => by cases hn) (fun n hn => by cases hn))
        rw [may17_0] at HM
        clear hV hRd
        go_wp2_with (first | (go_at_call 16; refine HC3.out.mono ?_; rintro e w11 ⟨-, hno, hb11⟩; obtain rfl := hno 1700 rfl; have HB11 := Lib.hid hb11; clear hno hb11) | (go_at_call 11; go_in) | (go_at_call 20; refine (HM.out _).mono ?_; rintro e w12 ⟨rfl, hb12⟩; have HB12 := Lib.hid hb12; clear hb12))
        go_ret
        have h1 := HBR.out.trans (HB11.out.mono HBR.out.size)
        exact ⟨rfl, h1.trans (HB12.out.mono h1.size)⟩
end Go.Proofs.YtbcddlheikdlkaaGreatDoor.S
