/-
  THE WALKS of slices.Clone over texts, package pipe's cut, arg.
-/
import Derived.Test.YtdaffedbboofjaaGreatDoorPipeW2
import Derived.Lib.SliceRun
import Derived.Deep.RegionWith
import Derived.Deep.RegionHeld3
set_option linter.unusedVariables false
set_option linter.unusedSimpArgs false
namespace Go.Proofs.YtdaffedbboofjaaGreatDoor.S
open Go.RowKit Instr

set_option maxHeartbeats 2000000 in
set_option maxRecDepth 100000 in
theorem clone_calls (base : Nat) (v : Value) (xs : List (List UInt8)) (w : World) (hP : Txs base v xs w) (hl : xs.length ≤ 1099511627776) :
    Calls Tryz.prog 176 #[v] w fun e w' => ∃ v', e = .returned v' ∧ Strs w.heap.size v' xs w' ∧ Below w.heap.size w w' := by
  obtain ⟨i0, hi, hz0, hz1, hz2⟩ := info_parts strInfo
  have q33 : ∀ (w : World) (a : Option Addr) (n c n' c' : Nat), (binOp .eql 33 (.slice a n c) (.slice none n' c')).run Tryz.prog w = .ok (.bool a.isNone) w := fun w a n c n' c' => Lib.run_eql_slice_nil w _ _ a n c n' c' Tryz.underlying33
  obtain ⟨a, c, rfl⟩ := hP.slice
  cases a with
  | none =>
    have h0 : xs = [] := by
      rcases hP with ⟨h, _⟩ | h
      · exact h
      · rcases h.2 with ⟨_, h0⟩ | ⟨g, cap, cur, hv, _⟩
        · exact List.eq_nil_of_length_eq_zero h0
        · cases hv
    subst h0
    go_enter Tryz.func176, Tryz.ntmps176
    go_wp2
    go_ret
    exact ⟨_, rfl, strs_nil _ _, Below.refl _ _⟩
  | some ad =>
    have hnews : ∀ j u, (xs.flatMap stCells)[j]? = some u → w.cell? (ad.add j) = some u := by
      intro j u hj
      rcases hP with ⟨h, _⟩ | h
      · subst h; simp at hj
      · have hlt : 0 < xs.length := by
          cases xs with
          | nil => simp at hj
          | cons x t => simp
        obtain ⟨b, cap, hv⟩ := h.form hlt
        obtain ⟨h1, -, -⟩ := Value.slice.inj hv
        injection h1 with h1
        subst h1
        exact World.ownsRow.cells h rfl j u hj
    have hln : (xs.flatMap stCells).length = xs.length := by
      clear hP hnews hl
      induction xs with
      | nil => rfl
      | cons x xs ih => rw [List.flatMap_cons, List.length_append, ih]; simp [stCells]; omega
    have HN := Lib.hid hnews
    have HL := Lib.hid hln
    clear hnews hP hln
    go_enter Tryz.func176, Tryz.ntmps176
    go_wp2_with (at_builtin; refine wpList_append_own _ rfl _ _ 33 rfl w.heap.size 9 i0 (.string { data := #[] }) 1 16 Tryz.underlying33 hi hz0 hz1 hz2 rfl (by decide) _ _ _ rfl (World.ownsRow_made w #[] 0 (Nat.le_refl _) (Nat.zero_le _) rfl) ad xs.length c (xs.flatMap stCells) rfl ?qc1 ?qc2 ?qc3 ?qc4 ?qc5 ?qc6 ?_)
    case qc1 => rw [HL.out]; simp
    case qc2 => exact fun j u hj => Lib.cell?_alloc_some _ (HN.out j u hj)
    case qc3 =>
      intro u hu
      obtain ⟨x, _, hx⟩ := List.mem_flatMap.1 hu
      simp only [stCells, List.mem_singleton] at hx
      subst hx
      rfl
    case qc4 => unfold maxLen; omega
    case qc5 => omega
    case qc6 => simp
    intro v' w1 hown hgrow hnil
    go_wp2
    go_ret
    refine ⟨v', rfl, ?_, ((Below.refl _ w).alloc (Nat.le_refl _) _).grown hgrow (by simp) (by intro k hk; simp [Value.ownBlock] at hk; omega)⟩
    unfold Strs
    simpa using hown
theorem cutI_at : ∀ (ds : List Wd) (k : Nat) (hk : k < ds.length), k ≤ cutN ds → (ds[k].kind = 5 → cutN ds = k) ∧ (ds[k].kind ≠ 5 → k + 1 ≤ cutN ds)
  | d :: ds, 0, _, _ => by
    unfold cutN
    constructor
    · intro h
      rw [if_pos (by simpa using h)]
    · intro h
      rw [if_neg (by simpa using h)]
      omega
  | d :: ds, k + 1, hk, h => by
    rw [cutN] at h ⊢
    split at h
    · omega
    · rename_i hd
      rw [if_neg hd]
      have ih := cutI_at ds k (by simpa using hk) (by omega)
      simp only [List.getElem_cons_succ]
      exact ⟨fun e => by rw [ih.1 e], fun e => by have := ih.2 e; omega⟩
theorem isPipe_calls (kd : Nat) (t : ByteArray) (pv : Value) (nm : Int) (w : World) (b : Bool) (hb : ((kd : Int) == 5) = b) :
    Calls Tryz.prog 158 #[.agg #[.int .i64 kd, .string t, pv, .int .i64 nm]] w fun e w' => e = .returned (.bool b) ∧ Below w.heap.size w w' := by
  have HB := Lib.hid hb
  clear hb
  go_enter Tryz.func158, Tryz.ntmps158
  go_wp2
  go_ret
  exact ⟨by rw [← HB.out]; rfl, (Below.refl _ _).alloc (Nat.le_refl _) _⟩
set_option maxRecDepth 100000 in
set_option maxHeartbeats 4000000 in
theorem indexPipe_calls (v : Value) (ds : List Wd) (w : World) (hV : WdV v ds w) :
    Calls Tryz.prog 157 #[v, .func (Fn.func 158) #[] #[]] w fun e w' => ∃ i : Int, e = .returned (.int .i64 i) ∧ (cutN ds < ds.length → i = cutN ds) ∧ (¬ cutN ds < ds.length → i = -1) ∧ Below w.heap.size w w' := by
  have hV' := hV
  obtain ⟨a, c, rfl, hc1, hc2, hc⟩ := hV
  have hle := cutN_le ds
  have hA := fun k hk h => cutI_at ds k hk h
  have HA := Lib.hid hA
  have HLE := Lib.hid hle
  clear hc hA hle
  go_enter Tryz.func157, Tryz.ntmps157
  go_wp2
  go_loopg [8] ds.length (fun gk v8 wr => ∃ k : Nat, k + gk = ds.length ∧ v8 = .int .i64 k ∧ Hid (k ≤ cutN ds) ∧ Below w.heap.size w wr)
  case atStart => exact ⟨0, by omega, rfl, Nat.zero_le _, Below.refl _ _⟩
  case round =>
    obtain ⟨k, hkg, rfl, hkc, hbr⟩ := hrel
    have HKG := Lib.hid hkg
    have hkl : k ≤ ds.length := by omega
    clear hkg
    by_cases hk : k < ds.length
    · obtain ⟨a', c', hv, h1, h2, hc⟩ := hV'.below hbr
      obtain ⟨rfl, -, rfl⟩ := Value.slice.inj hv
      obtain ⟨g, off, pv, rfl, e0, e1, e2, e3, hp⟩ := hc k hk
      have hAK := HA.out k hk hkc.out
      have hb : decide ((k : Int) < (ds.length : Int)) = true := decide_eq_true (by omega)
      generalize (⟨ds[k].text.toArray⟩ : ByteArray) = t at *
      generalize ds[k].kind = kd at *
      generalize ds[k].num = nm at *
      clear hv hc hp h1 h2
      have HAK := Lib.hid hAK
      clear hAK
      by_cases h5 : kd = 5
      · have hT := fun W => isPipe_calls kd t pv nm W true (beq_iff_eq.2 (by omega))
        have h6 := HAK.out.1 h5
        have H6 := Lib.hid h6
        clear h5 h6
        go_wp2_with fail
        refine (hT _).mono ?_
        rintro e w1 ⟨rfl, hb1⟩
        go_wp2
        go_ret
        exact ⟨k, rfl, fun _ => by rw [H6.out], fun h => absurd (by rw [H6.out]; exact hk) h, hbr.trans (hb1.mono hbr.size)⟩
      · have hT := fun W => isPipe_calls kd t pv nm W false (beq_eq_false_iff_ne.2 (by omega))
        have h6 := HAK.out.2 h5
        have H6 := Lib.hid h6
        clear h5 h6
        go_wp2_with fail
        refine (hT _).mono ?_
        rintro e w1 ⟨rfl, hb1⟩
        go_wp2
        go_roundg (gk - 1)
        case measure => have := HKG.out; omega
        case rel => exact ⟨k + 1, by have := HKG.out; omega, by go_num, H6.out, hbr.trans (hb1.mono hbr.size)⟩
    · have hb : decide ((k : Int) < (ds.length : Int)) = false := decide_eq_false (by omega)
      go_wp2
      go_ret
      exact ⟨-1, rfl, fun h => by have h1 := hkc.out; omega, fun h => rfl, hbr⟩
theorem wdV_nil (w : World) : WdV (.slice none 0 0) [] w := ⟨none, 0, rfl, Nat.le_refl _, by decide, fun k hk => by simp at hk⟩
set_option maxRecDepth 100000 in
set_option maxHeartbeats 4000000 in
theorem cut_calls (v : Value) (ds : List Wd) (w0 w : World) (hV : WdV v ds w0) (hb0 : Below w0.heap.size w0 w) :
    Calls Tryz.prog 120 #[v] w fun e w' => ∃ v1 v2, e = .returned (.tuple #[v1, v2, .bool (decide (cutN ds < ds.length))]) ∧ WdV v1 (ds.take (cutN ds)) w0 ∧ WdV v2 (ds.drop (cutN ds + 1)) w0 ∧ Below w.heap.size w w' := by
  have hI := indexPipe_calls v ds w (hV.below hb0)
  by_cases h : cutN ds < ds.length
  · have hI : Calls Tryz.prog 157 #[v, .func (Fn.func 158) #[] #[]] w fun e w' => e = .returned (.int .i64 (cutN ds)) ∧ Below w.heap.size w w' := hI.mono fun e w' ⟨i, he, h1, _, hb⟩ => ⟨by rw [he, h1 h], hb⟩
    rw [decide_eq_true h]
    have hV' := hV
    obtain ⟨a, c, rfl, hc1, hc2, hc⟩ := hV'
    have hD := hV.drop (cutN ds + 1) (by omega)
    have hT := hV.take (cutN ds) (by omega)
    have rT := fun W => run_take (a := a) (n := ds.length) (c := c) (cutN ds) (by omega) W
    have rD := fun W => run_drop (a := a) (n := ds.length) (c := c) (cutN ds + 1) (by omega) (by omega) W
    rw [show ((cutN ds + 1 : Nat) : Int) = (cutN ds : Int) + 1 from rfl] at rD
    have hi64 : IntKind.i64.wrap ((cutN ds : Int) + 1) = (cutN ds : Int) + 1 := IntWalk.i64_in _ (by omega)
    have hneg : decide ((cutN ds : Int) < 0) = false := decide_eq_false (by omega)
    generalize sliced a 0 (cutN ds) c 4 = v1 at *
    generalize sliced a (cutN ds + 1) ds.length c 4 = v2 at *
    generalize ds.take (cutN ds) = d1 at *
    generalize ds.drop (cutN ds + 1) = d2 at *
    generalize cutN ds = n at *
    clear hc hV h hc1 hc2
    go_enter Tryz.func120, Tryz.ntmps120
    go_wp2_with fail
    refine hI.mono ?_
    rintro e w1 ⟨rfl, hb1⟩
    clear hI
    go_upto_region 4 with (fail)
    go_quiet (fail)
    go_wp2
    go_ret3
    exact ⟨v1, v2, rfl, hT, hD, Below.drewN hb1 _⟩
  · have hI : Calls Tryz.prog 157 #[v, .func (Fn.func 158) #[] #[]] w fun e w' => e = .returned (.int .i64 (-1)) ∧ Below w.heap.size w w' := hI.mono fun e w' ⟨i, he, _, h1, hb⟩ => ⟨by rw [he, h1 h], hb⟩
    have hn : cutN ds = ds.length := by have := cutN_le ds; omega
    have hT : ds.take (cutN ds) = ds := by rw [hn, List.take_length]
    have hD : ds.drop (cutN ds + 1) = [] := by rw [hn, List.drop_eq_nil_of_le (by omega)]
    rw [decide_eq_false h, hT, hD]
    clear hT hD hn h
    go_enter Tryz.func120, Tryz.ntmps120
    go_wp2_with fail
    refine hI.mono ?_
    rintro e w1 ⟨rfl, hb1⟩
    clear hI
    go_wp2
    go_ret3
    exact ⟨v, _, rfl, hV, wdV_nil _, hb1⟩
end Go.Proofs.YtdaffedbboofjaaGreatDoor.S
