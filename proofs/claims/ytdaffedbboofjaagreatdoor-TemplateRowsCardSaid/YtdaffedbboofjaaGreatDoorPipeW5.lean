/-
  THE WALK of package pipe's cmd.
-/
import Derived.Test.YtdaffedbboofjaaGreatDoorPipeW4
set_option linter.unusedVariables false
set_option linter.unusedSimpArgs false
namespace Go.Proofs.YtdaffedbboofjaaGreatDoor.S
open Go.RowKit

def CmdPost (T : Option Cm) (w : World) (e : Ending) (w' : World) : Prop :=
  (∀ c, T = some c → ∃ av, e = .returned (.tuple #[.agg (cmCells c av).toArray, .bool true]) ∧ Ars w.heap.size av c.args w') ∧ (T = none → e = .returned (.tuple #[.agg #[.string ⟨#[]⟩, .slice none 0 0], .bool false])) ∧ Below w.heap.size w w'
theorem CmdPost.ok {T : Option Cm} {w w' : World} {c : Cm} {av : Value} (h : T = some c) (hp : Ars w.heap.size av c.args w') (hb : Below w.heap.size w w') : CmdPost T w (.returned (.tuple #[.agg (cmCells c av).toArray, .bool true])) w' :=
  ⟨(fun c' h' => by rw [h] at h'; cases h'; exact ⟨av, rfl, hp⟩), (fun h' => by rw [h] at h'; cases h'), hb⟩
theorem CmdPost.no {T : Option Cm} {w w' : World} (h : T = none) (hb : Below w.heap.size w w') : CmdPost T w (.returned (.tuple #[.agg #[.string ⟨#[]⟩, .slice none 0 0], .bool false])) w' :=
  ⟨(fun c' h' => by rw [h] at h'; cases h'), fun _ => rfl, hb⟩
/-- what is read so far, and the rest, make the whole -/
def ArgsAt (T : Option (List Ar)) (acc : List Ar) (ds : List Wd) : Prop := T = (argsL ds).map (acc ++ ·)
theorem ArgsAt.go {T : Option (List Ar)} {acc : List Ar} {d : Wd} {ds : List Wd} {a : Ar} (h : ArgsAt T acc (d :: ds)) (ha : argL d = some a) : ArgsAt T (acc ++ [a]) ds := by
  unfold ArgsAt at *
  rw [h, argsL, ha]
  dsimp only
  cases argsL ds <;> simp
theorem ArgsAt.no {T : Option (List Ar)} {acc : List Ar} {d : Wd} {ds : List Wd} (h : ArgsAt T acc (d :: ds)) (ha : argL d = none) : T = none := by
  unfold ArgsAt at h
  rw [h, argsL, ha]
  rfl
theorem ArgsAt.done {T : Option (List Ar)} {acc : List Ar} (h : ArgsAt T acc []) : T = some acc := by
  unfold ArgsAt at h
  rw [h, argsL]
  simp
theorem drop_cons' {α : Type} (l : List α) (k : Nat) (h : k < l.length) : l.drop k = l[k] :: l.drop (k + 1) := List.drop_eq_getElem_cons h
theorem cmd_nil (first : Bool) : cmdL [] first = none := rfl
theorem cmd_fn {d : Wd} {r : List Wd} {first : Bool} (h : fnWord d = true) : cmdL (d :: r) first = (argsL r).map fun xs => ⟨d.text, xs⟩ := by
  show (if fnWord d = true then _ else _) = _
  rw [if_pos h]
theorem cmd_one {d : Wd} {first : Bool} (h : fnWord d = false) (hf : first = true) : cmdL [d] first = (argsL [d]).map fun xs => ⟨[], xs⟩ := by
  show (if fnWord d = true then _ else _) = _
  rw [if_neg (by rw [h]; decide), hf]
  rfl
theorem cmd_none {d : Wd} {r : List Wd} {first : Bool} (h : fnWord d = false) (hf : first = false ∨ r ≠ []) : cmdL (d :: r) first = none := by
  show (if fnWord d = true then _ else _) = _
  rw [if_neg (by rw [h]; decide), if_neg]
  rcases hf with hf | hf
  · rw [hf]; simp
  · cases r with
    | nil => exact absurd rfl hf
    | cons a t => simp
def fnHead (ds : List Wd) : Bool := match ds with
  | [] => false
  | d :: _ => fnWord d
theorem fnHead_cons (d : Wd) (r : List Wd) : fnHead (d :: r) = (d.kind == 0 && isFn d.text) := rfl
set_option maxRecDepth 100000 in
set_option maxHeartbeats 16000000 in
theorem cmd_calls (v : Value) (ds : List Wd) (first : Bool) (w : World) (hV : WdV v ds w) (hd : ∀ d ∈ ds, WdOk d) (hl : ds.length ≤ 1099511627776) :
    Calls Tryz.prog 121 #[v, .bool first] w (CmdPost (cmdL ds first) w) := by
  obtain ⟨T, hT⟩ : ∃ T, T = cmdL ds first := ⟨_, rfl⟩
  rw [← hT]
  obtain ⟨a, c, hv⟩ := hV.slice
  obtain ⟨n, hn⟩ : ∃ n, n = ds.length := ⟨_, rfl⟩
  rw [← hn] at hv hl
  subst hv
  have hcn : n ≤ c ∧ c ≤ 9223372036854775807 := by
    obtain ⟨_, _, hv, h1, h2, _⟩ := hV
    obtain ⟨-, rfl, rfl⟩ := Value.slice.inj hv
    exact ⟨h1, h2⟩
  have HN := Lib.hid hn
  clear hn
  have HT := Lib.hid hT
  clear hT
  have hR0 : Blk w.heap.size 46 [.string ⟨#[]⟩, .slice none 0 0] (w.alloc (.cells #[.string ⟨#[]⟩, .slice none 0 0] 46)) := Blk.new w _ _
  have hO0 : Blk (w.alloc (.cells #[.string ⟨#[]⟩, .slice none 0 0] 46)).heap.size 46 [.string ⟨#[]⟩, .slice none 0 0] ((w.alloc (.cells #[.string ⟨#[]⟩, .slice none 0 0] 46)).alloc (.cells #[.string ⟨#[]⟩, .slice none 0 0] 46)) := Blk.new _ _ _
  have hz0 : (w.alloc (.cells #[.string ⟨#[]⟩, .slice none 0 0] 46)).heap.size = w.heap.size + 1 := by simp
  have hb1 : Below (w.alloc (.cells #[.string ⟨#[]⟩, .slice none 0 0] 46)).heap.size (w.alloc (.cells #[.string ⟨#[]⟩, .slice none 0 0] 46)) ((w.alloc (.cells #[.string ⟨#[]⟩, .slice none 0 0] 46)).alloc (.cells #[.string ⟨#[]⟩, .slice none 0 0] 46)) := (Below.refl _ _).alloc (Nat.le_refl _) _
  have hb0 : Below w.heap.size w (w.alloc (.cells #[.string ⟨#[]⟩, .slice none 0 0] 46)) := (Below.refl _ w).alloc (Nat.le_refl _) _
  have hR1 := hR0.below hb1
  rw [hz0] at hO0
  have hb2 := hb0.trans (hb1.mono hb0.size)
  have hz2 : ((w.alloc (.cells #[.string ⟨#[]⟩, .slice none 0 0] 46)).alloc (.cells #[.string ⟨#[]⟩, .slice none 0 0] 46)).heap.size = w.heap.size + 2 := by simp
  clear hb0 hb1 hR0
  go_enter Tryz.func121, Tryz.ntmps121
  go_upto_region 2 with (fail)
  clear hz0
  generalize (w.alloc (.cells #[.string ⟨#[]⟩, .slice none 0 0] 46)).alloc (.cells #[.string ⟨#[]⟩, .slice none 0 0] 46) = w2 at *
  have hV2 := hV.below hb2
  have hzz : w.heap.size + 1 < w2.heap.size := hO0.lt
  go_cut [26] (fun v26 wx => v26 = .bool (fnHead ds) ∧ w2 = wx)
  case first =>
    cases ds with
    | nil =>
      obtain rfl : n = 0 := HN.out
      go_wp2_with fail
      go_meet
      exact ⟨rfl, rfl⟩
    | cons d r =>
      obtain ⟨a', c', hv, h1, h2, hc⟩ := hV2
      obtain ⟨rfl, -, rfl⟩ := Value.slice.inj hv
      obtain ⟨g, off, pv, rfl, e0, e1, e2, e3, hp⟩ := hc 0 (by simp)
      have hn0 : 0 < n := by rw [HN.out]; simp
      have hb : decide ((0 : Int) < (n : Int)) = true := decide_eq_true (by omega)
      rw [Nat.zero_mul, Nat.add_zero] at e0 e1
      simp only [List.getElem_cons_zero] at e0 e1
      have hst : StrIs (⟨d.text.toArray⟩ : ByteArray) d.text := rfl
      have HF := Lib.hid (fnHead_cons d r)
      have HFC := Lib.hid (fun W => fn_calls _ _ hst W)
      generalize (⟨d.text.toArray⟩ : ByteArray) = t at *
      clear hv hc hp e2 e3 hst hd hV hR1 hO0 hb2 h1 h2 hl
      by_cases hk : d.kind = 0
      · have hkb : ((d.kind : Int) == 0) = true := beq_iff_eq.2 (by omega)
        have hfe : fnHead (d :: r) = isFn d.text := by rw [HF.out, hk]; rfl
        have HFE := Lib.hid hfe
        clear hfe hk
        go_wp2_with (go_at_call 128; refine (HFC.out _).mono ?_; rintro e w' ⟨rfl, rfl⟩)
        go_meet
        exact ⟨by rw [HFE.out], rfl⟩
      · have hkb : ((d.kind : Int) == 0) = false := beq_eq_false_iff_ne.2 (by omega)
        have hfe : fnHead (d :: r) = false := by rw [HF.out, show (d.kind == 0) = false from beq_eq_false_iff_ne.2 hk]; rfl
        have HFE := Lib.hid hfe
        clear hfe hk
        go_wp2_with fail
        go_meet
        exact ⟨by rw [HFE.out], rfl⟩
  case rest =>
  obtain ⟨rfl, rfl⟩ := hcut
  go_upto_if 26 with (fail)
  go_cut [0] (fun v0 wx => ∃ (fn : ByteArray) (fl : List UInt8) (ds' : List Wd), StrIs fn fl ∧ WdV v0 ds' w ∧ (∀ d ∈ ds', WdOk d) ∧ ds'.length ≤ 1099511627776 ∧ Hid (T = (argsL ds').map fun xs => ⟨fl, xs⟩) ∧ Blk (w.heap.size + 1) 46 [.string fn, .slice none 0 0] wx ∧ Blk w.heap.size 46 [.string ⟨#[]⟩, .slice none 0 0] wx ∧ Below w.heap.size w wx)
  case first =>
    have o0 := hO0.cell 0 _ rfl
    have of0 := hO0.free 0
    have r0 := hR1.cell 0 _ rfl
    have r1 := hR1.cell 1 _ rfl
    have rf0 := hR1.free 0
    have rf1 := hR1.free 1
    cases hf : fnHead ds with
    | true =>
      cases ds with
      | nil => cases hf
      | cons d r =>
        have hw : fnWord d = true := hf
        have hT := HT.out
        rw [cmd_fn hw] at hT
        have hD := hV.drop 1 (by simp)
        have hn0 : 0 < n := by rw [HN.out]; simp
        have rD := fun W => run_drop (a := a) (n := n) (c := c) 1 (by omega) (by omega) W
        obtain ⟨a', c', hv, h1, h2, hc⟩ := hV2
        obtain ⟨rfl, -, rfl⟩ := Value.slice.inj hv
        obtain ⟨g, off, pv, rfl, e0, e1, e2, e3, hp⟩ := hc 0 (by simp)
        rw [Nat.zero_mul, Nat.add_zero] at e0 e1
        simp only [List.getElem_cons_zero] at e0 e1
        have hst : StrIs (⟨d.text.toArray⟩ : ByteArray) d.text := rfl
        have hbl : decide ((1 : Int) ≤ (n : Int)) = true := decide_eq_true (by omega)
        rw [List.drop_succ_cons, List.drop_zero] at hD
        have hdr : ∀ x ∈ r, WdOk x := fun x hx => hd x (List.mem_cons_of_mem _ hx)
        have hlr : r.length ≤ 1099511627776 := by have h := HN.out; rw [List.length_cons] at h; omega
        rw [Int.natCast_one] at rD
        generalize (⟨d.text.toArray⟩ : ByteArray) = t at *
        generalize sliced (some ⟨g, off, none⟩) 1 n c 4 = v1 at *
        have hgs := grownBy_set w2 (w.heap.size + 1) 0 (.string t)
        have HTT := Lib.hid hT
        clear hv hc hp e2 e3 hf hw hT
        go_wp2_with fail
        go_meet
        exact ⟨t, d.text, r, hst, hD, hdr, hlr, HTT.out, hO0.set 0 _, hR1.grown hgs (by simp), hb2.setCell (by simp) _⟩
    | false =>
      have hno : (first = false ∨ n ≠ 1) → T = none := by
        intro h
        rw [HT.out]
        cases ds with
        | nil => rfl
        | cons d r =>
          refine cmd_none hf (h.imp id fun h e => h ?_)
          rw [HN.out, e]
          rfl
      have hyes : first = true → n = 1 → T = (argsL ds).map fun xs => ⟨[], xs⟩ := by
        intro h h1
        rw [HT.out]
        cases ds with
        | nil => have := HN.out; simp at this; omega
        | cons d r =>
          cases r with
          | nil => exact cmd_one hf h
          | cons x y => have := HN.out; simp at this; omega
      have HNO := Lib.hid hno
      have HYES := Lib.hid hyes
      clear hno hyes hf
      have hbz := (hb2.setCell (p := ⟨w.heap.size, 0, none⟩) (Nat.le_refl _) (.string ⟨#[]⟩)).setCell (p := ⟨w.heap.size, 1, none⟩) (Nat.le_refl _) (.slice none 0 0)
      have hRz := (hR1.set 0 (.string ⟨#[]⟩)).set 1 (.slice none 0 0)
      cases first with
      | false =>
        have hT := HNO.out (.inl rfl)
        have HTN := Lib.hid hT
        clear hT
        go_wp2
        generalize w2.setCell ⟨w.heap.size, 0, none⟩ (.string ⟨#[]⟩) = w39 at *
        generalize w39.setCell ⟨w.heap.size, 1, none⟩ (.slice none 0 0) = w40 at *
        have d0 := hRz.cell 0 _ rfl
        have d1 := hRz.cell 1 _ rfl
        refine bodyPost_ret (v := .tuple #[.agg #[.string ⟨#[]⟩, .slice none 0 0], .bool false]) (by simp [results, Tryz.results121, go_sem, d0, d1]) rfl ?_
        exact CmdPost.no HTN.out hbz
      | true =>
        by_cases h1 : n = 1
        · have hT := HYES.out rfl h1
          subst h1
          have HTT := Lib.hid hT
          have hlr : ds.length ≤ 1099511627776 := by rw [← HN.out]; exact hl
          clear hT
          go_wp2_with fail
          go_meet
          exact ⟨⟨#[]⟩, [], ds, rfl, hV, hd, hlr, HTT.out, hO0, hR1, hb2⟩
        · have hT := HNO.out (.inr h1)
          have HTN := Lib.hid hT
          have h1b : ((n : Int) == 1) = false := beq_eq_false_iff_ne.2 (by omega)
          have h1c : ((n : Int) != 1) = true := by rw [bne, h1b]; rfl
          clear hT
          go_wp2
          generalize w2.setCell ⟨w.heap.size, 0, none⟩ (.string ⟨#[]⟩) = w39 at *
          generalize w39.setCell ⟨w.heap.size, 1, none⟩ (.slice none 0 0) = w40 at *
          have d0 := hRz.cell 0 _ rfl
          have d1 := hRz.cell 1 _ rfl
          refine bodyPost_ret (v := .tuple #[.agg #[.string ⟨#[]⟩, .slice none 0 0], .bool false]) (by simp [results, Tryz.results121, go_sem, d0, d1]) rfl ?_
          exact CmdPost.no HTN.out hbz
  case rest =>
  clear hV2 hO0 hR1 hb2 hz2 hzz
  obtain ⟨fn, fl, es, hfn, hV2, hes, hel, hTE, hO2, hR2, hb2⟩ := hcut
  clear hV hd hl HT HN hcn
  obtain ⟨b, q, hv⟩ := hV2.slice
  subst hv
  obtain ⟨U, hU⟩ : ∃ U, U = argsL es := ⟨_, rfl⟩
  have hAA : ArgsAt U [] es := by
    unfold ArgsAt
    rw [hU]
    cases argsL es <;> rfl
  rw [← hU] at hTE
  clear hU
  go_wp2_with fail
  go_loopg [44] es.length (fun gk v44 wr => ∃ (k : Nat) (acc : List Ar) (av : Value), k + gk = es.length ∧ v44 = .int .i64 k ∧ acc.length ≤ k ∧ Hid (ArgsAt U acc (es.drop k)) ∧ Blk (w.heap.size + 1) 46 [.string fn, av] wr ∧ Blk w.heap.size 46 [.string ⟨#[]⟩, .slice none 0 0] wr ∧ Ars (w.heap.size + 2) av acc wr ∧ Below w.heap.size w wr)
  case atStart => exact ⟨0, [], _, by omega, rfl, by simp, hAA, hO2, hR2, ars_nil _ _, hb2⟩
  case round =>
    obtain ⟨k, acc, av, hkg, rfl, hak, hA, hO, hR, hS, hbr⟩ := hrel
    have HKG := Lib.hid hkg
    have hkl : k ≤ es.length := by omega
    clear hkg hAA
    obtain ⟨sa, sc, rfl⟩ := hS.slice
    have hzw : w.heap.size + 1 < wr.heap.size := hO.lt
    by_cases hk : k < es.length
    · obtain ⟨a', c', hv, h1, h2, hc⟩ := hV2.below hbr
      obtain ⟨rfl, -, rfl⟩ := Value.slice.inj hv
      obtain ⟨g, off, pv, rfl, e0, e1, e2, e3, hp⟩ := hc k hk
      have hb : decide ((k : Int) < (es.length : Int)) = true := decide_eq_true (by omega)
      have hC := arg_calls g (off + k * 4) 0 es[k] pv wr (hes _ (List.getElem_mem hk)) e0 e1 e2 e3 hp
      have hA2 := hA.out
      rw [drop_cons' es k hk] at hA2
      clear hv hc e0 e1 e2 e3 hp h1 h2 hA
      go_wp2_with fail
      refine hC.mono ?_
      rintro e w3 ⟨hok, hno, hb3⟩
      have hO3 := hO.below hb3
      have hR3 := hR.below hb3
      have hS3 := hS.below hb3
      have hb03 := hbr.trans (hb3.mono hbr.size)
      have hz3 := hb3.size
      cases hq : argL es[k] with
      | none =>
        obtain rfl := hno hq
        have hU := ArgsAt.no hA2 hq
        have hTN : T = none := by rw [hTE.out, hU]; rfl
        have HTN := Lib.hid hTN
        clear hok hno hTN hU hA2 hq hC hO3 hS3 hb3 hO hR hS hbr
        go_upto_region 11 with (fail)
        have hba : Below w3.heap.size w3 (w3.alloc (.cells #[.int .i64 0, .string ⟨#[]⟩, .slice none 0 0, .int .i64 0, .string ⟨#[]⟩] 43)) := (Below.refl _ w3).alloc (Nat.le_refl _) _
        generalize w3.alloc (.cells #[.int .i64 0, .string ⟨#[]⟩, .slice none 0 0, .int .i64 0, .string ⟨#[]⟩] 43) = w4 at *
        have hR4 := hR3.below hba
        have hb04 := hb03.trans (hba.mono hb03.size)
        have r0 := hR4.cell 0 _ rfl
        have r1 := hR4.cell 1 _ rfl
        have rf0 := hR4.free 0
        have rf1 := hR4.free 1
        have hbz := (hb04.setCell (p := ⟨w.heap.size, 0, none⟩) (Nat.le_refl _) (.string ⟨#[]⟩)).setCell (p := ⟨w.heap.size, 1, none⟩) (Nat.le_refl _) (.slice none 0 0)
        have hRz := (hR4.set 0 (.string ⟨#[]⟩)).set 1 (.slice none 0 0)
        go_wp2
        generalize w4.setCell ⟨w.heap.size, 0, none⟩ (.string ⟨#[]⟩) = w39 at *
        generalize w39.setCell ⟨w.heap.size, 1, none⟩ (.slice none 0 0) = w40 at *
        have d0 := hRz.cell 0 _ rfl
        have d1 := hRz.cell 1 _ rfl
        refine bodyPost_ret (v := .tuple #[.agg #[.string ⟨#[]⟩, .slice none 0 0], .bool false]) (by simp [results, Tryz.results121, go_sem, d0, d1]) rfl ?_
        exact CmdPost.no HTN.out hbz
      | some x =>
        have hok2 : ∃ pv, e = .returned (.tuple #[.agg #[.int .i64 x.kind, .string ⟨x.name.toArray⟩, pv, .int .i64 x.num, .string ⟨x.text.toArray⟩], .bool true]) ∧ Txs wr.heap.size pv x.path w3 := hok x hq
        obtain ⟨pv', rfl, hP3⟩ := hok2
        obtain ⟨pa, pc, rfl⟩ := hP3.slice
        have hA3 := ArgsAt.go hA2 hq
        have HA3 := Lib.hid hA3
        have hcs : (#[.int .i64 x.kind, .string ⟨x.name.toArray⟩, .slice pa x.path.length pc, .int .i64 x.num, .string ⟨x.text.toArray⟩] : Array Value).toList = arCells x (.slice pa x.path.length pc) := rfl
        have HCS := Lib.hid hcs
        generalize (⟨x.name.toArray⟩ : ByteArray) = xn at *
        generalize (⟨x.text.toArray⟩ : ByteArray) = xt at *
        clear hok hno hA2 hq hC hcs hA3 hb3 hO hR hS hbr
        go_upto_region 13 with (fail)
        have hba : Below w3.heap.size w3 (w3.alloc (.cells #[.int .i64 x.kind, .string xn, .slice pa x.path.length pc, .int .i64 x.num, .string xt] 43)) := (Below.refl _ w3).alloc (Nat.le_refl _) _
        have hX : Blk w3.heap.size 43 [.int .i64 x.kind, .string xn, .slice pa x.path.length pc, .int .i64 x.num, .string xt] (w3.alloc (.cells #[.int .i64 x.kind, .string xn, .slice pa x.path.length pc, .int .i64 x.num, .string xt] 43)) := Blk.new w3 _ _
        generalize w3.alloc (.cells #[.int .i64 x.kind, .string xn, .slice pa x.path.length pc, .int .i64 x.num, .string xt] 43) = w4 at *
        have hR4 := hR3.below hba
        have hO4 := hO3.below hba
        have hS4 := hS3.below hba
        have hP4 := (hP3.below hba).mono (base' := w.heap.size + 2) (by omega)
        have hb04 := hb03.trans (hba.mono hb03.size)
        have hz4 : w.heap.size + 2 ≤ w4.heap.size := by have := hO4.lt; omega
        have hne : some (w.heap.size + 1) ≠ (Value.slice sa acc.length sc).ownBlock := fun e => by have := hS4.base_le _ e.symm; omega
        have hne' : some w.heap.size ≠ (Value.slice sa acc.length sc).ownBlock := fun e => by have := hS4.base_le _ e.symm; omega
        have x0 := hX.cell 0 _ rfl
        have x1 := hX.cell 1 _ rfl
        have x2 := hX.cell 2 _ rfl
        have x3 := hX.cell 3 _ rfl
        have x4 := hX.cell 4 _ rfl
        have o1 := hO4.cell 1 _ rfl
        have HO4 := Lib.hid hO4
        have HR4 := Lib.hid hR4
        have HB4 := Lib.hid hb04
        clear hX hba hO3 hR3 hS3 hP3 hb03 hO4 hR4 hb04
        go_wp2_with (at_builtin; refine wp_appAr (w.heap.size + 2) rfl (.tmp 58) (.tmp 60) rfl (.slice sa acc.length sc) acc x (.slice pa x.path.length pc) _ HCS.out rfl 1 rfl rfl hS4 hP4 hz4 (by omega) ?_; intro v5 w5 hS5 hg5; obtain ⟨ta, tc, rfl⟩ := hS5.slice; have hO5 := Blk.grown HO4.out hg5 hne; have o1 := hO5.cell 1 _ rfl; have of1 := hO5.free 1; have HG5 := Lib.hid hg5; clear hg5)
        go_roundg (gk - 1)
        case measure => have := HKG.out; omega
        case rel =>
          have hb5 := HB4.out.grown HG5.out (by omega) (fun k hk => by have := hS4.base_le k hk; omega)
          have hR5 := Blk.grown HR4.out HG5.out hne'
          have hx := hS5.off (grownBy_set w5 (w.heap.size + 1) 1 (.slice ta (acc ++ [x]).length tc)) (off_low (by omega))
          refine ⟨k + 1, acc ++ [x], .slice ta (acc ++ [x]).length tc, by have := HKG.out; omega, by go_num, by simp; omega, HA3.out, ?_, ?_, ?_, ?_⟩
          · simpa using hO5.set 1 (.slice ta (acc ++ [x]).length tc)
          · exact (Blk.grown hR5 (grownBy_set w5 (w.heap.size + 1) 1 _) (by simp))
          · simpa using hx
          · exact hb5.setCell (by simp) _
    · obtain rfl : k = es.length := by omega
      have hA2 := hA.out
      rw [List.drop_length] at hA2
      have hU := ArgsAt.done hA2
      have hTS : T = some ⟨fl, acc⟩ := by rw [hTE.out, hU]; rfl
      have HTS := Lib.hid hTS
      have hb : decide ((es.length : Int) < (es.length : Int)) = false := decide_eq_false (by omega)
      have o0 := hO.cell 0 _ rfl
      have o1 := hO.cell 1 _ rfl
      have r0 := hR.cell 0 _ rfl
      have r1 := hR.cell 1 _ rfl
      have rf0 := hR.free 0
      have rf1 := hR.free 1
      have hbz := (hbr.setCell (p := ⟨w.heap.size, 0, none⟩) (Nat.le_refl _) (.string fn)).setCell (p := ⟨w.heap.size, 1, none⟩) (Nat.le_refl _) (.slice sa acc.length sc)
      have hRz := (hR.set 0 (.string fn)).set 1 (.slice sa acc.length sc)
      have hSz := (hS.off (grownBy_set wr w.heap.size 0 (.string fn)) (off_low (by omega))).off (grownBy_set _ w.heap.size 1 (.slice sa acc.length sc)) (off_low (by omega))
      have HFN := Lib.hid hfn.eq
      clear hTS hU hA2 hA hfn hO hR hS hbr
      go_wp2
      generalize wr.setCell ⟨w.heap.size, 0, none⟩ (.string fn) = w39 at *
      generalize w39.setCell ⟨w.heap.size, 1, none⟩ (.slice sa acc.length sc) = w40 at *
      have d0 := hRz.cell 0 _ rfl
      have d1 := hRz.cell 1 _ rfl
      refine bodyPost_ret (v := .tuple #[.agg #[.string fn, .slice sa acc.length sc], .bool true]) (by simp [results, Tryz.results121, go_sem, d0, d1]) rfl ?_
      rw [HFN.out]
      exact CmdPost.ok HTS.out (hSz.mono (by omega)) hbz
end Go.Proofs.YtdaffedbboofjaaGreatDoor.S
