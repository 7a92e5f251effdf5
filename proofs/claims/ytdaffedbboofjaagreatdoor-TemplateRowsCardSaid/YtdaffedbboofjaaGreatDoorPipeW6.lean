/-
  THE WALK of package pipe's Parse.
-/
import Derived.Test.YtdaffedbboofjaaGreatDoorPipeW5
set_option linter.unusedVariables false
set_option linter.unusedSimpArgs false
namespace Go.Proofs.YtdaffedbboofjaaGreatDoor.S
open Go.RowKit

def longC (c : Cm) : Bool := decide (8 < c.args.length)
def PipePost (T : Except Nat (List Cm)) (w : World) (e : Ending) (w' : World) : Prop :=
  (∀ cs, T = .ok cs → ∃ pv, e = .returned (.tuple #[pv, .int .i64 0]) ∧ Cms w.heap.size pv cs w') ∧ (∀ c, T = .error c → e = .returned (.tuple #[.slice none 0 0, .int .i64 c])) ∧ Below w.heap.size w w'
theorem PipePost.ok {T : Except Nat (List Cm)} {w w' : World} {cs : List Cm} {pv : Value} (h : T = .ok cs) (hp : Cms w.heap.size pv cs w') (hb : Below w.heap.size w w') : PipePost T w (.returned (.tuple #[pv, .int .i64 0])) w' :=
  ⟨(fun c' h' => by rw [h] at h'; cases h'; exact ⟨pv, rfl, hp⟩), (fun c h' => by rw [h] at h'; cases h'), hb⟩
theorem PipePost.no {T : Except Nat (List Cm)} {w w' : World} {c : Nat} (h : T = .error c) (hb : Below w.heap.size w w') : PipePost T w (.returned (.tuple #[.slice none 0 0, .int .i64 c])) w' :=
  ⟨(fun c' h' => by rw [h] at h'; cases h'), (fun c h' => by rw [h] at h'; cases h'; rfl), hb⟩
/-- what is read so far, and the rest, make the whole -/
def CmdsAt (T : Option (List Cm)) (acc : List Cm) (gk : Nat) (rs : List Wd) : Prop := match gk with
  | 0 => T = some acc
  | m + 1 => T = (cmdsF (m + 1) acc.isEmpty rs).map (acc ++ ·) ∧ rs.length ≤ m
theorem cmds_none {T : Option (List Cm)} {acc : List Cm} {m : Nat} {rs : List Wd} (h : CmdsAt T acc (m + 1) rs) (hc : cmdL (rs.take (cutN rs)) acc.isEmpty = none) : T = none := by
  obtain ⟨h, _⟩ := h
  rw [h, cmdsF, hc]
  rfl
theorem cmds_last {T : Option (List Cm)} {acc : List Cm} {m : Nat} {rs : List Wd} {c : Cm} (h : CmdsAt T acc (m + 1) rs) (hc : cmdL (rs.take (cutN rs)) acc.isEmpty = some c) (hl : ¬ cutN rs < rs.length) : CmdsAt T (acc ++ [c]) 0 (rs.drop (cutN rs + 1)) := by
  obtain ⟨h, _⟩ := h
  show T = _
  rw [h, cmdsF, hc]
  dsimp only
  rw [if_neg hl]
  rfl
theorem cmds_go {T : Option (List Cm)} {acc : List Cm} {m : Nat} {rs : List Wd} {c : Cm} (h : CmdsAt T acc (m + 1) rs) (hc : cmdL (rs.take (cutN rs)) acc.isEmpty = some c) (hl : cutN rs < rs.length) : CmdsAt T (acc ++ [c]) m (rs.drop (cutN rs + 1)) ∧ 0 < m := by
  obtain ⟨h, hm⟩ := h
  obtain ⟨q, rfl⟩ : ∃ q, m = q + 1 := ⟨m - 1, by omega⟩
  refine ⟨⟨?_, by rw [List.length_drop]; omega⟩, by omega⟩
  rw [h, cmdsF, hc]
  dsimp only
  rw [if_pos hl]
  have e : (acc ++ [c]).isEmpty = false := by cases acc <;> rfl
  rw [e]
  cases cmdsF (q + 1) false (rs.drop (cutN rs + 1)) <;> simp
def pipeE (T : Option (List Cm)) : Except Nat (List Cm) := match T with
  | none => .error 1500
  | some cs => if (cs.any longC || decide (8 < cs.length)) = true then .error 1501 else .ok cs
theorem pipeL_of {ds : List Wd} {T : Option (List Cm)} (h : T = cmdsF (ds.length + 1) true ds) : pipeL ds = pipeE T := by subst h; rfl
set_option maxRecDepth 100000 in
set_option maxHeartbeats 16000000 in
theorem pparse_calls (v : Value) (ds : List Wd) (w : World) (hV : WdV v ds w) (hd : ∀ d ∈ ds, WdOk d) (ht : ∀ d ∈ ds, d.text.length ≤ 65536) (hl : ds.length ≤ 1073741824) :
    Calls Tryz.prog 93 #[v] w (PipePost (pipeL ds) w) := by
  obtain ⟨R, hR⟩ : ∃ R, R = pipeL ds := ⟨_, rfl⟩
  rw [← hR]
  obtain ⟨T, hT⟩ : ∃ T, T = cmdsF (ds.length + 1) true ds := ⟨_, rfl⟩
  have hRT := pipeL_of hT
  rw [← hR] at hRT
  have hA0 : CmdsAt T [] (ds.length + 1) ds := by
    refine ⟨?_, Nat.le_refl _⟩
    rw [hT]
    show cmdsF (ds.length + 1) true ds = (cmdsF (ds.length + 1) true ds).map _
    cases cmdsF (ds.length + 1) true ds <;> simp
  have HRT := Lib.hid hRT
  have HA0 := Lib.hid hA0
  clear hR hT hRT hA0
  obtain ⟨a, c, hv⟩ := hV.slice
  obtain ⟨n, hn⟩ : ∃ n, n = ds.length := ⟨_, rfl⟩
  rw [← hn] at hv hl
  subst hv
  have HN := Lib.hid hn
  clear hn
  go_enter Tryz.func93, Tryz.ntmps93
  go_wp2_with fail
  go_loopg [13] n (fun gk v13 wr => ∃ k : Nat, k + gk = n ∧ v13 = .int .i64 k ∧ w = wr)
  case atStart => exact ⟨0, by omega, rfl, rfl⟩
  case round =>
    obtain ⟨k, hkg, rfl, rfl⟩ := hrel
    have HKG := Lib.hid hkg
    have hkl : k ≤ n := by omega
    clear hkg
    by_cases hk : k < n
    · have hkd : k < ds.length := by rw [← HN.out]; exact hk
      have hV' := hV
      obtain ⟨a', c', hv, h1, h2, hc⟩ := hV'
      obtain ⟨rfl, -, rfl⟩ := Value.slice.inj hv
      obtain ⟨g, off, pv, rfl, e0, e1, e2, e3, hp⟩ := hc k hkd
      have hb : decide ((k : Int) < (n : Int)) = true := decide_eq_true (by omega)
      have hC := wordMay_calls g (off + k * 4) 0 ds[k] pv w (hd _ (List.getElem_mem hkd)) (ht _ (List.getElem_mem hkd)) e0 e1 e2 e3 hp
      clear hv hc e0 e1 e2 e3 hp h1 h2
      go_wp2_with fail
      refine hC.mono ?_
      rintro e w' ⟨rfl, rfl⟩
      clear hC
      go_wp2
      go_roundg (gk - 1)
      case measure => have := HKG.out; omega
      case rel => exact ⟨k + 1, by have := HKG.out; omega, by go_num, rfl⟩
    · have hb : decide ((k : Int) < (n : Int)) = false := decide_eq_false (by omega)
      obtain rfl : n = k := by omega
      clear hb HKG hkl hk ht
      go_wp2_with fail
      go_loopg [0, 5, 6, 7] (n + 1) (fun gk v0 v5 v6 v7 wr => ∃ (acc : List Cm) (rs : List Wd), WdV v0 rs w ∧ (∀ d ∈ rs, WdOk d) ∧ rs.length ≤ n ∧ Cms w.heap.size v5 acc wr ∧ acc.length + gk ≤ n + 1 ∧ v6 = .bool (acc.any longC) ∧ v7 = .bool (decide (0 < gk)) ∧ Hid (CmdsAt T acc gk rs) ∧ Below w.heap.size w wr)
      case atStart => exact ⟨[], ds, hV, hd, by rw [HN.out]; exact Nat.le_refl _, cms_nil _ _, by simp, rfl, rfl, by rw [HN.out]; exact HA0.out, Below.refl _ _⟩
      case round =>
        obtain ⟨acc, rs, hVr, hdr, hrl, hO, hag, rfl, rfl, hA, hbr⟩ := hrel
        obtain ⟨sa, sc, rfl⟩ := hO.slice
        have HAG := Lib.hid hag
        have hal : acc.length ≤ n + 1 := by omega
        clear hag HA0
        cases gk with
        | zero =>
          have hTS : T = some acc := hA.out
          have hR : R = if (acc.any longC || decide (8 < acc.length)) = true then .error 1501 else .ok acc := by rw [HRT.out, hTS]; rfl
          have HR := Lib.hid hR
          rw [decide_eq_false (Nat.lt_irrefl 0)]
          generalize acc.any longC = mb at *
          clear hTS hR hA
          cases mb with
          | true =>
            have hR' : R = .error 1501 := HR.out
            have HR' := Lib.hid hR'
            clear hR'
            go_wp2
            go_ret2
            exact PipePost.no HR'.out hbr
          | false =>
            by_cases h8 : 8 < acc.length
            · have h8b : decide ((8 : Int) < (acc.length : Int)) = true := decide_eq_true (by omega)
              have hR' : R = .error 1501 := by rw [HR.out, decide_eq_true h8]; rfl
              have HR' := Lib.hid hR'
              clear hR'
              go_wp2
              go_ret2
              exact PipePost.no HR'.out hbr
            · have h8b : decide ((8 : Int) < (acc.length : Int)) = false := decide_eq_false (by omega)
              have hR' : R = .ok acc := by rw [HR.out, decide_eq_false h8]; rfl
              have HR' := Lib.hid hR'
              clear hR'
              go_wp2
              go_ret2
              exact PipePost.ok HR'.out hO hbr
        | succ m =>
          rw [decide_eq_true (Nat.succ_pos m)]
          obtain ⟨ra, rc, rfl⟩ := hVr.slice
          go_wp2_with fail
          refine (cut_calls _ rs w _ hVr hbr).mono ?_
          rintro e w2 ⟨v1, v2, rfl, hV1, hV2, hb2⟩
          have hO2 := hO.below hb2
          have hbr2 := hbr.trans (hb2.mono hbr.size)
          have hlt1 : (rs.take (cutN rs)).length ≤ 1099511627776 := by rw [List.length_take]; omega
          have hok1 : ∀ d ∈ rs.take (cutN rs), WdOk d := fun d hx => hdr d (List.mem_of_mem_take hx)
          have hok2 : ∀ d ∈ rs.drop (cutN rs + 1), WdOk d := fun d hx => hdr d (List.mem_of_mem_drop hx)
          have hl2 : (rs.drop (cutN rs + 1)).length ≤ n := by rw [List.length_drop]; omega
          have hNO := fun h => cmds_none hA.out h
          have hLA := fun c h1 h2 => cmds_last (c := c) hA.out h1 h2
          have hGO := fun c h1 h2 => cmds_go (c := c) hA.out h1 h2
          obtain ⟨fb, hfb⟩ : ∃ fb, fb = acc.isEmpty := ⟨_, rfl⟩
          have hfi : ((acc.length : Int) == 0) = fb := by rw [hfb]; cases acc <;> simp; omega
          rw [← hfb] at hNO hLA hGO
          have hCC := fun W (h : WdV v1 (rs.take (cutN rs)) W) => cmd_calls v1 _ fb W h hok1 hlt1
          have HNO := Lib.hid hNO
          have HLA := Lib.hid hLA
          have HGO := Lib.hid hGO
          generalize rs.take (cutN rs) = own at *
          generalize rs.drop (cutN rs + 1) = rs2 at *
          generalize hmo : decide (cutN rs < rs.length) = more at *
          have HMO := Lib.hid hmo
          clear hfb hNO hLA hGO hA hmo hVr hdr hO hbr hb2 hok1 hlt1
          go_wp2_with fail
          refine (hCC _ (hV1.below hbr2)).mono ?_
          rintro e w3 ⟨hok, hno, hb3⟩
          have hO3 := hO2.below hb3
          have hbr3 := hbr2.trans (hb3.mono hbr2.size)
          have hz3 := hbr2.size
          clear hO2 hV1 hbr2 hCC hfi
          cases hq : cmdL own fb with
          | none =>
            obtain rfl := hno hq
            have hTN := HNO.out hq
            have hR' : R = .error 1500 := by rw [HRT.out, hTN]; rfl
            have HR' := Lib.hid hR'
            have hba : Below w.heap.size w (w3.alloc (.cells #[.string ⟨#[]⟩, .slice none 0 0] 46)) := hbr3.alloc hbr3.size _
            clear hok hno hTN hR' hq
            go_wp2
            go_ret2
            exact PipePost.no HR'.out hba
          | some x =>
            have hok2' : ∃ av, e = .returned (.tuple #[.agg #[.string ⟨x.fn.toArray⟩, av], .bool true]) ∧ Ars w2.heap.size av x.args w3 := hok x hq
            obtain ⟨av, rfl, hP3⟩ := hok2'
            obtain ⟨pa, pc, rfl⟩ := hP3.slice
            have hcs : (#[.string ⟨x.fn.toArray⟩, .slice pa x.args.length pc] : Array Value).toList = cmCells x (.slice pa x.args.length pc) := rfl
            have HCS := Lib.hid hcs
            have hany : (acc ++ [x]).any longC = (acc.any longC || decide (8 < x.args.length)) := by simp [longC]
            have HANY := Lib.hid hany
            have hst : (CmdsAt T (acc ++ [x]) (if more = true then m else 0) rs2) ∧ (more = true → 0 < m) := by
              cases more with
              | true => have h := HGO.out x hq (of_decide_eq_true HMO.out); exact ⟨h.1, fun _ => h.2⟩
              | false => exact ⟨HLA.out x hq (of_decide_eq_false HMO.out), fun h => by cases h⟩
            have HST := Lib.hid hst
            generalize (⟨x.fn.toArray⟩ : ByteArray) = xn at *
            have hba : Below w3.heap.size w3 (w3.alloc (.cells #[.string xn, .slice pa x.args.length pc] 46)) := (Below.refl _ w3).alloc (Nat.le_refl _) _
            have hX : Blk w3.heap.size 46 [.string xn, .slice pa x.args.length pc] (w3.alloc (.cells #[.string xn, .slice pa x.args.length pc] 46)) := Blk.new w3 _ _
            clear hok hno hq hcs hany hst HNO HLA HGO HMO
            go_upto_region 16 with (fail)
            generalize w3.alloc (.cells #[.string xn, .slice pa x.args.length pc] 46) = w4 at *
            have hO4 := hO3.below hba
            have hP4 := (hP3.below hba).mono (base' := w.heap.size) hz3
            have hbr4 := hbr3.trans (hba.mono hbr3.size)
            have x0 := hX.cell 0 _ rfl
            have x1 := hX.cell 1 _ rfl
            clear hba hX hO3 hP3 hbr3 hb3
            generalize acc.any longC = mb at *
            go_cut [6] (fun v6 wx => v6 = .bool (mb || decide (8 < x.args.length)) ∧ w4 = wx)
            case first =>
              cases mb with
              | true =>
                go_wp2_with fail
                go_meet
                exact ⟨by rw [Bool.true_or], rfl⟩
              | false =>
                by_cases h8 : 8 < x.args.length
                · have h8b : decide ((8 : Int) < (x.args.length : Int)) = true := decide_eq_true (by omega)
                  go_wp2_with fail
                  go_meet
                  exact ⟨by rw [decide_eq_true h8]; rfl, rfl⟩
                · have h8b : decide ((8 : Int) < (x.args.length : Int)) = false := decide_eq_false (by omega)
                  go_wp2_with fail
                  go_meet
                  exact ⟨by rw [decide_eq_false h8]; rfl, rfl⟩
            case rest =>
            obtain ⟨rfl, rfl⟩ := hcut
            rw [← HANY.out]
            have HV4 := Lib.hid hV2
            have HB4 := Lib.hid hbr4
            have HL2 := Lib.hid hl2
            have HOK2 := Lib.hid hok2
            have hz4 := hbr4.size
            have hne : ∀ k, (Value.slice sa acc.length sc).ownBlock = some k → w.heap.size ≤ k := fun k hk => hO4.base_le k hk
            clear hV2 hbr4 hl2 hok2
            go_wp2_with (at_builtin; refine wp_appCm w.heap.size rfl (.tmp 46) (.tmp 48) rfl (.slice sa acc.length sc) acc x (.slice pa x.args.length pc) _ HCS.out rfl 1 rfl rfl hO4 hP4 hz4 (by omega) ?_; intro v5 w5 hS5 hg5; obtain ⟨ta, tc, rfl⟩ := hS5.slice; have HG5 := Lib.hid hg5; clear hg5)
            go_roundg (if more = true then m else 0)
            case measure => split <;> omega
            case rel =>
              have hg5 := HG5.out
              have hbr5 := HB4.out.grown hg5 hz4 hne
              have hm : (if more = true then m else 0) ≤ m := by split <;> omega
              refine ⟨acc ++ [x], rs2, HV4.out, HOK2.out, HL2.out, ?_, ?_, by simp, ?_, HST.out.1, hbr5⟩
              · simpa using hS5
              · have := HAG.out; simp; omega
              · cases more with
                | true => rw [decide_eq_true (by have := HST.out.2 rfl; simpa using this)]
                | false => rfl
end Go.Proofs.YtdaffedbboofjaaGreatDoor.S
