/-
  THE WALK of package tmpl's Parse.
-/
import Derived.Test.YtbcddlheikdlkaaGreatDoorTmplG
import Derived.Test.YtbcddlheikdlkaaGreatDoorLexG
set_option linter.unusedVariables false
set_option linter.unusedSimpArgs false
namespace Go.Proofs.YtbcddlheikdlkaaGreatDoor.S
open Go.RowKit
variable {base p : Nat} {F F' : Nat → Prop} {W W' : World} {s t : Sl} {ls L : List Sl}

theorem splitR_sizes {l : List UInt8} {ps : List Pc} (h : splitR l = (ps, 0)) : ps.length ≤ 1024 ∧ ∀ x ∈ ps, x.act = true → x.text.length ≤ 256 := by
  unfold splitR at h
  split at h
  · cases h
  · split at h
    · cases h
    · split at h
      · cases h
      · split at h
        · cases h
        · rename_i qs _ hl hn
          cases h
          refine ⟨by omega, fun x hx ha => ?_⟩
          refine Nat.le_of_not_lt fun hlt => hl ?_
          exact List.any_eq_true.2 ⟨x, hx, by rw [ha]; simpa using hlt⟩
theorem map_err {α β : Type} {x : Except Nat α} {f : α → β} {c : Nat} (h : x.map f = .error c) : x = .error c := by
  cases x with
  | error e => simpa [Except.map] using h
  | ok a => cases h
theorem wordsA_err {ds : List Wd} {c : Nat} (h : wordsA ds = .error c) : c ≠ 0 := by
  unfold wordsA at h
  repeat' split at h
  all_goals first
    | (cases h; done)
    | (cases h; decide)
    | exact pipeL_err (map_err h)
    | skip
  · unfold callA at h
    repeat' split at h
    all_goals first
      | (cases h; done)
      | (cases h; decide)
      | exact pipeL_err (map_err h)
  · unfold tellA at h
    repeat' split at h
    all_goals exact pipeL_err (map_err h)
theorem stepL_err {b : Lv} {st : List Lv} {a : Ac} {c : Nat} (h : stepL b st a = .error c) : c ≠ 0 := by
  unfold stepL at h
  repeat' split at h
  all_goals first
    | (cases h; done)
    | (cases h; decide)
theorem doA_errs {b : Lv} {st : List Lv} {l : List UInt8} {c : Nat} (h : doA b st (actL l) = .error c) : c ≠ 0 := by
  cases ha : actL l with
  | error e =>
    rw [ha] at h
    obtain rfl : e = c := by injection h
    unfold actL at ha
    split at ha
    · rename_i hn
      injection ha with ha
      rw [← ha]
      exact hn
    · exact wordsA_err ha
  | ok a => rw [ha] at h; exact stepL_err h
structure Good (k : Nat) (st : List Lv) : Prop where
  ne : st ≠ []
  len : st.length ≤ k + 1
  rows : ∀ b ∈ st, b.row.length ≤ k
  root : ∀ b, st.getLast? = some b → b.kind ≠ 5
theorem good_root : Good 0 [root] := ⟨by simp, by simp, by intro b hb; simp at hb; subst hb; exact Nat.le_refl _, by intro b hb; simp at hb; subst hb; decide⟩
theorem Good.top {k : Nat} {b b' : Lv} {st : List Lv} (h : Good k (b :: st)) (hk : b'.kind = b.kind) (hr : b'.row.length ≤ k + 1) : Good (k + 1) (b' :: st) := by
  refine ⟨by simp, by have := h.len; simp at *; omega, fun c hc => ?_, fun c hc => ?_⟩
  · rcases List.mem_cons.1 hc with rfl | hc
    · exact hr
    · have := h.rows c (List.mem_cons_of_mem _ hc); omega
  · cases st with
    | nil => simp at hc; subst hc; rw [hk]; exact h.root b (by simp)
    | cons d r => exact h.root c (by rw [List.getLast?_cons_cons] at *; exact hc)
theorem stepL_good {k : Nat} {b : Lv} {st st' : List Lv} {a : Ac} (h : Good k (b :: st)) (hs : stepL b st a = .ok st') : Good (k + 1) st' := by
  have hb := h.rows b (by simp)
  have hadd : ∀ (c : Lv) (i : It), c.row.length ≤ k → (c.add i).row.length ≤ k + 1 := by intro c i hc; simp [Lv.add]; omega
  cases a with
  | els =>
    simp only [stepL] at hs
    split at hs
    · cases hs
    · cases hs; exact h.top rfl (by simp)
  | fin =>
    cases st with
    | nil => cases hs
    | cons c st =>
      cases hs
      have h2 : Good k (c :: st) := ⟨by simp, by have := h.len; simp at *; omega, fun d hd => h.rows d (List.mem_cons_of_mem _ hd), fun d hd => h.root d (by rw [List.getLast?_cons_cons]; exact hd)⟩
      exact h2.top rfl (hadd c _ (h2.rows c (by simp)))
  | leave n =>
    simp only [stepL] at hs
    split at hs
    · cases hs; exact h.top rfl (hadd b _ hb)
    · cases hs
  | item i => cases hs; exact h.top rfl (hadd b _ hb)
  | block n pl =>
    simp only [stepL] at hs
    split at hs
    · cases hs
    · cases hs
      refine ⟨by simp, by have := h.len; simp at *; omega, fun c hc => ?_, fun c hc => h.root c (by rw [List.getLast?_cons_cons] at hc; exact hc)⟩
      rcases List.mem_cons.1 hc with rfl | hc
      · exact Nat.zero_le _
      · have := h.rows c hc; omega
theorem Its.tobase {base' : Nat} {v : Value} {is : List It} (h : Its base F W v is) (hb : base' ≤ base) : Its base' F W v is := by
  induction h with
  | mk v zs hr hF hp ht he iht ihe => exact .mk v zs (hr.mono hb) hF (fun z hz => (hp z hz).mono hb) iht ihe
theorem lvs_rev (ls : List Sl) : (lvs ls).getLast? = (ls.head?).map Sl.lv := by simp [lvs]
theorem Good.rootOk {k : Nat} (h : Good k (lvs ls)) : rootOk ls := fun s hs => h.root s.lv (by rw [lvs_rev, hs]; rfl)
theorem Good.small {k : Nat} (h : Good k (lvs ls)) (s : Sl) (hs : s ∈ ls) : s.lv.row.length ≤ k := h.rows s.lv (by unfold lvs; exact List.mem_map.2 ⟨s, List.mem_reverse.2 hs, rfl⟩)
theorem Good.count {k : Nat} (h : Good k (lvs (ls ++ [t]))) : ls.length ≤ k := by have := h.len; simp [lvs] at this; omega
theorem runS_step {b : Lv} {st : List Lv} {x : Pc} {r : List Pc} : runS (b :: st) (x :: r) = match doA b st (acOf x) with
    | .error e => .error e
    | .ok st' => runS st' r := by
  rw [runS]
  cases acOf x with
  | error e => rfl
  | ok a => rfl
theorem St.first (W : World) : St W.heap.size (W.heap.size + 1 + 1) ([] ++ [newS 0 [] W.heap.size (.slice none 0 0)]) (((W.alloc (.cells #[.int .i64 0, .string ⟨#[]⟩, .slice none 0 0, .slice none 0 0, .slice none 0 0, .slice none 0 0, .bool false] 68)).alloc (.cells #[.pointer (some ⟨W.heap.size, 0, none⟩)] 66)).alloc (.cells #[.slice (some ⟨W.heap.size + 1, 0, none⟩) 1 1] 71)) := by
  have h1 : Blk W.heap.size 68 (newS 0 [] W.heap.size (.slice none 0 0)).cells (W.alloc (.cells #[.int .i64 0, .string ⟨#[]⟩, .slice none 0 0, .slice none 0 0, .slice none 0 0, .slice none 0 0, .bool false] 68)) := Blk.new W _ _
  have z1 : (W.alloc (.cells #[.int .i64 0, .string ⟨#[]⟩, .slice none 0 0, .slice none 0 0, .slice none 0 0, .slice none 0 0, .bool false] 68)).heap.size = W.heap.size + 1 := by simp
  generalize W.alloc (.cells #[.int .i64 0, .string ⟨#[]⟩, .slice none 0 0, .slice none 0 0, .slice none 0 0, .slice none 0 0, .bool false] 68) = w1 at *
  have h2 : (w1.alloc (.cells #[.pointer (some ⟨W.heap.size, 0, none⟩)] 66)).ownsRow w1.heap.size 66 1 (.slice (some ⟨w1.heap.size, 0, none⟩) 1 1) 1 [.pointer (some ⟨W.heap.size, 0, none⟩)] := World.ownsRow_lit w1 #[.pointer (some ⟨W.heap.size, 0, none⟩)] 1 (Nat.le_refl _) (by simp only [maxLen]; omega) rfl
  have b2 := (Below.refl w1.heap.size w1).alloc (Nat.le_refl _) (.cells #[.pointer (some ⟨W.heap.size, 0, none⟩)] 66)
  have z2 : (w1.alloc (.cells #[.pointer (some ⟨W.heap.size, 0, none⟩)] 66)).heap.size = W.heap.size + 1 + 1 := by simp [z1]
  rw [z1] at h2
  have h1 := h1.below b2
  generalize w1.alloc (.cells #[.pointer (some ⟨W.heap.size, 0, none⟩)] 66) = w2 at *
  have h3 : Blk w2.heap.size 71 [.slice (some ⟨W.heap.size + 1, 0, none⟩) 1 1] (w2.alloc (.cells #[.slice (some ⟨W.heap.size + 1, 0, none⟩) 1 1] 71)) := Blk.new w2 _ _
  have b3 := (Below.refl w2.heap.size w2).alloc (Nat.le_refl _) (.cells #[.slice (some ⟨W.heap.size + 1, 0, none⟩) 1 1] 71)
  have h1 := h1.below b3
  have h2 := own_below h2 b3
  rw [z2] at h3
  refine ⟨⟨_, _, h3, h2.mono (by omega)⟩, by omega, fun s hs => ?_, List.pairwise_singleton _ _⟩
  have hs : s ∈ [newS 0 [] W.heap.size (.slice none 0 0)] := hs
  rw [List.mem_singleton.1 hs]
  exact ⟨h1, Nat.le_refl _, cms_nil _ _, its_nil _ _ _, rw_nil _ _ _⟩
theorem Rw.tobase {base' : Nat} {v : Value} {is : List It} (h : Rw base F v is W) (hb : base' ≤ base) : Rw base' F v is W := by
  obtain ⟨zs, hz, hr, hc⟩ := h
  exact ⟨zs, hz, hr.mono hb, fun z hz => ⟨(hc z hz).1.mono hb, (hc z hz).2.1.tobase hb, (hc z hz).2.2.tobase hb⟩⟩
/-- P16.1: what is read -/
def tmplL (l : List UInt8) : Except Nat (List It) := if (splitR l).2 ≠ 0 then .error (splitR l).2 else parseL (splitR l).1
def TmplPost (R : Except Nat (List It)) (w : World) (e : Ending) (w' : World) : Prop :=
  (∀ is, R = .ok is → ∃ v, e = .returned (.tuple #[v, .int .i64 0]) ∧ Its w.heap.size (fun _ => True) w' v is) ∧ (∀ c, R = .error c → e = .returned (.tuple #[.slice none 0 0, .int .i64 c])) ∧ Below w.heap.size w w'
theorem TmplPost.ok {R : Except Nat (List It)} {w w' : World} {is : List It} {v : Value} (h : R = .ok is) (hs : Its w.heap.size (fun _ => True) w' v is) (hb : Below w.heap.size w w') : TmplPost R w (.returned (.tuple #[v, .int .i64 0])) w' :=
  ⟨(fun l h' => by rw [h] at h'; cases h'; exact ⟨v, rfl, hs⟩), (fun c h' => by rw [h] at h'; cases h'), hb⟩
theorem TmplPost.no {R : Except Nat (List It)} {w w' : World} {c : Nat} (h : R = .error c) (hb : Below w.heap.size w w') : TmplPost R w (.returned (.tuple #[.slice none 0 0, .int .i64 c])) w' :=
  ⟨(fun l h' => by rw [h] at h'; cases h'), (fun c' h' => by rw [h] at h'; cases h'; rfl), hb⟩
/-- the same, and its inner rows lie elsewhere -/
def TmplPostX (R : Except Nat (List It)) (w : World) (e : Ending) (w' : World) : Prop :=
  (∀ is, R = .ok is → ∃ v, e = .returned (.tuple #[v, .int .i64 0]) ∧ Rw w.heap.size (fun b => v.ownBlock ≠ some b) v is w') ∧ (∀ c, R = .error c → e = .returned (.tuple #[.slice none 0 0, .int .i64 c])) ∧ Below w.heap.size w w'
theorem TmplPostX.ok {R : Except Nat (List It)} {w w' : World} {is : List It} {v : Value} (h : R = .ok is) (hs : Rw w.heap.size (fun b => v.ownBlock ≠ some b) v is w') (hb : Below w.heap.size w w') : TmplPostX R w (.returned (.tuple #[v, .int .i64 0])) w' :=
  ⟨(fun l h' => by rw [h] at h'; cases h'; exact ⟨v, rfl, hs⟩), (fun c h' => by rw [h] at h'; cases h'), hb⟩
theorem TmplPostX.no {R : Except Nat (List It)} {w w' : World} {c : Nat} (h : R = .error c) (hb : Below w.heap.size w w') : TmplPostX R w (.returned (.tuple #[.slice none 0 0, .int .i64 c])) w' :=
  ⟨(fun l h' => by rw [h] at h'; cases h'), (fun c' h' => by rw [h] at h'; cases h'; rfl), hb⟩
theorem TmplPostX.plain {R : Except Nat (List It)} {w w' : World} {e : Ending} (h : TmplPostX R w e w') : TmplPost R w e w' :=
  ⟨fun is hi => let ⟨v, he, hr⟩ := h.1 is hi; ⟨v, he, (hr.mono fun _ _ _ => trivial).its fun _ _ => trivial⟩, h.2.1, h.2.2⟩
set_option maxRecDepth 100000 in
set_option maxHeartbeats 8000000 in
theorem tmplParse_own (s : ByteArray) (w : World) (hE : Env w) :
    Calls Tryz.prog 8 #[.string s] w (TmplPostX (tmplL s.data.toList) w) := by
  obtain ⟨R, hR⟩ : ∃ R, R = tmplL s.data.toList := ⟨_, rfl⟩
  rw [← hR]
  have HR := Lib.hid hR
  clear hR
  go_enter Tryz.func8, Tryz.ntmps8
  go_wp2_with fail
  refine (lexSplit_any s w hE).mono ?_
  rintro e w1 ⟨v, ps, n, rfl, hP, hb1, hw⟩
  have hE1 := hE.below hb1
  have hR := HR.out
  unfold tmplL at hR
  rw [hw] at hR
  obtain ⟨pa, pc, rfl, hcap⟩ := own_slice hP
  by_cases hn : n = 0
  · subst hn
    rw [if_neg (by simp), ← run_parse] at hR
    obtain ⟨hlen, hact⟩ := splitR_sizes hw
    have HRR := Lib.hid hR
    have HACT := Lib.hid hact
    clear hR HR hact hw
    go_upto_region 5 with (fail)
    have hS := St.first w1
    have hbA : Below w1.heap.size w1 (((w1.alloc (.cells #[.int .i64 0, .string ⟨#[]⟩, .slice none 0 0, .slice none 0 0, .slice none 0 0, .slice none 0 0, .bool false] 68)).alloc (.cells #[.pointer (some ⟨w1.heap.size, 0, none⟩)] 66)).alloc (.cells #[.slice (some ⟨w1.heap.size + 1, 0, none⟩) 1 1] 71)) :=
      (((Below.refl _ w1).alloc (Nat.le_refl _) _).alloc (by simp) _).alloc (by simp; omega) _
    generalize ((w1.alloc (.cells #[.int .i64 0, .string ⟨#[]⟩, .slice none 0 0, .slice none 0 0, .slice none 0 0, .slice none 0 0, .bool false] 68)).alloc (.cells #[.pointer (some ⟨w1.heap.size, 0, none⟩)] 66)).alloc (.cells #[.slice (some ⟨w1.heap.size + 1, 0, none⟩) 1 1] 71) = w2 at *
    have hz1 := hb1.size
    generalize w1.heap.size + 1 + 1 = p at *
    have ht0 : (newS 0 [] w1.heap.size (.slice none 0 0)).lv = root := rfl
    generalize newS 0 [] w1.heap.size (.slice none 0 0) = t0 at *
    have hl0 : lvs ([] ++ [t0]) = [root] := by rw [lvs_snoc, ht0]; rfl
    rw [← hl0] at HRR
    have hg0 := good_root
    rw [← hl0] at hg0
    clear ht0 hl0
    go_wp2
    go_loopg [8, 9, 25] ps.length (fun gk _ _ v25 wr => ∃ (k : Nat) (ls : List Sl) (t : Sl), k + gk = ps.length ∧ v25 = .int .i64 k ∧ St w1.heap.size p (ls ++ [t]) wr ∧ Good k (lvs (ls ++ [t])) ∧ Hid (R = endS (runS (lvs (ls ++ [t])) (ps.drop k))) ∧ Below w1.heap.size w1 wr)
    case atStart => exact ⟨0, [], t0, by omega, rfl, hS, hg0, HRR, hbA⟩
    case round =>
      obtain ⟨k, ls, t, hkg, rfl, hSt, hG, hRk, hbr⟩ := hrel
      have HKG := Lib.hid hkg
      have hkl : k ≤ ps.length := by omega
      clear hkg hS hg0 HRR hbA
      have hbw := hb1.trans (hbr.mono hz1)
      have hPr := own_below hP hbr
      by_cases hk : k < ps.length
      · obtain ⟨b, cap, hv, hbb, hcc⟩ := hP.form (by omega)
        obtain ⟨rfl, -, rfl⟩ := Value.slice.inj hv
        obtain ⟨d0, d1, d2⟩ := Pcs.at hPr k hk
        have hdr : ps.drop k = ps[k] :: ps.drop (k + 1) := List.drop_eq_getElem_cons hk
        have hax := HACT.out ps[k] (List.getElem_mem hk)
        have hR := hRk.out
        rw [hdr, lvs_snoc, runS_step] at hR
        generalize ps[k] = x at *
        have hGs := hG.small
        have hGc := hG.count
        have hGr := hG.rootOk
        have hba : Below wr.heap.size wr (wr.alloc (.cells #[.bool x.act, .string ⟨x.text.toArray⟩, .int .i64 x.pos] 73)) := (Below.refl _ wr).alloc (Nat.le_refl _) _
        have hX : Blk wr.heap.size 73 [.bool x.act, .string ⟨x.text.toArray⟩, .int .i64 x.pos] (wr.alloc (.cells #[.bool x.act, .string ⟨x.text.toArray⟩, .int .i64 x.pos] 73)) := Blk.new wr _ _
        have hpost : ∀ st', doA t.lv (lvs ls) (acOf x) = .ok st' → Good (k + 1) st' := fun st' h => by
          cases ha : acOf x with
          | error e => rw [ha] at h; cases h
          | ok a => rw [ha] at h; rw [lvs_snoc] at hG; exact stepL_good hG h
        have HPO := Lib.hid hpost
        have HRK := Lib.hid hR
        clear hR hRk hv hG hpost hdr
        have hxs : StrIs (⟨x.text.toArray⟩ : ByteArray) x.text := rfl
        have HXS := Lib.hid hxs
        clear hxs
        have hlw : w1.heap.size ≤ wr.heap.size := hbr.size
        cases hact : x.act with
        | true =>
          rw [hact] at d0 hba hX
          have hax := hax hact
          generalize (⟨x.text.toArray⟩ : ByteArray) = tx at *
          go_upto_region 8 with (fail)
          generalize wr.alloc (.cells #[.bool true, .string tx, .int .i64 x.pos] 73) = wx at *
          have hSx := hSt.below hba
          have x0 := hX.cell 0 _ rfl
          have x1 := hX.cell 1 _ rfl
          have hbx := hbr.trans (hba.mono hlw)
          have hE2 := hE1.below (hbx)
          have hlx : w1.heap.size ≤ wx.heap.size := hbx.size
          have hA := taction_calls tx x.text HXS.out hax wx (hE1.below (hbx.mono (Nat.le_refl _))) hSx hGr (fun s hs => by have := hGs s hs; omega) hlx (by omega)
          have hac : acOf x = actL x.text := by unfold acOf; rw [if_pos hact]
          have her := fun c (h : doA t.lv (lvs ls) (acOf x) = .error c) => doA_errs (by rw [hac] at h; exact h)
          rw [← hac] at hA
          clear hSx hSt hX hba hac hact HXS d0 d1 d2 hPr hbr
          go_wp2_with fail
          refine hA.mono ?_
          rintro e w5 hP5
          have hb5 := hbx.trans hP5.2.2
          have hbw5 := hb1.trans (hb5.mono hz1)
          have hR := HRK.out
          cases hd : doA t.lv (lvs ls) (acOf x) with
          | error c =>
            obtain rfl := hP5.2.1 c hd
            have hc := her c hd
            rw [hd] at hR
            have hR' : R = .error c := hR
            have HR' := Lib.hid hR'
            have hcb : ((c : Int) != 0) = true := by rw [bne, beq_eq_false_iff_ne.2 (by omega : (c : Int) ≠ 0)]; rfl
            have hcb2 : ((c : Int) == 0) = false := beq_eq_false_iff_ne.2 (by omega)
            clear hR hR' HRK hd hP5 hA her hc HPO
            go_wp2
            go_ret2
            exact TmplPostX.no HR'.out hbw5
          | ok st' =>
            obtain ⟨rfl, ls', hlv, hne, hS5⟩ := hP5.1 st' hd
            rw [hd] at hR
            have hR' : R = endS (runS st' (ps.drop (k + 1))) := hR
            have hg' := HPO.out st' hd
            obtain ⟨l2, t2, rfl⟩ : ∃ l2 t2, ls' = l2 ++ [t2] := ⟨_, _, (List.dropLast_concat_getLast hne).symm⟩
            rw [← hlv] at hR' hg'
            have HR' := Lib.hid hR'
            clear hR hR' HRK hd hP5 hA her HPO hlv hne
            go_wp2
            go_roundg (gk - 1)
            case measure => have := HKG.out; omega
            case rel => exact ⟨k + 1, l2, t2, by have := HKG.out; omega, by go_num, hS5, hg', HR', hb5⟩
        | false =>
          rw [hact] at d0 hba hX
          generalize hgtx : (⟨x.text.toArray⟩ : ByteArray) = tx at *
          go_upto_region 8 with (fail)
          generalize wr.alloc (.cells #[.bool false, .string tx, .int .i64 x.pos] 73) = wx at *
          have hSx := hSt.below hba
          have x0 := hX.cell 0 _ rfl
          have x1 := hX.cell 1 _ rfl
          have hbx := hbr.trans (hba.mono hlw)
          have hlx : w1.heap.size ≤ wx.heap.size := hbx.size
          have hA : Calls Tryz.prog 26 #[.pointer (some ⟨p, 0, none⟩), .agg #[.int .i64 0, .string tx, .slice none 0 0, .slice none 0 0, .slice none 0 0]] wx (AddPost w1.heap.size p ls t (.mk 0 x.text [] [] []) wx) := by
            have h := add_calls wx hSx (.mk 0 x.text [] [] []) (.slice none 0 0) (.slice none 0 0) (.slice none 0 0) (cms_nil _ _) (its_nil _ _ _) (its_nil _ _ _) (by have := hGs t (by simp); omega) hlx
            rw [← hgtx]
            exact h
          have hac : acOf x = .ok (.item (.mk 0 x.text [] [] [])) := by unfold acOf; rw [if_neg (by rw [hact]; decide)]
          have hd : doA t.lv (lvs ls) (acOf x) = .ok (t.lv.add (.mk 0 x.text [] [] []) :: lvs ls) := by rw [hac]; rfl
          have hR := HRK.out
          rw [hd] at hR
          have hR' : R = endS (runS (t.lv.add (.mk 0 x.text [] [] []) :: lvs ls) (ps.drop (k + 1))) := hR
          have HR' := Lib.hid hR'
          have hg' := HPO.out _ hd
          clear hSx hSt hX hba hac hact HXS d0 d1 d2 hPr hbr hd hR hR' HPO HRK hgtx
          go_wp2_with fail
          refine hA.mono ?_
          rintro e w5 ⟨rfl, rv, hS5, hb⟩
          have hb5 := hbx.trans hb
          have hlv : lvs (ls ++ [({ t with lv := t.lv.add (.mk 0 x.text [] [] []), rv := rv } : Sl)]) = t.lv.add (.mk 0 x.text [] [] []) :: lvs ls := by rw [lvs_snoc]
          rw [← hlv] at hg' HR'
          clear hlv hA
          generalize ({ t with lv := t.lv.add (.mk 0 x.text [] [] []), rv := rv } : Sl) = t2 at *
          go_wp2
          go_roundg (gk - 1)
          case measure => have := HKG.out; omega
          case rel => exact ⟨k + 1, ls, t2, by have := HKG.out; omega, by go_num, hS5, hg', HR', hb5⟩
      · obtain rfl : k = ps.length := by omega
        have hR := hRk.out
        rw [List.drop_length, lvs_snoc] at hR
        have hR' : R = endS (.ok (t.lv :: lvs ls)) := by rw [hR]; rfl
        obtain ⟨N, q, c, hN, hpp, hn1, hn2, hn3, hrow⟩ := hSt.len
        have c0 := hpp.cell 0 _ rfl
        by_cases hl : ls = []
        · subst hl
          obtain rfl : N = 1 := hN
          have hR2 : R = .ok t.lv.row := hR'
          have HR2 := Lib.hid hR2
          have htl := hSt.levs t (by simp)
          have q0 : wr.cell? ⟨q, 0, none⟩ = some t.ptr := World.ownsRow.cellAt hrow 0 (by simp)
          unfold Sl.ptr at q0
          have hI := ((htl.row.mono (F' := fun b => t.rv.ownBlock ≠ some b) fun _ _ h => h t (by simp)).tobase hz1)
          have HI := Lib.hid hI
          obtain ⟨ra, rc, hrv⟩ := htl.row.slice
          have b5 := htl.blk.cell 5 (.slice ra t.lv.row.length rc) (by simp [Sl.cells, hrv])
          rw [hrv] at HI
          clear hR hR' hR2 htl hI hSt hpp hrow hRk hG hrv
          generalize t.lv.row.length = rn at *
          go_wp2
          go_ret2
          exact TmplPostX.ok HR2.out HI.out hbw
        · have hpos : ls.length ≠ 0 := fun h => hl (List.eq_nil_of_length_eq_zero h)
          have hNb : decide ((1 : Int) < (N : Int)) = true := decide_eq_true (by omega)
          have hR2 : R = .error 1600 := by
            rw [hR']
            obtain ⟨l2, t2, rfl⟩ : ∃ l2 t2, ls = l2 ++ [t2] := ⟨_, _, (List.dropLast_concat_getLast hl).symm⟩
            rw [lvs_snoc]
            rfl
          have HR2 := Lib.hid hR2
          clear hR hR' hR2 hSt hpp hrow hRk hG hl hpos hN hn2
          go_wp2
          go_ret2
          exact TmplPostX.no HR2.out hbw
  · have hR' : R = .error n := by rw [hR, if_pos hn]
    have HRR := Lib.hid hR'
    have hnb : ((n : Int) != 0) = true := by rw [bne, beq_eq_false_iff_ne.2 (by omega : (n : Int) ≠ 0)]; rfl
    have hnb2 : ((n : Int) == 0) = false := beq_eq_false_iff_ne.2 (by omega)
    clear hR hR' HR hw hn hE hE1
    go_wp2
    go_ret2
    exact TmplPostX.no HRR.out hb1
theorem tmplParse_calls (s : ByteArray) (w : World) (hE : Env w) :
    Calls Tryz.prog 8 #[.string s] w (TmplPost (tmplL s.data.toList) w) := (tmplParse_own s w hE).mono fun _ _ h => h.plain
end Go.Proofs.YtbcddlheikdlkaaGreatDoor.S
