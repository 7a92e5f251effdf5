/-
  THE WALKS of package tmpl's otherwise, end, looped, leaves.
-/
import Derived.Test.YtdaffedbboofjaaGreatDoorTmpl2
import Derived.StillTailTactics
set_option linter.unusedVariables false
set_option linter.unusedSimpArgs false
namespace Go.Proofs.YtdaffedbboofjaaGreatDoor.S
open Go.RowKit
variable {base p : Nat} {F F' : Nat → Prop} {W W' : World} {s t : Sl} {ls : List Sl}

/-- the levels of a stack, the innermost one first -/
def lvs (ls : List Sl) : List Lv := ls.reverse.map Sl.lv
theorem lvs_snoc (ls : List Sl) (t : Sl) : lvs (ls ++ [t]) = t.lv :: lvs ls := by simp [lvs]
theorem lvs_empty (ls : List Sl) : (lvs ls).isEmpty = ls.isEmpty := by
  unfold lvs
  cases ls with
  | nil => rfl
  | cons a t => simp
def StPost (base p : Nat) (T : Except Nat (List Lv)) (w : World) (e : Ending) (w' : World) : Prop :=
  (∀ l, T = .ok l → e = .returned (.int .i64 0) ∧ ∃ ls', lvs ls' = l ∧ ls' ≠ [] ∧ St base p ls' w') ∧ (∀ c, T = .error c → e = .returned (.int .i64 c)) ∧ Below base w w'
theorem StPost.ok {T : Except Nat (List Lv)} {w w' : World} {ls' : List Sl} (h : T = .ok (lvs ls')) (hs : St base p ls' w') (hn : ls' ≠ []) (hb : Below base w w') : StPost base p T w (.returned (.int .i64 0)) w' :=
  ⟨(fun l h' => by rw [h] at h'; cases h'; exact ⟨rfl, ls', rfl, hn, hs⟩), (fun c h' => by rw [h] at h'; cases h'), hb⟩
theorem StPost.no {T : Except Nat (List Lv)} {w w' : World} {c : Nat} (h : T = .error c) (hb : Below base w w') : StPost base p T w (.returned (.int .i64 c)) w' :=
  ⟨(fun l h' => by rw [h] at h'; cases h'), (fun c' h' => by rw [h] at h'; cases h'; rfl), hb⟩
theorem St.len (h : St base p (ls ++ [t]) W) : ∃ N q c, N = ls.length + 1 ∧ Blk p 78 [.slice (some ⟨q, 0, none⟩) N c] W ∧ N ≤ 9223372036854775807 ∧ ls.length ≤ c ∧ c ≤ 9223372036854775807 ∧ W.ownsRow base 73 1 (.slice (some ⟨q, 0, none⟩) N c) N ((ls ++ [t]).map Sl.ptr) := by
  obtain ⟨q, c, h1, h2⟩ := h.par
  have hn : (ls ++ [t]).length = ls.length + 1 := by simp
  rw [hn] at h1 h2
  refine ⟨_, q, c, rfl, h1, ?_, ?_, ?_, h2⟩
  all_goals
    rcases h2.2 with ⟨h0, _⟩ | ⟨g, cap, cur, hv, _, _, hc, hm, _⟩
    · cases h0
    · obtain ⟨_, _, rfl⟩ := Value.slice.inj hv
      simp only [maxLen] at hm
      omega
def Sl.other (t : Sl) : Sl := { lv := { t.lv with th := t.lv.row, row := [], behind := true }, g := t.g, pv := t.pv, tv := t.rv, rv := .slice none 0 0 }
theorem St.other (h : St base p (ls ++ [t]) W) : St base p (ls ++ [t.other]) (((W.setCell ⟨t.g, 3, none⟩ t.rv).setCell ⟨t.g, 5, none⟩ (.slice none 0 0)).setCell ⟨t.g, 6, none⟩ (.bool true)) := by
  have htl := h.levs t (by simp)
  have hap : ∀ s ∈ ls, Apart s t := fun s hs => (List.pairwise_append.1 h.dist).2.2 s hs t (by simp)
  have hk : ∀ b, b ≠ t.g → (((W.setCell ⟨t.g, 3, none⟩ t.rv).setCell ⟨t.g, 5, none⟩ (.slice none 0 0)).setCell ⟨t.g, 6, none⟩ (.bool true)).heap[b]? = W.heap[b]? := fun b hb => by
    rw [setCell_heap _ _ _ _ _ hb, setCell_heap _ _ _ _ _ hb, setCell_heap _ _ _ _ _ hb]
  refine h.change rfl (fun b hb ho hbt => hk b hbt) (fun b hb => by simp [Sl.other, Value.ownBlock] at hb) (fun hK hM => ?_)
  refine ⟨(((htl.blk.set 3 _).set 5 _).set 6 _), htl.low, hK.cms _ _ htl.pipe, ?_, rw_nil _ _ _⟩
  refine (htl.row.move hK hM fun g hg => hk g ?_).its fun g hg => (fs_snoc g).2 ⟨fun s hs e => (hap s hs).2 g e hg, by simp [Sl.other, Value.ownBlock]⟩
  obtain ⟨_, _, cs', hc⟩ := htl.row.fact g hg
  exact blk_type htl.blk hc (by decide)
set_option maxRecDepth 100000 in
set_option maxHeartbeats 4000000 in
theorem otherwise_calls (w : World) (h : St base p (ls ++ [t]) w) :
    Calls Tryz.prog 90 #[.pointer (some ⟨p, 0, none⟩)] w (StPost base p (stepL t.lv (lvs ls) .els) w) := by
  obtain ⟨T, hT⟩ : ∃ T, T = stepL t.lv (lvs ls) .els := ⟨_, rfl⟩
  rw [← hT]
  have hT2 : T = if (ls.isEmpty || t.lv.behind) = true then .error 1601 else .ok (lvs (ls ++ [t.other])) := by rw [hT, stepL, lvs_empty, lvs_snoc]; rfl
  have HT := Lib.hid hT2
  clear hT hT2
  go_enter Tryz.func90, Tryz.ntmps90
  go_wp2_with fail
  refine (top_calls w h).mono ?_
  rintro e w2 ⟨rfl, m, hm⟩
  have h2 := h.drewN m
  rw [← hm] at h2
  have hb2 : Below base w w2 := by rw [hm]; exact Below.drewN (Below.refl _ _) m
  clear hm h
  obtain ⟨N, q, c, hN, hp, hn1, hn2, hn3, hrow⟩ := h2.len
  have htl := h2.levs t (by simp)
  have HLOW := Lib.hid htl.low
  have HO := Lib.hid h2.other
  have c0 := hp.cell 0 _ rfl
  have b6 := htl.blk.cell 6 (.bool t.lv.behind) rfl
  obtain ⟨ra, rc, hrv⟩ := htl.row.slice
  generalize t.lv.row.length = n at *
  have b5 := htl.blk.cell 5 (.slice ra n rc) (by simp [Sl.cells, hrv])
  have b3 := htl.blk.cell 3 t.tv rfl
  have f3 := htl.blk.free 3
  have f5 := htl.blk.free 5
  have f6 := htl.blk.free 6
  rw [hrv] at HO
  generalize t.lv.behind = bh at *
  have HN := Lib.hid hN
  clear hN hp hrow htl hn2 hn3 h2 hrv
  by_cases hl : ls = []
  · have h1b : ((N : Int) == 1) = true := beq_iff_eq.2 (by rw [HN.out, hl]; rfl)
    have hT : T = .error 1601 := by rw [HT.out, hl]; rfl
    have HTT := Lib.hid hT
    clear hT hl
    go_wp2
    go_ret
    exact StPost.no HTT.out hb2
  · have hpos : ls.length ≠ 0 := fun h => hl (List.eq_nil_of_length_eq_zero h)
    have h1b : ((N : Int) == 1) = false := beq_eq_false_iff_ne.2 (by have := HN.out; omega)
    have hle : ls.isEmpty = false := by cases ls with
      | nil => exact absurd rfl hl
      | cons a t => rfl
    cases bh with
    | true =>
      have hT : T = .error 1601 := by rw [HT.out, hle]; rfl
      have HTT := Lib.hid hT
      clear hT hl hle hpos
      go_wp2
      go_ret
      exact StPost.no HTT.out hb2
    | false =>
      have hT : T = .ok (lvs (ls ++ [t.other])) := by rw [HT.out, hle]; rfl
      have HTT := Lib.hid hT
      clear hT hl hle hpos
      go_wp2
      go_ret
      have ho := HO.out
      exact StPost.ok HTT.out ho (by simp) (((hb2.setCell (p := ⟨t.g, 3, none⟩) HLOW.out _).setCell (p := ⟨t.g, 5, none⟩) HLOW.out _).setCell (p := ⟨t.g, 6, none⟩) HLOW.out _)
theorem sub_one (n : Nat) (h : (n : Int) + 1 ≤ 9223372036854775807) : IntKind.i64.wrap (((n : Int) + 1) - 1) = (n : Int) := by rw [IntWalk.i64_in _ (by omega)]; omega
theorem lvs_last {l2 : List Sl} {t2 : Sl} : lvs (l2 ++ [t2]) = t2.lv :: lvs l2 := lvs_snoc l2 t2
/-- the item of the top block, as it is loaded -/
def Sl.endCells (t : Sl) : List Value := [.int .i64 t.lv.kind, .string ⟨#[]⟩, t.pv, (if t.lv.behind = true then t.tv else t.rv), (if t.lv.behind = true then t.rv else .slice none 0 0)]
theorem Kp.weak (k : Kp base F W W') (h : ∀ g, F' g → F g) : Kp base F' W W' := ⟨fun g cs hg hf => k.items g cs hg (h g hf), k.cms⟩
/-- the top block is taken off -/
theorem St.pop {q c N : Nat} (h : St base p (ls ++ [t]) W) (hp : Blk p 78 [.slice (some ⟨q, 0, none⟩) ls.length c] W') (hrow : W.ownsRow base 73 1 (.slice (some ⟨q, 0, none⟩) N c) N ((ls ++ [t]).map Sl.ptr)) (hN : N = ls.length + 1)
    (hk : ∀ b, b < W.heap.size → b ≠ t.g → b ≠ p → W'.heap[b]? = W.heap[b]?) (hpp : ∃ cs, W.heap[p]? = some (.cells cs 78 (0, 0))) :
    St base p ls W' ∧ Kp base (Fs ls) W W' ∧ (∀ g, Fs (ls ++ [t]) g → Fs ls g) ∧ (∀ g, t.rv.ownBlock = some g → Fs ls g ∧ W'.heap[g]? = W.heap[g]?) := by
  have htl := h.levs t (by simp)
  have hap : ∀ s ∈ ls, Apart s t := fun s hs => (List.pairwise_append.1 h.dist).2.2 s hs t (by simp)
  obtain ⟨pcs, hpc⟩ := hpp
  have hty : ∀ (b : Nat) (cs : Array Value) (T : TypeId), W.heap[b]? = some (.cells cs T (0, 0)) → T ≠ 75 → T ≠ 78 → W'.heap[b]? = W.heap[b]? := by
    intro b cs T hb h1 h2
    refine hk b (Array.getElem?_eq_some_iff.1 hb).1 (blk_type htl.blk hb h1) ?_
    rintro rfl
    rw [hb] at hpc
    injection hpc with hpc
    injection hpc with _ hpc
    exact h2 hpc
  have hK : Kp base (Fs ls) W W' := by
    refine ⟨fun g cs hg _ => hty g cs _ hg (by decide) (by decide), fun v cs hc => hc.hold fun b cs T hb hT => hty b cs T hb ?_ ?_⟩
    · rcases hT with rfl | rfl | rfl <;> decide
    · rcases hT with rfl | rfl | rfl <;> decide
  have hM : ∀ g, Fs (ls ++ [t]) g → Fs ls g := fun g hg => ((fs_snoc g).1 hg).1
  refine ⟨⟨⟨q, c, hp, ?_⟩, h.low, fun s hs => ?_, (List.pairwise_append.1 h.dist).1⟩, hK, hM, fun g hg => ⟨fun s hs e => (hap s hs).2 g e hg, ?_⟩⟩
  · subst hN
    rw [List.map_append] at hrow
    have hr2 := ownsRow_pop (by simp) hrow
    refine own_block hr2 fun g hg => ?_
    obtain ⟨cs, hc⟩ := own_type hr2 g hg
    exact hty g cs _ hc (by decide) (by decide)
  · have hl := h.levs s (List.mem_append_left _ hs)
    refine (hl.mono fun g _ hg => hM g hg).keep hK (hk _ hl.blk.lt (hap s hs).1 ?_) fun g hg => ?_
    · intro e
      have h1 := hl.blk
      unfold Blk at h1
      rw [e, hpc] at h1
      injection h1 with h1
      injection h1 with _ h1
      exact absurd h1 (by decide)
    · obtain ⟨_, _, cs', hc⟩ := hl.row.fact g hg
      exact hty g cs' _ hc (by decide) (by decide)
  · obtain ⟨_, _, cs', hc⟩ := htl.row.fact g hg
    exact hty g cs' _ hc (by decide) (by decide)
set_option maxRecDepth 100000 in
set_option maxHeartbeats 4000000 in
theorem tend_calls (w : World) (h : St base p (ls ++ [t]) w) (hsm : ∀ s ∈ ls, s.lv.row.length ≤ 1073741824) (hbw : base ≤ w.heap.size) :
    Calls Tryz.prog 91 #[.pointer (some ⟨p, 0, none⟩)] w (StPost base p (stepL t.lv (lvs ls) .fin) w) := by
  by_cases hl : ls = []
  · subst hl
    have hT : stepL t.lv (lvs []) .fin = .error 1600 := rfl
    have HTT := Lib.hid hT
    obtain ⟨N, q, c, hN, hp, hn1, hn2, hn3, hrow⟩ := h.len
    obtain rfl : N = 1 := hN
    have c0 := hp.cell 0 _ rfl
    generalize stepL t.lv (lvs []) .fin = T at *
    clear hT hp hrow h
    go_enter Tryz.func91, Tryz.ntmps91
    go_wp2
    go_ret
    exact StPost.no HTT.out (Below.refl _ _)
  · obtain ⟨l2, t2, rfl⟩ : ∃ l2 t2, ls = l2 ++ [t2] := ⟨_, _, (List.dropLast_concat_getLast hl).symm⟩
    have hT : stepL t.lv (lvs (l2 ++ [t2])) .fin = .ok (t2.lv.add t.lv.item :: lvs l2) := by rw [lvs_snoc]; rfl
    have HTT := Lib.hid hT
    generalize stepL t.lv (lvs (l2 ++ [t2])) .fin = T at *
    have hs2 := hsm t2 (by simp)
    obtain ⟨N, q, c, hN, hp, hn1, hn2, hn3, hrow⟩ := h.len
    obtain ⟨n, hn⟩ : ∃ n, n = (l2 ++ [t2]).length := ⟨_, rfl⟩
    rw [← hn] at hN hn2
    subst hN
    have hnpos : 0 < n := by rw [hn]; simp
    have h1b : (((n : Int) + 1) == 1) = false := beq_eq_false_iff_ne.2 (by omega)
    have hsub := sub_one n (by omega)
    have hsub' : ((n : Int) + 1) - 1 = (n : Int) := by omega
    have hsl : ∀ W, (Instr.slice 76 (.slice (some ⟨q, 0, none⟩) (n + 1) c) none (some (.int .i64 (n : Int))) none).run Tryz.prog W = .ok (.slice (some ⟨q, 0, none⟩) n c) W := by
      intro W
      rw [run_slice_h (P := Tryz.prog) W 76 (some ⟨q, 0, none⟩) (n + 1) c (by kernel_rfl) .i64 (n : Int) (by omega) (by omega), show (sizeOf (Tryz.prog.elem 76)).run Tryz.prog W = .ok 1 W by kernel_rfl, Int.toNat_natCast]
      simp only [Result.andThen, sliced, Nat.sub_zero]
      split <;> simp [Addr.add_lit]
    have c0 := hp.cell 0 _ rfl
    have HN := Lib.hid hn
    have hpz := hp.lt
    have htp : t.g ≠ p := fun e => by
      have h1 := (h.levs t (by simp)).blk
      unfold Blk at h1
      rw [e, hp] at h1
      injection h1 with h1
      injection h1 with _ h1
      exact absurd h1 (by decide)
    have htp' := Ne.symm htp
    clear hT hn
    go_enter Tryz.func91, Tryz.ntmps91
    go_wp2_with fail
    refine (top_calls w h).mono ?_
    rintro e w2 ⟨rfl, m, hm⟩
    have h2 := h.drewN m
    rw [← hm] at h2
    have hb2 : Below base w w2 := by rw [hm]; exact Below.drewN (Below.refl _ _) m
    have hp2 : Blk p 78 _ w2 := hp.below (by rw [hm]; exact Below.drewN (Below.refl _ _) m)
    have hrow2 := own_below hrow (Below.drewN (Below.refl w.heap.size w) m)
    rw [← hm] at hrow2
    have hbw2 : base ≤ w2.heap.size := Nat.le_trans hbw hb2.size
    clear hm h hp hrow c0 hpz
    have htl := h2.levs t (by simp)
    obtain ⟨ra, rc, hrv⟩ := htl.row.slice
    obtain ⟨ta, tc, htv⟩ := htl.th.slice
    obtain ⟨pa, pc, hpv⟩ := htl.pipe.slice
    have hBc : t.cells = [.int .i64 t.lv.kind, .string ⟨#[]⟩, .slice pa t.lv.pipe.length pc, .slice ta t.lv.th.length tc, .slice none 0 0, .slice ra t.lv.row.length rc, .bool t.lv.behind] := by rw [Sl.cells, hrv, hpv, htv]
    have htl' := htl.blk
    rw [hBc] at htl'
    have b6 := htl'.cell 6 _ rfl
    have b5 := htl'.cell 5 _ rfl
    have b4 := htl'.cell 4 _ rfl
    have b3 := htl'.cell 3 _ rfl
    have f3 := htl'.free 3
    have f4 := htl'.free 4
    have hp2h := Lib.hid hp2
    clear hBc
    cases hbh : t.lv.behind with
    | true =>
      have hit : t.lv.item = .mk t.lv.kind [] t.lv.pipe t.lv.th t.lv.row := by unfold Lv.item; rw [hbh]; rfl
      have HI := Lib.hid hit
      have hB3 := htl'.set 4 (.slice ra t.lv.row.length rc)
      have hp3 := Blk.grown hp2 (grownBy_set w2 t.g 4 (.slice ra t.lv.row.length rc)) (by simpa using htp')
      have hk3 : ∀ b, b ≠ t.g → (w2.setCell ⟨t.g, 4, none⟩ (.slice ra t.lv.row.length rc)).heap[b]? = w2.heap[b]? := fun b hb => setCell_heap _ _ _ _ _ hb
      have hb3 := hb2.setCell (p := ⟨t.g, 4, none⟩) htl.low (.slice ra t.lv.row.length rc)
      have HBH := Lib.hid hbh
      rw [hbh] at b6
      have HB3 := Lib.hid hB3
      have HK3 := Lib.hid hk3
      have HP3 := Lib.hid hp3
      clear hit hB3 hk3 hp3 hp2 hbh
      go_upto_region 7 with (fail)
      clear b3 b4 b5 b6 f3 f4
      generalize w2.setCell ⟨t.g, 4, none⟩ (.slice ra t.lv.row.length rc) = w3 at *
      have c0 := HP3.out.cell 0 _ rfl
      have f0 := HP3.out.free 0
      have hB4 := Blk.grown HB3.out (grownBy_set w3 p 0 (.slice (some ⟨q, 0, none⟩) n c)) (by simpa using htp)
      have hp4 := HP3.out.set 0 (.slice (some ⟨q, 0, none⟩) n c)
      have hk4 : ∀ b, b ≠ t.g → b ≠ p → (w3.setCell ⟨p, 0, none⟩ (.slice (some ⟨q, 0, none⟩) n c)).heap[b]? = w2.heap[b]? := fun b h1 h2 => (setCell_heap _ _ _ _ _ h2).trans (HK3.out b h1)
      have hb4 := Below.drewN (hb3.setCell (p := ⟨p, 0, none⟩) h2.low (.slice (some ⟨q, 0, none⟩) n c)) 1
      have HB4 := Lib.hid hB4
      have HP4 := Lib.hid hp4
      have HK4 := Lib.hid hk4
      clear hB4 hp4 hk4 hb3
      go_region
      go_upto_region 8 with (fail)
      change Below base w ((w3.setCell ⟨p, 0, none⟩ (.slice (some ⟨q, 0, none⟩) n c)).drew) at hb4
      have HB4 : Hid (Blk t.g _ _ ((w3.setCell ⟨p, 0, none⟩ (.slice (some ⟨q, 0, none⟩) n c)).drew)) := HB4
      have HP4 : Hid (Blk p 78 [Value.slice (some ⟨q, 0, none⟩) n c] ((w3.setCell ⟨p, 0, none⟩ (.slice (some ⟨q, 0, none⟩) n c)).drew)) := HP4
      have HK4 : Hid (∀ b, b ≠ t.g → b ≠ p → ((w3.setCell ⟨p, 0, none⟩ (.slice (some ⟨q, 0, none⟩) n c)).drew).heap[b]? = w2.heap[b]?) := HK4
      generalize (w3.setCell ⟨p, 0, none⟩ (.slice (some ⟨q, 0, none⟩) n c)).drew = w4 at *
      have hpp := HP4.out
      rw [show [Value.slice (some ⟨q, 0, none⟩) n c] = [Value.slice (some ⟨q, 0, none⟩) (l2 ++ [t2]).length c] by rw [← HN.out]] at hpp
      obtain ⟨hS4, hK4, hM4, hR4⟩ := h2.pop hpp hrow2 (by rw [HN.out]) (fun b _ h1 h2 => HK4.out b h1 h2) ⟨_, hp2h.out⟩
      have hrw : Its base (Fs (l2 ++ [t2])) w4 (.slice ra t.lv.row.length rc) t.lv.row := by
        have h := htl.row.move (hK4.weak hM4) (fun g _ hf => hM4 g hf) fun g hg => (hR4 g hg).2
        have h := h.its fun g hg => (hR4 g hg).1
        rwa [hrv] at h
      have hth : Its base (Fs (l2 ++ [t2])) w4 (.slice ta t.lv.th.length tc) t.lv.th := by
        have h := htl.th.move (hK4.weak hM4) fun g _ hf => hM4 g hf
        rwa [htv] at h
      have hpi := hK4.cms _ _ htl.pipe
      rw [hpv] at hpi
      have d0 := HB4.out.cell 0 _ rfl
      have d1 := HB4.out.cell 1 _ rfl
      have d2 := HB4.out.cell 2 _ rfl
      have d3 := HB4.out.cell 3 _ rfl
      have d4 := HB4.out.cell 4 _ rfl
      have hbw4 : base ≤ w4.heap.size := by have := hb4.size; have := hb2.size; omega
      have hC := add_calls w4 hS4 (.mk t.lv.kind [] t.lv.pipe t.lv.th t.lv.row) (.slice pa t.lv.pipe.length pc) (.slice ta t.lv.th.length tc) (.slice ra t.lv.row.length rc) hpi hth hrw hs2 hbw4
      clear hS4 hK4 hM4 hR4 hrw hth hpi hpp h2 hrow2 htl c0 f0 hrv htv hpv
      go_wp2_with fail
      refine hC.mono ?_
      rintro e w5 ⟨rfl, rv, hS5, hb5⟩
      have HS5 := Lib.hid hS5
      clear hS5 hC d0 d1 d2 d3 d4
      go_wp2
      go_ret
      have h5 := HS5.out
      exact StPost.ok (by rw [HTT.out, lvs_snoc, HI.out]) h5 (by simp) (hb4.trans hb5)
    | false =>
      have hit : t.lv.item = .mk t.lv.kind [] t.lv.pipe t.lv.row [] := by unfold Lv.item; rw [hbh]; rfl
      have HI := Lib.hid hit
      have hB3 := htl'.set 3 (.slice ra t.lv.row.length rc)
      have hp3 := Blk.grown hp2 (grownBy_set w2 t.g 3 (.slice ra t.lv.row.length rc)) (by simpa using htp')
      have hk3 : ∀ b, b ≠ t.g → (w2.setCell ⟨t.g, 3, none⟩ (.slice ra t.lv.row.length rc)).heap[b]? = w2.heap[b]? := fun b hb => setCell_heap _ _ _ _ _ hb
      have hb3 := hb2.setCell (p := ⟨t.g, 3, none⟩) htl.low (.slice ra t.lv.row.length rc)
      have HBH := Lib.hid hbh
      rw [hbh] at b6
      have HB3 := Lib.hid hB3
      have HK3 := Lib.hid hk3
      have HP3 := Lib.hid hp3
      clear hit hB3 hk3 hp3 hp2 hbh
      go_upto_region 7 with (fail)
      clear b3 b4 b5 b6 f3 f4
      generalize w2.setCell ⟨t.g, 3, none⟩ (.slice ra t.lv.row.length rc) = w3 at *
      have c0 := HP3.out.cell 0 _ rfl
      have f0 := HP3.out.free 0
      have hB4 := Blk.grown HB3.out (grownBy_set w3 p 0 (.slice (some ⟨q, 0, none⟩) n c)) (by simpa using htp)
      have hp4 := HP3.out.set 0 (.slice (some ⟨q, 0, none⟩) n c)
      have hk4 : ∀ b, b ≠ t.g → b ≠ p → (w3.setCell ⟨p, 0, none⟩ (.slice (some ⟨q, 0, none⟩) n c)).heap[b]? = w2.heap[b]? := fun b h1 h2 => (setCell_heap _ _ _ _ _ h2).trans (HK3.out b h1)
      have hb4 := Below.drewN (hb3.setCell (p := ⟨p, 0, none⟩) h2.low (.slice (some ⟨q, 0, none⟩) n c)) 1
      have HB4 := Lib.hid hB4
      have HP4 := Lib.hid hp4
      have HK4 := Lib.hid hk4
      clear hB4 hp4 hk4 hb3
      go_region
      go_upto_region 8 with (fail)
      change Below base w ((w3.setCell ⟨p, 0, none⟩ (.slice (some ⟨q, 0, none⟩) n c)).drew) at hb4
      have HB4 : Hid (Blk t.g _ _ ((w3.setCell ⟨p, 0, none⟩ (.slice (some ⟨q, 0, none⟩) n c)).drew)) := HB4
      have HP4 : Hid (Blk p 78 [Value.slice (some ⟨q, 0, none⟩) n c] ((w3.setCell ⟨p, 0, none⟩ (.slice (some ⟨q, 0, none⟩) n c)).drew)) := HP4
      have HK4 : Hid (∀ b, b ≠ t.g → b ≠ p → ((w3.setCell ⟨p, 0, none⟩ (.slice (some ⟨q, 0, none⟩) n c)).drew).heap[b]? = w2.heap[b]?) := HK4
      generalize (w3.setCell ⟨p, 0, none⟩ (.slice (some ⟨q, 0, none⟩) n c)).drew = w4 at *
      have hpp := HP4.out
      rw [show [Value.slice (some ⟨q, 0, none⟩) n c] = [Value.slice (some ⟨q, 0, none⟩) (l2 ++ [t2]).length c] by rw [← HN.out]] at hpp
      obtain ⟨hS4, hK4, hM4, hR4⟩ := h2.pop hpp hrow2 (by rw [HN.out]) (fun b _ h1 h2 => HK4.out b h1 h2) ⟨_, hp2h.out⟩
      have hrw : Its base (Fs (l2 ++ [t2])) w4 (.slice ra t.lv.row.length rc) t.lv.row := by
        have h := htl.row.move (hK4.weak hM4) (fun g _ hf => hM4 g hf) fun g hg => (hR4 g hg).2
        have h := h.its fun g hg => (hR4 g hg).1
        rwa [hrv] at h
      have hth : Its base (Fs (l2 ++ [t2])) w4 (.slice ta t.lv.th.length tc) t.lv.th := by
        have h := htl.th.move (hK4.weak hM4) fun g _ hf => hM4 g hf
        rwa [htv] at h
      have hpi := hK4.cms _ _ htl.pipe
      rw [hpv] at hpi
      have d0 := HB4.out.cell 0 _ rfl
      have d1 := HB4.out.cell 1 _ rfl
      have d2 := HB4.out.cell 2 _ rfl
      have d3 := HB4.out.cell 3 _ rfl
      have d4 := HB4.out.cell 4 _ rfl
      have hbw4 : base ≤ w4.heap.size := by have := hb4.size; have := hb2.size; omega
      have hC := add_calls w4 hS4 (.mk t.lv.kind [] t.lv.pipe t.lv.row []) (.slice pa t.lv.pipe.length pc) (.slice ra t.lv.row.length rc) (.slice none 0 0) hpi hrw (its_nil _ _ _) hs2 hbw4
      clear hS4 hK4 hM4 hR4 hrw hth hpi hpp h2 hrow2 htl c0 f0 hrv htv hpv
      go_wp2_with fail
      refine hC.mono ?_
      rintro e w5 ⟨rfl, rv, hS5, hb5⟩
      have HS5 := Lib.hid hS5
      clear hS5 hC d0 d1 d2 d3 d4
      go_wp2
      go_ret
      have h5 := HS5.out
      exact StPost.ok (by rw [HTT.out, lvs_snoc, HI.out]) h5 (by simp) (hb4.trans hb5)
end Go.Proofs.YtdaffedbboofjaaGreatDoor.S
