/-
  THE WALKS of package pipe's wordMay, cut.
-/
import Derived.Test.YtdaffedbboofjaaGreatDoorPipeW1
import Derived.Laws.Pointers
set_option linter.unusedVariables false
set_option linter.unusedSimpArgs false
namespace Go.Proofs.YtdaffedbboofjaaGreatDoor.S
open Go.RowKit

set_option maxRecDepth 100000 in
set_option maxHeartbeats 8000000 in
theorem wordMay_calls (g off base : Nat) (d : Wd) (pv : Value) (w : World) (hd : WdOk d) (ht : d.text.length ≤ 65536) (c0 : w.cell? ⟨g, off, none⟩ = some (.int .i64 d.kind)) (c1 : w.cell? ⟨g, off + 1, none⟩ = some (.string ⟨d.text.toArray⟩))
    (c2 : w.cell? ⟨g, off + 2, none⟩ = some pv) (c3 : w.cell? ⟨g, off + 3, none⟩ = some (.int .i64 d.num)) (hp : Txs base pv d.path w) :
    Calls Tryz.prog 119 #[.pointer (some ⟨g, off, none⟩)] w fun e w' => e = .returned (.bool true) ∧ w = w' := by
  obtain ⟨pa, pc, rfl⟩ := hp.slice
  have hnl : ∀ x, nameOk x = true → x.length ≤ 65536 := fun x hx => by
    simp only [nameOk, Bool.and_eq_true, decide_eq_true_eq] at hx
    omega
  cases hd with
  | name x h =>
    have hs : StrIs (⟨x.toArray⟩ : ByteArray) x := rfl
    have h5 := hs.size
    have h6 := hnl x h
    have hC := wName_calls _ _ hs w
    rw [h] at hC
    have hP := path_calls base _ _ _ hp (fun x hx => by cases hx) (Nat.zero_le _)
    dsimp only at c0 c1 c2 c3 hP
    generalize (⟨x.toArray⟩ : ByteArray) = t at *
    have h7 : decide ((t.size : Int) ≤ 65536) = true := decide_eq_true (by omega)
    clear h hs hnl hp ht h5 h6
    go_enter Tryz.func119, Tryz.ntmps119
    go_wp2_with (first | (go_at_call 103; refine hC.mono ?_; rintro e w' ⟨rfl, rfl⟩) | (go_at_call 155; refine hP.mono ?_; rintro e w' ⟨rfl, rfl⟩) | (go_at_call 156; refine (vint_calls 0 (by decide) _).mono ?_; rintro e w' ⟨rfl, rfl⟩))
    go_ret
    exact ⟨rfl, rfl⟩
  | field xs h hl =>
    have hP := path_calls base _ _ _ hp h hl
    dsimp only at c0 c1 c2 c3 hP
    clear h hnl hp ht
    go_enter Tryz.func119, Tryz.ntmps119
    go_wp2_with (first | (go_at_call 155; refine hP.mono ?_; rintro e w' ⟨rfl, rfl⟩) | (go_at_call 156; refine (vint_calls 0 (by decide) _).mono ?_; rintro e w' ⟨rfl, rfl⟩))
    go_ret
    exact ⟨rfl, rfl⟩
  | var x xs h hx hl =>
    have hs : StrIs (⟨x.toArray⟩ : ByteArray) x := rfl
    have h5 := hs.size
    have h6 := hnl x h
    have hC := wName_calls _ _ hs w
    rw [h] at hC
    have hP := path_calls base _ _ _ hp hx hl
    dsimp only at c0 c1 c2 c3 hP
    generalize (⟨x.toArray⟩ : ByteArray) = t at *
    have h7 : decide ((t.size : Int) ≤ 65536) = true := decide_eq_true (by omega)
    clear h hs hnl hp ht h5 h6 hx
    go_enter Tryz.func119, Tryz.ntmps119
    go_wp2_with (first | (go_at_call 103; refine hC.mono ?_; rintro e w' ⟨rfl, rfl⟩) | (go_at_call 155; refine hP.mono ?_; rintro e w' ⟨rfl, rfl⟩) | (go_at_call 156; refine (vint_calls 0 (by decide) _).mono ?_; rintro e w' ⟨rfl, rfl⟩))
    go_ret
    exact ⟨rfl, rfl⟩
  | num z h =>
    have hP := path_calls base _ _ _ hp (fun x hx => by cases hx) (Nat.zero_le _)
    have hZ := vint_calls z h w
    dsimp only at c0 c1 c2 c3 hP
    clear h hnl hp ht
    go_enter Tryz.func119, Tryz.ntmps119
    go_wp2_with (first | (go_at_call 155; refine hP.mono ?_; rintro e w' ⟨rfl, rfl⟩) | (go_at_call 156; refine hZ.mono ?_; rintro e w' ⟨rfl, rfl⟩))
    go_ret
    exact ⟨rfl, rfl⟩
  | text x =>
    have hs : StrIs (⟨x.toArray⟩ : ByteArray) x := rfl
    have h5 := hs.size
    have hP := path_calls base _ _ _ hp (fun x hx => by cases hx) (Nat.zero_le _)
    dsimp only at c0 c1 c2 c3 hP ht
    generalize (⟨x.toArray⟩ : ByteArray) = t at *
    have h7 : decide ((t.size : Int) ≤ 65536) = true := decide_eq_true (by omega)
    clear hs hnl hp ht h5
    go_enter Tryz.func119, Tryz.ntmps119
    go_wp2_with (first | (go_at_call 155; refine hP.mono ?_; rintro e w' ⟨rfl, rfl⟩) | (go_at_call 156; refine (vint_calls 0 (by decide) _).mono ?_; rintro e w' ⟨rfl, rfl⟩))
    go_ret
    exact ⟨rfl, rfl⟩
  | pipe =>
    have hP := path_calls base _ _ _ hp (fun x hx => by cases hx) (Nat.zero_le _)
    dsimp only at c0 c1 c2 c3 hP
    clear hnl hp ht
    go_enter Tryz.func119, Tryz.ntmps119
    go_wp2_with (first | (go_at_call 155; refine hP.mono ?_; rintro e w' ⟨rfl, rfl⟩) | (go_at_call 156; refine (vint_calls 0 (by decide) _).mono ?_; rintro e w' ⟨rfl, rfl⟩))
    go_ret
    exact ⟨rfl, rfl⟩
  | set =>
    have hP := path_calls base _ _ _ hp (fun x hx => by cases hx) (Nat.zero_le _)
    dsimp only at c0 c1 c2 c3 hP
    clear hnl hp ht
    go_enter Tryz.func119, Tryz.ntmps119
    go_wp2_with (first | (go_at_call 155; refine hP.mono ?_; rintro e w' ⟨rfl, rfl⟩) | (go_at_call 156; refine (vint_calls 0 (by decide) _).mono ?_; rintro e w' ⟨rfl, rfl⟩))
    go_ret
    exact ⟨rfl, rfl⟩
/-- words that are read at a slice, each with its path's row -/
def WdV (v : Value) (ds : List Wd) (W : World) : Prop :=
  ∃ a c, v = .slice a ds.length c ∧ ds.length ≤ c ∧ c ≤ 9223372036854775807 ∧ ∀ (k : Nat) (hk : k < ds.length), ∃ g off pv, a = some ⟨g, off, none⟩ ∧
    W.cell? ⟨g, off + k * 4, none⟩ = some (.int .i64 ds[k].kind) ∧ W.cell? ⟨g, off + k * 4 + 1, none⟩ = some (.string ⟨ds[k].text.toArray⟩) ∧ W.cell? ⟨g, off + k * 4 + 2, none⟩ = some pv ∧ W.cell? ⟨g, off + k * 4 + 3, none⟩ = some (.int .i64 ds[k].num) ∧ Txs 0 pv ds[k].path W
theorem Wds.view {base : Nat} {v : Value} {ds : List Wd} {w : World} (h : Wds base v ds w) : WdV v ds w := by
  have hl := h.len_le
  have h' := h
  obtain ⟨zs, hz, hr, hp⟩ := h'
  have hcap : ∃ a c, v = .slice a ds.length c ∧ ds.length ≤ c ∧ c ≤ 9223372036854775807 := by
    rcases hr.2 with ⟨rfl, h0⟩ | ⟨g, cap, cur, rfl, hb, hh, hc, hm, hcs, htk⟩
    · exact ⟨none, 0, by rw [← hz, List.length_map, h0], by rw [← hz, List.length_map, h0]; exact Nat.le_refl _, by decide⟩
    · exact ⟨_, cap, by rw [← hz, List.length_map], by rw [← hz, List.length_map]; exact hc, by simp only [maxLen] at hm; omega⟩
  obtain ⟨a, c, rfl, h1, h2⟩ := hcap
  refine ⟨a, c, rfl, h1, h2, fun k hk => ?_⟩
  obtain ⟨b, cap, pv, hv, e0, e1, e2, e3, hq⟩ := h.at k hk
  obtain ⟨rfl, -, rfl⟩ := Value.slice.inj hv
  exact ⟨b, 0, pv, rfl, by rw [Nat.zero_add]; exact e0, by rw [Nat.zero_add]; exact e1, by rw [Nat.zero_add]; exact e2, by rw [Nat.zero_add]; exact e3, .inr (World.ownsRow.mono hq (Nat.zero_le _))⟩
theorem WdV.below {v : Value} {ds : List Wd} {w w' : World} (h : WdV v ds w) (hb : Below w.heap.size w w') : WdV v ds w' := by
  obtain ⟨a, c, rfl, h1, h2, hc⟩ := h
  refine ⟨a, c, rfl, h1, h2, fun k hk => ?_⟩
  obtain ⟨g, off, pv, rfl, e0, e1, e2, e3, hp⟩ := hc k hk
  have hk' : ∀ {p v}, w.cell? p = some v → w'.cell? p = some v := fun {p v} hv => (hb.cell (World.block_lt_of_cell? w p hv)).trans hv
  exact ⟨g, off, pv, rfl, hk' e0, hk' e1, hk' e2, hk' e3, hp.below hb⟩
theorem WdV.slice {v : Value} {ds : List Wd} {w : World} (h : WdV v ds w) : ∃ a c, v = .slice a ds.length c := let ⟨a, c, h, _⟩ := h; ⟨a, c, h⟩
/-- words from the k-th on, and the first k -/
theorem WdV.drop {a : Option Addr} {n c : Nat} {ds : List Wd} {w : World} (h : WdV (.slice a n c) ds w) (k : Nat) (hk : k ≤ ds.length) : WdV (sliced a k n c 4) (ds.drop k) w := by
  obtain ⟨a', c', hv, h1, h2, hc⟩ := h
  obtain ⟨rfl, rfl, rfl⟩ := Value.slice.inj hv
  unfold sliced
  refine ⟨_, _, by rw [List.length_drop], by rw [List.length_drop]; omega, by omega, fun j hj => ?_⟩
  rw [List.length_drop] at hj
  obtain ⟨g, off, pv, rfl, e0, e1, e2, e3, hp⟩ := hc (k + j) (by omega)
  have e : off + (k + j) * 4 = off + k * 4 + j * 4 := by omega
  rw [e] at e0 e1 e2 e3
  simp only [List.getElem_drop]
  exact ⟨g, off + k * 4, pv, by rw [if_neg (by omega)]; simp [Addr.add_lit], e0, e1, e2, e3, hp⟩
theorem WdV.take {a : Option Addr} {n c : Nat} {ds : List Wd} {w : World} (h : WdV (.slice a n c) ds w) (k : Nat) (hk : k ≤ ds.length) : WdV (sliced a 0 k c 4) (ds.take k) w := by
  obtain ⟨a', c', hv, h1, h2, hc⟩ := h
  obtain ⟨rfl, rfl, rfl⟩ := Value.slice.inj hv
  unfold sliced
  refine ⟨_, _, by rw [List.length_take, Nat.min_eq_left hk]; rfl, by rw [List.length_take]; omega, by omega, fun j hj => ?_⟩
  rw [List.length_take] at hj
  obtain ⟨g, off, pv, rfl, e0, e1, e2, e3, hp⟩ := hc j (by omega)
  simp only [List.getElem_take]
  refine ⟨g, off, pv, ?_, e0, e1, e2, e3, hp⟩
  split
  · rfl
  · simp [Addr.add_lit]
theorem wdSize (w : World) : (sizeOf (Tryz.prog.elem 112)).run Tryz.prog w = .ok 4 w := by kernel_rfl
theorem run_drop {a : Option Addr} {n c : Nat} (k : Nat) (hk : k ≤ n) (hn : n ≤ 9223372036854775807) (w : World) : (Instr.slice 112 (.slice a n c) (some (.int .i64 k)) none none).run Tryz.prog w = .ok (sliced a k n c 4) w := by
  rw [run_slice_l (P := Tryz.prog) w 112 a n c (by kernel_rfl) .i64 (k : Int) (by omega) (by omega), wdSize, Int.toNat_natCast]
  rfl
theorem run_take {a : Option Addr} {n c : Nat} (k : Nat) (hk : k ≤ c) (w : World) : (Instr.slice 112 (.slice a n c) none (some (.int .i64 k)) none).run Tryz.prog w = .ok (sliced a 0 k c 4) w := by
  rw [run_slice_h (P := Tryz.prog) w 112 a n c (by kernel_rfl) .i64 (k : Int) (by omega) (by omega), wdSize, Int.toNat_natCast]
  rfl
end Go.Proofs.YtdaffedbboofjaaGreatDoor.S
