/-
  THE WALKS of package tok (states): the rest.
-/
import Derived.Test.YtafkfamfhagokaaGreatDoorTokW4
set_option linter.unusedVariables false
set_option linter.unusedSimpArgs false
namespace Go.Proofs.YtafkfamfhagokaaGreatDoor.S
open Go.RowKit

set_option maxRecDepth 100000 in
set_option maxHeartbeats 600000 in
theorem tkTagName_calls (b : Nat) (s : Sx) (c : Nat) (w : World) (hS : StAt b s w) (hc : c < 256) : Calls Tryz.prog 120 #[.pointer (some ⟨b, 0, none⟩), .int .u8 c] w (TkPost (tagNameX s c) w) := by
  obtain ⟨R, hR⟩ : ∃ R, R = tagNameX s c := ⟨_, rfl⟩
  rw [← hR]
  have hlt := hS.lt
  have hne : w.heap.size ≠ b := by omega
  go_enter Tryz.func120, Tryz.ntmps120
  go_upto_region 1 with (fail)
  have hB0 : Blk w.heap.size 23 stZ (w.alloc (.cells #[.int .i64 0, .string ⟨#[]⟩, .bool false, .string ⟨#[]⟩, .string ⟨#[]⟩, .int .i64 0] 23)) := Blk.new w _ _
  have hb0 := (Below.refl w.heap.size w).alloc (Nat.le_refl _) (.cells #[.int .i64 0, .string ⟨#[]⟩, .bool false, .string ⟨#[]⟩, .string ⟨#[]⟩, .int .i64 0] 23)
  have hz0 : w.heap.size ≤ (w.alloc (.cells #[.int .i64 0, .string ⟨#[]⟩, .bool false, .string ⟨#[]⟩, .string ⟨#[]⟩, .int .i64 0] 23)).heap.size := hb0.size
  generalize w.alloc (.cells #[.int .i64 0, .string ⟨#[]⟩, .bool false, .string ⟨#[]⟩, .string ⟨#[]⟩, .int .i64 0] 23) = w0 at *
  cases hbt : betweenX s c 4 with
  | some o =>
    obtain rfl : R = o := by rw [hR]; unfold tagNameX; rw [hbt]
    clear hR 
    have HBT := Lib.hid (fun W (h : Below w0.heap.size w0 W) => (show Calls Tryz.prog 179 #[.pointer (some ⟨b, 0, none⟩), .int .u8 c, .int .i64 4] W (BtPost (some R) W) by rw [← hbt]; exact tkBetween_calls b s c 4 W ((hS.below hb0).below h) hc))
    clear hbt
    go_upto_region 2 with (first | (go_at_call 179; refine (HBT.out _ (Below.refl _ _)).mono ?_; rintro e w1 ⟨hy, hn, hb⟩; obtain rfl := hy R rfl; have hb1 := hb0.trans (hb.mono hz0); have hB1 := hB0.below hb; have hlw := hB1.lt; have hz1 : w.heap.size ≤ w1.heap.size := (by omega); have hne1 : w1.heap.size ≠ w.heap.size := (by omega); have hne2 : w.heap.size ≠ w1.heap.size := (by omega); clear hy hn hb))
    refine wp_at_world ?_
    intro w2 hw2
    obtain ⟨hO, hbo⟩ : Blk w1.heap.size 23 [.int .i64 R.pl, .string ⟨R.nm.toArray⟩, .bool R.fin, .string ⟨R.attr.toArray⟩, .string ⟨R.held.toArray⟩, .int .i64 R.rd] w2 ∧ Below w1.heap.size w1 w2 := by rw [hw2]; exact ⟨Blk.new w1 [.int .i64 R.pl, .string ⟨R.nm.toArray⟩, .bool R.fin, .string ⟨R.attr.toArray⟩, .string ⟨R.held.toArray⟩, .int .i64 R.rd] 23, (Below.refl _ w1).alloc (Nat.le_refl _) _⟩
    have hb2 := hb1.trans (hbo.mono hz1)
    have hB2 := hB1.below hbo
    clear hw2 
    have d0 := hB2.cell 0 _ rfl
    have f0 := hB2.free 0
    have d1 := hB2.cell 1 _ rfl
    have f1 := hB2.free 1
    have d2 := hB2.cell 2 _ rfl
    have f2 := hB2.free 2
    have d3 := hB2.cell 3 _ rfl
    have f3 := hB2.free 3
    have d4 := hB2.cell 4 _ rfl
    have f4 := hB2.free 4
    have d5 := hB2.cell 5 _ rfl
    have f5 := hB2.free 5
    have c0 := hO.cell 0 _ rfl
    have c1 := hO.cell 1 _ rfl
    have c2 := hO.cell 2 _ rfl
    have c3 := hO.cell 3 _ rfl
    have c4 := hO.cell 4 _ rfl
    have c5 := hO.cell 5 _ rfl
    go_wp2
    exact bodyPost_ret (v := stV R) (by simp [results, Tryz.results120, go_sem, d0, d1, d2, d3, d4, d5]) rfl ⟨rfl, below6 hb2 _ _ _ _ _ _⟩
  | none =>
  obtain rfl : R = ⟨3, moreX s.nm c, s.fin, [], [], 0⟩ := by rw [hR]; unfold tagNameX; rw [hbt]
  clear hR
  have HBT := Lib.hid (fun W (h : Below w0.heap.size w0 W) => (show Calls Tryz.prog 179 #[.pointer (some ⟨b, 0, none⟩), .int .u8 c, .int .i64 4] W (BtPost none W) by rw [← hbt]; exact tkBetween_calls b s c 4 W ((hS.below hb0).below h) hc))
  clear hbt 
  go_upto_region 4 with (first | (go_at_call 179; refine (HBT.out _ (Below.refl _ _)).mono ?_; rintro e w1 ⟨hy, hn, hb⟩; obtain rfl := hn rfl; have hb1 := hb0.trans (hb.mono hz0); have hB1 := hB0.below hb; have hlw := hB1.lt; have hz1 : w.heap.size ≤ w1.heap.size := (by omega); have hne1 : w1.heap.size ≠ w.heap.size := (by omega); have hne2 : w.heap.size ≠ w1.heap.size := (by omega); clear hy hn hb))
  refine wp_at_world ?_
  intro w2 hw2
  have hbo : Below w1.heap.size w1 w2 := by rw [hw2]; exact (Below.refl _ w1).alloc (Nat.le_refl _) _
  have hb2 := hb1.trans (hbo.mono hz1)
  have hB2 := hB1.below hbo
  have hS2 := hS.below hb2
  have hz2 : w.heap.size ≤ w2.heap.size := hb2.size
  clear hw2 hbo hB1 hb1 hlw hz1 hne1 hne2
  have HM := Lib.hid (fun W => tkMore_calls s.nm c hc W)
  generalize moreX s.nm c = m at *
  obtain ⟨-, q1, q2, -, -, -⟩ := hS2
  have HK := Lib.hid (fun (W : World) (h : Below w2.heap.size w2 W) => (⟨cellK h q1, cellK h q2⟩ : W.cell? ⟨b, 1, none⟩ = some (.string ⟨s.nm.toArray⟩) ∧ W.cell? ⟨b, 2, none⟩ = some (.bool s.fin)))
  refine wp_region_held_drew (S := fun W => W.cell? ⟨b, 1, none⟩ = some (.string ⟨s.nm.toArray⟩) ∧ W.cell? ⟨b, 2, none⟩ = some (.bool s.fin)) (by kernel_rfl) (HK.out _ (Below.drew (Below.refl _ _))) (fun hS0 => ?_)
  refine wpAnyH_take (i := 0) (oi := { dst := some 15, op := _, type := _, pos := _, after := _, guard := _ }) (v := ?_) rfl (by kernel_rfl) (by kernel_rfl) (by kernel_rfl) (fun _ _ _ h => h) (Or.inl ⟨by rfl, ?_⟩) (by assumption) ?_
  rotate_left
  · intro W hSW
    obtain ⟨s1, s2⟩ := hSW
    first | (go_simp; done) | (go_simp; with_reducible rfl)
  try simp only [Act.put, List.setIfInBounds_toArray, List.set_cons_zero, List.set_cons_succ]
  refine wpAnyH_take (i := 1) (oi := { dst := some 16, op := _, type := _, pos := _, after := _, guard := _ }) (v := ?_) rfl (by kernel_rfl) (by kernel_rfl) (by kernel_rfl) (fun _ _ _ h => h) (Or.inl ⟨by rfl, ?_⟩) (by assumption) ?_
  rotate_left
  · intro W hSW
    obtain ⟨s1, s2⟩ := hSW
    first | (go_simp; done) | (go_simp; with_reducible rfl)
  try simp only [Act.put, List.setIfInBounds_toArray, List.set_cons_zero, List.set_cons_succ]
  refine wpAnyH_take (i := 2) (oi := { dst := some 17, op := _, type := _, pos := _, after := _, guard := _ }) (v := ?_) rfl (by kernel_rfl) (by kernel_rfl) (by kernel_rfl) (fun _ _ _ h => h) (Or.inl ⟨by rfl, ?_⟩) (by assumption) ?_
  rotate_left
  · intro W hSW
    obtain ⟨s1, s2⟩ := hSW
    first | (go_simp; done) | (go_simp; with_reducible rfl)
  try simp only [Act.put, List.setIfInBounds_toArray, List.set_cons_zero, List.set_cons_succ]
  refine wpAnyH_take (i := 3) (oi := { dst := some 18, op := _, type := _, pos := _, after := _, guard := _ }) (v := ?_) rfl (by kernel_rfl) (by kernel_rfl) (by kernel_rfl) (fun _ _ _ h => h) (Or.inl ⟨by rfl, ?_⟩) (by assumption) ?_
  rotate_left
  · intro W hSW
    obtain ⟨s1, s2⟩ := hSW
    first | (go_simp; done) | (go_simp; with_reducible rfl)
  try simp only [Act.put, List.setIfInBounds_toArray, List.set_cons_zero, List.set_cons_succ]
  refine wpAnyH_take (i := 4) (oi := { dst := some 19, op := _, type := _, pos := _, after := _, guard := _ }) (v := ?_) rfl (by kernel_rfl) (by kernel_rfl) (by kernel_rfl) (fun _ _ _ h => h) (Or.inl ⟨by rfl, ?_⟩) (by assumption) ?_
  rotate_left
  · intro W hSW
    obtain ⟨s1, s2⟩ := hSW
    first | (go_simp; done) | (go_simp; with_reducible rfl)
  try simp only [Act.put, List.setIfInBounds_toArray, List.set_cons_zero, List.set_cons_succ]
  refine wpAnyH_take (i := 6) (oi := { dst := some 21, op := _, type := _, pos := _, after := _, guard := _ }) (v := ?_) rfl (by kernel_rfl) (by kernel_rfl) (by kernel_rfl) (fun _ _ _ h => h) (Or.inl ⟨by rfl, ?_⟩) (by assumption) ?_
  rotate_left
  · intro W hSW
    obtain ⟨s1, s2⟩ := hSW
    first | (go_simp; done) | (go_simp; with_reducible rfl)
  try simp only [Act.put, List.setIfInBounds_toArray, List.set_cons_zero, List.set_cons_succ]
  refine wpAnyH_take (i := 7) (oi := { dst := some 22, op := _, type := _, pos := _, after := _, guard := _ }) (v := ?_) rfl (by kernel_rfl) (by kernel_rfl) (by kernel_rfl) (fun _ _ _ h => h) (Or.inl ⟨by rfl, ?_⟩) (by assumption) ?_
  rotate_left
  · intro W hSW
    obtain ⟨s1, s2⟩ := hSW
    first | (go_simp; done) | (go_simp; with_reducible rfl)
  try simp only [Act.put, List.setIfInBounds_toArray, List.set_cons_zero, List.set_cons_succ]
  refine wpAnyH_take (i := 8) (oi := { dst := some 23, op := _, type := _, pos := _, after := _, guard := _ }) (v := ?_) rfl (by kernel_rfl) (by kernel_rfl) (by kernel_rfl) (fun _ _ _ h => h) (Or.inl ⟨by rfl, ?_⟩) (by assumption) ?_
  rotate_left
  · intro W hSW
    obtain ⟨s1, s2⟩ := hSW
    first | (go_simp; done) | (go_simp; with_reducible rfl)
  try simp only [Act.put, List.setIfInBounds_toArray, List.set_cons_zero, List.set_cons_succ]
  refine wpAnyH_take (i := 9) (oi := { dst := some 24, op := _, type := _, pos := _, after := _, guard := _ }) (v := ?_) rfl (by kernel_rfl) (by kernel_rfl) (by kernel_rfl) (fun _ _ _ h => h) (Or.inl ⟨by rfl, ?_⟩) (by assumption) ?_
  rotate_left
  · intro W hSW
    obtain ⟨s1, s2⟩ := hSW
    first | (go_simp; done) | (go_simp; with_reducible rfl)
  try simp only [Act.put, List.setIfInBounds_toArray, List.set_cons_zero, List.set_cons_succ]
  refine wpAnyH_ready (rs := [5]) (by kernel_rfl) (by simp) ?_
  refine AllReadyH.cons (o := { dst := some 20, op := _, type := _, pos := _, after := _, guard := _ }) rfl (fun K hK => ?_) AllReadyH.nil
  go_simp
  go_at_call 178
  refine (HM.out _).mono ?_
  rintro e w3 ⟨rfl, hb3'⟩
  have hb3 := (Below.drew (Below.refl w2.heap.size w2)).trans (hb3'.mono (Nat.le_refl _))
  have hB3 := hB2.below hb3
  have d0 := hB3.cell 0 _ rfl
  have f0 := hB3.free 0
  have d1 := hB3.cell 1 _ rfl
  have f1 := hB3.free 1
  have d2 := hB3.cell 2 _ rfl
  have f2 := hB3.free 2
  have d3 := hB3.cell 3 _ rfl
  have f3 := hB3.free 3
  have d4 := hB3.cell 4 _ rfl
  have f4 := hB3.free 4
  have d5 := hB3.cell 5 _ rfl
  have f5 := hB3.free 5
  have hq3 := HK.out _ hb3
  refine hK.out _ _ hq3 (fun hS3 => ?_)
  clear hK K
  try simp only [Act.put, List.setIfInBounds_toArray, List.set_cons_zero, List.set_cons_succ]
  refine wpAnyH_take (i := 10) (oi := { dst := some 25, op := _, type := _, pos := _, after := _, guard := _ }) (v := ?_) rfl (by kernel_rfl) (by kernel_rfl) (by kernel_rfl) (fun _ _ _ h => h) (Or.inl ⟨by rfl, ?_⟩) (by assumption) ?_
  rotate_left
  · intro W hSW
    obtain ⟨s1, s2⟩ := hSW
    first | (go_simp; done) | (go_simp; with_reducible rfl)
  try simp only [Act.put, List.setIfInBounds_toArray, List.set_cons_zero, List.set_cons_succ]
  refine wpAnyH_ready (rs := [11]) (by kernel_rfl) (by simp) ?_
  refine AllReadyH.cons (o := { dst := none, op := _, type := _, pos := _, after := _, guard := _ }) rfl (fun K hK => ?_) AllReadyH.nil
  go_simp
  obtain ⟨g1, g2⟩ := hq3
  refine hK.out _ _ ⟨(by first | (go_simp; done) | (go_simp; assumption)), (by first | (go_simp; done) | (go_simp; assumption))⟩ (fun hS4 => ?_)
  clear hK K
  try simp only [Act.put, List.setIfInBounds_toArray, List.set_cons_zero, List.set_cons_succ]
  refine wpAnyH_done (by kernel_rfl) ?_ _
  go_wp2_with fail
  exact bodyPost_ret (v := stV ⟨3, m, s.fin, [], [], 0⟩) (by simp [results, Tryz.results120, go_sem, d0, d1, d2, d3, d4, d5]) rfl ⟨rfl, below6 (hb2.trans (hb3.mono hz2)) _ _ _ _ _ _⟩
end Go.Proofs.YtafkfamfhagokaaGreatDoor.S
