/-
  THE WALKS of chapter 20's helpers: at, holeOf, text, awake.
-/
import Derived.Test.YtafkfamfhagokaaGreatDoorEscW5
import Derived.Test.YtafkfamfhagokaaGreatDoorCtxW7
import Derived.Test.YtafkfamfhagokaaGreatDoorCtxW4t
import Derived.Test.YtafkfamfhagokaaGreatDoorPlainC3
import Derived.Deep.RegionWith
set_option linter.unusedVariables false
set_option linter.unusedSimpArgs false
namespace Go.Proofs.YtafkfamfhagokaaGreatDoor.S
open Go.RowKit

theorem mayOk_true {c : Cx} (h : mayX c = true) : MayOk c := fun g W hB => (cxMay_true g c W hB h).mono (fun e w' h' => ⟨by rw [h]; exact h'.1, h'.2⟩)
theorem TxPost.one {R : Except Nat Cx} {w w' : World} {e : Ending} (h : TxPost R w e w') : ∃ (d : Cx) (k : Nat), e = .returned (.tuple #[cxV d, .int .i64 k]) ∧ Below w.heap.size w w' ∧ (R = .ok d ∧ k = 0 ∨ R = .error k ∧ d = cx0) := by
  obtain ⟨h1, h2, h3⟩ := h
  cases R with
  | ok d => exact ⟨d, 0, h1 d rfl, h3, .inl ⟨rfl, rfl⟩⟩
  | error k => exact ⟨cx0, k, h2 k rfl, h3, .inr ⟨rfl, rfl⟩⟩
theorem HlPost.one {R : Except Nat (Nat × Cx)} {w w' : World} {e : Ending} (h : HlPost R w e w') : ∃ (x : Nat) (d : Cx) (k : Nat), e = .returned (.tuple #[.int .i64 x, cxV d, .int .i64 k]) ∧ Below w.heap.size w w' ∧ (R = .ok (x, d) ∧ k = 0 ∨ R = .error k ∧ x = 0 ∧ d = cx0) := by
  obtain ⟨h1, h2, h3⟩ := h
  cases R with
  | ok d => obtain ⟨x, d⟩ := d; exact ⟨x, d, 0, h1 x d rfl, h3, .inl ⟨rfl, rfl⟩⟩
  | error k => exact ⟨0, cx0, k, h2 k rfl, h3, .inr ⟨rfl, rfl, rfl⟩⟩
theorem steps_err {l : List UInt8} : ∀ {c : Cx} {k : Nat}, stepsC c l = .error k → k = 2003 := by
  induction l with
  | nil => intro c k h; cases h
  | cons b r ih =>
    intro c k h
    rw [stepsC] at h
    cases hs : stepC c b.toNat with
    | error e => rw [hs] at h; cases h; exact stepC_err hs
    | ok d => rw [hs] at h; exact ih h
set_option maxRecDepth 100000 in
set_option maxHeartbeats 4000000 in
theorem at20_calls (s : ByteArray) (l : List UInt8) (hl : StrIs s l) (hs : s.size ≤ 9223372036854775807) (w : World) :
    Calls Tryz.prog 22 #[.string s] w fun e w' => ∃ (d : Cx) (k : Nat), e = .returned (.tuple #[cxV d, .int .i64 k]) ∧ Below w.heap.size w w' ∧ (textC cx0 l = .ok d ∧ k = 0 ∨ textC cx0 l = .error k ∧ d = cx0) := by
  have HT := Lib.hid (fun W => (cxText_calls cx0 s l hl hs W (mayOk_true mayX_0)).mono (fun e w' h => h.one))
  go_enter Tryz.func22, Tryz.ntmps22
  go_upto_region 1 with (fail)
  refine wp_at_world ?_
  intro w0 hw0
  have hB0 : Blk w.heap.size 25 cxZ w0 := by rw [hw0]; exact Blk.new w cxZ _
  have hb0 : Below w.heap.size w w0 := by rw [hw0]; exact (Below.refl _ w).alloc (Nat.le_refl _) _
  have hz0 := hb0.size
  clear hw0
  go_upto_region 2 with (first | (go_at_call 20; refine (cxStart_calls _).mono ?_; rintro e w1 ⟨rfl, hb1⟩) | (go_at_call 13; refine (HT.out _).mono ?_; rintro e w2 ⟨d, k, rfl, hb2, hR⟩; have HRR := Lib.hid hR; clear hR))
  refine wp_at_world ?_
  intro w3 hw3
  have hB3 : Blk w2.heap.size 25 (cxCells d) w3 := by rw [hw3]; exact Blk.new w2 (cxCells d) _
  have hb3 : Below w2.heap.size w2 w3 := by rw [hw3]; exact (Below.refl _ w2).alloc (Nat.le_refl _) _
  clear hw3
  have hB := ((hB0.below hb1).below hb2).below hb3
  have hbw := hb0.trans (hb1.mono hz0)
  have hbw := hbw.trans (hb2.mono hbw.size)
  have hbw := hbw.trans (hb3.mono hbw.size)
  clear hB0 hb0 hb1 hb2 hb3 hz0 HT
  generalize w2.heap.size = g at *
  have c0 := hB3.cell 0 _ rfl
  have c1 := hB3.cell 1 _ rfl
  have c2 := hB3.cell 2 _ rfl
  have c3 := hB3.cell 3 _ rfl
  have c4 := hB3.cell 4 _ rfl
  have c5 := hB3.cell 5 _ rfl
  have c6 := hB3.cell 6 _ rfl
  have c7 := hB3.cell 7 _ rfl
  have c8 := hB3.cell 8 _ rfl
  have c9 := hB3.cell 9 _ rfl
  have d0 := hB.cell 0 _ rfl
  have d1 := hB.cell 1 _ rfl
  have d2 := hB.cell 2 _ rfl
  have d3 := hB.cell 3 _ rfl
  have d4 := hB.cell 4 _ rfl
  have d5 := hB.cell 5 _ rfl
  have d6 := hB.cell 6 _ rfl
  have d7 := hB.cell 7 _ rfl
  have d8 := hB.cell 8 _ rfl
  have d9 := hB.cell 9 _ rfl
  have f0 := hB.free 0
  have f1 := hB.free 1
  have f2 := hB.free 2
  have f3 := hB.free 3
  have f4 := hB.free 4
  have f5 := hB.free 5
  have f6 := hB.free 6
  have f7 := hB.free 7
  have f8 := hB.free 8
  have f9 := hB.free 9
  go_region_with (go_at_call 19; go_in)
  all_goals go_wp2
  all_goals exact bodyPost_ret (v := .tuple #[cxV d, .int .i64 k]) (by simp [results, Tryz.results22, go_sem, d0, d1, d2, d3, d4, d5, d6, d7, d8, d9]) rfl ⟨d, k, rfl, (below10 hbw (Nat.le_refl _) _ _ _ _ _ _ _ _ _ _).drew, HRR.out⟩
def hoV (R : Int × Nat) : Value := .tuple #[.int .i64 R.1, .int .i64 R.2]
set_option maxRecDepth 100000 in
set_option maxHeartbeats 4000000 in
theorem holeOf20_calls (s : ByteArray) (l : List UInt8) (hl : StrIs s l) (hs : s.size ≤ 9223372036854775807) (w : World) :
    Calls Tryz.prog 25 #[.string s] w fun e w' => e = .returned (.tuple #[.int .i64 (holeOfL l).1, .int .i64 (holeOfL l).2]) ∧ Below w.heap.size w w' := by
  obtain ⟨R, hR⟩ : ∃ R, R = holeOfL l := ⟨_, rfl⟩
  rw [← hR]
  have HR := Lib.hid hR
  clear hR
  have HT := Lib.hid (fun W => at20_calls s l hl hs W)
  go_enter Tryz.func25, Tryz.ntmps25
  go_upto_region 2 with (go_at_call 22; refine (HT.out _).mono ?_; rintro e w1 ⟨d, k, rfl, hb1, hT⟩)
  refine wp_at_world ?_
  intro w3 hw3
  have hB3 : Blk w1.heap.size 25 (cxCells d) w3 := by rw [hw3]; exact Blk.new w1 (cxCells d) _
  have hb3 : Below w1.heap.size w1 w3 := by rw [hw3]; exact (Below.refl _ w1).alloc (Nat.le_refl _) _
  clear hw3 HT
  have hbw := hb1.trans (hb3.mono hb1.size)
  rcases hT with ⟨hT, rfl⟩ | ⟨hT, rfl⟩
  · have hm : mayX d = true := by rw [textC_0] at hT; exact mayX_steps mayX_0 hT
    have t0 : (((0 : Nat) : Int) != 0) = false := rfl
    have HRR := Lib.hid (show R = match holeC d with | .ok p => ((p.1 : Int), 0) | .error e => (0, e) by rw [HR.out]; unfold holeOfL; rw [hT]; dsimp only; cases holeC d <;> rfl)
    have HH := Lib.hid (fun W => (cxHole_calls d W (mayOk_true hm)).mono (fun e w' h => h.one))
    clear hm hT HR hb1 hb3
    generalize w1.heap.size = g at *
    have c0 := hB3.cell 0 _ rfl
    have c1 := hB3.cell 1 _ rfl
    have c2 := hB3.cell 2 _ rfl
    have c3 := hB3.cell 3 _ rfl
    have c4 := hB3.cell 4 _ rfl
    have c5 := hB3.cell 5 _ rfl
    have c6 := hB3.cell 6 _ rfl
    have c7 := hB3.cell 7 _ rfl
    have c8 := hB3.cell 8 _ rfl
    have c9 := hB3.cell 9 _ rfl
    go_wp2_with (first | (go_at_call 15; refine (HH.out _).mono ?_; rintro e w4 ⟨x, d2, k2, rfl, hb4, hH⟩; have HHH := Lib.hid hH; clear hH) | (go_at_call 19; go_in))
    have hb4 := hbw.trans (hb4.mono hbw.size)
    have hRv : R = ((x : Int), k2) := by
      rw [HRR.out]
      rcases HHH.out with ⟨h, h'⟩ | ⟨h, h', -⟩ <;> rw [h] <;> subst h' <;> rfl
    have HRV := Lib.hid hRv
    clear hRv HRR
    go_ret2
    rw [HRV.out]
    exact ⟨rfl, hb4.trans ((Below.refl _ w4).alloc (Nat.le_refl _) _ |>.mono hb4.size)⟩
  · have hk0 : k ≠ 0 := by
      intro h0
      subst h0
      rw [textC_0] at hT
      have := steps_err hT; omega
    have t1 : ((k : Int) != 0) = true := bne_iff_ne.2 (by omega)
    have hRv : R = (-1, k) := by rw [HR.out]; unfold holeOfL; rw [hT]
    have HRV := Lib.hid hRv
    clear hT HR hRv
    go_wp2
    go_ret2
    rw [HRV.out]
    exact ⟨rfl, hbw⟩
set_option maxRecDepth 100000 in
set_option maxHeartbeats 4000000 in
theorem text20_calls (s : ByteArray) (w : World) : Calls Tryz.prog 26 #[.string s] w fun e w' => e = .returned (lfV 4 0 s) ∧ Below w.heap.size w w' := by
  go_enter Tryz.func26, Tryz.ntmps26
  go_upto_region 1 with (fail)
  refine wp_at_world ?_
  intro w0 hw0
  have hB : Blk w.heap.size 30 [.int .i64 0, .int .i64 0, .int .u64 0, .string ⟨#[]⟩, .slice none 0 0, .slice none 0 0] w0 := by rw [hw0]; exact Blk.new w [.int .i64 0, .int .i64 0, .int .u64 0, .string ⟨#[]⟩, .slice none 0 0, .slice none 0 0] _
  have hb0 : Below w.heap.size w w0 := by rw [hw0]; exact (Below.refl _ w).alloc (Nat.le_refl _) _
  clear hw0
  have d0 := hB.cell 0 _ rfl
  have d1 := hB.cell 1 _ rfl
  have d2 := hB.cell 2 _ rfl
  have d3 := hB.cell 3 _ rfl
  have d4 := hB.cell 4 _ rfl
  have d5 := hB.cell 5 _ rfl
  have f0 := hB.free 0
  have f1 := hB.free 1
  have f2 := hB.free 2
  have f3 := hB.free 3
  have f4 := hB.free 4
  have f5 := hB.free 5
  go_wp2
  exact bodyPost_ret (v := lfV 4 0 s) (by simp [results, Tryz.results26, go_sem, d0, d1, d2, d3, d4, d5]) rfl ⟨rfl, below6 hb0 _ _ _ _ _ _⟩
end Go.Proofs.YtafkfamfhagokaaGreatDoor.S
