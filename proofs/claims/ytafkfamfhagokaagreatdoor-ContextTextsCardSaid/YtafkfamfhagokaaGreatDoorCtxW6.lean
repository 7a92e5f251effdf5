/-
  THE WALKS of package ctx (contexts): Text, Hole.
-/
import Derived.Test.YtafkfamfhagokaaGreatDoorCtxW5
import Derived.Test.YtafkfamfhagokaaGreatDoorUtfWalks
set_option linter.unusedVariables false
set_option linter.unusedSimpArgs false
namespace Go.Proofs.YtafkfamfhagokaaGreatDoor.S
open Go.RowKit

abbrev cxV (c : Cx) : Value := .agg #[.int .i64 c.st.pl, .string ⟨c.st.nm.toArray⟩, .bool c.st.fin, .string ⟨c.st.attr.toArray⟩, .string ⟨c.st.held.toArray⟩, .int .i64 c.st.rd, .bool c.ref, .int .i64 c.kd, .int .i64 c.url, .int .i64 c.lang]
abbrev cxZ : List Value := [.int .i64 0, .string ⟨#[]⟩, .bool false, .string ⟨#[]⟩, .string ⟨#[]⟩, .int .i64 0, .bool false, .int .i64 0, .int .i64 0, .int .i64 0]
theorem below10 {B r : Nat} {w w1 : World} (h : Below B w w1) (hr : B ≤ r) (a0 a1 a2 a3 a4 a5 a6 a7 a8 a9 : Value) : Below B w ((((((((((w1.setCell ⟨r, 0, none⟩ a0).setCell ⟨r, 1, none⟩ a1).setCell ⟨r, 2, none⟩ a2).setCell ⟨r, 3, none⟩ a3).setCell ⟨r, 4, none⟩ a4).setCell ⟨r, 5, none⟩ a5).setCell ⟨r, 6, none⟩ a6).setCell ⟨r, 7, none⟩ a7).setCell ⟨r, 8, none⟩ a8).setCell ⟨r, 9, none⟩ a9) := ((((((((((h.setCell hr _).setCell hr _).setCell hr _).setCell hr _).setCell hr _).setCell hr _).setCell hr _).setCell hr _).setCell hr _).setCell hr _)
theorem boxed3 (w : World) (c : Cx) : Blk w.heap.size 25 (cxCells c) ((w.alloc (.cells #[.int .i64 c.st.pl, .string ⟨c.st.nm.toArray⟩, .bool c.st.fin, .string ⟨c.st.attr.toArray⟩, .string ⟨c.st.held.toArray⟩, .int .i64 c.st.rd, .bool c.ref, .int .i64 c.kd, .int .i64 c.url, .int .i64 c.lang] 25)).alloc (.cells #[.int .i64 0, .string ⟨#[]⟩, .bool false, .string ⟨#[]⟩, .string ⟨#[]⟩, .int .i64 0, .bool false, .int .i64 0, .int .i64 0, .int .i64 0] 25)) ∧ Blk (w.heap.size + 1) 25 cxZ ((w.alloc (.cells #[.int .i64 c.st.pl, .string ⟨c.st.nm.toArray⟩, .bool c.st.fin, .string ⟨c.st.attr.toArray⟩, .string ⟨c.st.held.toArray⟩, .int .i64 c.st.rd, .bool c.ref, .int .i64 c.kd, .int .i64 c.url, .int .i64 c.lang] 25)).alloc (.cells #[.int .i64 0, .string ⟨#[]⟩, .bool false, .string ⟨#[]⟩, .string ⟨#[]⟩, .int .i64 0, .bool false, .int .i64 0, .int .i64 0, .int .i64 0] 25)) ∧ Below w.heap.size w ((w.alloc (.cells #[.int .i64 c.st.pl, .string ⟨c.st.nm.toArray⟩, .bool c.st.fin, .string ⟨c.st.attr.toArray⟩, .string ⟨c.st.held.toArray⟩, .int .i64 c.st.rd, .bool c.ref, .int .i64 c.kd, .int .i64 c.url, .int .i64 c.lang] 25)).alloc (.cells #[.int .i64 0, .string ⟨#[]⟩, .bool false, .string ⟨#[]⟩, .string ⟨#[]⟩, .int .i64 0, .bool false, .int .i64 0, .int .i64 0, .int .i64 0] 25)) := by
  have h1 := Blk.new w (cxCells c) 25
  have b1 := (Below.refl w.heap.size w).alloc (Nat.le_refl _) (.cells #[.int .i64 c.st.pl, .string ⟨c.st.nm.toArray⟩, .bool c.st.fin, .string ⟨c.st.attr.toArray⟩, .string ⟨c.st.held.toArray⟩, .int .i64 c.st.rd, .bool c.ref, .int .i64 c.kd, .int .i64 c.url, .int .i64 c.lang] 25)
  have z1 : (w.alloc (.cells #[.int .i64 c.st.pl, .string ⟨c.st.nm.toArray⟩, .bool c.st.fin, .string ⟨c.st.attr.toArray⟩, .string ⟨c.st.held.toArray⟩, .int .i64 c.st.rd, .bool c.ref, .int .i64 c.kd, .int .i64 c.url, .int .i64 c.lang] 25)).heap.size = w.heap.size + 1 := by simp
  change Blk w.heap.size _ _ (w.alloc (.cells #[.int .i64 c.st.pl, .string ⟨c.st.nm.toArray⟩, .bool c.st.fin, .string ⟨c.st.attr.toArray⟩, .string ⟨c.st.held.toArray⟩, .int .i64 c.st.rd, .bool c.ref, .int .i64 c.kd, .int .i64 c.url, .int .i64 c.lang] 25)) at h1
  generalize w.alloc (.cells #[.int .i64 c.st.pl, .string ⟨c.st.nm.toArray⟩, .bool c.st.fin, .string ⟨c.st.attr.toArray⟩, .string ⟨c.st.held.toArray⟩, .int .i64 c.st.rd, .bool c.ref, .int .i64 c.kd, .int .i64 c.url, .int .i64 c.lang] 25) = w1 at *
  have h2 := Blk.new w1 cxZ 25
  have b2 := (Below.refl w1.heap.size w1).alloc (Nat.le_refl _) (.cells #[.int .i64 0, .string ⟨#[]⟩, .bool false, .string ⟨#[]⟩, .string ⟨#[]⟩, .int .i64 0, .bool false, .int .i64 0, .int .i64 0, .int .i64 0] 25)
  rw [z1] at h2
  exact ⟨h1.below b2, h2, b1.trans (b2.mono (by omega))⟩
/-- what ctx's may says of a context -/
def MayOk (c : Cx) : Prop := ∀ (g : Nat) (W : World), Blk g 25 (cxCells c) W → Calls Tryz.prog 28 #[.pointer (some ⟨g, 0, none⟩)] W fun e w' => e = .returned (.bool (mayX c)) ∧ Below W.heap.size W w'
def TxPost (R : Except Nat Cx) (w : World) (e : Ending) (w' : World) : Prop :=
  (∀ d, R = .ok d → e = .returned (.tuple #[cxV d, .int .i64 0])) ∧ (∀ k, R = .error k → e = .returned (.tuple #[cxV cx0, .int .i64 k])) ∧ Below w.heap.size w w'
theorem TxPost.ok {d : Cx} {R : Except Nat Cx} {w w' : World} (h : R = .ok d) (hg : Below w.heap.size w w') : TxPost R w (.returned (.tuple #[cxV d, .int .i64 0])) w' :=
  ⟨(fun d' h' => by rw [h] at h'; cases h'; rfl), (fun k h' => by rw [h] at h'; cases h'), hg⟩
theorem TxPost.no {k : Nat} {R : Except Nat Cx} {w w' : World} (h : R = .error k) (hg : Below w.heap.size w w') : TxPost R w (.returned (.tuple #[cxV cx0, .int .i64 k])) w' :=
  ⟨(fun d' h' => by rw [h] at h'; cases h'), (fun k' h' => by rw [h] at h'; cases h'; rfl), hg⟩
theorem stepC_err {c : Cx} {b k : Nat} (h : stepC c b = .error k) : k = 2003 := by
  unfold stepC at h
  dsimp only at h
  repeat' split at h
  all_goals first | (cases h; rfl) | cases h
set_option maxRecDepth 100000 in
set_option maxHeartbeats 8000000 in
theorem cxText_calls (c : Cx) (s : ByteArray) (l : List UInt8) (hl : StrIs s l) (hs : s.size ≤ 9223372036854775807) (w : World) (hMY : MayOk c) : Calls Tryz.prog 13 #[cxV c, .string s] w (TxPost (textC c l) w) := by
  obtain rfl : s.data.toList = l := hl
  have hsl := size_list s
  obtain ⟨R, hR⟩ : ∃ R, R = textC c s.data.toList := ⟨_, rfl⟩
  rw [← hR]
  have HR := Lib.hid hR
  have HSL := Lib.hid hsl
  clear hR hsl
  go_enter Tryz.func13, Tryz.ntmps13
  go_upto_region 1 with (fail)
  refine wp_at_world ?_
  intro w0 hw0
  obtain ⟨hC0, hB0, hb0⟩ : Blk w.heap.size 25 (cxCells c) w0 ∧ Blk (w.heap.size + 1) 25 cxZ w0 ∧ Below w.heap.size w w0 := by rw [hw0]; exact boxed3 w c
  have hz0 : w.heap.size ≤ w0.heap.size := hb0.size
  have hn1 : w.heap.size + 1 ≠ w.heap.size := by omega
  have hn2 : w.heap.size ≠ w.heap.size + 1 := by omega
  clear hw0
  have hM := hMY w.heap.size w0 hC0
  cases hm : mayX c with
  | false =>
    rw [hm] at hM
    have HMY := Lib.hid hM
    have HR1 := Lib.hid (show R = .error 2000 by rw [HR.out]; unfold textC; rw [if_neg (by rw [hm]; decide)])
    clear hM hm HR
    go_wp2_with (go_at_call 28; refine HMY.out.mono ?_; rintro e w1 ⟨rfl, hb1⟩; have hB1 := hB0.below hb1; have d0 := hB1.cell 0 _ rfl; have f0 := hB1.free 0; have d1 := hB1.cell 1 _ rfl; have f1 := hB1.free 1; have d2 := hB1.cell 2 _ rfl; have f2 := hB1.free 2; have d3 := hB1.cell 3 _ rfl; have f3 := hB1.free 3; have d4 := hB1.cell 4 _ rfl; have f4 := hB1.free 4; have d5 := hB1.cell 5 _ rfl; have f5 := hB1.free 5; have d6 := hB1.cell 6 _ rfl; have f6 := hB1.free 6; have d7 := hB1.cell 7 _ rfl; have f7 := hB1.free 7; have d8 := hB1.cell 8 _ rfl; have f8 := hB1.free 8; have d9 := hB1.cell 9 _ rfl; have f9 := hB1.free 9)
    exact bodyPost_ret (v := .tuple #[cxV cx0, .int .i64 2000]) (by simp [results, Tryz.results13, go_sem, cx0, atX, d0, d1, d2, d3, d4, d5, d6, d7, d8, d9]) rfl (TxPost.no HR1.out (below10 (hb0.trans (hb1.mono hz0)) (Nat.le_succ _) _ _ _ _ _ _ _ _ _ _))
  | true =>
  rw [hm] at hM
  have HMY := Lib.hid hM
  have HM0 := Lib.hid hm
  have HR1 := Lib.hid (show R = stepsC c s.data.toList by rw [HR.out]; unfold textC; rw [if_pos hm])
  clear hM hm HR hMY
  go_upto_region 3 with (go_at_call 28; refine HMY.out.mono ?_; rintro e w1 ⟨rfl, hb1⟩)
  have hC1 := hC0.below hb1
  have hB1 := hB0.below hb1
  have hbw := hb0.trans (hb1.mono hz0)
  clear hC0 hB0 hb0 hb1 hz0 HMY
  go_wp2
  obtain ⟨g, hg⟩ : ∃ g, g = w.heap.size := ⟨_, rfl⟩
  go_loopg [13] s.size (fun gk v13 wr => ∃ (k : Nat) (d : Cx), k + gk = s.size ∧ v13 = .int .i64 k ∧ Blk w.heap.size 25 (cxCells d) wr ∧ Blk (w.heap.size + 1) 25 cxZ wr ∧ Below w.heap.size w wr ∧ mayX d = true ∧ R = stepsC d (s.data.toList.drop k))
  case atStart => exact ⟨0, c, by omega, rfl, hC1, hB1, hbw, HM0.out, HR1.out⟩
  case round =>
    obtain ⟨k, d, hkg, rfl, hC, hBr, hbr, hmd, hRk⟩ := hrel
    have HKG := Lib.hid hkg
    have HRK := Lib.hid hRk
    have HMD := Lib.hid hmd
    have hkl : k ≤ s.size := by omega
    clear hkg hRk hmd hg HM0 HR1
    by_cases hk : k < s.size
    · have hb : decide ((k : Int) < (s.size : Int)) = true := decide_eq_true (by omega)
      obtain ⟨x, hx⟩ : ∃ x : UInt8, x = s[k]'hk := ⟨_, rfl⟩
      have hbt : ∀ h', ((s[k]'h').toNat : Nat) = x.toNat := fun h' => by rw [hx]
      have hxl := x.toNat_lt
      have hdr : s.data.toList.drop k = x :: s.data.toList.drop (k + 1) := by rw [List.drop_eq_getElem_cons (by rw [HSL.out]; exact hk), hx]; rfl
      have hRd : R = match stepC d x.toNat with | .error e => .error e | .ok d' => stepsC d' (s.data.toList.drop (k + 1)) := by rw [HRK.out, hdr, stepsC]; rfl
      have hms : ∀ d', stepC d x.toNat = .ok d' → mayX d' = true := fun d' h => mayX_step HMD.out h
      have her : ∀ e, stepC d x.toNat = .error e → e = 2003 := fun e h => stepC_err h
      have hSP := cxStep_calls w.heap.size d x.toNat wr hC hxl HMD.out
      generalize stepC d x.toNat = R1 at *
      generalize x.toNat = bx at *
      have HRD := Lib.hid hRd
      have HMS := Lib.hid hms
      have HER := Lib.hid her
      have HSP := Lib.hid hSP
      clear hRd hms her hSP hx hdr HRK HMD
      cases R1 with
      | error e0 =>
        obtain rfl := HER.out e0 rfl
        have HR2 := Lib.hid (show R = .error 2003 from HRD.out)
        clear HRD HMS HER
        go_wp2_with (go_at_call 29; refine HSP.out.mono ?_; rintro e w2 ⟨hy, hn, hg2⟩; obtain rfl := hn 2003 rfl; have hB2 := hBr.grown hg2 (fun e => hn1 (Option.some.inj e)); have d0 := hB2.cell 0 _ rfl; have f0 := hB2.free 0; have d1 := hB2.cell 1 _ rfl; have f1 := hB2.free 1; have d2 := hB2.cell 2 _ rfl; have f2 := hB2.free 2; have d3 := hB2.cell 3 _ rfl; have f3 := hB2.free 3; have d4 := hB2.cell 4 _ rfl; have f4 := hB2.free 4; have d5 := hB2.cell 5 _ rfl; have f5 := hB2.free 5; have d6 := hB2.cell 6 _ rfl; have f6 := hB2.free 6; have d7 := hB2.cell 7 _ rfl; have f7 := hB2.free 7; have d8 := hB2.cell 8 _ rfl; have f8 := hB2.free 8; have d9 := hB2.cell 9 _ rfl; have f9 := hB2.free 9; clear hy hn)
        exact bodyPost_ret (v := .tuple #[cxV cx0, .int .i64 2003]) (by simp [results, Tryz.results13, go_sem, cx0, atX, d0, d1, d2, d3, d4, d5, d6, d7, d8, d9]) rfl (TxPost.no HR2.out (below10 (hbr.grown hg2 hbr.size (fun k hk => by cases hk; exact Nat.le_refl _)) (Nat.le_succ _) _ _ _ _ _ _ _ _ _ _))
      | ok d2 =>
        have HR2 := Lib.hid (show R = stepsC d2 (s.data.toList.drop (k + 1)) from HRD.out)
        have HM2 := Lib.hid (HMS.out d2 rfl)
        clear HRD HMS HER
        go_wp2_with (go_at_call 29; refine HSP.out.mono ?_; rintro e w2 ⟨hy, hn, hg2⟩; obtain ⟨rfl, hC2⟩ := hy d2 rfl; have HC2 := Lib.hid hC2; have HG2 := Lib.hid hg2; clear hy hn hC2 hg2)
        go_roundg (gk - 1)
        case measure => have := HKG.out; omega
        case rel => exact ⟨k + 1, d2, by have := HKG.out; omega, by go_num, HC2.out, hBr.grown HG2.out (fun e => hn1 (Option.some.inj e)), hbr.grown HG2.out hbr.size (fun k hk => by cases hk; exact Nat.le_refl _), HM2.out, HR2.out⟩
    · have hb : decide ((k : Int) < (s.size : Int)) = false := decide_eq_false (by omega)
      have HR2 := Lib.hid (show R = .ok d by rw [HRK.out, List.drop_eq_nil_of_le (by rw [HSL.out]; omega)]; rfl)
      clear HRK HMD
      have c0 := hC.cell 0 _ rfl
      have c1 := hC.cell 1 _ rfl
      have c2 := hC.cell 2 _ rfl
      have c3 := hC.cell 3 _ rfl
      have c4 := hC.cell 4 _ rfl
      have c5 := hC.cell 5 _ rfl
      have c6 := hC.cell 6 _ rfl
      have c7 := hC.cell 7 _ rfl
      have c8 := hC.cell 8 _ rfl
      have c9 := hC.cell 9 _ rfl
      have d0 := hBr.cell 0 _ rfl
      have f0 := hBr.free 0
      have d1 := hBr.cell 1 _ rfl
      have f1 := hBr.free 1
      have d2 := hBr.cell 2 _ rfl
      have f2 := hBr.free 2
      have d3 := hBr.cell 3 _ rfl
      have f3 := hBr.free 3
      have d4 := hBr.cell 4 _ rfl
      have f4 := hBr.free 4
      have d5 := hBr.cell 5 _ rfl
      have f5 := hBr.free 5
      have d6 := hBr.cell 6 _ rfl
      have f6 := hBr.free 6
      have d7 := hBr.cell 7 _ rfl
      have f7 := hBr.free 7
      have d8 := hBr.cell 8 _ rfl
      have f8 := hBr.free 8
      have d9 := hBr.cell 9 _ rfl
      have f9 := hBr.free 9
      go_wp2
      exact bodyPost_ret (v := .tuple #[cxV d, .int .i64 0]) (by simp [results, Tryz.results13, go_sem, d0, d1, d2, d3, d4, d5, d6, d7, d8, d9]) rfl (TxPost.ok HR2.out (below10 hbr (Nat.le_succ _) _ _ _ _ _ _ _ _ _ _))
end Go.Proofs.YtafkfamfhagokaaGreatDoor.S
