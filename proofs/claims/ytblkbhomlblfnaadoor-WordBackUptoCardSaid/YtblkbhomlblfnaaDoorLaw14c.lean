/-
  THE WALK of the law WordBack (chapter 14).
-/
import Derived.Test.YtblkbhomlblfnaaDoorWritten
import Derived.Test.YtblkbhomlblfnaaDoorAwake14
import Derived.Deep.RegionLaw
set_option linter.unusedVariables false
set_option linter.unusedSimpArgs false
namespace Go.Proofs.YtblkbhomlblfnaaDoor.S
open Go.RowKit

theorem mask15w (c : Int) : ∃ n : Nat, n ≤ 15 ∧ bits .and .i64 c 15 = (n : Int) :=
  ⟨(c % 16).toNat, by omega, (i64_mask 4 (by decide) c).trans (by show c % 16 = _; omega)⟩
theorem mask3w (c : Int) : ∃ n : Nat, n ≤ 3 ∧ bits .and .i64 c 3 = (n : Int) :=
  ⟨(c % 4).toNat, by omega, (i64_mask 2 (by decide) c).trans (by show c % 4 = _; omega)⟩
set_option maxRecDepth 100000 in
set_option maxHeartbeats 8000000 in
theorem wordBack_calls (s : ByteArray) (x : Int) (w : World) (hE : Env w) (hs : s.size ≤ 1048576) :
    Calls Tryd.prog 6 #[.string s, .int .i64 x] w fun e w' => e = .returned (.bool true) ∧ Below w.heap.size w w' := by
  go_enter Tryd.func6, Tryd.ntmps6
  go_wp2_with fail
  refine (awake14_calls _ hE).mono ?_
  rintro e w1 ⟨rfl, hb1⟩
  have hE1 := hE.below hb1
  go_wp2_with fail
  refine (words_calls _ _ hE1 (by omega)).mono ?_
  rintro e w2 ⟨v, ds, n, rfl, hP, hb2, hw⟩
  have hbA := hb1.trans (hb2.mono hb1.size)
  have hll : s.data.toList.length = s.size := rfl
  obtain ⟨sa, sc, rfl⟩ := hP.slice
  by_cases hn : n = 0
  · subst hn
    obtain ⟨hok, hcost⟩ := wordsL_good hw
    rw [hll] at hcost
    clear hw hll
    go_upto_region 6 with (first | fail | (go_at_call 18; go_in))
    go_upto_region 8 with (fail)
    have hdl := hP.len_le
    go_loopg [7, 8] ds.length (fun gk v7 v8 wr => ∃ (k : Nat) (S : ByteArray) (l : List UInt8), v7 = .string S ∧ v8 = .int .i64 k ∧ k + gk = ds.length ∧ StrIs S l ∧ Hid (Wrt (ds.take k) l) ∧ l.length ≤ costL (ds.take k) ∧ Below w2.heap.size w2 wr)
    case atStart => exact ⟨0, ⟨#[]⟩, [], rfl, rfl, by omega, rfl, Wrt.nil, Nat.le_refl _, Below.refl _ _⟩
    case round =>
      obtain ⟨k, S, l, rfl, rfl, hkg, hS, hW, hlc, hbr⟩ := hrel
      have HKG := Lib.hid hkg
      have hkd : k ≤ ds.length := by omega
      clear hkg
      by_cases h1 : k < ds.length
      · have h1b : decide ((k : Int) < (ds.length : Int)) = true := decide_eq_true (by omega)
        obtain ⟨m, hm15, hm⟩ := mask15w k
        obtain ⟨n, hn3, hn⟩ := mask3w (x / 2 ^ min (IntKind.u64.wrap m).toNat 64)
        obtain ⟨bb, cap, pv, hv, d0, d1, d2, d3, hp⟩ := (hP.below hbr).at k h1
        obtain ⟨rfl, -, rfl⟩ := Value.slice.inj hv
        have hkc : 2 + (wrL ds[k]).length ≤ 536870912 := by
          have a1 := costL_take ds (k + 1)
          rw [List.take_succ_eq_append_getElem h1, costL_snoc] at a1
          omega
        have hlk : ∀ g, Gap g → (l ++ g ++ wrL ds[k]).length ≤ costL (ds.take (k + 1)) := fun g hg => by
          have := hg.2.1
          rw [List.take_succ_eq_append_getElem h1, costL_snoc, List.length_append, List.length_append]
          omega
        have hcb : costL (ds.take (k + 1)) ≤ 29360128 := by have := costL_take ds (k + 1); omega
        have hWn : ∀ g, Gap g → Wrt (ds.take (k + 1)) (l ++ g ++ wrL ds[k]) := fun g hg => by
          rw [List.take_succ_eq_append_getElem h1]
          exact Wrt.snoc _ _ _ _ hW.out hg
        have hC := fun W (hp : Strs w1.heap.size pv ds[k].path W) => written_calls w1.heap.size ds[k] pv W (hok _ (List.getElem_mem h1)) hp (by omega)
        have hSs : S.size ≤ 29360128 := by have := hS.size; have := costL_take ds k; omega
        have hcA : ∀ G : ByteArray, G.size ≤ 2 → ∀ W, (Op.stringOp .add S G).run Tryd.prog W = .ok (.string (S ++ G)) W := fun G hG => cat_s S G (by omega)
        have hcB : ∀ G r : ByteArray, G.size ≤ 2 → r.size ≤ 536870912 → ∀ W, (Op.stringOp .add (S ++ G) r).run Tryd.prog W = .ok (.string (S ++ G ++ r)) W := fun G r hG hr => cat_s (S ++ G) r (by rw [ByteArray.size_append]; omega)
        have hbd : Below wr.heap.size wr wr.drew := (Below.refl _ wr).drew
        have hba : Below wr.heap.size wr ((wr.alloc (.cells #[.string ⟨#[32]⟩, .string ⟨#[10]⟩, .string ⟨#[9, 32]⟩, .string ⟨#[32, 32]⟩] 9)).drew) := ((Below.refl _ wr).alloc (Nat.le_refl _) _).drew
        have hC1 := hC wr.drew (own_below hp hbd)
        have hC2 := hC _ (own_below hp hba)
        obtain ⟨pa, pc, rfl⟩ := hp.slice
        have hbb : bb < wr.heap.size := World.block_lt_of_cell? wr _ d0
        have hwl : ∀ r, StrIs r (wrL ds[k]) → r.size + 2 ≤ 536870912 := fun r hr => by rw [hr.size]; omega
        generalize (⟨ds[k].text.toArray⟩ : ByteArray) = tx at *
        generalize ds[k].path = pth at *
        generalize ds[k].kind = kd at *
        generalize ds[k].num = nm at *
        generalize wrL ds[k] = wl at *
        have HW := Lib.hid hWn
        have HLK := Lib.hid hlk
        have HCB := Lib.hid hcb
        have HWL := Lib.hid hwl
        have HCA := Lib.hid hcA
        have HCBB := Lib.hid hcB
        have HS := Lib.hid hS
        clear hv hp hC hWn hlk hcb hwl hcA hcB hSs hS hlc
        have hr : n = 0 ∨ n = 1 ∨ n = 2 ∨ n = 3 := by omega
        go_upto_region 10 with (fail)
        rcases hr with rfl | rfl | rfl | rfl
        · have hcA := HCA.out ⟨#[32]⟩ (by decide)
          have hG : Gap [32] := ⟨by decide, by decide, by decide⟩
          have hlg := Lib.hid (HLK.out _ hG)
          have hwg := Lib.hid (HW.out _ hG)
          clear hG
          go_region_law (first | (go_simp; go_at_call 24; refine hC1.mono ?_; rintro e w5 ⟨r, rfl, hr, hb5⟩; have hcB := HCBB.out ⟨#[32]⟩ r (by decide) (by have := HWL.out r hr; omega); have hbz := hbr.trans ((hbd.trans (hb5.mono hbd.size)).mono hbr.size)) | (go_simp; go_at_call 24; refine hC2.mono ?_; rintro e w5 ⟨r, rfl, hr, hb5⟩; have hcB := HCBB.out ⟨#[32]⟩ r (by decide) (by have := HWL.out r hr; omega); have g5 : w5.cell? ⟨wr.heap.size, 0, none⟩ = some (.string ⟨#[32]⟩) := (hb5.cell (by simp)).trans (by simp); have hbz := hbr.trans ((hba.trans (hb5.mono hba.size)).mono hbr.size)))
          all_goals have hz := StrIs.app (StrIs.app (b := ⟨#[32]⟩) (r := [32]) HS.out rfl) hr
          all_goals have HZ := Lib.hid hz
          all_goals clear hz hr
          all_goals go_wp2
          all_goals go_roundg (gk - 1)
          all_goals first
            | (case measure => have := HKG.out; omega)
            | skip
          all_goals exact ⟨k + 1, _, _, rfl, by go_num, by have := HKG.out; omega, HZ.out, hwg.out, hlg.out, by first | exact hbz | exact hbz.alloc hbz.size _ | exact (hbz.alloc hbz.size _).drew⟩
        · have hcA := HCA.out ⟨#[10]⟩ (by decide)
          have hG : Gap [10] := ⟨by decide, by decide, by decide⟩
          have hlg := Lib.hid (HLK.out _ hG)
          have hwg := Lib.hid (HW.out _ hG)
          clear hG
          go_region_law (first | (go_simp; go_at_call 24; refine hC1.mono ?_; rintro e w5 ⟨r, rfl, hr, hb5⟩; have hcB := HCBB.out ⟨#[10]⟩ r (by decide) (by have := HWL.out r hr; omega); have hbz := hbr.trans ((hbd.trans (hb5.mono hbd.size)).mono hbr.size)) | (go_simp; go_at_call 24; refine hC2.mono ?_; rintro e w5 ⟨r, rfl, hr, hb5⟩; have hcB := HCBB.out ⟨#[10]⟩ r (by decide) (by have := HWL.out r hr; omega); have g5 : w5.cell? ⟨wr.heap.size, 1, none⟩ = some (.string ⟨#[10]⟩) := (hb5.cell (by simp)).trans (by simp); have hbz := hbr.trans ((hba.trans (hb5.mono hba.size)).mono hbr.size)))
          all_goals have hz := StrIs.app (StrIs.app (b := ⟨#[10]⟩) (r := [10]) HS.out rfl) hr
          all_goals have HZ := Lib.hid hz
          all_goals clear hz hr
          all_goals go_wp2
          all_goals go_roundg (gk - 1)
          all_goals first
            | (case measure => have := HKG.out; omega)
            | skip
          all_goals exact ⟨k + 1, _, _, rfl, by go_num, by have := HKG.out; omega, HZ.out, hwg.out, hlg.out, by first | exact hbz | exact hbz.alloc hbz.size _ | exact (hbz.alloc hbz.size _).drew⟩
        · have hcA := HCA.out ⟨#[9, 32]⟩ (by decide)
          have hG : Gap [9, 32] := ⟨by decide, by decide, by decide⟩
          have hlg := Lib.hid (HLK.out _ hG)
          have hwg := Lib.hid (HW.out _ hG)
          clear hG
          go_region_law (first | (go_simp; go_at_call 24; refine hC1.mono ?_; rintro e w5 ⟨r, rfl, hr, hb5⟩; have hcB := HCBB.out ⟨#[9, 32]⟩ r (by decide) (by have := HWL.out r hr; omega); have hbz := hbr.trans ((hbd.trans (hb5.mono hbd.size)).mono hbr.size)) | (go_simp; go_at_call 24; refine hC2.mono ?_; rintro e w5 ⟨r, rfl, hr, hb5⟩; have hcB := HCBB.out ⟨#[9, 32]⟩ r (by decide) (by have := HWL.out r hr; omega); have g5 : w5.cell? ⟨wr.heap.size, 2, none⟩ = some (.string ⟨#[9, 32]⟩) := (hb5.cell (by simp)).trans (by simp); have hbz := hbr.trans ((hba.trans (hb5.mono hba.size)).mono hbr.size)))
          all_goals have hz := StrIs.app (StrIs.app (b := ⟨#[9, 32]⟩) (r := [9, 32]) HS.out rfl) hr
          all_goals have HZ := Lib.hid hz
          all_goals clear hz hr
          all_goals go_wp2
          all_goals go_roundg (gk - 1)
          all_goals first
            | (case measure => have := HKG.out; omega)
            | skip
          all_goals exact ⟨k + 1, _, _, rfl, by go_num, by have := HKG.out; omega, HZ.out, hwg.out, hlg.out, by first | exact hbz | exact hbz.alloc hbz.size _ | exact (hbz.alloc hbz.size _).drew⟩
        · have hcA := HCA.out ⟨#[32, 32]⟩ (by decide)
          have hG : Gap [32, 32] := ⟨by decide, by decide, by decide⟩
          have hlg := Lib.hid (HLK.out _ hG)
          have hwg := Lib.hid (HW.out _ hG)
          clear hG
          go_region_law (first | (go_simp; go_at_call 24; refine hC1.mono ?_; rintro e w5 ⟨r, rfl, hr, hb5⟩; have hcB := HCBB.out ⟨#[32, 32]⟩ r (by decide) (by have := HWL.out r hr; omega); have hbz := hbr.trans ((hbd.trans (hb5.mono hbd.size)).mono hbr.size)) | (go_simp; go_at_call 24; refine hC2.mono ?_; rintro e w5 ⟨r, rfl, hr, hb5⟩; have hcB := HCBB.out ⟨#[32, 32]⟩ r (by decide) (by have := HWL.out r hr; omega); have g5 : w5.cell? ⟨wr.heap.size, 3, none⟩ = some (.string ⟨#[32, 32]⟩) := (hb5.cell (by simp)).trans (by simp); have hbz := hbr.trans ((hba.trans (hb5.mono hba.size)).mono hbr.size)))
          all_goals have hz := StrIs.app (StrIs.app (b := ⟨#[32, 32]⟩) (r := [32, 32]) HS.out rfl) hr
          all_goals have HZ := Lib.hid hz
          all_goals clear hz hr
          all_goals go_wp2
          all_goals go_roundg (gk - 1)
          all_goals first
            | (case measure => have := HKG.out; omega)
            | skip
          all_goals exact ⟨k + 1, _, _, rfl, by go_num, by have := HKG.out; omega, HZ.out, hwg.out, hlg.out, by first | exact hbz | exact hbz.alloc hbz.size _ | exact (hbz.alloc hbz.size _).drew⟩
      · obtain rfl : k = ds.length := by omega
        have h1b : decide ((ds.length : Int) < (ds.length : Int)) = false := decide_eq_false (by omega)
        have hW1 := hW.out
        rw [List.take_length] at hW1 hlc
        have hag := wrt_again hW1 hok
        have hSs : S.size ≤ 29360128 := by have := hS.size; omega
        have hcat := cat_s S ⟨#[32]⟩ (by show _ + 1 ≤ _; omega)
        have hl2 : (S ++ ⟨#[32]⟩ : ByteArray).data.toList = l ++ [32] := StrIs.app (b := ⟨#[32]⟩) (r := [32]) hS rfl
        have hs2 : (S ++ ⟨#[32]⟩ : ByteArray).size ≤ 1073741824 := by rw [ByteArray.size_append]; show _ + 1 ≤ _; omega
        rw [← hl2] at hag
        have HAG := Lib.hid hag
        have hEr := ((hE.below hbA).below hbr)
        have hbB := hbA.trans (hbr.mono hbA.size)
        clear hW1 hW hag hSs hl2 hlc hS
        go_wp2_with fail
        refine (words_calls _ _ hEr hs2).mono ?_
        rintro e w3 ⟨v3, ds3, n3, rfl, hP3, hb3, hw3⟩
        rw [HAG.out] at hw3
        obtain ⟨rfl, rfl⟩ := Prod.mk.inj hw3
        have hPr := (hP.below hbr).below hb3
        have hbC := hbB.trans (hb3.mono hbB.size)
        clear hw3 hs2 hcat
        obtain ⟨ra, rc, rfl⟩ := hP3.slice
        go_wp2_with (first | (go_at_call 18; go_in) | (go_at_call 21; refine (sameWords_calls _ _ _ _ _ _ hP3 hPr).mono ?_; rintro e w4 ⟨rfl, q, rfl⟩))
        go_ret
        exact ⟨rfl, Below.drewN hbC q⟩
  · have hds := wordsL_no hw hn
    subst hds
    have hnb : ((n : Int) != 0) = true := by simp [hn]
    clear hw
    go_wp2_with (go_at_call 18; go_in)
    go_ret
    exact ⟨rfl, hbA⟩
end Go.Proofs.YtblkbhomlblfnaaDoor.S
