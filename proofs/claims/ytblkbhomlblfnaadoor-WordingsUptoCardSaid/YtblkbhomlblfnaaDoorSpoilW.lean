/-
  THE WALKS of SpoilTexts, SpoilWords: within the blocks of what is handed in.
-/
import Derived.Test.YtblkbhomlblfnaaDoorSpoil
import Derived.Test.YtblkbhomlblfnaaDoorPlainW4
import Derived.Test.YtblkbhomlblfnaaDoorLaw14a
import Derived.Deep.RegionLaw
set_option linter.unusedVariables false
set_option linter.unusedSimpArgs false
namespace Go.Proofs.YtblkbhomlblfnaaDoor.S
open Go.RowKit

theorem Kin.of_str {k : Nat} {s : ByteArray} {y : Value} (h : Kin k (.string s) y) : ∃ t : ByteArray, y = .string t ∧ t.size ≤ s.size + k := by
  cases h with
  | same => exact ⟨s, rfl, by omega⟩
  | str _ t h => exact ⟨t, rfl, h⟩
theorem Kin.of_int {k : Nat} {κ : IntKind} {m : Int} {y : Value} (h : Kin k (.int κ m) y) : ∃ n, y = .int κ n := by
  cases h with
  | same => exact ⟨m, rfl⟩
  | int _ _ n => exact ⟨n, rfl⟩
theorem Kin.of_slice {k n c : Nat} {a : Option Addr} {y : Value} (h : Kin k (.slice a n c) y) : y = .slice a n c := by
  cases h with
  | same => rfl
set_option maxRecDepth 100000 in
set_option maxHeartbeats 4000000 in
theorem spoilTexts_calls (lo hi k S : Nat) (v : Value) (xs : List (List UInt8)) (w : World) (hW : Within lo hi k 1 v (xs.flatMap stCells) w) (hS : ∀ x ∈ xs, x.length ≤ S) (hm : S + k + xs.length ≤ 1099511627776) :
    Calls Tryd.prog 52 #[v] w fun e w' => e = .returned (.tuple #[]) ∧ Spoilt lo hi xs.length w w' := by
  have hln : (xs.flatMap stCells).length = xs.length := by
    clear hW hS hm
    induction xs with
    | nil => rfl
    | cons x xs ih => rw [List.flatMap_cons, List.length_append, ih]; simp [stCells]; omega
  obtain ⟨a, c, hv⟩ := hW.slice (by omega)
  rw [hln, Nat.div_one] at hv
  subst hv
  have HW := Lib.hid (fun i wr (h : Spoilt lo hi i w wr) => hW.spoilt h)
  have hxl : xs.length ≤ 1099511627776 := by omega
  have HM := Lib.hid hm
  clear hm hln hW
  go_enter Tryd.func52, Tryd.ntmps52
  go_wp2
  go_loopg [2] xs.length (fun gk v2 wr => ∃ i : Nat, i + gk = xs.length ∧ v2 = .int .i64 i ∧ Spoilt lo hi i w wr)
  case atStart => exact ⟨0, by omega, rfl, Spoilt.refl _ _ _ _⟩
  case round =>
    obtain ⟨i, hig, rfl, hsp⟩ := hrel
    have HIG := Lib.hid hig
    have hil : i ≤ xs.length := by omega
    clear hig
    by_cases hi' : i < xs.length
    · obtain ⟨g, n, cap, y, hv, hl, hh, c0, f0, hk⟩ := (HW.out i wr hsp).at i _ (stflat_get xs i hi')
      obtain ⟨rfl, rfl, rfl⟩ := Value.slice.inj hv
      obtain ⟨t, rfl, ht⟩ := hk.of_str
      have hx : (⟨xs[i].toArray⟩ : ByteArray).size = xs[i].length := by simp [ByteArray.size]
      have hxs := hS _ (List.getElem_mem hi')
      have ht2 : t.size ≤ 1099511627776 := by have := HM.out; omega
      have hb : decide ((i : Int) < (xs.length : Int)) = true := decide_eq_true (by omega)
      have hcat := cat_s ⟨#[126]⟩ t (by show 1 + _ ≤ _; omega)
      have hset := hsp.trans (Spoilt.set (lo := lo) (hi := hi) (k := 1) hl hh c0 (Kin.str t (⟨#[126]⟩ ++ t) (by rw [ByteArray.size_append]; show 1 + _ ≤ _; omega)))
      have HSET := Lib.hid hset
      clear hset hx hxs ht hk hsp hv
      go_wp2
      go_roundg (gk - 1)
      case measure => have := HIG.out; omega
      case rel => exact ⟨i + 1, by have := HIG.out; omega, by go_num, HSET.out⟩
    · obtain rfl : i = xs.length := by omega
      have hb : decide ((xs.length : Int) < (xs.length : Int)) = false := decide_eq_false (by omega)
      go_wp2
      go_end0
      exact ⟨rfl, hsp⟩
set_option maxRecDepth 100000 in
set_option maxHeartbeats 4000000 in
theorem spoilWords_calls (lo hi S : Nat) (v : Value) (zs : List (Wd × Value)) (w : World) (hW : Within lo hi 0 4 v (zsCells zs) w) (hP : ∀ z ∈ zs, Within lo hi 0 1 z.2 (z.1.path.flatMap stCells) w)
    (hS : ∀ z ∈ zs, ∀ x ∈ z.1.path, x.length ≤ S) (hL : ∀ z ∈ zs, z.1.path.length ≤ 8) (hm : S + 9 * zs.length + 8 ≤ 1099511627776) :
    Calls Tryd.prog 22 #[v] w fun e w' => e = .returned (.tuple #[]) ∧ ∃ n, Spoilt lo hi n w w' := by
  have hln : (zsCells zs).length = zs.length * 4 := by
    clear hW hS hm hP hL
    induction zs with
    | nil => rfl
    | cons z zs ih =>
      unfold zsCells at *
      rw [List.flatMap_cons, List.length_append, ih]; simp [wdCells]; omega
  obtain ⟨a, c, hv⟩ := hW.slice (by omega)
  rw [hln, Nat.mul_div_cancel _ (by omega)] at hv
  subst hv
  have HW := Lib.hid (fun i wr (h : Spoilt lo hi i w wr) => hW.spoilt h)
  have HP := Lib.hid (fun i wr (h : Spoilt lo hi i w wr) z hz => (hP z hz).spoilt h)
  have HS := Lib.hid hS
  have HL := Lib.hid hL
  have hxl : zs.length ≤ 1099511627776 := by omega
  have HM := Lib.hid hm
  clear hm hln hW hP hS hL
  go_enter Tryd.func22, Tryd.ntmps22
  go_wp2
  go_loopg [2] zs.length (fun gk v2 wr => ∃ i : Nat, i + gk = zs.length ∧ v2 = .int .i64 i ∧ Spoilt lo hi (8 * i) w wr)
  case atStart => exact ⟨0, by omega, rfl, Spoilt.refl _ _ _ _⟩
  case round =>
    obtain ⟨i, hig, rfl, hsp⟩ := hrel
    have HIG := Lib.hid hig
    have hil : i ≤ zs.length := by omega
    clear hig
    by_cases hi' : i < zs.length
    · obtain ⟨g, n, cap, y, hv, hl, hh, c2, f2, hk⟩ := (HW.out _ wr hsp).at (i * 4 + 2) _ ((zsflat_get zs i hi' 2 (by omega)).trans rfl)
      obtain ⟨rfl, rfl, rfl⟩ := Value.slice.inj hv
      have hzi := List.getElem_mem hi'
      have hpw := HP.out _ wr hsp _ hzi
      have hxs := HS.out _ hzi
      have hl8 := HL.out _ hzi
      obtain ⟨pa, pc, hpv⟩ := hpw.slice (by omega)
      have hy : y = zs[i].2 := by rw [hpv] at hk ⊢; exact hk.of_slice
      subst hy
      have hb : decide ((i : Int) < (zs.length : Int)) = true := decide_eq_true (by omega)
      have hC := spoilTexts_calls lo hi (0 + 8 * i) S zs[i].2 zs[i].1.path wr hpw hxs (by have := HM.out; omega)
      clear hpv hk hpw hxs hv
      go_wp2_with fail
      refine hC.mono ?_
      rintro e w2 ⟨rfl, hs2⟩
      have hsp2 := (hsp.trans hs2).mono (m := 8 * (i + 1)) (by omega)
      obtain ⟨g', n', cap', y', hv', hl', hh', c0, f0, hk'⟩ := (HW.out _ w2 hsp2).at (i * 4 + 0) _ ((zsflat_get zs i hi' 0 (by omega)).trans rfl)
      obtain ⟨h1, -, -⟩ := Value.slice.inj hv'
      obtain rfl : g = g' := by injection h1 with h1; injection h1
      obtain ⟨kn, rfl⟩ := hk'.of_int
      rw [Nat.add_zero] at c0 f0
      have hset := fun m => (hsp2.trans (Spoilt.set (lo := lo) (hi := hi) (k := 0) hl' hh' c0 (Kin.int .i64 kn m)))
      have HSET := Lib.hid hset
      clear hset hsp hs2 hsp2 hC hv' h1 hk' c2 f2 hl8
      go_wp2
      go_roundg (gk - 1)
      case measure => have := HIG.out; omega
      case rel => exact ⟨i + 1, by have := HIG.out; omega, by go_num, HSET.out _⟩
    · obtain rfl : i = zs.length := by omega
      have hb : decide ((zs.length : Int) < (zs.length : Int)) = false := decide_eq_false (by omega)
      go_wp2
      go_end0
      exact ⟨rfl, _, hsp⟩
end Go.Proofs.YtblkbhomlblfnaaDoor.S
