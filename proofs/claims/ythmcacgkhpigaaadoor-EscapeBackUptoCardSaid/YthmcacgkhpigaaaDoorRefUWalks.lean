/-
  THE WALKS of the reference's texts (stoleref1): Low, Letter, Digit, Size.
-/
import Derived.Test.YthmcacgkhpigaaaDoorByteWalks
import Derived.Test.YthmcacgkhpigaaaDoorPlainU
import Derived.LoopTactic
import Derived.Deep.LoopGhost
import Derived.Deep.DeepCutAuto
set_option linter.unusedVariables false
set_option linter.unusedSimpArgs false
namespace Go.Proofs.YthmcacgkhpigaaaDoor.S
open Go.RowKit

set_option maxRecDepth 100000 in
set_option maxHeartbeats 4000000 in
theorem size_loop (s : ByteArray) (i n k : Nat) (B : Nat → Nat) (w : World) (hB : ∀ m (h' : i + m < s.size), (s[i + m]'h').toNat = B m) (hn : i + n = s.size) (hkn : k ≤ n) (hs : s.size ≤ 4611686018427387904) (hlt : ∀ m, B m < 256) (hk : clsB (B 0) k) :
    Calls Tryd.prog 17 #[.string s, .int .i64 i] w fun e w' => e = .returned (.int .i64 (sizeN n (B 0) (B 1) (B 2) (B 3))) ∧ w = w' := by
  have HBB := Lib.hid hB
  have HLT := Lib.hid hlt
  have HN := Lib.hid hn
  have HK := Lib.hid hk
  have hc : ∀ h' : i < s.size, ((s[i]'h').toNat : Nat) = B 0 := fun h' => hB 0 h'
  have hil : i < s.size := by unfold clsB at hk; omega
  have h256 := hlt 0
  have hin : i + k ≤ s.size := by omega
  have hk2 : 2 ≤ k ∧ k ≤ 4 := by unfold clsB at hk; omega
  have hkn' := Lib.hid hkn
  clear hB hn hlt hkn
  unfold clsB at hk
  generalize hc0 : B 0 = c at *
  have HC0 := Lib.hid hc0
  clear hc0
  have hk3 : k = 2 ∨ k = 3 ∨ k = 4 := by omega
  rcases hk3 with hkv | hkv | hkv
  all_goals
    have hkle := Nat.le_of_eq hkv
    have hkge := Nat.le_of_eq hkv.symm
    have HKV := Lib.hid hkv
    clear hkv
    go_enter Tryd.func17, Tryd.ntmps17
    go_upto_region 13 with (fail)
    go_cut [5, 6, 7, 12, 15, 22, 29] (fun v5 v6 v7 _ _ _ _ wx => v5 = .int .u8 c ∧ v6 = .int .i64 k ∧ v7 = .int .i64 1 ∧ w = wx)
    case first =>
      go_wp2
      go_meet
      exact ⟨rfl, by rw [HKV.out]; rfl, rfl, rfl⟩
    case rest =>
    obtain ⟨rfl, rfl, rfl, rfl⟩ := hcut
    go_wp2
    go_loopg [4, 7] (k - 1) (fun g _ v7 w' => ∃ j : Nat, 1 ≤ j ∧ j + g = k ∧ v7 = .int .i64 j ∧ Hid (∀ m, 1 ≤ m → m < j → 128 ≤ B m ∧ B m ≤ 191) ∧ w = w')
    case atStart => exact ⟨1, by omega, by omega, rfl, fun m h1 h2 => absurd h1 (by omega), rfl⟩
    case round =>
      obtain ⟨j, hj1, hjg0, rfl, hok, rfl⟩ := hrel
      have hj2 : j ≤ k := by omega
      have HJG := Lib.hid hjg0
      clear hjg0
      by_cases hjk : j < k
      · have hq : ∀ h' : i + j < s.size, ((s[i + j]'h').toNat : Nat) = B j := HBB.out j
        have hql := HLT.out j
        have hijs : i + j < s.size := by omega
        generalize hq0 : B j = q at *
        have HQ := Lib.hid hq0
        clear hq0
        by_cases hbad : q < 128 ∨ 191 < q
        · have HZ := Lib.hid (size_bad n c _ j B HK.out hj1 hjk (by rw [HQ.out]; exact hbad))
          go_wp2
          all_goals go_ret
          all_goals exact ⟨ret_int (by rw [HZ.out]; rfl), rfl⟩
        · go_wp2
          go_roundg (gk - 1)
          case measure => have := HJG.out; omega
          case rel =>
            refine ⟨j + 1, by omega, by have := HJG.out; omega, by go_num, fun m h1 h2 => ?_, rfl⟩
            by_cases hm : m = j
            · subst hm; rw [HQ.out]; omega
            · exact hok.out m h1 (by omega)
      · have hjk' : k ≤ j := by omega
        have hijs : i + 1 < s.size := by omega
        obtain ⟨d, hd⟩ : ∃ d, d = B 1 := ⟨_, rfl⟩
        have hq : ∀ h' : i + 1 < s.size, ((s[i + 1]'h').toNat : Nat) = d := fun h' => (HBB.out 1 h').trans hd.symm
        have hql : d < 256 := by rw [hd]; exact HLT.out 1
        by_cases hodd : oddB c d
        · have HZ := Lib.hid (size_odd n c _ B HK.out (by rw [← hd]; exact hodd))
          unfold oddB at hodd
          clear hd
          go_wp2
          all_goals go_ret
          all_goals exact ⟨ret_int (by rw [HZ.out]; rfl), rfl⟩
        · have HZ := Lib.hid (size_ok n c _ B HK.out hkn'.out (fun m h1 h2 => hok.out m h1 (by omega)) (by rw [← hd]; exact hodd))
          unfold oddB at hodd
          clear hd
          go_wp2
          all_goals go_ret
          all_goals exact ⟨ret_int (by rw [HZ.out]), rfl⟩

set_option maxRecDepth 100000 in
set_option maxHeartbeats 4000000 in
theorem size_core (s : ByteArray) (i n : Nat) (B : Nat → Nat) (w : World) (hB : ∀ m (h' : i + m < s.size), (s[i + m]'h').toNat = B m) (hn : i + n = s.size) (hn1 : 1 ≤ n) (hs : s.size ≤ 4611686018427387904) (hlt : ∀ m, B m < 256) :
    Calls Tryd.prog 17 #[.string s, .int .i64 i] w fun e w' => e = .returned (.int .i64 (sizeN n (B 0) (B 1) (B 2) (B 3))) ∧ w = w' := by
  have HBB := Lib.hid hB
  have HLT := Lib.hid hlt
  have HN := Lib.hid hn
  have hc : ∀ h' : i < s.size, ((s[i]'h').toNat : Nat) = B 0 := fun h' => hB 0 h'
  have hil : i < s.size := by omega
  have h256 := hlt 0
  clear hB hn hlt
  generalize hc0 : B 0 = c at *
  have HC0 := Lib.hid hc0
  clear hc0
  have hcl : c < 128 ∨ (128 ≤ c ∧ c < 194) ∨ 244 < c ∨ (194 ≤ c ∧ c ≤ 223) ∨ (224 ≤ c ∧ c ≤ 239) ∨ (240 ≤ c ∧ c ≤ 244) := by omega
  rcases hcl with h | h | h | h
  · go_enter Tryd.func17, Tryd.ntmps17
    go_wp2
    go_ret
    exact ⟨ret_int (by unfold sizeN; rw [if_pos h]; rfl), rfl⟩
  · go_enter Tryd.func17, Tryd.ntmps17
    go_wp2
    all_goals go_ret
    all_goals exact ⟨ret_int (by rw [sizeN_none _ _ _ _ _ (by omega)]; rfl), rfl⟩
  · go_enter Tryd.func17, Tryd.ntmps17
    go_wp2
    all_goals go_ret
    all_goals exact ⟨ret_int (by rw [sizeN_none _ _ _ _ _ (by omega)]; rfl), rfl⟩
  · obtain ⟨k, hk⟩ : ∃ k, clsB c k := by
      unfold clsB
      rcases h with h | h | h
      · exact ⟨2, by omega⟩
      · exact ⟨3, by omega⟩
      · exact ⟨4, by omega⟩
    have HK := Lib.hid hk
    unfold clsB at hk
    by_cases hnk : n < k
    · have hz := size_short n c k B HK.out hnk
      have HZ := Lib.hid hz
      clear hz
      have hin : ¬ (i + k ≤ s.size) := by have := HN.out; omega
      obtain ⟨rfl, h⟩ | ⟨rfl, h⟩ | ⟨rfl, h⟩ := hk
      all_goals go_enter Tryd.func17, Tryd.ntmps17
      all_goals go_wp2
      all_goals go_ret
      all_goals exact ⟨ret_int (by rw [HZ.out]; rfl), rfl⟩
    · have := size_loop s i n k B w HBB.out HN.out (by omega) hs HLT.out (by rw [HC0.out]; exact HK.out)
      rwa [HC0.out] at this
end Go.Proofs.YthmcacgkhpigaaaDoor.S
