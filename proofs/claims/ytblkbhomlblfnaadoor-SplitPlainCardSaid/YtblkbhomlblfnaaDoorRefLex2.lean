/-
  THE WALKS of the reference's comment, plain.
-/
import Derived.Test.YtblkbhomlblfnaaDoorRefLex
import Derived.Test.YtblkbhomlblfnaaDoorLexSplit
set_option linter.unusedVariables false
set_option linter.unusedSimpArgs false
namespace Go.Proofs.YtblkbhomlblfnaaDoor.S
open Go.RowKit

theorem hasI_short (p : List UInt8) : ∀ l : List UInt8, l.length < p.length → hasI p l = false
  | [], _ => rfl
  | b :: r, h => by
    unfold hasI
    rw [hasI_short p r (by simp at h; omega), Bool.or_false]
    cases hp : p.isPrefixOf (b :: r) with
    | false => rfl
    | true => have := pre_len hp; omega
theorem cutI_cons (p : List UInt8) (b : UInt8) (r : List UInt8) : cutI p (b :: r) = if p.isPrefixOf (b :: r) = true then 0 else cutI p r + 1 := rfl
theorem hasI_cons (p : List UInt8) (b : UInt8) (r : List UInt8) : hasI p (b :: r) = (p.isPrefixOf (b :: r) || hasI p r) := rfl
theorem slice2 (s : ByteArray) (i : Nat) (x y : UInt8) (h : i + 2 ≤ s.size) : ((s.extract i (i + 2)).toList == [x, y]) = List.isPrefixOf [x, y] (s.data.toList.drop i) := by
  rw [Lib.toList_data, Lib.extract_data, show i + 2 - i = 2 by omega]
  have hl : 2 ≤ (s.data.toList.drop i).length := by rw [List.length_drop, size_list]; omega
  match hd : s.data.toList.drop i with
  | [] => rw [hd] at hl; simp at hl
  | [c] => rw [hd] at hl; simp at hl
  | c :: d :: r =>
    simp only [List.take_succ_cons, List.take_zero, List.isPrefixOf, Bool.and_true]
    rw [Bool.eq_iff_iff]
    simp only [beq_iff_eq, List.cons.injEq, and_true, Bool.and_eq_true]
    exact ⟨fun ⟨h1, h2⟩ => ⟨h1.symm, h2.symm⟩, fun ⟨h1, h2⟩ => ⟨h1.symm, h2.symm⟩⟩
theorem slice_at (s : ByteArray) (x y : Int) (i j : Nat) (hx : x = i) (hy : y = j) (hij : i ≤ j) (hj : j ≤ s.size) (W : World) :
    (Instr.slice 9 (.string s) (some (.int .i64 x)) (some (.int .i64 y)) none).run Tryd.prog W = .ok (.string (s.extract i j)) W := by
  subst hx hy
  have h := run_slice_string (P := Tryd.prog) (w := W) 9 s .i64 .i64 (i : Int) (j : Int) Tryd.underlying9 (by omega) (by omega) (by omega)
  simpa using h
theorem at_drop {s : ByteArray} {l : List UInt8} {a : Nat} (hl : l = s.data.toList.drop a) (i k : Nat) (hik : i = a + k) (h : i < s.size) : l.drop k = s[i] :: l.drop (k + 1) := by
  subst hik
  rw [hl, List.drop_drop, List.drop_drop, drop_cons s (a + k) h]
  rfl
/-- the reference's action -/
def actV (en : Nat) (t : ByteArray) (tr cm ok : Bool) : Value := .agg #[.int .i64 en, .string t, .bool tr, .bool cm, .bool ok]

set_option maxRecDepth 100000 in
set_option maxHeartbeats 4000000 in
theorem rcomment_calls (s : ByteArray) (a : Nat) (w : World) (ha : a ≤ s.size) (hs : s.size ≤ 4611686018427387900) :
    Calls Tryd.prog 58 #[.string s, .int .i64 a] w fun e w' => ∃ en tr cm ok, e = .returned (actV en ⟨#[]⟩ tr cm ok) ∧ Below w.heap.size w w' ∧ (∀ n t, comL (s.data.toList.drop a) = some (n, t) → en = a + n ∧ tr = t ∧ cm = true ∧ ok = true ∧ a + n ≤ s.size) ∧ (comL (s.data.toList.drop a) = none → ok = false) := by
  obtain ⟨l, hl0⟩ : ∃ l, l = s.data.toList.drop a := ⟨_, rfl⟩
  have hll := congrArg List.length hl0
  rw [List.length_drop, size_list] at hll
  rw [← hl0]
  have HL := Lib.hid hl0
  have HLL := Lib.hid hll
  clear hl0 hll
  go_enter Tryd.func58, Tryd.ntmps58
  go_wp2
  go_loopg [5] (s.size - a) (fun gk v5 wr => ∃ j : Nat, v5 = .int .i64 (a + j : Nat) ∧ gk = s.size - (a + j) ∧ a + j ≤ s.size ∧ Hid (hasI [42, 47] (l.drop j) = hasI [42, 47] l ∧ j + cutI [42, 47] (l.drop j) = cutI [42, 47] l) ∧ w.alloc (.cells #[.int .i64 0, .string ⟨#[]⟩, .bool false, .bool false, .bool false] 92) = wr)
  case atStart => exact ⟨0, rfl, rfl, ha, ⟨rfl, by simp⟩, rfl⟩
  case round =>
    obtain ⟨j, rfl, hgk, hjs, hH, rfl⟩ := hrel
    have HGK := Lib.hid hgk
    clear hgk
    by_cases h : a + j + 1 < s.size
    · have hld : s.data.toList.drop (a + j) = l.drop j := by rw [HL.out, List.drop_drop]
      have heq := slice2 s (a + j) 42 47 (by omega)
      rw [hld] at heq
      have hdc := drop_cons s (a + j) (by omega)
      rw [hld, show a + j + 1 = a + (j + 1) by omega, show s.data.toList.drop (a + (j + 1)) = l.drop (j + 1) by rw [HL.out, List.drop_drop]] at hdc
      have hc := cutI_cons [42, 47] (s[a + j]'(by omega)) (l.drop (j + 1))
      have hh := hasI_cons [42, 47] (s[a + j]'(by omega)) (l.drop (j + 1))
      rw [← hdc] at hc hh
      have hsl := fun W => slice_at s ((a : Int) + j) ((a : Int) + j + 2) (a + j) (a + j + 2) (by omega) (by omega) (by omega) (by omega) W
      clear hld hdc
      cases hp : List.isPrefixOf [42, 47] (l.drop j) with
      | false =>
        rw [hp] at heq hc hh
        simp only [Bool.false_eq_true, if_false, Bool.false_or] at hc hh
        have HC := Lib.hid hc
        have HH := Lib.hid hh
        clear hc hh
        go_wp2
        go_roundg (gk - 1)
        case measure => have := HGK.out; omega
        case rel =>
          refine ⟨j + 1, by go_num, by have := HGK.out; omega, by omega, ⟨HH.out.symm.trans hH.out.1, ?_⟩, rfl⟩
          have h1 := hH.out.2
          have h2 := HC.out
          omega
      | true =>
        rw [hp] at heq hc hh
        simp only [if_true, Bool.true_or] at hc hh
        have hhl : hasI [42, 47] l = true := hH.out.1.symm.trans hh
        have hcl : cutI [42, 47] l = j := by have := hH.out.2; omega
        have hcm := comL_has hhl
        dsimp only at hcm
        rw [hcl] at hcm
        have HCM := Lib.hid hcm
        clear hcm hc hh hcl hhl hH hp
        go_wp2
        clear heq h hsl
        go_loopg [5] (s.size - (a + j + 2)) (fun gk v5 wr => ∃ k : Nat, v5 = .int .i64 (a + j + 2 + k : Nat) ∧ gk = s.size - (a + j + 2 + k) ∧ a + j + 2 + k ≤ s.size ∧ Hid (k + blkN (l.drop (j + 2 + k)) = blkN (l.drop (j + 2))) ∧ w.alloc (.cells #[.int .i64 0, .string ⟨#[]⟩, .bool false, .bool false, .bool false] 92) = wr)
        case atStart => exact ⟨0, by go_num, rfl, by omega, by show _ = _; simp, rfl⟩
        case round =>
          obtain ⟨k, rfl, hgk2, hks, hK, rfl⟩ := hrel
          have HGK2 := Lib.hid hgk2
          clear hgk2
          by_cases h : a + j + 2 + k < s.size
          · have hdc := at_drop HL.out (a + j + 2 + k) (j + 2 + k) (by omega) h
            obtain ⟨b, hb⟩ : ∃ b : UInt8, b = s[a + j + 2 + k]'h := ⟨_, rfl⟩
            have hbt : ∀ h', ((s[a + j + 2 + k]'h').toNat : Nat) = b.toNat := fun h' => by rw [hb]
            rw [← hb] at hdc
            have hlt := b.toNat_lt
            have hbn : blkN (l.drop (j + 2 + k)) = if blk b.toNat = true then blkN (l.drop (j + 2 + k + 1)) + 1 else 0 := by rw [hdc]; rfl
            clear hdc hb
            generalize b.toNat = c at *
            cases hbl : blk c with
            | true =>
              rw [hbl, if_pos rfl] at hbn
              have HBN := Lib.hid hbn
              clear hbn
              go_wp2_with (go_at_call 48; refine (rblank_calls c _ hlt).mono ?_; rintro e w' ⟨rfl, rfl⟩)
              go_roundg (gk - 1)
              case measure => have := HGK2.out; omega
              case rel => exact ⟨k + 1, by go_num, by have := HGK2.out; omega, by omega, (by have := hK.out; have := HBN.out; show _ = _; rw [show j + 2 + (k + 1) = j + 2 + k + 1 by omega]; omega), rfl⟩
            | false =>
              rw [hbl, if_neg (by simp)] at hbn
              have hK : k = blkN (l.drop (j + 2)) := by have := hK.out; omega
              have HK := Lib.hid hK
              clear hbn hK
              go_upto_if 42 with (go_at_call 48; refine (rblank_calls c _ hlt).mono ?_; rintro e w' ⟨rfl, rfl⟩)
              clear hbt hbl hlt h
              go_upto_region 10 with (fail)
              have hcm := HCM.out
              rw [← HK.out] at hcm
              clear HCM HK
              obtain ⟨T, hT⟩ : ∃ T, T = (decide (0 < k) && List.isPrefixOf [45] (l.drop (j + 2 + k))) := ⟨_, rfl⟩
              rw [← hT] at hcm
              go_cut [7] (fun v7 wx => v7 = .bool T ∧ w.alloc (.cells #[.int .i64 0, .string ⟨#[]⟩, .bool false, .bool false, .bool false] 92) = wx)
              case first =>
                by_cases hk0 : 0 < k
                · have hkb : decide ((a : Int) + j + 2 < (a : Int) + j + 2 + k) = true := decide_eq_true (by omega)
                  rw [show decide (0 < k) = true from decide_eq_true hk0, Bool.true_and] at hT
                  by_cases h : a + j + 2 + k < s.size
                  · have hib : decide ((a : Int) + j + 2 + k < (s.size : Int)) = true := decide_eq_true (by omega)
                    have hdc := at_drop HL.out (a + j + 2 + k) (j + 2 + k) (by omega) h
                    obtain ⟨b, hb⟩ : ∃ b : UInt8, b = s[a + j + 2 + k]'h := ⟨_, rfl⟩
                    have hbt : ∀ h', ((s[a + j + 2 + k]'h').toNat : Nat) = b.toNat := fun h' => by rw [hb]
                    rw [← hb] at hdc
                    have hlt := b.toNat_lt
                    rw [hdc] at hT
                    have hq : ((b.toNat : Int) == 45) = (45 == b) := by
                      rw [Bool.eq_iff_iff]
                      simp only [beq_iff_eq]
                      exact ⟨fun h => UInt8.toNat_inj.1 (by show 45 = _; omega), fun h => by rw [← h]; rfl⟩
                    have hT2 : T = ((b.toNat : Int) == 45) := by rw [hT, hq]; simp [List.isPrefixOf]
                    have HT := Lib.hid hT2
                    clear hdc hb hT hT2 hq
                    go_wp2
                    go_meet
                    exact ⟨by first | (rw [HT.out]; done) | (exfalso; omega), rfl⟩
                  · have hib : decide ((a : Int) + j + 2 + k < (s.size : Int)) = false := decide_eq_false (by omega)
                    rw [List.drop_eq_nil_of_le (by rw [HLL.out]; omega)] at hT
                    have HT := Lib.hid (show T = false from hT)
                    clear hT
                    go_wp2
                    go_meet
                    exact ⟨by first | (rw [HT.out]; done) | (exfalso; omega), rfl⟩
                · have hkb : decide ((a : Int) + j + 2 < (a : Int) + j + 2 + k) = false := decide_eq_false (by omega)
                  rw [show decide (0 < k) = false from decide_eq_false hk0, Bool.false_and] at hT
                  have HT := Lib.hid hT
                  clear hT
                  go_wp2
                  go_meet
                  exact ⟨by first | (rw [HT.out]; done) | (exfalso; omega), rfl⟩
              case rest =>
              obtain ⟨rfl, rfl⟩ := hcut
              cases T with
              | true =>
                simp only [if_true] at hcm
                have HCM := Lib.hid hcm
                clear hcm
                have hpr : a + j + 2 + k + 1 ≤ s.size := by
                  have h := hT.symm
                  rw [Bool.and_eq_true] at h
                  have := pre_len h.2
                  rw [List.length_drop, HLL.out] at this
                  simp only [List.length_cons, List.length_nil] at this
                  omega
                clear hT
                have hme : j + 2 + k + 1 ≤ l.length := by rw [HLL.out]; omega
                by_cases h2 : 2 ≤ s.size - (a + (j + 2 + k + 1))
                · have heq := slice2 s (a + (j + 2 + k + 1)) 125 125 (by omega)
                  rw [show s.data.toList.drop (a + (j + 2 + k + 1)) = l.drop (j + 2 + k + 1) by rw [HL.out, List.drop_drop]] at heq
                  have hsl := fun W => slice_at s ((a : Int) + j + 2 + k + 1) ((a : Int) + j + 2 + k + 1 + 2) (a + (j + 2 + k + 1)) (a + (j + 2 + k + 1) + 2) (by omega) (by omega) (by omega) (by omega) W
                  have hlb : decide ((s.size : Int) - ((a : Int) + j + 2 + k + 1) < 2) = false := decide_eq_false (by omega)
                  cases hp : List.isPrefixOf [125, 125] (l.drop (j + 2 + k + 1)) with
                  | true =>
                    rw [hp] at heq
                    have hcm := HCM.out
                    rw [hp, if_pos rfl] at hcm
                    have HCM := Lib.hid hcm
                    clear hcm hp
                    go_wp2
                    refine bodyPost_ret (v := actV (a + j + 2 + k + 1 + 2) ⟨#[]⟩ true true true) (by simp [results, Tryd.results58, go_sem, actV]) rfl ?_
                    refine ⟨a + j + 2 + k + 1 + 2, true, true, true, rfl, (((Below.refl _ w).alloc (Nat.le_refl _) _)), fun n t h => ?_, fun h => ?_⟩
                    · rw [HCM.out] at h
                      cases h
                      exact ⟨by omega, rfl, rfl, rfl, by omega⟩
                    · rw [HCM.out] at h
                      cases h
                  | false =>
                    rw [hp] at heq
                    have hcm := HCM.out
                    rw [hp, if_neg (by simp)] at hcm
                    have HCM := Lib.hid hcm
                    clear hcm hp
                    go_wp2
                    refine bodyPost_ret (v := actV 0 ⟨#[]⟩ false false false) (by simp [results, Tryd.results58, go_sem, actV]) rfl ?_
                    exact ⟨0, false, false, false, rfl, (((Below.refl _ w).alloc (Nat.le_refl _) _)), fun n t h => (by rw [HCM.out] at h; cases h), fun _ => rfl⟩
                · have hlb : decide ((s.size : Int) - ((a : Int) + j + 2 + k + 1) < 2) = true := decide_eq_true (by omega)
                  have hp : List.isPrefixOf [125, 125] (l.drop (j + 2 + k + 1)) = false := by
                    cases hp : List.isPrefixOf [125, 125] (l.drop (j + 2 + k + 1)) with
                    | false => rfl
                    | true =>
                      have := pre_len hp
                      rw [List.length_drop, HLL.out] at this
                      simp only [List.length_cons, List.length_nil] at this
                      omega
                  have hcm := HCM.out
                  rw [hp, if_neg (by simp)] at hcm
                  have HCM := Lib.hid hcm
                  clear hcm hp
                  go_wp2
                  refine bodyPost_ret (v := actV 0 ⟨#[]⟩ false false false) (by simp [results, Tryd.results58, go_sem, actV]) rfl ?_
                  exact ⟨0, false, false, false, rfl, (((Below.refl _ w).alloc (Nat.le_refl _) _)), fun n t h => (by rw [HCM.out] at h; cases h), fun _ => rfl⟩

              | false =>
                simp only [Bool.false_eq_true, if_false] at hcm
                have HCM := Lib.hid hcm
                clear hcm hT
                have hme : j + 2 + k ≤ l.length := by rw [HLL.out]; omega
                by_cases h2 : 2 ≤ s.size - (a + (j + 2 + k))
                · have heq := slice2 s (a + (j + 2 + k)) 125 125 (by omega)
                  rw [show s.data.toList.drop (a + (j + 2 + k)) = l.drop (j + 2 + k) by rw [HL.out, List.drop_drop]] at heq
                  have hsl := fun W => slice_at s ((a : Int) + j + 2 + k) ((a : Int) + j + 2 + k + 2) (a + (j + 2 + k)) (a + (j + 2 + k) + 2) (by omega) (by omega) (by omega) (by omega) W
                  have hlb : decide ((s.size : Int) - ((a : Int) + j + 2 + k) < 2) = false := decide_eq_false (by omega)
                  cases hp : List.isPrefixOf [125, 125] (l.drop (j + 2 + k)) with
                  | true =>
                    rw [hp] at heq
                    have hcm := HCM.out
                    rw [hp, if_pos rfl] at hcm
                    have HCM := Lib.hid hcm
                    clear hcm hp
                    go_wp2
                    refine bodyPost_ret (v := actV (a + j + 2 + k + 2) ⟨#[]⟩ false true true) (by simp [results, Tryd.results58, go_sem, actV]) rfl ?_
                    refine ⟨a + j + 2 + k + 2, false, true, true, rfl, (((Below.refl _ w).alloc (Nat.le_refl _) _)), fun n t h => ?_, fun h => ?_⟩
                    · rw [HCM.out] at h
                      cases h
                      exact ⟨by omega, rfl, rfl, rfl, by omega⟩
                    · rw [HCM.out] at h
                      cases h
                  | false =>
                    rw [hp] at heq
                    have hcm := HCM.out
                    rw [hp, if_neg (by simp)] at hcm
                    have HCM := Lib.hid hcm
                    clear hcm hp
                    go_wp2
                    refine bodyPost_ret (v := actV 0 ⟨#[]⟩ false false false) (by simp [results, Tryd.results58, go_sem, actV]) rfl ?_
                    exact ⟨0, false, false, false, rfl, (((Below.refl _ w).alloc (Nat.le_refl _) _)), fun n t h => (by rw [HCM.out] at h; cases h), fun _ => rfl⟩
                · have hlb : decide ((s.size : Int) - ((a : Int) + j + 2 + k) < 2) = true := decide_eq_true (by omega)
                  have hp : List.isPrefixOf [125, 125] (l.drop (j + 2 + k)) = false := by
                    cases hp : List.isPrefixOf [125, 125] (l.drop (j + 2 + k)) with
                    | false => rfl
                    | true =>
                      have := pre_len hp
                      rw [List.length_drop, HLL.out] at this
                      simp only [List.length_cons, List.length_nil] at this
                      omega
                  have hcm := HCM.out
                  rw [hp, if_neg (by simp)] at hcm
                  have HCM := Lib.hid hcm
                  clear hcm hp
                  go_wp2
                  refine bodyPost_ret (v := actV 0 ⟨#[]⟩ false false false) (by simp [results, Tryd.results58, go_sem, actV]) rfl ?_
                  exact ⟨0, false, false, false, rfl, (((Below.refl _ w).alloc (Nat.le_refl _) _)), fun n t h => (by rw [HCM.out] at h; cases h), fun _ => rfl⟩

          · have hn : l.drop (j + 2 + k) = [] := List.drop_eq_nil_of_le (by rw [HLL.out]; omega)
            have hK : k = blkN (l.drop (j + 2)) := by
              have hk := hK.out
              rw [hn] at hk
              exact hk
            have hb : decide ((a : Int) + j + 2 + k < (s.size : Int)) = false := decide_eq_false (by omega)
            have HK := Lib.hid hK
            clear hn hK
            go_upto_if 42 with (fail)
            clear hb h
            go_upto_region 10 with (fail)
            have hcm := HCM.out
            rw [← HK.out] at hcm
            clear HCM HK
            obtain ⟨T, hT⟩ : ∃ T, T = (decide (0 < k) && List.isPrefixOf [45] (l.drop (j + 2 + k))) := ⟨_, rfl⟩
            rw [← hT] at hcm
            go_cut [7] (fun v7 wx => v7 = .bool T ∧ w.alloc (.cells #[.int .i64 0, .string ⟨#[]⟩, .bool false, .bool false, .bool false] 92) = wx)
            case first =>
              by_cases hk0 : 0 < k
              · have hkb : decide ((a : Int) + j + 2 < (a : Int) + j + 2 + k) = true := decide_eq_true (by omega)
                rw [show decide (0 < k) = true from decide_eq_true hk0, Bool.true_and] at hT
                by_cases h : a + j + 2 + k < s.size
                · have hib : decide ((a : Int) + j + 2 + k < (s.size : Int)) = true := decide_eq_true (by omega)
                  have hdc := at_drop HL.out (a + j + 2 + k) (j + 2 + k) (by omega) h
                  obtain ⟨b, hb⟩ : ∃ b : UInt8, b = s[a + j + 2 + k]'h := ⟨_, rfl⟩
                  have hbt : ∀ h', ((s[a + j + 2 + k]'h').toNat : Nat) = b.toNat := fun h' => by rw [hb]
                  rw [← hb] at hdc
                  have hlt := b.toNat_lt
                  rw [hdc] at hT
                  have hq : ((b.toNat : Int) == 45) = (45 == b) := by
                    rw [Bool.eq_iff_iff]
                    simp only [beq_iff_eq]
                    exact ⟨fun h => UInt8.toNat_inj.1 (by show 45 = _; omega), fun h => by rw [← h]; rfl⟩
                  have hT2 : T = ((b.toNat : Int) == 45) := by rw [hT, hq]; simp [List.isPrefixOf]
                  have HT := Lib.hid hT2
                  clear hdc hb hT hT2 hq
                  go_wp2
                  go_meet
                  exact ⟨by first | (rw [HT.out]; done) | (exfalso; omega), rfl⟩
                · have hib : decide ((a : Int) + j + 2 + k < (s.size : Int)) = false := decide_eq_false (by omega)
                  rw [List.drop_eq_nil_of_le (by rw [HLL.out]; omega)] at hT
                  have HT := Lib.hid (show T = false from hT)
                  clear hT
                  go_wp2
                  go_meet
                  exact ⟨by first | (rw [HT.out]; done) | (exfalso; omega), rfl⟩
              · have hkb : decide ((a : Int) + j + 2 < (a : Int) + j + 2 + k) = false := decide_eq_false (by omega)
                rw [show decide (0 < k) = false from decide_eq_false hk0, Bool.false_and] at hT
                have HT := Lib.hid hT
                clear hT
                go_wp2
                go_meet
                exact ⟨by first | (rw [HT.out]; done) | (exfalso; omega), rfl⟩
            case rest =>
            obtain ⟨rfl, rfl⟩ := hcut
            cases T with
            | true =>
              simp only [if_true] at hcm
              have HCM := Lib.hid hcm
              clear hcm
              have hpr : a + j + 2 + k + 1 ≤ s.size := by
                have h := hT.symm
                rw [Bool.and_eq_true] at h
                have := pre_len h.2
                rw [List.length_drop, HLL.out] at this
                simp only [List.length_cons, List.length_nil] at this
                omega
              clear hT
              have hme : j + 2 + k + 1 ≤ l.length := by rw [HLL.out]; omega
              by_cases h2 : 2 ≤ s.size - (a + (j + 2 + k + 1))
              · have heq := slice2 s (a + (j + 2 + k + 1)) 125 125 (by omega)
                rw [show s.data.toList.drop (a + (j + 2 + k + 1)) = l.drop (j + 2 + k + 1) by rw [HL.out, List.drop_drop]] at heq
                have hsl := fun W => slice_at s ((a : Int) + j + 2 + k + 1) ((a : Int) + j + 2 + k + 1 + 2) (a + (j + 2 + k + 1)) (a + (j + 2 + k + 1) + 2) (by omega) (by omega) (by omega) (by omega) W
                have hlb : decide ((s.size : Int) - ((a : Int) + j + 2 + k + 1) < 2) = false := decide_eq_false (by omega)
                cases hp : List.isPrefixOf [125, 125] (l.drop (j + 2 + k + 1)) with
                | true =>
                  rw [hp] at heq
                  have hcm := HCM.out
                  rw [hp, if_pos rfl] at hcm
                  have HCM := Lib.hid hcm
                  clear hcm hp
                  go_wp2
                  refine bodyPost_ret (v := actV (a + j + 2 + k + 1 + 2) ⟨#[]⟩ true true true) (by simp [results, Tryd.results58, go_sem, actV]) rfl ?_
                  refine ⟨a + j + 2 + k + 1 + 2, true, true, true, rfl, (((Below.refl _ w).alloc (Nat.le_refl _) _)), fun n t h => ?_, fun h => ?_⟩
                  · rw [HCM.out] at h
                    cases h
                    exact ⟨by omega, rfl, rfl, rfl, by omega⟩
                  · rw [HCM.out] at h
                    cases h
                | false =>
                  rw [hp] at heq
                  have hcm := HCM.out
                  rw [hp, if_neg (by simp)] at hcm
                  have HCM := Lib.hid hcm
                  clear hcm hp
                  go_wp2
                  refine bodyPost_ret (v := actV 0 ⟨#[]⟩ false false false) (by simp [results, Tryd.results58, go_sem, actV]) rfl ?_
                  exact ⟨0, false, false, false, rfl, (((Below.refl _ w).alloc (Nat.le_refl _) _)), fun n t h => (by rw [HCM.out] at h; cases h), fun _ => rfl⟩
              · have hlb : decide ((s.size : Int) - ((a : Int) + j + 2 + k + 1) < 2) = true := decide_eq_true (by omega)
                have hp : List.isPrefixOf [125, 125] (l.drop (j + 2 + k + 1)) = false := by
                  cases hp : List.isPrefixOf [125, 125] (l.drop (j + 2 + k + 1)) with
                  | false => rfl
                  | true =>
                    have := pre_len hp
                    rw [List.length_drop, HLL.out] at this
                    simp only [List.length_cons, List.length_nil] at this
                    omega
                have hcm := HCM.out
                rw [hp, if_neg (by simp)] at hcm
                have HCM := Lib.hid hcm
                clear hcm hp
                go_wp2
                refine bodyPost_ret (v := actV 0 ⟨#[]⟩ false false false) (by simp [results, Tryd.results58, go_sem, actV]) rfl ?_
                exact ⟨0, false, false, false, rfl, (((Below.refl _ w).alloc (Nat.le_refl _) _)), fun n t h => (by rw [HCM.out] at h; cases h), fun _ => rfl⟩

            | false =>
              simp only [Bool.false_eq_true, if_false] at hcm
              have HCM := Lib.hid hcm
              clear hcm hT
              have hme : j + 2 + k ≤ l.length := by rw [HLL.out]; omega
              by_cases h2 : 2 ≤ s.size - (a + (j + 2 + k))
              · have heq := slice2 s (a + (j + 2 + k)) 125 125 (by omega)
                rw [show s.data.toList.drop (a + (j + 2 + k)) = l.drop (j + 2 + k) by rw [HL.out, List.drop_drop]] at heq
                have hsl := fun W => slice_at s ((a : Int) + j + 2 + k) ((a : Int) + j + 2 + k + 2) (a + (j + 2 + k)) (a + (j + 2 + k) + 2) (by omega) (by omega) (by omega) (by omega) W
                have hlb : decide ((s.size : Int) - ((a : Int) + j + 2 + k) < 2) = false := decide_eq_false (by omega)
                cases hp : List.isPrefixOf [125, 125] (l.drop (j + 2 + k)) with
                | true =>
                  rw [hp] at heq
                  have hcm := HCM.out
                  rw [hp, if_pos rfl] at hcm
                  have HCM := Lib.hid hcm
                  clear hcm hp
                  go_wp2
                  refine bodyPost_ret (v := actV (a + j + 2 + k + 2) ⟨#[]⟩ false true true) (by simp [results, Tryd.results58, go_sem, actV]) rfl ?_
                  refine ⟨a + j + 2 + k + 2, false, true, true, rfl, (((Below.refl _ w).alloc (Nat.le_refl _) _)), fun n t h => ?_, fun h => ?_⟩
                  · rw [HCM.out] at h
                    cases h
                    exact ⟨by omega, rfl, rfl, rfl, by omega⟩
                  · rw [HCM.out] at h
                    cases h
                | false =>
                  rw [hp] at heq
                  have hcm := HCM.out
                  rw [hp, if_neg (by simp)] at hcm
                  have HCM := Lib.hid hcm
                  clear hcm hp
                  go_wp2
                  refine bodyPost_ret (v := actV 0 ⟨#[]⟩ false false false) (by simp [results, Tryd.results58, go_sem, actV]) rfl ?_
                  exact ⟨0, false, false, false, rfl, (((Below.refl _ w).alloc (Nat.le_refl _) _)), fun n t h => (by rw [HCM.out] at h; cases h), fun _ => rfl⟩
              · have hlb : decide ((s.size : Int) - ((a : Int) + j + 2 + k) < 2) = true := decide_eq_true (by omega)
                have hp : List.isPrefixOf [125, 125] (l.drop (j + 2 + k)) = false := by
                  cases hp : List.isPrefixOf [125, 125] (l.drop (j + 2 + k)) with
                  | false => rfl
                  | true =>
                    have := pre_len hp
                    rw [List.length_drop, HLL.out] at this
                    simp only [List.length_cons, List.length_nil] at this
                    omega
                have hcm := HCM.out
                rw [hp, if_neg (by simp)] at hcm
                have HCM := Lib.hid hcm
                clear hcm hp
                go_wp2
                refine bodyPost_ret (v := actV 0 ⟨#[]⟩ false false false) (by simp [results, Tryd.results58, go_sem, actV]) rfl ?_
                exact ⟨0, false, false, false, rfl, (((Below.refl _ w).alloc (Nat.le_refl _) _)), fun n t h => (by rw [HCM.out] at h; cases h), fun _ => rfl⟩

    · have hn : hasI [42, 47] l = false := by
        rw [← hH.out.1]
        exact hasI_short _ _ (by rw [List.length_drop, HLL.out]; simp only [List.length_cons, List.length_nil]; omega)
      have hcm := comL_not hn
      have hb : decide ((a : Int) + j + 1 < (s.size : Int)) = false := decide_eq_false (by omega)
      have hb2 : decide ((s.size : Int) ≤ (a : Int) + j + 1) = true := decide_eq_true (by omega)
      have HCM := Lib.hid hcm
      clear hn hcm hH h
      go_wp2
      refine bodyPost_ret (v := actV 0 ⟨#[]⟩ false false false) (by simp [results, Tryd.results58, go_sem, actV]) rfl ?_
      exact ⟨0, false, false, false, rfl, ((Below.refl _ w).alloc (Nat.le_refl _) _), fun n t h => (by rw [HCM.out] at h; cases h), fun _ => rfl⟩
end Go.Proofs.YtblkbhomlblfnaaDoor.S
