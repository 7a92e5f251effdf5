/-
  THE WALKS of package value's keys, own.
-/
import Derived.Test.YthmcacgkhpigaaaDoorJM1
set_option linter.unusedVariables false
set_option linter.unusedSimpArgs false
namespace Go.Proofs.YthmcacgkhpigaaaDoor.S
open Go.RowKit

def keysF : Option (List UInt8) → List (List UInt8) → Bool
  | _, [] => true
  | p, k :: r => !k.isEmpty && decide (k.length ≤ 32) && (match p with | none => true | some q => Op.bytesLess q k) && keysF (some k) r
theorem keysF_eq (p : Option (List UInt8)) (k : List UInt8) (r : List (List UInt8)) : keysF p (k :: r) = (!k.isEmpty && decide (k.length ≤ 32) && (match p with | none => true | some q => Op.bytesLess q k) && keysF (some k) r) := by cases p <;> rfl
theorem keysF_cons (p : Option (List UInt8)) (k : List UInt8) (r : List (List UInt8)) : keysF p (k :: r) = ((match p with | none => true | some q => Op.bytesLess q k) && keysO (k :: r)) := by
  induction r generalizing p k with
  | nil =>
    rw [keysF_eq, keysO, show keysF (some k) [] = true from rfl]
    cases k.isEmpty <;> cases decide (k.length ≤ 32) <;> simp <;> cases p <;> rfl
  | cons k2 r ih =>
    rw [keysF_eq, ih (some k) k2, keysO]
    dsimp only
    cases k.isEmpty <;> cases decide (k.length ≤ 32) <;> simp <;> cases p <;> simp
theorem keysF_none (ks : List (List UInt8)) : keysF none ks = keysO ks := by
  cases ks with
  | nil => rfl
  | cons k r => rw [keysF_cons]; rfl
def prevK (ks : List (List UInt8)) : Nat → Option (List UInt8)
  | 0 => none
  | i + 1 => ks[i]?
theorem keys_at (ks : List (List UInt8)) (i : Nat) (h : i < ks.length) : keysF (prevK ks i) (ks.drop i) = (!(ks[i]'h).isEmpty && decide ((ks[i]'h).length ≤ 32) && (match prevK ks i with | none => true | some q => Op.bytesLess q (ks[i]'h)) && keysF (prevK ks (i + 1)) (ks.drop (i + 1))) := by
  rw [List.drop_eq_getElem_cons h, keysF_eq]
  show _ = (_ && keysF ks[i]? _)
  rw [List.getElem?_eq_getElem h]
set_option maxRecDepth 100000 in
set_option maxHeartbeats 4000000 in
theorem jkeys_calls (P : Nat → Prop) (v : Value) (ks : List (List UInt8)) (w : World) (hK : KR P w v ks) (hn : ks.length ≤ 1073741824) :
    Calls Tryd.prog 55 #[v] w fun e w' => e = .returned (.bool (keysO ks)) ∧ w = w' := by
  obtain ⟨ka, kc, rfl, hat⟩ := hK.open
  have HAT := Lib.hid hat
  clear hat
  go_enter Tryd.func55, Tryd.ntmps55
  go_wp2
  go_loopg [3, 4, 7] ks.length (fun gk _ _ v7 wr => ∃ i : Nat, v7 = .int .i64 i ∧ i + gk = ks.length ∧ Hid (keysO ks = keysF (prevK ks i) (ks.drop i)) ∧ w = wr)
  case atStart => exact ⟨0, rfl, by omega, (keysF_none ks).symm, rfl⟩
  case round =>
    obtain ⟨i, rfl, hik, hH, rfl⟩ := hrel
    have HIK := Lib.hid hik
    have hi2 : i ≤ ks.length := by omega
    clear hik
    by_cases hi : i < ks.length
    · have hib : decide ((i : Int) < (ks.length : Int)) = true := decide_eq_true (by omega)
      obtain ⟨g, o, rfl, hc⟩ := HAT.out i hi
      have hst := hH.out.trans (keys_at ks i hi)
      obtain ⟨k, hk⟩ : ∃ k, k = ks[i]'hi := ⟨_, rfl⟩
      rw [← hk] at hst hc
      obtain ⟨t, ht⟩ : ∃ t : ByteArray, t = ⟨k.toArray⟩ := ⟨_, rfl⟩
      have htl : t.toList = k := by rw [Lib.toList_data, ht]
      have htz : t.size = k.length := by rw [ht]; rfl
      rw [← ht] at hc
      cases he : k.isEmpty with
      | true =>
        have h1 : t.toList.isEmpty = true := by rw [htl]; exact he
        rw [he] at hst
        have HF := Lib.hid (show keysO ks = false by rw [hst]; rfl)
        clear hst he hk ht htl htz hH
        go_wp2
        go_ret
        exact ⟨by rw [HF.out]; rfl, rfl⟩
      | false =>
        have h1 : t.toList.isEmpty = false := by rw [htl]; exact he
        rw [he] at hst
        by_cases h32 : k.length ≤ 32
        · have h2 : decide ((32 : Int) < (t.size : Int)) = false := decide_eq_false (by omega)
          rw [decide_eq_true h32, Bool.not_false, Bool.true_and, Bool.true_and] at hst
          cases i with
          | zero =>
            rw [Nat.add_zero] at hc
            have HF := Lib.hid (show keysO ks = keysF (prevK ks (0 + 1)) (ks.drop (0 + 1)) by rw [hst]; simp [prevK])
            clear hst he hk ht htl htz h32 hH
            go_wp2
            go_roundg (gk - 1)
            case measure => have := HIK.out; omega
            case rel => exact ⟨1, by go_num, by have := HIK.out; omega, HF.out, rfl⟩
          | succ j =>
            obtain ⟨g2, o2, he2, hc2⟩ := HAT.out j (by omega)
            obtain ⟨rfl, rfl⟩ : g = g2 ∧ o = o2 := by simpa using he2
            obtain ⟨k2, hk2⟩ : ∃ k2, k2 = ks[j]'(by omega) := ⟨_, rfl⟩
            rw [← hk2] at hc2
            have hp : prevK ks (j + 1) = some k2 := by show ks[j]? = _; rw [List.getElem?_eq_getElem (by omega), hk2]
            rw [hp] at hst
            dsimp only at hst
            obtain ⟨t2, ht2⟩ : ∃ t2 : ByteArray, t2 = ⟨k2.toArray⟩ := ⟨_, rfl⟩
            have htl2 : t2.toList = k2 := by rw [Lib.toList_data, ht2]
            rw [← ht2] at hc2
            rw [← htl, ← htl2] at hst
            have hi0 : decide ((0 : Int) < ((j + 1 : Nat) : Int)) = true := decide_eq_true (by omega)
            have hw : IntKind.i64.wrap (((j + 1 : Nat) : Int) - 1) = (j : Int) := by rw [IntWalk.i64_in _ (by omega)]; omega
            have hw2 : ((j + 1 : Nat) : Int) - 1 = (j : Int) := by omega
            have hw3 : ((j : Int) + 1) - 1 = (j : Int) := by omega
            cases hl : Op.bytesLess t2.toList t.toList with
            | false =>
              rw [hl, Bool.false_and] at hst
              have HF := Lib.hid hst
              clear hst he hk ht htl htz h32 hH hp hk2 ht2 htl2 he2
              go_wp2
              go_ret
              exact ⟨by rw [HF.out]; rfl, rfl⟩
            | true =>
              rw [hl, Bool.true_and] at hst
              have HF := Lib.hid hst
              clear hst he hk ht htl htz h32 hH hp hk2 ht2 htl2 he2
              go_wp2
              go_roundg (gk - 1)
              case measure => have := HIK.out; omega
              case rel => exact ⟨j + 1 + 1, by go_num, by have := HIK.out; omega, HF.out, rfl⟩
        · have h2 : decide ((32 : Int) < (t.size : Int)) = true := decide_eq_true (by omega)
          rw [decide_eq_false h32] at hst
          have HF := Lib.hid (show keysO ks = false by rw [hst]; rfl)
          clear hst he hk ht htl htz h32 hH
          go_wp2
          go_ret
          exact ⟨by rw [HF.out]; rfl, rfl⟩
    · have hib : decide ((i : Int) < (ks.length : Int)) = false := decide_eq_false (by omega)
      have hst := hH.out
      rw [List.drop_eq_nil_of_le (by omega)] at hst
      have HF := Lib.hid (show keysO ks = true by rw [hst]; cases prevK ks i <;> rfl)
      clear hst hH
      go_wp2
      go_ret
      exact ⟨by rw [HF.out]; rfl, rfl⟩
end Go.Proofs.YthmcacgkhpigaaaDoor.S
