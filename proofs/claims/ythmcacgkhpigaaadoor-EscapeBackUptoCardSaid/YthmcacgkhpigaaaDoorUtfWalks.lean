/-
  THE WALKS of package utf: sign, Norm.
-/
import Derived.Test.YthmcacgkhpigaaaDoorEnv
import Derived.Test.YthmcacgkhpigaaaDoorPlainU
import Derived.Test.YthmcacgkhpigaaaDoorBuilder
import Derived.Test.YthmcacgkhpigaaaDoorShelf
import Derived.WalkKit
import Derived.BigCall
import Derived.Outline
import Derived.Lib.Hide
set_option linter.unusedVariables false
namespace Go.Proofs.YthmcacgkhpigaaaDoor.S
open Go.RowKit

theorem get_toList (s : ByteArray) (i : Nat) : s.get! i = s.data.toList.getD i 0 := by
  show s.data[i]! = _
  simp [Array.getElem!_eq_getD, List.getD_eq_getElem?_getD]
  rfl
theorem sign_decode (s : ByteArray) : sign s.data.toList = if (Lib.decodeGo s).1 = 0 ∨ ((Lib.decodeGo s).1 = 65533 ∧ (Lib.decodeGo s).2 = 1) then 0 else (Lib.decodeGo s).2 := by
  unfold Lib.decodeGo
  have hz : s.size = s.data.toList.length := rfl
  by_cases h : s.size = 0
  · rw [if_pos h]
    rw [List.eq_nil_of_length_eq_zero (hz.symm.trans h)]
    rfl
  · rw [if_neg h, Lib.decode_at]
    simp only [get_toList, Nat.sub_zero, hz]
    rw [hz] at h
    cases hl : s.data.toList with
    | nil => rw [hl] at h; exact absurd rfl h
    | cons b r => rfl

set_option maxHeartbeats 1000000 in
theorem sign_calls (s : ByteArray) (w : World) (hE : Env w) :
    Calls Tryd.prog 20 #[.string s] w fun e w' => e = .returned (.int .i64 (sign s.data.toList)) ∧ Below w.heap.size w w' := by
  have hc := Tryd.utf8_DecodeRuneInString s w hE.tabs
  rw [sign_decode]
  generalize (Lib.decodeGo s).1 = r at *
  generalize (Lib.decodeGo s).2 = n at *
  have HC := Lib.hid hc
  clear hc
  by_cases h : r = 0 ∨ (r = 65533 ∧ n = 1)
  · rw [if_pos h]
    go_enter Tryd.func20, Tryd.ntmps20
    go_wp2_with (go_at_call 28; refine HC.out.mono ?_; rintro e w' ⟨rfl, hb⟩)
    all_goals go_ret
    all_goals exact ⟨rfl, hb⟩
  · rw [if_neg h]
    go_enter Tryd.func20, Tryd.ntmps20
    go_wp2_with (go_at_call 28; refine HC.out.mono ?_; rintro e w' ⟨rfl, hb⟩)
    all_goals go_ret
    all_goals exact ⟨rfl, hb⟩

theorem size_list (s : ByteArray) : s.data.toList.length = s.size := rfl
theorem list_mk (l : List UInt8) : ByteArray.data ⟨l.toArray⟩ = l.toArray := rfl
/-- how long a value that is a text is -/
def vlen : Value → Nat
  | .string t => t.size
  | _ => 0
@[simp] theorem vlen_string (t : ByteArray) : vlen (.string t) = t.size := rfl
theorem nil_of_size {t : ByteArray} (h : t.size = 0) : t.data.toList = [] := List.eq_nil_of_length_eq_zero h
theorem empty_test {t : ByteArray} (h : t.size = 0) : t.toList.isEmpty = true := by rw [Lib.toList_data, nil_of_size h]; rfl
theorem nonempty_test {t : ByteArray} (h : ¬ t.size = 0) : t.toList.isEmpty = false := by
  rw [Lib.toList_data]
  cases hl : t.data.toList with
  | nil => exact absurd (congrArg List.length hl) h
  | cons b r => rfl

/-- one sign of 'norm' -/
theorem norm_step (l : List UInt8) (h : l ≠ []) : norm l = (if sign l = 0 then bad else l.take (sign l)) ++ norm (l.drop (if sign l = 0 then 1 else sign l)) := by
  cases l with
  | nil => exact absurd rfl h
  | cons b r => rw [norm_cons]; split <;> rfl

set_option maxHeartbeats 1000000 in
theorem norm_calls (s : ByteArray) (w : World) (hE : Env w) (hs : s.size ≤ 35184372088832) :
    Calls Tryd.prog 9 #[.string s] w fun e w' => e = .returned (.string ⟨(norm s.data.toList).toArray⟩) ∧ Below w.heap.size w w' := by
  go_enter Tryd.func9, Tryd.ntmps9
  go_wp2
  go_loopw [0, 4] (fun v0 _ wr => ∃ (t : ByteArray) (acc : List UInt8), v0 = .string t ∧ Tryd.BuilderHas w.heap.size w.heap.size acc wr ∧ Below w.heap.size w wr ∧ Hid (acc ++ norm t.data.toList = norm s.data.toList) ∧ acc.length + 3 * t.size ≤ 3 * s.size) (fun v0 _ _ => vlen v0)
  case atStart => exact ⟨s, [], rfl, Tryd.freshBuilder w, (Below.refl _ _).alloc (Nat.le_refl _) _, rfl, by simp⟩
  case round =>
    obtain ⟨t, acc, rfl, hI, hbw, hacc, hts⟩ := hrel
    have hE' := hE.below hbw
    have hsz := hbw.size
    by_cases h0 : t.size = 0
    · have h1 := empty_test h0
      rw [nil_of_size h0, norm_nil, List.append_nil] at hacc
      have HA := Lib.hid hacc.out
      clear hacc
      go_wp2_with (go_at_call 16; refine (Tryd.builderString _ _ _ _ hI hsz).mono ?_; rintro e w' ⟨rfl, hb⟩)
      go_ret
      rw [HA.out]
      exact ⟨rfl, hbw.trans hb⟩
    · have h1 := nonempty_test h0
      have hne : t.data.toList ≠ [] := fun h => h0 (congrArg List.length h)
      have hst := sign_le t.data.toList
      have hn := norm_step t.data.toList hne
      rw [size_list] at hst
      generalize hk : sign t.data.toList = k at *
      have hc := sign_calls t wr hE'
      rw [hk] at hc
      have HC := Lib.hid hc
      have HK := Lib.hid hk
      clear hk hc
      by_cases hk0 : k = 0
      · subst hk0
        simp only [if_pos] at hn
        have HN := Lib.hid hn
        clear hn
        go_wp2_with (first | (go_at_call 20; refine HC.out.mono ?_; rintro e w1 ⟨rfl, hb1⟩) | (go_at_call 14; refine (Tryd.writeString _ _ _ _ _ (Tryd.builderBelow hI hb1) (by simp only [ByteArray.size, List.size_toArray, List.length_cons, List.length_nil]; omega) (Nat.le_trans hsz hb1.size)).mono ?_; rintro e w2 ⟨rfl, hI2, hb2⟩))
        go_roundw
        case rel =>
          refine ⟨_, _, rfl, hI2, (hbw.trans (hb1.mono hsz)).trans hb2, ?_, ?_⟩
          · rw [Lib.extract_to_end, List.append_assoc]; exact (congrArg (acc ++ ·) HN.out).symm.trans hacc.out
          · rw [ByteArray.size_extract]; simp only [List.length_append, List.length_cons, List.length_nil]; omega
        case measure => simp only [vlen_string, ByteArray.size_extract]; omega
      · simp only [if_neg hk0] at hn
        have HN := Lib.hid hn
        clear hn
        have hkz : ((k : Int) == 0) = false := by simpa using hk0
        have hbs : (t.extract 0 k).size = k := by rw [ByteArray.size_extract]; omega
        have HBS := Lib.hid hbs
        clear hbs
        go_wp2_with (first | (go_at_call 20; refine HC.out.mono ?_; rintro e w1 ⟨rfl, hb1⟩) | (go_at_call 14; refine (Tryd.writeString _ _ _ _ _ (Tryd.builderBelow hI hb1) (by rw [HBS.out]; omega) (Nat.le_trans hsz hb1.size)).mono ?_; rintro e w2 ⟨rfl, hI2, hb2⟩))
        go_roundw
        case rel =>
          refine ⟨_, _, rfl, hI2, (hbw.trans (hb1.mono hsz)).trans hb2, ?_, ?_⟩
          · rw [Lib.extract_to_end, List.append_assoc]
            have e : (t.extract 0 k).data.toList = t.data.toList.take k := by rw [Lib.extract_data]; simp
            rw [e]
            exact (congrArg (acc ++ ·) HN.out).symm.trans hacc.out
          · rw [ByteArray.size_extract, List.length_append, size_list, HBS.out]; omega
        case measure => simp only [vlen_string, ByteArray.size_extract]; omega
theorem StrIs.size {r : ByteArray} {l : List UInt8} (h : StrIs r l) : r.size = l.length := congrArg List.length h
theorem StrIs.eq {r : ByteArray} {l : List UInt8} (h : StrIs r l) : r = ⟨l.toArray⟩ := by
  obtain ⟨⟨x⟩⟩ := r
  exact congrArg (fun y : List UInt8 => (⟨y.toArray⟩ : ByteArray)) h
theorem ret_str {r : ByteArray} {l : List UInt8} (h : StrIs r l) : Ending.returned (.string r) = .returned (.string ⟨l.toArray⟩) := by rw [h.eq]
theorem replaceAll_calls (s old new : ByteArray) (w : World) (hE : Env w) (hs : s.size < 4294967281) (h1 : 1 ≤ old.size) (hlen : s.size + s.size * new.size ≤ 140737488355328) :
    Calls Tryd.prog 15 #[.string s, .string old, .string new] w fun e w' => ∃ r : ByteArray, e = .returned (.string r) ∧ StrIs r (Lib.replaceAll s.data.toList old.data.toList new.data.toList) ∧ Below w.heap.size w w' := by
  obtain ⟨m, hm⟩ := hE.maxLen
  have h := Nat.mul_le_mul_right new.size (Lib.countB_le old h1 s.size s (Nat.le_refl _))
  exact (Tryd.strings_ReplaceAll s old new m w hs hm h1 (by omega)).mono fun _ _ ⟨he, hb⟩ => ⟨_, he, rfl, hb⟩
theorem norm_calls' (s : ByteArray) (w : World) (hE : Env w) (hs : s.size ≤ 35184372088832) :
    Calls Tryd.prog 9 #[.string s] w fun e w' => ∃ t : ByteArray, e = .returned (.string t) ∧ StrIs t (norm s.data.toList) ∧ Below w.heap.size w w' :=
  (norm_calls s w hE hs).mono fun _ _ ⟨he, hb⟩ => ⟨_, he, rfl, hb⟩
end Go.Proofs.YthmcacgkhpigaaaDoor.S
