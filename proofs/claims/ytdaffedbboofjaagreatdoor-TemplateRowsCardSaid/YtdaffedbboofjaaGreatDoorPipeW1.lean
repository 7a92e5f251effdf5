/-
  THE WALKS of package pipe's Fn, path, wordMay (and the reference's Function).
-/
import Derived.Test.YtdaffedbboofjaaGreatDoorPipeMem
import Derived.Test.YtdaffedbboofjaaGreatDoorPlainW4
set_option linter.unusedVariables false
set_option linter.unusedSimpArgs false
namespace Go.Proofs.YtdaffedbboofjaaGreatDoor.S
open Go.RowKit

theorem str_test {s : ByteArray} {l : List UInt8} (hl : StrIs s l) (x : List UInt8) (b : Bool) (h : (l == x) = b) : (s.toList == x) = b := by rw [Lib.toList_data, hl]; exact h
set_option maxRecDepth 100000 in
set_option maxHeartbeats 4000000 in
theorem fn_calls (s : ByteArray) (l : List UInt8) (hl : StrIs s l) (w : World) :
    Calls Tryz.prog 128 #[.string s] w fun e w' => e = .returned (.bool (isFn l)) ∧ w = w' := by
  cases h0 : (l == [108, 101, 110]) with
  | true =>
    have t0 := str_test hl [108, 101, 110] true h0
    have hf : isFn l = true := by unfold isFn; rw [h0]; simp
    have HF := Lib.hid hf
    clear hf h0
    go_enter Tryz.func128, Tryz.ntmps128
    go_wp2
    go_ret
    exact ⟨by rw [HF.out]; rfl, rfl⟩
  | false =>
    have t0 := str_test hl [108, 101, 110] false h0
    cases h1 : (l == [105, 110, 100, 101, 120]) with
    | true =>
      have t1 := str_test hl [105, 110, 100, 101, 120] true h1
      have hf : isFn l = true := by unfold isFn; rw [h1]; simp
      have HF := Lib.hid hf
      clear hf h0 h1
      go_enter Tryz.func128, Tryz.ntmps128
      go_wp2
      go_ret
      exact ⟨by rw [HF.out]; rfl, rfl⟩
    | false =>
      have t1 := str_test hl [105, 110, 100, 101, 120] false h1
      cases h2 : (l == [101, 113]) with
      | true =>
        have t2 := str_test hl [101, 113] true h2
        have hf : isFn l = true := by unfold isFn; rw [h2]; simp
        have HF := Lib.hid hf
        clear hf h0 h1 h2
        go_enter Tryz.func128, Tryz.ntmps128
        go_wp2
        go_ret
        exact ⟨by rw [HF.out]; rfl, rfl⟩
      | false =>
        have t2 := str_test hl [101, 113] false h2
        cases h3 : (l == [108, 116]) with
        | true =>
          have t3 := str_test hl [108, 116] true h3
          have hf : isFn l = true := by unfold isFn; rw [h3]; simp
          have HF := Lib.hid hf
          clear hf h0 h1 h2 h3
          go_enter Tryz.func128, Tryz.ntmps128
          go_wp2
          go_ret
          exact ⟨by rw [HF.out]; rfl, rfl⟩
        | false =>
          have t3 := str_test hl [108, 116] false h3
          cases h4 : (l == [110, 111, 116]) with
          | true =>
            have t4 := str_test hl [110, 111, 116] true h4
            have hf : isFn l = true := by unfold isFn; rw [h4]; simp
            have HF := Lib.hid hf
            clear hf h0 h1 h2 h3 h4
            go_enter Tryz.func128, Tryz.ntmps128
            go_wp2
            go_ret
            exact ⟨by rw [HF.out]; rfl, rfl⟩
          | false =>
            have t4 := str_test hl [110, 111, 116] false h4
            cases h5 : (l == [97, 110, 100]) with
            | true =>
              have t5 := str_test hl [97, 110, 100] true h5
              have hf : isFn l = true := by unfold isFn; rw [h5]; simp
              have HF := Lib.hid hf
              clear hf h0 h1 h2 h3 h4 h5
              go_enter Tryz.func128, Tryz.ntmps128
              go_wp2
              go_ret
              exact ⟨by rw [HF.out]; rfl, rfl⟩
            | false =>
              have t5 := str_test hl [97, 110, 100] false h5
              cases h6 : (l == [111, 114]) with
              | true =>
                have t6 := str_test hl [111, 114] true h6
                have hf : isFn l = true := by unfold isFn; rw [h6]; simp
                have HF := Lib.hid hf
                clear hf h0 h1 h2 h3 h4 h5 h6
                go_enter Tryz.func128, Tryz.ntmps128
                go_wp2
                go_ret
                exact ⟨by rw [HF.out]; rfl, rfl⟩
              | false =>
                have t6 := str_test hl [111, 114] false h6
                cases h7 : (l == [99, 97, 116]) with
                | true =>
                  have t7 := str_test hl [99, 97, 116] true h7
                  have hf : isFn l = true := by unfold isFn; rw [h7]; simp
                  have HF := Lib.hid hf
                  clear hf h0 h1 h2 h3 h4 h5 h6 h7
                  go_enter Tryz.func128, Tryz.ntmps128
                  go_wp2
                  go_ret
                  exact ⟨by rw [HF.out]; rfl, rfl⟩
                | false =>
                  have t7 := str_test hl [99, 97, 116] false h7
                  have hf : isFn l = false := by unfold isFn; rw [h0, h1, h2, h3, h4, h5, h6, h7]; rfl
                  have HF := Lib.hid hf
                  clear hf h0 h1 h2 h3 h4 h5 h6 h7
                  go_enter Tryz.func128, Tryz.ntmps128
                  go_wp2
                  go_ret
                  exact ⟨by rw [HF.out]; rfl, rfl⟩
set_option maxRecDepth 100000 in
set_option maxHeartbeats 4000000 in
theorem rfn_calls (s : ByteArray) (l : List UInt8) (hl : StrIs s l) (w : World) :
    Calls Tryz.prog 132 #[.string s] w fun e w' => e = .returned (.bool (isFn l)) ∧ w = w' := by
  cases h0 : (l == [108, 101, 110]) with
  | true =>
    have t0 := str_test hl [108, 101, 110] true h0
    have hf : isFn l = true := by unfold isFn; rw [h0]; simp
    have HF := Lib.hid hf
    clear hf h0
    go_enter Tryz.func132, Tryz.ntmps132
    go_wp2
    go_ret
    exact ⟨by rw [HF.out]; rfl, rfl⟩
  | false =>
    have t0 := str_test hl [108, 101, 110] false h0
    cases h1 : (l == [105, 110, 100, 101, 120]) with
    | true =>
      have t1 := str_test hl [105, 110, 100, 101, 120] true h1
      have hf : isFn l = true := by unfold isFn; rw [h1]; simp
      have HF := Lib.hid hf
      clear hf h0 h1
      go_enter Tryz.func132, Tryz.ntmps132
      go_wp2
      go_ret
      exact ⟨by rw [HF.out]; rfl, rfl⟩
    | false =>
      have t1 := str_test hl [105, 110, 100, 101, 120] false h1
      cases h2 : (l == [101, 113]) with
      | true =>
        have t2 := str_test hl [101, 113] true h2
        have hf : isFn l = true := by unfold isFn; rw [h2]; simp
        have HF := Lib.hid hf
        clear hf h0 h1 h2
        go_enter Tryz.func132, Tryz.ntmps132
        go_wp2
        go_ret
        exact ⟨by rw [HF.out]; rfl, rfl⟩
      | false =>
        have t2 := str_test hl [101, 113] false h2
        cases h3 : (l == [108, 116]) with
        | true =>
          have t3 := str_test hl [108, 116] true h3
          have hf : isFn l = true := by unfold isFn; rw [h3]; simp
          have HF := Lib.hid hf
          clear hf h0 h1 h2 h3
          go_enter Tryz.func132, Tryz.ntmps132
          go_wp2
          go_ret
          exact ⟨by rw [HF.out]; rfl, rfl⟩
        | false =>
          have t3 := str_test hl [108, 116] false h3
          cases h4 : (l == [110, 111, 116]) with
          | true =>
            have t4 := str_test hl [110, 111, 116] true h4
            have hf : isFn l = true := by unfold isFn; rw [h4]; simp
            have HF := Lib.hid hf
            clear hf h0 h1 h2 h3 h4
            go_enter Tryz.func132, Tryz.ntmps132
            go_wp2
            go_ret
            exact ⟨by rw [HF.out]; rfl, rfl⟩
          | false =>
            have t4 := str_test hl [110, 111, 116] false h4
            cases h5 : (l == [97, 110, 100]) with
            | true =>
              have t5 := str_test hl [97, 110, 100] true h5
              have hf : isFn l = true := by unfold isFn; rw [h5]; simp
              have HF := Lib.hid hf
              clear hf h0 h1 h2 h3 h4 h5
              go_enter Tryz.func132, Tryz.ntmps132
              go_wp2
              go_ret
              exact ⟨by rw [HF.out]; rfl, rfl⟩
            | false =>
              have t5 := str_test hl [97, 110, 100] false h5
              cases h6 : (l == [111, 114]) with
              | true =>
                have t6 := str_test hl [111, 114] true h6
                have hf : isFn l = true := by unfold isFn; rw [h6]; simp
                have HF := Lib.hid hf
                clear hf h0 h1 h2 h3 h4 h5 h6
                go_enter Tryz.func132, Tryz.ntmps132
                go_wp2
                go_ret
                exact ⟨by rw [HF.out]; rfl, rfl⟩
              | false =>
                have t6 := str_test hl [111, 114] false h6
                cases h7 : (l == [99, 97, 116]) with
                | true =>
                  have t7 := str_test hl [99, 97, 116] true h7
                  have hf : isFn l = true := by unfold isFn; rw [h7]; simp
                  have HF := Lib.hid hf
                  clear hf h0 h1 h2 h3 h4 h5 h6 h7
                  go_enter Tryz.func132, Tryz.ntmps132
                  go_wp2
                  go_ret
                  exact ⟨by rw [HF.out]; rfl, rfl⟩
                | false =>
                  have t7 := str_test hl [99, 97, 116] false h7
                  have hf : isFn l = false := by unfold isFn; rw [h0, h1, h2, h3, h4, h5, h6, h7]; rfl
                  have HF := Lib.hid hf
                  clear hf h0 h1 h2 h3 h4 h5 h6 h7
                  go_enter Tryz.func132, Tryz.ntmps132
                  go_wp2
                  go_ret
                  exact ⟨by rw [HF.out]; rfl, rfl⟩
theorem vint_calls (x : Int) (h : x.natAbs ≤ 9007199254740991) (w : World) :
    Calls Tryz.prog 156 #[.int .i64 x] w fun e w' => e = .returned (.bool true) ∧ w = w' := by
  have h1 : decide (-9007199254740991 ≤ x) = true := decide_eq_true (by omega)
  have h2 : decide (x ≤ 9007199254740991) = true := decide_eq_true (by omega)
  go_enter Tryz.func156, Tryz.ntmps156
  go_wp2
  go_ret
  exact ⟨rfl, rfl⟩
theorem bad_calls (s : ByteArray) (l : List UInt8) (hl : StrIs s l) (w : World) :
    Calls Tryz.prog 174 #[.string s] w fun e w' => e = .returned (.bool (!nameOk l)) ∧ w = w' := by
  go_enter Tryz.func174, Tryz.ntmps174
  go_wp2_with fail
  refine (wName_calls s l hl _).mono ?_
  rintro e w' ⟨rfl, rfl⟩
  cases h : nameOk l with
  | true =>
    have H := Lib.hid h
    clear h
    go_wp2
    go_ret
    exact ⟨by rw [H.out]; rfl, rfl⟩
  | false =>
    have H := Lib.hid h
    clear h
    go_wp2
    go_ret
    exact ⟨by rw [H.out]; rfl, rfl⟩
set_option maxRecDepth 100000 in
set_option maxHeartbeats 4000000 in
theorem indexBad_calls (base : Nat) (v : Value) (xs : List (List UInt8)) (w : World) (hP : Txs base v xs w) (hn : ∀ x ∈ xs, nameOk x = true) :
    Calls Tryz.prog 182 #[v, .func (Fn.func 174) #[] #[]] w fun e w' => e = .returned (.int .i64 (-1)) ∧ w = w' := by
  obtain ⟨sa, sc, rfl⟩ := hP.slice
  have hxl : xs.length ≤ 9223372036854775807 := by
    rcases hP with ⟨rfl, _⟩ | h
    · simp
    · exact h.len_le
  go_enter Tryz.func182, Tryz.ntmps182
  go_wp2
  go_loopg [8] xs.length (fun gk v8 wr => ∃ k : Nat, k + gk = xs.length ∧ v8 = .int .i64 k ∧ w = wr)
  case atStart => exact ⟨0, by omega, rfl, rfl⟩
  case round =>
    obtain ⟨k, hkg, rfl, rfl⟩ := hrel
    have HKG := Lib.hid hkg
    have hkl : k ≤ xs.length := by omega
    clear hkg
    by_cases hk : k < xs.length
    · have hS : Strs base (.slice sa xs.length sc) xs w := by
        rcases hP with ⟨h, _⟩ | h
        · subst h; simp at hk
        · exact h
      obtain ⟨b, cap, hv⟩ := hS.form (by omega)
      obtain ⟨rfl, -, rfl⟩ := Value.slice.inj hv
      have d0 := hS.at k hk
      have hnk := hn _ (List.getElem_mem hk)
      have hst : StrIs (⟨xs[k].toArray⟩ : ByteArray) xs[k] := rfl
      have hb : decide ((k : Int) < (xs.length : Int)) = true := decide_eq_true (by omega)
      generalize (⟨xs[k].toArray⟩ : ByteArray) = x at *
      have HC := Lib.hid (fun W => bad_calls x xs[k] hst W)
      rw [hnk] at HC
      clear hv hnk hst hn hP hS
      go_wp2_with fail
      refine (HC.out _).mono ?_
      rintro e w' ⟨rfl, rfl⟩
      go_wp2
      go_roundg (gk - 1)
      case measure => have := HKG.out; omega
      case rel => exact ⟨k + 1, by have := HKG.out; omega, by go_num, rfl⟩
    · have hb : decide ((k : Int) < (xs.length : Int)) = false := decide_eq_false (by omega)
      go_wp2
      go_ret
      exact ⟨rfl, rfl⟩
theorem path_calls (base : Nat) (v : Value) (xs : List (List UInt8)) (w : World) (hP : Txs base v xs w) (hn : ∀ x ∈ xs, nameOk x = true) (hl : xs.length ≤ 8) :
    Calls Tryz.prog 155 #[v] w fun e w' => e = .returned (.bool true) ∧ w = w' := by
  have hC := fun W => indexBad_calls base v xs W
  obtain ⟨sa, sc, rfl⟩ := hP.slice
  have hb : decide ((xs.length : Int) ≤ 8) = true := decide_eq_true (by omega)
  go_enter Tryz.func155, Tryz.ntmps155
  go_wp2_with (go_at_call 175; go_in)
  refine (hC _ hP hn).mono ?_
  rintro e w' ⟨rfl, rfl⟩
  go_wp2
  go_ret
  exact ⟨rfl, rfl⟩
end Go.Proofs.YtdaffedbboofjaaGreatDoor.S
