/-
  CALLS of at, Hole, Text by what they answer; contexts that are alike (chapter 20).
-/
import Derived.Test.YtafkfamfhagokaaGreatDoorAwake20
import Derived.Test.YtafkfamfhagokaaGreatDoorCat20
set_option linter.unusedVariables false
set_option linter.unusedSimpArgs false
namespace Go.Proofs.YtafkfamfhagokaaGreatDoor.S
open Go.RowKit

section
open Instr
set_option maxRecDepth 100000 in
set_option maxHeartbeats 2000000 in
theorem eq_cx (c : Cx) (W : World) : (binOp .eql 25 (.agg #[.int .i64 c.st.pl, .string ⟨c.st.nm.toArray⟩, .bool c.st.fin, .string ⟨c.st.attr.toArray⟩, .string ⟨c.st.held.toArray⟩, .int .i64 c.st.rd, .bool c.ref, .int .i64 c.kd, .int .i64 c.url, .int .i64 c.lang]) (.agg #[.int .i64 c.st.pl, .string ⟨c.st.nm.toArray⟩, .bool c.st.fin, .string ⟨c.st.attr.toArray⟩, .string ⟨c.st.held.toArray⟩, .int .i64 c.st.rd, .bool c.ref, .int .i64 c.kd, .int .i64 c.url, .int .i64 c.lang])).run Tryz.prog W = .ok (.bool true) W := by
  first
  | (rw [run_eql_struct]; go_simp; done)
  | (go_simp; done)
  | (simp [go_sem]; done)
end
theorem same_tx {R : Except Nat Cx} {d d' : Cx} {k k' : Nat} (h : R = .ok d ∧ k = 0 ∨ R = .error k ∧ d = cx0) (h' : R = .ok d' ∧ k' = 0 ∨ R = .error k' ∧ d' = cx0) : d = d' ∧ k = k' := by
  rcases h with ⟨a, rfl⟩ | ⟨a, rfl⟩ <;> rcases h' with ⟨a', rfl⟩ | ⟨a', rfl⟩ <;> rw [a] at a' <;> cases a' <;> exact ⟨rfl, rfl⟩
theorem at_ok {s : ByteArray} {l : List UInt8} (hl : StrIs s l) (hs : s.size ≤ 9223372036854775807) {d : Cx} (h : textC cx0 l = .ok d) (w : World) :
    Calls Tryz.prog 22 #[.string s] w fun e w' => e = .returned (.tuple #[cxV d, .int .i64 0]) ∧ Below w.heap.size w w' := by
  refine (at20_calls s l hl hs w).mono ?_
  rintro e w' ⟨d', k, rfl, hb, hR⟩
  obtain ⟨rfl, rfl⟩ := same_tx hR (.inl ⟨h, rfl⟩)
  exact ⟨rfl, hb⟩
theorem hole_ok {d d' : Cx} {x : Nat} (hm : mayX d = true) (h : holeC d = .ok (x, d')) (w : World) :
    Calls Tryz.prog 15 #[cxV d] w fun e w' => e = .returned (.tuple #[.int .i64 x, cxV d', .int .i64 0]) ∧ Below w.heap.size w w' := by
  refine (cxHole_calls d w (mayOk_true hm)).mono ?_
  intro e w' hP
  obtain ⟨x', d2, k, rfl, hb, hR⟩ := hP.one
  rcases hR with ⟨h', rfl⟩ | ⟨h', -⟩
  · rw [h] at h'
    cases h'
    exact ⟨rfl, hb⟩
  · rw [h] at h'; cases h'
theorem text_at {d : Cx} {s : ByteArray} {l : List UInt8} (hl : StrIs s l) (hs : s.size ≤ 9223372036854775807) (hm : mayX d = true) {d' : Cx} {k : Nat} (h : textC d l = .ok d' ∧ k = 0 ∨ textC d l = .error k ∧ d' = cx0) (w : World) :
    Calls Tryz.prog 13 #[cxV d, .string s] w fun e w' => e = .returned (.tuple #[cxV d', .int .i64 k]) ∧ Below w.heap.size w w' := by
  refine (cxText_calls d s l hl hs w (mayOk_true hm)).mono ?_
  intro e w' hP
  obtain ⟨d2, k2, rfl, hb, hR⟩ := hP.one
  obtain ⟨rfl, rfl⟩ := same_tx hR h
  exact ⟨rfl, hb⟩
theorem text_form {d : Cx} {s : ByteArray} {l : List UInt8} (hl : StrIs s l) (hs : s.size ≤ 9223372036854775807) (hm : mayX d = false) (hM : MayOk d) (w : World) :
    Calls Tryz.prog 13 #[cxV d, .string s] w fun e w' => e = .returned (.tuple #[cxV cx0, .int .i64 2000]) ∧ Below w.heap.size w w' := by
  refine (cxText_calls d s l hl hs w hM).mono ?_
  intro e w' hP
  obtain ⟨d2, k2, rfl, hb, hR⟩ := hP.one
  obtain ⟨rfl, rfl⟩ := same_tx hR (.inr ⟨by unfold textC; rw [if_neg (by rw [hm]; decide)], rfl⟩ : _ ∨ (textC d l = .error 2000 ∧ cx0 = cx0))
  exact ⟨rfl, hb⟩
theorem hole_form {d : Cx} (hm : mayX d = false) (hM : MayOk d) (w : World) :
    Calls Tryz.prog 15 #[cxV d] w fun e w' => e = .returned (.tuple #[.int .i64 0, cxV cx0, .int .i64 2000]) ∧ Below w.heap.size w w' := by
  refine (cxHole_calls d w hM).mono ?_
  intro e w' hP
  obtain ⟨x', d2, k, rfl, hb, hR⟩ := hP.one
  have h0 : holeC d = .error 2000 := by unfold holeC; rw [if_neg (by rw [hm]; decide)]
  rcases hR with ⟨h', rfl⟩ | ⟨h', rfl, rfl⟩
  · rw [h0] at h'; cases h'
  · rw [h0] at h'; cases h'; exact ⟨rfl, hb⟩
theorem may_hr {q : Nat} (hq : q = 34 ∨ q = 39) {u : Int} (h0 : 0 ≤ u) (h4 : u ≤ 4) : mayX (hrC q u) = true := by
  obtain ⟨n, rfl, hn⟩ : ∃ n : Nat, u = n ∧ n < 5 := ⟨u.toNat, by omega, by omega⟩
  have key : ∀ n : Fin 5, mayX (hrC 34 (n.val : Int)) = true ∧ mayX (hrC 39 (n.val : Int)) = true := by decide +kernel
  rcases hq with rfl | rfl
  · exact (key ⟨n, hn⟩).1
  · exact (key ⟨n, hn⟩).2
end Go.Proofs.YtafkfamfhagokaaGreatDoor.S
