/-
  THE WALK of package json's value.
-/
import Derived.Test.YthmcacgkhpigaaaDoorJW7
set_option linter.unusedVariables false
set_option linter.unusedSimpArgs false
namespace Go.Proofs.YthmcacgkhpigaaaDoor.S
open Go.RowKit

theorem numJ_len {l : List UInt8} {v : JV} {r : List UInt8} (h : numJ l = some (v, r)) : r.length ≤ l.length := by
  unfold numJ numAt at h
  split at h
  · cases h
  · split at h
    · cases h
    · simp at h
      rw [← h.2, List.length_drop]
      have : (cutJ [45] l).length ≤ l.length := by unfold cutJ; split <;> simp
      omega
theorem numJ_flat {l : List UInt8} {v : JV} {r : List UInt8} (h : numJ l = some (v, r)) : v.items = [] ∧ v.keys = [] := by
  unfold numJ numAt at h
  split at h
  · cases h
  · split at h
    · cases h
    · simp at h
      rw [← h.1]
      unfold numV
      split
      · split <;> exact ⟨rfl, rfl⟩
      · exact ⟨rfl, rfl⟩
theorem rowJ_len {f : List UInt8 → Option (JV × List UInt8)} (hf : ∀ l v r, f l = some (v, r) → r.length ≤ l.length) (rec : Bool) (fin : UInt8) : ∀ (n : Nat) (is : List JV) (ks : List (List UInt8)) (l : List UInt8) (x : List JV × List (List UInt8)) (r : List UInt8), rowJ f rec fin n is ks l = some (x, r) → r.length ≤ l.length
  | 0, is, ks, l, x, r, h => by rw [rowJ] at h; cases h
  | n + 1, is, ks, l, x, r, h => by
    have key : ∀ (ks' : List (List UInt8)) (l' : List UInt8), l'.length ≤ l.length → rowV f rec fin n is ks' l' = some (x, r) → r.length ≤ l.length := by
      intro ks' l' hl hv
      unfold rowV at hv
      cases hfl : f l' with
      | none => rw [hfl] at hv; cases hv
      | some y =>
        obtain ⟨v, r2⟩ := y
        rw [hfl] at hv
        dsimp only at hv
        have h1 := hf l' v r2 hfl
        have h2 := blJ_len r2
        split at hv
        · simp at hv; rw [← hv.2]; simp only [List.length_drop, List.length_tail]; omega
        · split at hv
          · cases hv
          · have h3 := rowJ_len hf rec fin n _ _ _ _ _ hv
            rw [List.length_drop] at h3
            omega
    cases rec with
    | false => rw [rowJ_list] at h; exact key ks l (Nat.le_refl _) h
    | true =>
      cases hp : List.isPrefixOf [34] (blJ l) with
      | false => rw [rowJ_q hp] at h; cases h
      | true =>
        cases ht : txJ ((blJ l).drop 1) with
        | none => rw [rowJ_t hp ht] at h; cases h
        | some y =>
          obtain ⟨k, r2⟩ := y
          have h1 := txJ_len ht
          have h2 := blJ_len r2
          have h3 := blJ_len l
          rw [List.length_drop] at h1
          cases hp2 : List.isPrefixOf [58] (blJ r2) with
          | false => rw [rowJ_c hp ht hp2] at h; cases h
          | true => rw [rowJ_k hp ht hp2] at h; exact key _ _ (by rw [List.length_drop]; omega) h
theorem itemsJ_len {f : List UInt8 → Option (JV × List UInt8)} (hf : ∀ l v r, f l = some (v, r) → r.length ≤ l.length) {rec : Bool} {fin : UInt8} {l : List UInt8} {x : List JV × List (List UInt8)} {r : List UInt8} (h : itemsJ f rec fin l = some (x, r)) : r.length ≤ l.length := by
  unfold itemsJ at h
  have h1 := blJ_len l
  split at h
  · simp at h; rw [← h.2]; simp only [List.length_drop, List.length_tail]; omega
  · have := rowJ_len hf rec fin _ _ _ _ _ _ h
    omega
theorem valJ_len : ∀ (d : Nat) (l : List UInt8) (v : JV) (r : List UInt8), valJ d l = some (v, r) → r.length ≤ l.length
  | 0, l, v, r, h => by rw [valJ] at h; cases h
  | d + 1, l, v, r, h => by
    have hb := blJ_len l
    have IH := valJ_len d
    rw [valJ] at h
    split at h
    · simp at h; rw [← h.2]; simp only [List.length_drop, List.length_tail]; omega
    · split at h
      · simp at h; rw [← h.2]; simp only [List.length_drop, List.length_tail]; omega
      · split at h
        · simp at h; rw [← h.2]; simp only [List.length_drop, List.length_tail]; omega
        · split at h
          · cases ht : txJ ((blJ l).drop 1) with
            | none => rw [ht] at h; cases h
            | some y =>
              have := txJ_len (t := y.1) (r := y.2) ht
              rw [ht] at h
              simp at h
              rw [← h.2]
              rw [List.length_drop] at this
              omega
          · split at h
            · cases ht : itemsJ (valJ d) false 93 ((blJ l).drop 1) with
              | none => rw [ht] at h; cases h
              | some y =>
                have := itemsJ_len IH (x := y.1) (r := y.2) ht
                rw [ht] at h
                simp at h
                rw [← h.2]
                rw [List.length_drop] at this
                omega
            · split at h
              · cases ht : itemsJ (valJ d) true 125 ((blJ l).drop 1) with
                | none => rw [ht] at h; cases h
                | some y =>
                  have := itemsJ_len IH (x := y.1) (r := y.2) ht
                  rw [ht] at h
                  simp at h
                  rw [← h.2]
                  rw [List.length_drop] at this
                  omega
              · have := numJ_len h
                omega
theorem ValPost.no {R : Option (JV × List UInt8)} {w w' : World} {g : Nat} (h : R = none) (hg : w.grownBy w' (some g)) : ValPost R w g panJ w' :=
  ⟨(fun v r h' => by rw [h] at h'; cases h'), (fun _ => rfl), hg⟩
theorem ValPost.ok {R : Option (JV × List UInt8)} {w w' : World} {g : Nat} {v : JV} {r : List UInt8} {iv kv : Value} {s' : ByteArray} (h : R = some (v, r)) (hV : VR (fun b => w.heap.size ≤ b) w' iv v.items) (hK : KR (fun b => w.heap.size ≤ b) w' kv v.keys) (hs : StrIs s' r) (hB : JRd g s' w') (hg : w.grownBy w' (some g)) : ValPost R w g (.returned (aggV v iv kv)) w' :=
  ⟨(fun v' r' h' => by rw [h] at h'; cases h'; exact ⟨iv, kv, s', rfl, hV, hK, hs, hB⟩), (fun h' => by rw [h] at h'; cases h'), hg⟩
set_option maxRecDepth 100000 in
set_option maxHeartbeats 4000000 in
theorem jbool_t (w : World) :
    Calls Tryd.prog 35 #[.bool true] w fun e w' => e = .returned (aggV (.mk 1 1 0 [] [] []) (.slice none 0 0) (.slice none 0 0)) ∧ Below w.heap.size w w' := by
  have hV : Blk w.heap.size 28 zeroV (w.alloc (.cells #[.int .i64 0, .int .i64 0, .int .u64 0, .string ⟨#[]⟩, .slice none 0 0, .slice none 0 0] 28)) := Blk.new w zeroV _
  have hb0 : Below w.heap.size w (w.alloc (.cells #[.int .i64 0, .int .i64 0, .int .u64 0, .string ⟨#[]⟩, .slice none 0 0, .slice none 0 0] 28)) := (Below.refl _ w).alloc (Nat.le_refl _) _
  have HBA := Lib.hid hb0
  clear hb0
  go_enter Tryd.func35, Tryd.ntmps35
  go_upto_region 1 with (fail)
  generalize w.alloc (.cells #[.int .i64 0, .int .i64 0, .int .u64 0, .string ⟨#[]⟩, .slice none 0 0, .slice none 0 0] 28) = w0 at *
  have hb0 := HBA.out
  clear HBA
  have k0 := hV.cell 0 _ rfl
  have z0 := hV.free 0
  have k1 := hV.cell 1 _ rfl
  have z1 := hV.free 1
  have k2 := hV.cell 2 _ rfl
  have z2 := hV.free 2
  have k3 := hV.cell 3 _ rfl
  have z3 := hV.free 3
  have k4 := hV.cell 4 _ rfl
  have z4 := hV.free 4
  have k5 := hV.cell 5 _ rfl
  have z5 := hV.free 5
  have hW6 : Blk w.heap.size 28 [.int .i64 1, .int .i64 1, .int .u64 0, .string ⟨#[]⟩, .slice none 0 0, .slice none 0 0] ((((((w0.setCell ⟨w.heap.size, 0, none⟩ (.int .i64 1)).setCell ⟨w.heap.size, 1, none⟩ (.int .i64 1)).setCell ⟨w.heap.size, 2, none⟩ (.int .u64 0)).setCell ⟨w.heap.size, 3, none⟩ (.string ⟨#[]⟩)).setCell ⟨w.heap.size, 4, none⟩ (.slice none 0 0)).setCell ⟨w.heap.size, 5, none⟩ (.slice none 0 0)) := (((((hV.set 0 _).set 1 _).set 2 _).set 3 _).set 4 _).set 5 _
  have hb6 : Hid (Below w.heap.size w ((((((w0.setCell ⟨w.heap.size, 0, none⟩ (.int .i64 1)).setCell ⟨w.heap.size, 1, none⟩ (.int .i64 1)).setCell ⟨w.heap.size, 2, none⟩ (.int .u64 0)).setCell ⟨w.heap.size, 3, none⟩ (.string ⟨#[]⟩)).setCell ⟨w.heap.size, 4, none⟩ (.slice none 0 0)).setCell ⟨w.heap.size, 5, none⟩ (.slice none 0 0))) := (((((hb0.setCell (p := ⟨w.heap.size, 0, none⟩) (Nat.le_refl _) _).setCell (p := ⟨w.heap.size, 1, none⟩) (Nat.le_refl _) _).setCell (p := ⟨w.heap.size, 2, none⟩) (Nat.le_refl _) _).setCell (p := ⟨w.heap.size, 3, none⟩) (Nat.le_refl _) _).setCell (p := ⟨w.heap.size, 4, none⟩) (Nat.le_refl _) _).setCell (p := ⟨w.heap.size, 5, none⟩) (Nat.le_refl _) _
  go_wp2
  clear k0 k1 k2 k3 k4 k5 z0 z1 z2 z3 z4 z5
  generalize (((((w0.setCell ⟨w.heap.size, 0, none⟩ (.int .i64 1)).setCell ⟨w.heap.size, 1, none⟩ (.int .i64 1)).setCell ⟨w.heap.size, 2, none⟩ (.int .u64 0)).setCell ⟨w.heap.size, 3, none⟩ (.string ⟨#[]⟩)).setCell ⟨w.heap.size, 4, none⟩ (.slice none 0 0)).setCell ⟨w.heap.size, 5, none⟩ (.slice none 0 0) = w40 at *
  have d0 := hW6.cell 0 _ rfl
  have d1 := hW6.cell 1 _ rfl
  have d2 := hW6.cell 2 _ rfl
  have d3 := hW6.cell 3 _ rfl
  have d4 := hW6.cell 4 _ rfl
  have d5 := hW6.cell 5 _ rfl
  refine bodyPost_ret (v := .agg #[.int .i64 1, .int .i64 1, .int .u64 0, .string ⟨#[]⟩, .slice none 0 0, .slice none 0 0]) (by simp [results, Tryd.results35, go_sem, d0, d1, d2, d3, d4, d5]) rfl ?_
  exact ⟨rfl, hb6.out⟩
set_option maxRecDepth 100000 in
set_option maxHeartbeats 4000000 in
theorem jbool_f (w : World) :
    Calls Tryd.prog 35 #[.bool false] w fun e w' => e = .returned (aggV (.mk 1 0 0 [] [] []) (.slice none 0 0) (.slice none 0 0)) ∧ Below w.heap.size w w' := by
  have hV : Blk w.heap.size 28 zeroV (w.alloc (.cells #[.int .i64 0, .int .i64 0, .int .u64 0, .string ⟨#[]⟩, .slice none 0 0, .slice none 0 0] 28)) := Blk.new w zeroV _
  have hb0 : Below w.heap.size w (w.alloc (.cells #[.int .i64 0, .int .i64 0, .int .u64 0, .string ⟨#[]⟩, .slice none 0 0, .slice none 0 0] 28)) := (Below.refl _ w).alloc (Nat.le_refl _) _
  have HBA := Lib.hid hb0
  clear hb0
  go_enter Tryd.func35, Tryd.ntmps35
  go_upto_region 1 with (fail)
  generalize w.alloc (.cells #[.int .i64 0, .int .i64 0, .int .u64 0, .string ⟨#[]⟩, .slice none 0 0, .slice none 0 0] 28) = w0 at *
  have hb0 := HBA.out
  clear HBA
  have k0 := hV.cell 0 _ rfl
  have z0 := hV.free 0
  have k1 := hV.cell 1 _ rfl
  have z1 := hV.free 1
  have k2 := hV.cell 2 _ rfl
  have z2 := hV.free 2
  have k3 := hV.cell 3 _ rfl
  have z3 := hV.free 3
  have k4 := hV.cell 4 _ rfl
  have z4 := hV.free 4
  have k5 := hV.cell 5 _ rfl
  have z5 := hV.free 5
  have hW6 : Blk w.heap.size 28 [.int .i64 1, .int .i64 0, .int .u64 0, .string ⟨#[]⟩, .slice none 0 0, .slice none 0 0] ((((((w0.setCell ⟨w.heap.size, 0, none⟩ (.int .i64 1)).setCell ⟨w.heap.size, 1, none⟩ (.int .i64 0)).setCell ⟨w.heap.size, 2, none⟩ (.int .u64 0)).setCell ⟨w.heap.size, 3, none⟩ (.string ⟨#[]⟩)).setCell ⟨w.heap.size, 4, none⟩ (.slice none 0 0)).setCell ⟨w.heap.size, 5, none⟩ (.slice none 0 0)) := (((((hV.set 0 _).set 1 _).set 2 _).set 3 _).set 4 _).set 5 _
  have hb6 : Hid (Below w.heap.size w ((((((w0.setCell ⟨w.heap.size, 0, none⟩ (.int .i64 1)).setCell ⟨w.heap.size, 1, none⟩ (.int .i64 0)).setCell ⟨w.heap.size, 2, none⟩ (.int .u64 0)).setCell ⟨w.heap.size, 3, none⟩ (.string ⟨#[]⟩)).setCell ⟨w.heap.size, 4, none⟩ (.slice none 0 0)).setCell ⟨w.heap.size, 5, none⟩ (.slice none 0 0))) := (((((hb0.setCell (p := ⟨w.heap.size, 0, none⟩) (Nat.le_refl _) _).setCell (p := ⟨w.heap.size, 1, none⟩) (Nat.le_refl _) _).setCell (p := ⟨w.heap.size, 2, none⟩) (Nat.le_refl _) _).setCell (p := ⟨w.heap.size, 3, none⟩) (Nat.le_refl _) _).setCell (p := ⟨w.heap.size, 4, none⟩) (Nat.le_refl _) _).setCell (p := ⟨w.heap.size, 5, none⟩) (Nat.le_refl _) _
  go_wp2
  clear k0 k1 k2 k3 k4 k5 z0 z1 z2 z3 z4 z5
  generalize (((((w0.setCell ⟨w.heap.size, 0, none⟩ (.int .i64 1)).setCell ⟨w.heap.size, 1, none⟩ (.int .i64 0)).setCell ⟨w.heap.size, 2, none⟩ (.int .u64 0)).setCell ⟨w.heap.size, 3, none⟩ (.string ⟨#[]⟩)).setCell ⟨w.heap.size, 4, none⟩ (.slice none 0 0)).setCell ⟨w.heap.size, 5, none⟩ (.slice none 0 0) = w40 at *
  have d0 := hW6.cell 0 _ rfl
  have d1 := hW6.cell 1 _ rfl
  have d2 := hW6.cell 2 _ rfl
  have d3 := hW6.cell 3 _ rfl
  have d4 := hW6.cell 4 _ rfl
  have d5 := hW6.cell 5 _ rfl
  refine bodyPost_ret (v := .agg #[.int .i64 1, .int .i64 0, .int .u64 0, .string ⟨#[]⟩, .slice none 0 0, .slice none 0 0]) (by simp [results, Tryd.results35, go_sem, d0, d1, d2, d3, d4, d5]) rfl ?_
  exact ⟨rfl, hb6.out⟩
theorem agg1 (n : Int) : aggV (.mk 1 n 0 [] [] []) (.slice none 0 0) (.slice none 0 0) = .agg #[.int .i64 1, .int .i64 n, .int .u64 0, .string ⟨#[]⟩, .slice none 0 0, .slice none 0 0] := rfl
/-- while a value is read: the reader, the result's block, the value that is filled -/
structure VS (W w1 : World) (g b4 q : Nat) (s : ByteArray) (Wr : World) : Prop where
  rd : JRd g s Wr
  blk4 : Blk b4 28 zeroV Wr
  blkq : Blk q 28 zeroV Wr
  grown : W.grownBy Wr (some g)
  grown1 : w1.grownBy Wr (some g)
  h4 : W.heap.size ≤ b4
  hq : b4 < q
  hg : g < W.heap.size
theorem put6_block (W : World) (b4 : Nat) (v0 v1 v2 v3 v4 v5 : Value) (b : Nat) (h : b ≠ b4) :
    ((((((W.setCell ⟨b4, 0, none⟩ v0).setCell ⟨b4, 1, none⟩ v1).setCell ⟨b4, 2, none⟩ v2).setCell ⟨b4, 3, none⟩ v3).setCell ⟨b4, 4, none⟩ v4).setCell ⟨b4, 5, none⟩ v5).heap[b]? = W.heap[b]? := by
  simp [World.setCell, Array.getElem?_modify, Ne.symm h]
theorem VS.ne4 {W w1 Wr : World} {g b4 q : Nat} {s : ByteArray} (h : VS W w1 g b4 q s Wr) : b4 ≠ g := by have := h.h4; have := h.hg; omega
theorem VS.reader {W w1 Wr Wr' : World} {g b4 q : Nat} {s s' : ByteArray} (h : VS W w1 g b4 q s Wr) (hg : Wr.grownBy Wr' (some g)) (hr : JRd g s' Wr') : VS W w1 g b4 q s' Wr' :=
  ⟨hr, h.blk4.grown hg (by have := h.h4; have := h.hg; simp; omega), h.blkq.grown hg (by have := h.h4; have := h.hg; have := h.hq; simp; omega), h.grown.trans hg, h.grown1.trans hg, h.h4, h.hq, h.hg⟩
set_option maxRecDepth 100000 in
set_option maxHeartbeats 8000000 in
theorem jval_step (d m : Nat) (hd : m + d = 8) (IH : ∀ (g : Nat) (s : ByteArray) (l : List UInt8) (W : World), EnvAt g W → JRd g s W → StrIs s l → s.size ≤ 65536 → Calls Tryd.prog 25 #[.pointer (some ⟨g, 0, none⟩), .int .i64 ((m : Int) + 1)] W (ValPost (valJ d l) W g))
    (g : Nat) (s : ByteArray) (l : List UInt8) (W : World) (hE : EnvAt g W) (hB : JRd g s W) (hl : StrIs s l) (hs : s.size ≤ 65536) :
    Calls Tryd.prog 25 #[.pointer (some ⟨g, 0, none⟩), .int .i64 m] W (ValPost (valJ (d + 1) l) W g) := by
  obtain ⟨T, hT⟩ : ∃ T, T = valJ (d + 1) l := ⟨_, rfl⟩
  rw [← hT]
  rw [valJ] at hT
  have hgl := hB.lt
  have HE := Lib.hid hE
  have HT0 := Lib.hid hT
  have hm8 : decide ((m : Int) ≤ 8) = true := decide_eq_true (by omega)
  have hV : Blk W.heap.size 28 zeroV (W.alloc (.cells #[.int .i64 0, .int .i64 0, .int .u64 0, .string ⟨#[]⟩, .slice none 0 0, .slice none 0 0] 28)) := Blk.new W zeroV _
  have hb0 : Below W.heap.size W (W.alloc (.cells #[.int .i64 0, .int .i64 0, .int .u64 0, .string ⟨#[]⟩, .slice none 0 0, .slice none 0 0] 28)) := (Below.refl _ W).alloc (Nat.le_refl _) _
  have hz0 : (W.alloc (.cells #[.int .i64 0, .int .i64 0, .int .u64 0, .string ⟨#[]⟩, .slice none 0 0, .slice none 0 0] 28)).heap.size = W.heap.size + 1 := by simp
  have hB0 := hB.below hb0
  have hg0 := grownBy_below (row := some g) hb0
  clear hT hE hB
  go_enter Tryd.func25, Tryd.ntmps25
  go_upto_region 1 with (fail)
  generalize W.alloc (.cells #[.int .i64 0, .int .i64 0, .int .u64 0, .string ⟨#[]⟩, .slice none 0 0, .slice none 0 0] 28) = w0 at *
  obtain ⟨b4, hb4⟩ : ∃ b4, b4 = W.heap.size := ⟨_, rfl⟩
  rw [← hb4] at hV ⊢
  have HB4 := Lib.hid hb4
  clear hb4 hb0
  go_wp2_with (first | (go_at_call 33; refine (must_ok _).mono ?_; rintro e w9 ⟨rfl, rfl⟩) | fail)
  refine (jblanks_calls g s l _ hB0 hl).mono ?_
  rintro e w1 ⟨s1, rfl, hs1, hB1, hg1⟩
  have hz1 : s1.size ≤ 65536 := by have h1 := hs1.size; have h2 := hl.size; have h3 := blJ_len l; omega
  have hV1 := hV.grown hg1 (by have := HB4.out; simp; omega)
  have hgA := hg0.trans hg1
  have hV2 : Blk w1.heap.size 28 zeroV (w1.alloc (.cells #[.int .i64 0, .int .i64 0, .int .u64 0, .string ⟨#[]⟩, .slice none 0 0, .slice none 0 0] 28)) := Blk.new w1 zeroV _
  have hb2 : Below w1.heap.size w1 (w1.alloc (.cells #[.int .i64 0, .int .i64 0, .int .u64 0, .string ⟨#[]⟩, .slice none 0 0, .slice none 0 0] 28)) := (Below.refl _ w1).alloc (Nat.le_refl _) _
  have hS2 : VS W w1 g b4 w1.heap.size s1 (w1.alloc (.cells #[.int .i64 0, .int .i64 0, .int .u64 0, .string ⟨#[]⟩, .slice none 0 0, .slice none 0 0] 28)) := ⟨hB1.below hb2, hV1.below hb2, hV2, hgA.trans (grownBy_below hb2), grownBy_below hb2, by rw [HB4.out]; exact Nat.le_refl _, hV1.lt, hgl⟩
  have HV1 := Lib.hid hV1
  have HGA := Lib.hid hgA
  have HEQ := Lib.hid (show EnvAt g w1 from HE.out.below (Below.grow1 hgA (by omega) (Nat.le_refl g)))
  have HZW := Lib.hid hgA.size
  clear hB0 hg0 hV hV1 hV2 hgA hg1 hB1 hb2 hz0
  go_upto_region 5 with (fail)
  generalize w1.alloc (.cells #[.int .i64 0, .int .i64 0, .int .u64 0, .string ⟨#[]⟩, .slice none 0 0, .slice none 0 0] 28) = w2 at *
  obtain ⟨q, hq⟩ : ∃ q, q = w1.heap.size := ⟨_, rfl⟩
  rw [← hq] at hS2 ⊢
  have HQ := Lib.hid hq
  clear hq
  generalize blJ l = l1 at *
  have HTN := HT0
  clear HT0
  go_wp2_with fail
  refine (jhas_calls g s1 ⟨#[110, 117, 108, 108]⟩ l1 _ hS2.rd hs1).mono ?_
  rw [show (⟨#[110, 117, 108, 108]⟩ : ByteArray).data.toList = [110, 117, 108, 108] from rfl]
  rintro e w3 ⟨s3, rfl, hs3, hB3, hg3⟩
  have hS3 := hS2.reader hg3 hB3
  clear hB3 hg3
  have hT := HTN.out
  cases hp : List.isPrefixOf [110, 117, 108, 108] l1 with
  | true =>
    rw [hp, if_pos rfl] at hT
    clear HTN
    rw [cutJ_yes hp] at hs3
    have hs3 : StrIs s3 (l1.drop 4) := hs3
    have HT := Lib.hid hT
    clear hT hp hS2 hs1
    have k0 := hS3.blk4.cell 0 _ rfl
    have z0 := hS3.blk4.free 0
    have k1 := hS3.blk4.cell 1 _ rfl
    have z1 := hS3.blk4.free 1
    have k2 := hS3.blk4.cell 2 _ rfl
    have z2 := hS3.blk4.free 2
    have k3 := hS3.blk4.cell 3 _ rfl
    have z3 := hS3.blk4.free 3
    have k4 := hS3.blk4.cell 4 _ rfl
    have z4 := hS3.blk4.free 4
    have k5 := hS3.blk4.cell 5 _ rfl
    have z5 := hS3.blk4.free 5
    have hW6 : Blk b4 28 [.int .i64 0, .int .i64 0, .int .u64 0, .string ⟨#[]⟩, .slice none 0 0, .slice none 0 0] ((((((w3.setCell ⟨b4, 0, none⟩ (.int .i64 0)).setCell ⟨b4, 1, none⟩ (.int .i64 0)).setCell ⟨b4, 2, none⟩ (.int .u64 0)).setCell ⟨b4, 3, none⟩ (.string ⟨#[]⟩)).setCell ⟨b4, 4, none⟩ (.slice none 0 0)).setCell ⟨b4, 5, none⟩ (.slice none 0 0)) := (((((hS3.blk4.set 0 _).set 1 _).set 2 _).set 3 _).set 4 _).set 5 _
    have hg6 : W.grownBy ((((((w3.setCell ⟨b4, 0, none⟩ (.int .i64 0)).setCell ⟨b4, 1, none⟩ (.int .i64 0)).setCell ⟨b4, 2, none⟩ (.int .u64 0)).setCell ⟨b4, 3, none⟩ (.string ⟨#[]⟩)).setCell ⟨b4, 4, none⟩ (.slice none 0 0)).setCell ⟨b4, 5, none⟩ (.slice none 0 0)) (some g) := jgrown_put6 hS3.grown hS3.h4 _ _ _ _ _ _
    have hB6 : JRd g s3 ((((((w3.setCell ⟨b4, 0, none⟩ (.int .i64 0)).setCell ⟨b4, 1, none⟩ (.int .i64 0)).setCell ⟨b4, 2, none⟩ (.int .u64 0)).setCell ⟨b4, 3, none⟩ (.string ⟨#[]⟩)).setCell ⟨b4, 4, none⟩ (.slice none 0 0)).setCell ⟨b4, 5, none⟩ (.slice none 0 0)) := jblk_put6 hS3.rd hS3.ne4 _ _ _ _ _ _
    have y0 := hS3.blkq.cell 0 _ rfl
    have y1 := hS3.blkq.cell 1 _ rfl
    have y2 := hS3.blkq.cell 2 _ rfl
    have y3 := hS3.blkq.cell 3 _ rfl
    have y4 := hS3.blkq.cell 4 _ rfl
    have y5 := hS3.blkq.cell 5 _ rfl
    go_wp2
    clear k0 k1 k2 k3 k4 k5 z0 z1 z2 z3 z4 z5
    generalize (((((w3.setCell ⟨b4, 0, none⟩ (.int .i64 0)).setCell ⟨b4, 1, none⟩ (.int .i64 0)).setCell ⟨b4, 2, none⟩ (.int .u64 0)).setCell ⟨b4, 3, none⟩ (.string ⟨#[]⟩)).setCell ⟨b4, 4, none⟩ (.slice none 0 0)).setCell ⟨b4, 5, none⟩ (.slice none 0 0) = w40 at *
    have d0 := hW6.cell 0 _ rfl
    have d1 := hW6.cell 1 _ rfl
    have d2 := hW6.cell 2 _ rfl
    have d3 := hW6.cell 3 _ rfl
    have d4 := hW6.cell 4 _ rfl
    have d5 := hW6.cell 5 _ rfl
    refine bodyPost_ret (v := .agg #[.int .i64 0, .int .i64 0, .int .u64 0, .string ⟨#[]⟩, .slice none 0 0, .slice none 0 0]) (by simp [results, Tryd.results25, go_sem, d0, d1, d2, d3, d4, d5]) rfl ?_
    exact ValPost.ok (v := jNull) HT.out (.nil none 0) (.nil none 0) hs3 hB6 hg6
  | false =>
    rw [hp, if_neg (by simp)] at hT
    rw [cutJ_no hp] at hs3
    clear HTN
    have HTN := Lib.hid hT
    clear hT hp hS2
    go_wp2_with fail
    refine (jhas_calls g s3 ⟨#[116, 114, 117, 101]⟩ l1 _ hS3.rd hs3).mono ?_
    rw [show (⟨#[116, 114, 117, 101]⟩ : ByteArray).data.toList = [116, 114, 117, 101] from rfl]
    rintro e w4 ⟨s4, rfl, hs4, hB4, hg4⟩
    have hS4 := hS3.reader hg4 hB4
    clear hB4 hg4
    have hT := HTN.out
    cases hp : List.isPrefixOf [116, 114, 117, 101] l1 with
    | true =>
      rw [hp, if_pos rfl] at hT
      clear HTN
      rw [cutJ_yes hp] at hs4
      have hs4 : StrIs s4 (l1.drop 4) := hs4
      have HT := Lib.hid hT
      clear hT hp hS3 hs3
      go_wp2_with fail
      refine (jbool_t _).mono ?_
      rintro e wb ⟨rfl, hbb⟩
      rw [agg1]
      have hSb := hS4.reader (grownBy_below hbb) (hS4.rd.below hbb)
      clear hbb hS4
      have k0 := hSb.blk4.cell 0 _ rfl
      have z0 := hSb.blk4.free 0
      have k1 := hSb.blk4.cell 1 _ rfl
      have z1 := hSb.blk4.free 1
      have k2 := hSb.blk4.cell 2 _ rfl
      have z2 := hSb.blk4.free 2
      have k3 := hSb.blk4.cell 3 _ rfl
      have z3 := hSb.blk4.free 3
      have k4 := hSb.blk4.cell 4 _ rfl
      have z4 := hSb.blk4.free 4
      have k5 := hSb.blk4.cell 5 _ rfl
      have z5 := hSb.blk4.free 5
      have hW6 : Blk b4 28 [.int .i64 1, .int .i64 1, .int .u64 0, .string ⟨#[]⟩, .slice none 0 0, .slice none 0 0] ((((((wb.setCell ⟨b4, 0, none⟩ (.int .i64 1)).setCell ⟨b4, 1, none⟩ (.int .i64 1)).setCell ⟨b4, 2, none⟩ (.int .u64 0)).setCell ⟨b4, 3, none⟩ (.string ⟨#[]⟩)).setCell ⟨b4, 4, none⟩ (.slice none 0 0)).setCell ⟨b4, 5, none⟩ (.slice none 0 0)) := (((((hSb.blk4.set 0 _).set 1 _).set 2 _).set 3 _).set 4 _).set 5 _
      have hg6 : W.grownBy ((((((wb.setCell ⟨b4, 0, none⟩ (.int .i64 1)).setCell ⟨b4, 1, none⟩ (.int .i64 1)).setCell ⟨b4, 2, none⟩ (.int .u64 0)).setCell ⟨b4, 3, none⟩ (.string ⟨#[]⟩)).setCell ⟨b4, 4, none⟩ (.slice none 0 0)).setCell ⟨b4, 5, none⟩ (.slice none 0 0)) (some g) := jgrown_put6 hSb.grown hSb.h4 _ _ _ _ _ _
      have hB6 : JRd g s4 ((((((wb.setCell ⟨b4, 0, none⟩ (.int .i64 1)).setCell ⟨b4, 1, none⟩ (.int .i64 1)).setCell ⟨b4, 2, none⟩ (.int .u64 0)).setCell ⟨b4, 3, none⟩ (.string ⟨#[]⟩)).setCell ⟨b4, 4, none⟩ (.slice none 0 0)).setCell ⟨b4, 5, none⟩ (.slice none 0 0)) := jblk_put6 hSb.rd hSb.ne4 _ _ _ _ _ _
      go_wp2
      clear k0 k1 k2 k3 k4 k5 z0 z1 z2 z3 z4 z5
      generalize (((((wb.setCell ⟨b4, 0, none⟩ (.int .i64 1)).setCell ⟨b4, 1, none⟩ (.int .i64 1)).setCell ⟨b4, 2, none⟩ (.int .u64 0)).setCell ⟨b4, 3, none⟩ (.string ⟨#[]⟩)).setCell ⟨b4, 4, none⟩ (.slice none 0 0)).setCell ⟨b4, 5, none⟩ (.slice none 0 0) = w40 at *
      have d0 := hW6.cell 0 _ rfl
      have d1 := hW6.cell 1 _ rfl
      have d2 := hW6.cell 2 _ rfl
      have d3 := hW6.cell 3 _ rfl
      have d4 := hW6.cell 4 _ rfl
      have d5 := hW6.cell 5 _ rfl
      refine bodyPost_ret (v := .agg #[.int .i64 1, .int .i64 1, .int .u64 0, .string ⟨#[]⟩, .slice none 0 0, .slice none 0 0]) (by simp [results, Tryd.results25, go_sem, d0, d1, d2, d3, d4, d5]) rfl ?_
      exact ValPost.ok (v := .mk 1 1 0 [] [] []) HT.out (.nil none 0) (.nil none 0) hs4 hB6 hg6
    | false =>
      rw [hp, if_neg (by simp)] at hT
      rw [cutJ_no hp] at hs4
      clear HTN
      have HTN := Lib.hid hT
      clear hT hp hS3 hs3
      go_wp2_with fail
      refine (jhas_calls g s4 ⟨#[102, 97, 108, 115, 101]⟩ l1 _ hS4.rd hs4).mono ?_
      rw [show (⟨#[102, 97, 108, 115, 101]⟩ : ByteArray).data.toList = [102, 97, 108, 115, 101] from rfl]
      rintro e w5 ⟨s5, rfl, hs5, hB5, hg5⟩
      have hS5 := hS4.reader hg5 hB5
      clear hB5 hg5
      have hT := HTN.out
      cases hp : List.isPrefixOf [102, 97, 108, 115, 101] l1 with
      | true =>
        rw [hp, if_pos rfl] at hT
        clear HTN
        rw [cutJ_yes hp] at hs5
        have hs5 : StrIs s5 (l1.drop 5) := hs5
        have HT := Lib.hid hT
        clear hT hp hS4 hs4
        go_wp2_with fail
        refine (jbool_f _).mono ?_
        rintro e wb ⟨rfl, hbb⟩
        rw [agg1]
        have hSb := hS5.reader (grownBy_below hbb) (hS5.rd.below hbb)
        clear hbb hS5
        have k0 := hSb.blk4.cell 0 _ rfl
        have z0 := hSb.blk4.free 0
        have k1 := hSb.blk4.cell 1 _ rfl
        have z1 := hSb.blk4.free 1
        have k2 := hSb.blk4.cell 2 _ rfl
        have z2 := hSb.blk4.free 2
        have k3 := hSb.blk4.cell 3 _ rfl
        have z3 := hSb.blk4.free 3
        have k4 := hSb.blk4.cell 4 _ rfl
        have z4 := hSb.blk4.free 4
        have k5 := hSb.blk4.cell 5 _ rfl
        have z5 := hSb.blk4.free 5
        have hW6 : Blk b4 28 [.int .i64 1, .int .i64 0, .int .u64 0, .string ⟨#[]⟩, .slice none 0 0, .slice none 0 0] ((((((wb.setCell ⟨b4, 0, none⟩ (.int .i64 1)).setCell ⟨b4, 1, none⟩ (.int .i64 0)).setCell ⟨b4, 2, none⟩ (.int .u64 0)).setCell ⟨b4, 3, none⟩ (.string ⟨#[]⟩)).setCell ⟨b4, 4, none⟩ (.slice none 0 0)).setCell ⟨b4, 5, none⟩ (.slice none 0 0)) := (((((hSb.blk4.set 0 _).set 1 _).set 2 _).set 3 _).set 4 _).set 5 _
        have hg6 : W.grownBy ((((((wb.setCell ⟨b4, 0, none⟩ (.int .i64 1)).setCell ⟨b4, 1, none⟩ (.int .i64 0)).setCell ⟨b4, 2, none⟩ (.int .u64 0)).setCell ⟨b4, 3, none⟩ (.string ⟨#[]⟩)).setCell ⟨b4, 4, none⟩ (.slice none 0 0)).setCell ⟨b4, 5, none⟩ (.slice none 0 0)) (some g) := jgrown_put6 hSb.grown hSb.h4 _ _ _ _ _ _
        have hB6 : JRd g s5 ((((((wb.setCell ⟨b4, 0, none⟩ (.int .i64 1)).setCell ⟨b4, 1, none⟩ (.int .i64 0)).setCell ⟨b4, 2, none⟩ (.int .u64 0)).setCell ⟨b4, 3, none⟩ (.string ⟨#[]⟩)).setCell ⟨b4, 4, none⟩ (.slice none 0 0)).setCell ⟨b4, 5, none⟩ (.slice none 0 0)) := jblk_put6 hSb.rd hSb.ne4 _ _ _ _ _ _
        go_wp2
        clear k0 k1 k2 k3 k4 k5 z0 z1 z2 z3 z4 z5
        generalize (((((wb.setCell ⟨b4, 0, none⟩ (.int .i64 1)).setCell ⟨b4, 1, none⟩ (.int .i64 0)).setCell ⟨b4, 2, none⟩ (.int .u64 0)).setCell ⟨b4, 3, none⟩ (.string ⟨#[]⟩)).setCell ⟨b4, 4, none⟩ (.slice none 0 0)).setCell ⟨b4, 5, none⟩ (.slice none 0 0) = w40 at *
        have d0 := hW6.cell 0 _ rfl
        have d1 := hW6.cell 1 _ rfl
        have d2 := hW6.cell 2 _ rfl
        have d3 := hW6.cell 3 _ rfl
        have d4 := hW6.cell 4 _ rfl
        have d5 := hW6.cell 5 _ rfl
        refine bodyPost_ret (v := .agg #[.int .i64 1, .int .i64 0, .int .u64 0, .string ⟨#[]⟩, .slice none 0 0, .slice none 0 0]) (by simp [results, Tryd.results25, go_sem, d0, d1, d2, d3, d4, d5]) rfl ?_
        exact ValPost.ok (v := .mk 1 0 0 [] [] []) HT.out (.nil none 0) (.nil none 0) hs5 hB6 hg6
      | false =>
        rw [hp, if_neg (by simp)] at hT
        rw [cutJ_no hp] at hs5
        clear HTN
        have HTN := Lib.hid hT
        clear hT hp hS4 hs4
        go_wp2_with fail
        refine (jhas_calls g s5 ⟨#[34]⟩ l1 _ hS5.rd hs5).mono ?_
        rw [show (⟨#[34]⟩ : ByteArray).data.toList = [34] from rfl]
        rintro e w6 ⟨s6, rfl, hs6, hB6, hg6⟩
        have hS6 := hS5.reader hg6 hB6
        clear hB6 hg6
        have hT := HTN.out
        cases hp : List.isPrefixOf [34] l1 with
        | true =>
          rw [hp, if_pos rfl] at hT
          clear HTN
          rw [cutJ_yes hp] at hs6
          have hs6 : StrIs s6 (l1.drop 1) := hs6
          have hz6 : s6.size ≤ 65536 := by have h1 := hs6.size; have h2 := hs1.size; rw [List.length_drop] at h1; omega
          have HTX := Lib.hid hT
          clear hT hp hS5
          go_wp2_with fail
          refine (jtext_calls g s6 (l1.drop 1) _ (HE.out.below (Below.grow1 hS6.grown (by have := hS6.hg; omega) (Nat.le_refl g))) hS6.rd hs6 hz6).mono ?_
          rintro e wb ⟨hok, hno, hgb⟩
          have hT := HTX.out
          cases hx : txJ (l1.drop 1) with
          | none =>
            obtain rfl := hno hx
            rw [hx] at hT
            have HT := Lib.hid hT
            clear hT hok hno
            have hgx := hS6.grown.trans hgb
            unfold panJ
            go_wp2
            exact ⟨rfl, ValPost.no HT.out hgx⟩
          | some y =>
            obtain ⟨t, r⟩ := y
            obtain ⟨tb, sb, rfl, htb, hsb, hBb⟩ := hok t r hx
            rw [hx] at hT
            have HT := Lib.hid hT
            have hSb := hS6.reader hgb hBb
            obtain rfl := htb.eq
            clear hT hok hno hgb hBb htb hS6
            have k0 := hSb.blk4.cell 0 _ rfl
            have z0 := hSb.blk4.free 0
            have k1 := hSb.blk4.cell 1 _ rfl
            have z1 := hSb.blk4.free 1
            have k2 := hSb.blk4.cell 2 _ rfl
            have z2 := hSb.blk4.free 2
            have k3 := hSb.blk4.cell 3 _ rfl
            have z3 := hSb.blk4.free 3
            have k4 := hSb.blk4.cell 4 _ rfl
            have z4 := hSb.blk4.free 4
            have k5 := hSb.blk4.cell 5 _ rfl
            have z5 := hSb.blk4.free 5
            have hW6 : Blk b4 28 [.int .i64 4, .int .i64 0, .int .u64 0, .string ⟨t.toArray⟩, .slice none 0 0, .slice none 0 0] ((((((wb.setCell ⟨b4, 0, none⟩ (.int .i64 4)).setCell ⟨b4, 1, none⟩ (.int .i64 0)).setCell ⟨b4, 2, none⟩ (.int .u64 0)).setCell ⟨b4, 3, none⟩ (.string ⟨t.toArray⟩)).setCell ⟨b4, 4, none⟩ (.slice none 0 0)).setCell ⟨b4, 5, none⟩ (.slice none 0 0)) := (((((hSb.blk4.set 0 _).set 1 _).set 2 _).set 3 _).set 4 _).set 5 _
            have hg6 : W.grownBy ((((((wb.setCell ⟨b4, 0, none⟩ (.int .i64 4)).setCell ⟨b4, 1, none⟩ (.int .i64 0)).setCell ⟨b4, 2, none⟩ (.int .u64 0)).setCell ⟨b4, 3, none⟩ (.string ⟨t.toArray⟩)).setCell ⟨b4, 4, none⟩ (.slice none 0 0)).setCell ⟨b4, 5, none⟩ (.slice none 0 0)) (some g) := jgrown_put6 hSb.grown hSb.h4 _ _ _ _ _ _
            have hB6 : JRd g sb ((((((wb.setCell ⟨b4, 0, none⟩ (.int .i64 4)).setCell ⟨b4, 1, none⟩ (.int .i64 0)).setCell ⟨b4, 2, none⟩ (.int .u64 0)).setCell ⟨b4, 3, none⟩ (.string ⟨t.toArray⟩)).setCell ⟨b4, 4, none⟩ (.slice none 0 0)).setCell ⟨b4, 5, none⟩ (.slice none 0 0)) := jblk_put6 hSb.rd hSb.ne4 _ _ _ _ _ _
            go_wp2
            clear k0 k1 k2 k3 k4 k5 z0 z1 z2 z3 z4 z5
            generalize (((((wb.setCell ⟨b4, 0, none⟩ (.int .i64 4)).setCell ⟨b4, 1, none⟩ (.int .i64 0)).setCell ⟨b4, 2, none⟩ (.int .u64 0)).setCell ⟨b4, 3, none⟩ (.string ⟨t.toArray⟩)).setCell ⟨b4, 4, none⟩ (.slice none 0 0)).setCell ⟨b4, 5, none⟩ (.slice none 0 0) = w40 at *
            have d0 := hW6.cell 0 _ rfl
            have d1 := hW6.cell 1 _ rfl
            have d2 := hW6.cell 2 _ rfl
            have d3 := hW6.cell 3 _ rfl
            have d4 := hW6.cell 4 _ rfl
            have d5 := hW6.cell 5 _ rfl
            refine bodyPost_ret (v := .agg #[.int .i64 4, .int .i64 0, .int .u64 0, .string ⟨t.toArray⟩, .slice none 0 0, .slice none 0 0]) (by simp [results, Tryd.results25, go_sem, d0, d1, d2, d3, d4, d5]) rfl ?_
            exact ValPost.ok (v := .mk 4 0 0 t [] []) HT.out (.nil none 0) (.nil none 0) hsb hB6 hg6
        | false =>
          rw [hp, if_neg (by simp)] at hT
          rw [cutJ_no hp] at hs6
          clear HTN
          have HTN := Lib.hid hT
          clear hT hp hS5 hs5
          go_wp2_with fail
          refine (jhas_calls g s6 ⟨#[91]⟩ l1 _ hS6.rd hs6).mono ?_
          rw [show (⟨#[91]⟩ : ByteArray).data.toList = [91] from rfl]
          rintro e w7 ⟨s7, rfl, hs7, hB7, hg7⟩
          have hS7 := hS6.reader hg7 hB7
          clear hB7 hg7
          have hT := HTN.out
          cases hp : List.isPrefixOf [91] l1 with
          | true =>
            rw [hp, if_pos rfl] at hT
            clear HTN
            rw [cutJ_yes hp] at hs7
            have hs7 : StrIs s7 (l1.drop 1) := hs7
            have hz7 : s7.size ≤ 65536 := by have h1 := hs7.size; have h2 := hs1.size; rw [List.length_drop] at h1; omega
            have HTX := Lib.hid hT
            clear hT hp hS6
            have y0 := hS7.blkq.cell 0 _ rfl
            have x0 := hS7.blkq.free 0
            have hgl1 : g < w1.heap.size := by have := HZW.out; omega
            have hqg : q ≠ g := by have := HQ.out; omega
            have hIS : IS w1 g q 5 s7 [] [] (.slice none 0 0) (.slice none 0 0) (w7.setCell ⟨q, 0, none⟩ (.int .i64 5)) :=
              ⟨hS7.rd.grown (grownBy_set _ q 0 _) (by simp; omega), hS7.blkq.set 0 _, GR.nil _ _ _, grown_off hS7.grown1 (grownBy_set _ q 0 _) (fun b hb => by cases hb; rw [HQ.out]; exact Nat.le_refl _), by rw [HQ.out]; exact Nat.le_refl _, hgl1⟩
            have hq4 := hS7.hq
            clear hS7
            go_upto_region 14 with (fail)
            clear y0 x0
            generalize w7.setCell ⟨q, 0, none⟩ (.int .i64 5) = wq at *
            go_wp2_with fail
            refine (jitems_calls m (by omega) (valJ d) (valJ_len d) IH w1 g q false 5 rfl 93 s7 (l1.drop 1) wq HEQ.out hIS hs7 hz7).mono ?_
            rintro e wb ⟨hok, hno, hgb⟩
            have hT := HTX.out
            cases hx : itemsJ (valJ d) false 93 (l1.drop 1) with
            | none =>
              obtain rfl := hno hx
              rw [hx] at hT
              have HT := Lib.hid hT
              clear hT hok hno
              have hgx := HGA.out.trans hgb
              unfold panJ
              go_wp2
              exact ⟨rfl, ValPost.no HT.out hgx⟩
            | some y =>
              obtain ⟨⟨is, ks⟩, r⟩ := y
              obtain ⟨iv, kv, zs, sb, rfl, hzs, hISb, hsb⟩ := hok is ks r hx
              rw [hx] at hT
              have HT := Lib.hid hT
              have hVR := hISb.gr.vr
              have hKR := hISb.gr.kr
              rw [hzs] at hVR
              obtain ⟨ia, ic, hiv, -⟩ := own_slice hISb.gr.row
              obtain ⟨ka, kc, hkv, -⟩ := own_slice hISb.gr.keys
              subst hiv hkv
              generalize zs.length = zn at *
              generalize ks.length = kn at *
              have hb4b : Blk b4 28 zeroV wb := HV1.out.grown hISb.grown (by have := HB4.out; simp; omega)
              have hgrb := HGA.out.trans hISb.grown
              have hrdb := hISb.rd
              have y0 := hISb.blk.cell 0 _ rfl
              have y1 := hISb.blk.cell 1 _ rfl
              have y2 := hISb.blk.cell 2 _ rfl
              have y3 := hISb.blk.cell 3 _ rfl
              have y4 := hISb.blk.cell 4 _ rfl
              have y5 := hISb.blk.cell 5 _ rfl
              have h4b : W.heap.size ≤ b4 := by rw [HB4.out]; exact Nat.le_refl _
              have hne4 : b4 ≠ g := by have := HB4.out; omega
              have hb41 : b4 < w1.heap.size := by rw [← HQ.out]; exact hq4
              have hzw := HZW.out
              clear hT hok hno hgb hISb hIS hzs hq4
              have k0 := hb4b.cell 0 _ rfl
              have z0 := hb4b.free 0
              have k1 := hb4b.cell 1 _ rfl
              have z1 := hb4b.free 1
              have k2 := hb4b.cell 2 _ rfl
              have z2 := hb4b.free 2
              have k3 := hb4b.cell 3 _ rfl
              have z3 := hb4b.free 3
              have k4 := hb4b.cell 4 _ rfl
              have z4 := hb4b.free 4
              have k5 := hb4b.cell 5 _ rfl
              have z5 := hb4b.free 5
              have hW6 : Blk b4 28 [.int .i64 5, .int .i64 0, .int .u64 0, .string ⟨#[]⟩, .slice ia zn ic, .slice ka kn kc] ((((((wb.setCell ⟨b4, 0, none⟩ (.int .i64 5)).setCell ⟨b4, 1, none⟩ (.int .i64 0)).setCell ⟨b4, 2, none⟩ (.int .u64 0)).setCell ⟨b4, 3, none⟩ (.string ⟨#[]⟩)).setCell ⟨b4, 4, none⟩ (.slice ia zn ic)).setCell ⟨b4, 5, none⟩ (.slice ka kn kc)) := (((((hb4b.set 0 _).set 1 _).set 2 _).set 3 _).set 4 _).set 5 _
              have hg6 : W.grownBy ((((((wb.setCell ⟨b4, 0, none⟩ (.int .i64 5)).setCell ⟨b4, 1, none⟩ (.int .i64 0)).setCell ⟨b4, 2, none⟩ (.int .u64 0)).setCell ⟨b4, 3, none⟩ (.string ⟨#[]⟩)).setCell ⟨b4, 4, none⟩ (.slice ia zn ic)).setCell ⟨b4, 5, none⟩ (.slice ka kn kc)) (some g) := jgrown_put6 hgrb h4b _ _ _ _ _ _
              have hB6 : JRd g sb ((((((wb.setCell ⟨b4, 0, none⟩ (.int .i64 5)).setCell ⟨b4, 1, none⟩ (.int .i64 0)).setCell ⟨b4, 2, none⟩ (.int .u64 0)).setCell ⟨b4, 3, none⟩ (.string ⟨#[]⟩)).setCell ⟨b4, 4, none⟩ (.slice ia zn ic)).setCell ⟨b4, 5, none⟩ (.slice ka kn kc)) := jblk_put6 hrdb hne4 _ _ _ _ _ _
              have hk6 : ∀ b, w1.heap.size ≤ b → b < wb.heap.size → ((((((wb.setCell ⟨b4, 0, none⟩ (.int .i64 5)).setCell ⟨b4, 1, none⟩ (.int .i64 0)).setCell ⟨b4, 2, none⟩ (.int .u64 0)).setCell ⟨b4, 3, none⟩ (.string ⟨#[]⟩)).setCell ⟨b4, 4, none⟩ (.slice ia zn ic)).setCell ⟨b4, 5, none⟩ (.slice ka kn kc)).heap[b]? = wb.heap[b]? := fun b hb1 hb2 => (put6_block wb b4 _ _ _ _ _ _ b (by omega))
              have hV6 := (hVR.keep hk6).mono (P' := fun b => W.heap.size ≤ b) fun b _ hb => Nat.le_trans hzw hb
              have hK6 := (hKR.keep hk6).mono (P' := fun b => W.heap.size ≤ b) fun b _ hb => Nat.le_trans hzw hb
              clear hVR hKR hk6
              go_wp2
              clear k0 k1 k2 k3 k4 k5 z0 z1 z2 z3 z4 z5
              generalize (((((wb.setCell ⟨b4, 0, none⟩ (.int .i64 5)).setCell ⟨b4, 1, none⟩ (.int .i64 0)).setCell ⟨b4, 2, none⟩ (.int .u64 0)).setCell ⟨b4, 3, none⟩ (.string ⟨#[]⟩)).setCell ⟨b4, 4, none⟩ (.slice ia zn ic)).setCell ⟨b4, 5, none⟩ (.slice ka kn kc) = w40 at *
              have d0 := hW6.cell 0 _ rfl
              have d1 := hW6.cell 1 _ rfl
              have d2 := hW6.cell 2 _ rfl
              have d3 := hW6.cell 3 _ rfl
              have d4 := hW6.cell 4 _ rfl
              have d5 := hW6.cell 5 _ rfl
              refine bodyPost_ret (v := .agg #[.int .i64 5, .int .i64 0, .int .u64 0, .string ⟨#[]⟩, .slice ia zn ic, .slice ka kn kc]) (by simp [results, Tryd.results25, go_sem, d0, d1, d2, d3, d4, d5]) rfl ?_
              exact ValPost.ok (v := .mk 5 0 0 [] is ks) HT.out hV6 hK6 hsb hB6 hg6
          | false =>
            rw [hp, if_neg (by simp)] at hT
            rw [cutJ_no hp] at hs7
            clear HTN
            have HTN := Lib.hid hT
            clear hT hp hS6 hs6
            go_wp2_with fail
            refine (jhas_calls g s7 ⟨#[123]⟩ l1 _ hS7.rd hs7).mono ?_
            rw [show (⟨#[123]⟩ : ByteArray).data.toList = [123] from rfl]
            rintro e w8 ⟨s8, rfl, hs8, hB8, hg8⟩
            have hS8 := hS7.reader hg8 hB8
            clear hB8 hg8
            have hT := HTN.out
            cases hp : List.isPrefixOf [123] l1 with
            | true =>
              rw [hp, if_pos rfl] at hT
              clear HTN
              rw [cutJ_yes hp] at hs8
              have hs8 : StrIs s8 (l1.drop 1) := hs8
              have hz8 : s8.size ≤ 65536 := by have h1 := hs8.size; have h2 := hs1.size; rw [List.length_drop] at h1; omega
              have HTX := Lib.hid hT
              clear hT hp hS7
              have y0 := hS8.blkq.cell 0 _ rfl
              have x0 := hS8.blkq.free 0
              have hgl1 : g < w1.heap.size := by have := HZW.out; omega
              have hqg : q ≠ g := by have := HQ.out; omega
              have hIS : IS w1 g q 6 s8 [] [] (.slice none 0 0) (.slice none 0 0) (w8.setCell ⟨q, 0, none⟩ (.int .i64 6)) :=
                ⟨hS8.rd.grown (grownBy_set _ q 0 _) (by simp; omega), hS8.blkq.set 0 _, GR.nil _ _ _, grown_off hS8.grown1 (grownBy_set _ q 0 _) (fun b hb => by cases hb; rw [HQ.out]; exact Nat.le_refl _), by rw [HQ.out]; exact Nat.le_refl _, hgl1⟩
              have hq4 := hS8.hq
              clear hS8
              go_upto_region 17 with (fail)
              clear y0 x0
              generalize w8.setCell ⟨q, 0, none⟩ (.int .i64 6) = wq at *
              go_wp2_with fail
              refine (jitems_calls m (by omega) (valJ d) (valJ_len d) IH w1 g q true 6 rfl 125 s8 (l1.drop 1) wq HEQ.out hIS hs8 hz8).mono ?_
              rintro e wb ⟨hok, hno, hgb⟩
              have hT := HTX.out
              cases hx : itemsJ (valJ d) true 125 (l1.drop 1) with
              | none =>
                obtain rfl := hno hx
                rw [hx] at hT
                have HT := Lib.hid hT
                clear hT hok hno
                have hgx := HGA.out.trans hgb
                unfold panJ
                go_wp2
                exact ⟨rfl, ValPost.no HT.out hgx⟩
              | some y =>
                obtain ⟨⟨is, ks⟩, r⟩ := y
                obtain ⟨iv, kv, zs, sb, rfl, hzs, hISb, hsb⟩ := hok is ks r hx
                rw [hx] at hT
                have HT := Lib.hid hT
                have hVR := hISb.gr.vr
                have hKR := hISb.gr.kr
                rw [hzs] at hVR
                obtain ⟨ia, ic, hiv, -⟩ := own_slice hISb.gr.row
                obtain ⟨ka, kc, hkv, -⟩ := own_slice hISb.gr.keys
                subst hiv hkv
                generalize zs.length = zn at *
                generalize ks.length = kn at *
                have hb4b : Blk b4 28 zeroV wb := HV1.out.grown hISb.grown (by have := HB4.out; simp; omega)
                have hgrb := HGA.out.trans hISb.grown
                have hrdb := hISb.rd
                have y0 := hISb.blk.cell 0 _ rfl
                have y1 := hISb.blk.cell 1 _ rfl
                have y2 := hISb.blk.cell 2 _ rfl
                have y3 := hISb.blk.cell 3 _ rfl
                have y4 := hISb.blk.cell 4 _ rfl
                have y5 := hISb.blk.cell 5 _ rfl
                have h4b : W.heap.size ≤ b4 := by rw [HB4.out]; exact Nat.le_refl _
                have hne4 : b4 ≠ g := by have := HB4.out; omega
                have hb41 : b4 < w1.heap.size := by rw [← HQ.out]; exact hq4
                have hzw := HZW.out
                clear hT hok hno hgb hISb hIS hzs hq4
                have k0 := hb4b.cell 0 _ rfl
                have z0 := hb4b.free 0
                have k1 := hb4b.cell 1 _ rfl
                have z1 := hb4b.free 1
                have k2 := hb4b.cell 2 _ rfl
                have z2 := hb4b.free 2
                have k3 := hb4b.cell 3 _ rfl
                have z3 := hb4b.free 3
                have k4 := hb4b.cell 4 _ rfl
                have z4 := hb4b.free 4
                have k5 := hb4b.cell 5 _ rfl
                have z5 := hb4b.free 5
                have hW6 : Blk b4 28 [.int .i64 6, .int .i64 0, .int .u64 0, .string ⟨#[]⟩, .slice ia zn ic, .slice ka kn kc] ((((((wb.setCell ⟨b4, 0, none⟩ (.int .i64 6)).setCell ⟨b4, 1, none⟩ (.int .i64 0)).setCell ⟨b4, 2, none⟩ (.int .u64 0)).setCell ⟨b4, 3, none⟩ (.string ⟨#[]⟩)).setCell ⟨b4, 4, none⟩ (.slice ia zn ic)).setCell ⟨b4, 5, none⟩ (.slice ka kn kc)) := (((((hb4b.set 0 _).set 1 _).set 2 _).set 3 _).set 4 _).set 5 _
                have hg6 : W.grownBy ((((((wb.setCell ⟨b4, 0, none⟩ (.int .i64 6)).setCell ⟨b4, 1, none⟩ (.int .i64 0)).setCell ⟨b4, 2, none⟩ (.int .u64 0)).setCell ⟨b4, 3, none⟩ (.string ⟨#[]⟩)).setCell ⟨b4, 4, none⟩ (.slice ia zn ic)).setCell ⟨b4, 5, none⟩ (.slice ka kn kc)) (some g) := jgrown_put6 hgrb h4b _ _ _ _ _ _
                have hB6 : JRd g sb ((((((wb.setCell ⟨b4, 0, none⟩ (.int .i64 6)).setCell ⟨b4, 1, none⟩ (.int .i64 0)).setCell ⟨b4, 2, none⟩ (.int .u64 0)).setCell ⟨b4, 3, none⟩ (.string ⟨#[]⟩)).setCell ⟨b4, 4, none⟩ (.slice ia zn ic)).setCell ⟨b4, 5, none⟩ (.slice ka kn kc)) := jblk_put6 hrdb hne4 _ _ _ _ _ _
                have hk6 : ∀ b, w1.heap.size ≤ b → b < wb.heap.size → ((((((wb.setCell ⟨b4, 0, none⟩ (.int .i64 6)).setCell ⟨b4, 1, none⟩ (.int .i64 0)).setCell ⟨b4, 2, none⟩ (.int .u64 0)).setCell ⟨b4, 3, none⟩ (.string ⟨#[]⟩)).setCell ⟨b4, 4, none⟩ (.slice ia zn ic)).setCell ⟨b4, 5, none⟩ (.slice ka kn kc)).heap[b]? = wb.heap[b]? := fun b hb1 hb2 => (put6_block wb b4 _ _ _ _ _ _ b (by omega))
                have hV6 := (hVR.keep hk6).mono (P' := fun b => W.heap.size ≤ b) fun b _ hb => Nat.le_trans hzw hb
                have hK6 := (hKR.keep hk6).mono (P' := fun b => W.heap.size ≤ b) fun b _ hb => Nat.le_trans hzw hb
                clear hVR hKR hk6
                go_wp2
                clear k0 k1 k2 k3 k4 k5 z0 z1 z2 z3 z4 z5
                generalize (((((wb.setCell ⟨b4, 0, none⟩ (.int .i64 6)).setCell ⟨b4, 1, none⟩ (.int .i64 0)).setCell ⟨b4, 2, none⟩ (.int .u64 0)).setCell ⟨b4, 3, none⟩ (.string ⟨#[]⟩)).setCell ⟨b4, 4, none⟩ (.slice ia zn ic)).setCell ⟨b4, 5, none⟩ (.slice ka kn kc) = w40 at *
                have d0 := hW6.cell 0 _ rfl
                have d1 := hW6.cell 1 _ rfl
                have d2 := hW6.cell 2 _ rfl
                have d3 := hW6.cell 3 _ rfl
                have d4 := hW6.cell 4 _ rfl
                have d5 := hW6.cell 5 _ rfl
                refine bodyPost_ret (v := .agg #[.int .i64 6, .int .i64 0, .int .u64 0, .string ⟨#[]⟩, .slice ia zn ic, .slice ka kn kc]) (by simp [results, Tryd.results25, go_sem, d0, d1, d2, d3, d4, d5]) rfl ?_
                exact ValPost.ok (v := .mk 6 0 0 [] is ks) HT.out hV6 hK6 hsb hB6 hg6
            | false =>
              rw [hp, if_neg (by simp)] at hT
              rw [cutJ_no hp] at hs8
              clear HTN
              have HTN := Lib.hid hT
              clear hT hp hS7 hs7
              have hz8 : s8.size ≤ 65536 := by have h1 := hs8.size; have h2 := hs1.size; omega
              go_wp2_with fail
              refine (jnum_calls g s8 l1 _ hS8.rd hs8 hz8).mono ?_
              rintro e wb ⟨hok, hno, hgb⟩
              have hT := HTN.out
              cases hx : numJ l1 with
              | none =>
                obtain rfl := hno hx
                rw [hx] at hT
                have HT := Lib.hid hT
                clear hT hok hno
                have hgx := hS8.grown.trans hgb
                unfold panJ
                go_wp2
                exact ⟨rfl, ValPost.no HT.out hgx⟩
              | some y =>
                obtain ⟨v, r⟩ := y
                obtain ⟨sb, rfl, hsb, hBb⟩ := hok v r hx
                rw [hx] at hT
                have HT := Lib.hid hT
                obtain ⟨hni, hnk⟩ := numJ_flat hx
                have hSb := hS8.reader hgb hBb
                unfold aggV
                clear hT hok hno hgb hBb hS8
                have k0 := hSb.blk4.cell 0 _ rfl
                have z0 := hSb.blk4.free 0
                have k1 := hSb.blk4.cell 1 _ rfl
                have z1 := hSb.blk4.free 1
                have k2 := hSb.blk4.cell 2 _ rfl
                have z2 := hSb.blk4.free 2
                have k3 := hSb.blk4.cell 3 _ rfl
                have z3 := hSb.blk4.free 3
                have k4 := hSb.blk4.cell 4 _ rfl
                have z4 := hSb.blk4.free 4
                have k5 := hSb.blk4.cell 5 _ rfl
                have z5 := hSb.blk4.free 5
                have hW6 : Blk b4 28 [.int .i64 v.kind, .int .i64 v.num, .int .u64 v.bits, .string ⟨v.text.toArray⟩, .slice none 0 0, .slice none 0 0] ((((((wb.setCell ⟨b4, 0, none⟩ (.int .i64 v.kind)).setCell ⟨b4, 1, none⟩ (.int .i64 v.num)).setCell ⟨b4, 2, none⟩ (.int .u64 v.bits)).setCell ⟨b4, 3, none⟩ (.string ⟨v.text.toArray⟩)).setCell ⟨b4, 4, none⟩ (.slice none 0 0)).setCell ⟨b4, 5, none⟩ (.slice none 0 0)) := (((((hSb.blk4.set 0 _).set 1 _).set 2 _).set 3 _).set 4 _).set 5 _
                have hg6 : W.grownBy ((((((wb.setCell ⟨b4, 0, none⟩ (.int .i64 v.kind)).setCell ⟨b4, 1, none⟩ (.int .i64 v.num)).setCell ⟨b4, 2, none⟩ (.int .u64 v.bits)).setCell ⟨b4, 3, none⟩ (.string ⟨v.text.toArray⟩)).setCell ⟨b4, 4, none⟩ (.slice none 0 0)).setCell ⟨b4, 5, none⟩ (.slice none 0 0)) (some g) := jgrown_put6 hSb.grown hSb.h4 _ _ _ _ _ _
                have hB6 : JRd g sb ((((((wb.setCell ⟨b4, 0, none⟩ (.int .i64 v.kind)).setCell ⟨b4, 1, none⟩ (.int .i64 v.num)).setCell ⟨b4, 2, none⟩ (.int .u64 v.bits)).setCell ⟨b4, 3, none⟩ (.string ⟨v.text.toArray⟩)).setCell ⟨b4, 4, none⟩ (.slice none 0 0)).setCell ⟨b4, 5, none⟩ (.slice none 0 0)) := jblk_put6 hSb.rd hSb.ne4 _ _ _ _ _ _
                go_wp2
                clear k0 k1 k2 k3 k4 k5 z0 z1 z2 z3 z4 z5
                generalize (((((wb.setCell ⟨b4, 0, none⟩ (.int .i64 v.kind)).setCell ⟨b4, 1, none⟩ (.int .i64 v.num)).setCell ⟨b4, 2, none⟩ (.int .u64 v.bits)).setCell ⟨b4, 3, none⟩ (.string ⟨v.text.toArray⟩)).setCell ⟨b4, 4, none⟩ (.slice none 0 0)).setCell ⟨b4, 5, none⟩ (.slice none 0 0) = w40 at *
                have d0 := hW6.cell 0 _ rfl
                have d1 := hW6.cell 1 _ rfl
                have d2 := hW6.cell 2 _ rfl
                have d3 := hW6.cell 3 _ rfl
                have d4 := hW6.cell 4 _ rfl
                have d5 := hW6.cell 5 _ rfl
                refine bodyPost_ret (v := .agg #[.int .i64 v.kind, .int .i64 v.num, .int .u64 v.bits, .string ⟨v.text.toArray⟩, .slice none 0 0, .slice none 0 0]) (by simp [results, Tryd.results25, go_sem, d0, d1, d2, d3, d4, d5]) rfl ?_
                exact ValPost.ok (v := v) HT.out (by rw [hni]; exact .nil none 0) (by rw [hnk]; exact .nil none 0) hsb hB6 hg6
theorem jval_calls : ∀ (d m : Nat) (hd : m + d = 9) (g : Nat) (s : ByteArray) (l : List UInt8) (W : World), EnvAt g W → JRd g s W → StrIs s l → s.size ≤ 65536 → Calls Tryd.prog 25 #[.pointer (some ⟨g, 0, none⟩), .int .i64 m] W (ValPost (valJ d l) W g)
  | 0, m, hd, g, s, l, W, hE, hB, hl, hs => by
    obtain rfl : m = 9 := by omega
    have hb0 : Below W.heap.size W (W.alloc (.cells #[.int .i64 0, .int .i64 0, .int .u64 0, .string ⟨#[]⟩, .slice none 0 0, .slice none 0 0] 28)) := (Below.refl _ W).alloc (Nat.le_refl _) _
    go_enter Tryd.func25, Tryd.ntmps25
    go_upto_region 1 with (fail)
    generalize W.alloc (.cells #[.int .i64 0, .int .i64 0, .int .u64 0, .string ⟨#[]⟩, .slice none 0 0, .slice none 0 0] 28) = w0 at *
    go_wp2_with (go_at_call 33; refine (must_no _).mono ?_; unfold panJ; rintro e w9 ⟨rfl, rfl⟩)
    exact ⟨rfl, ValPost.no rfl (grownBy_below hb0)⟩
  | d + 1, m, hd, g, s, l, W, hE, hB, hl, hs =>
    jval_step d m (by omega) (fun g s l W hE hB hl hs => jval_calls d (m + 1) (by omega) g s l W hE hB hl hs) g s l W hE hB hl hs

end Go.Proofs.YthmcacgkhpigaaaDoor.S
