/-
  THE WALKS of package words' path, field.
-/
import Derived.Test.YtdaffedbboofjaaGreatDoorWordWalks
set_option linter.unusedVariables false
set_option linter.unusedSimpArgs false
namespace Go.Proofs.YtdaffedbboofjaaGreatDoor.S
open Go.RowKit

/-- rows of texts -/
def stCells (x : List UInt8) : List Value := [.string ⟨x.toArray⟩]
def Strs (base : Nat) (v : Value) (xs : List (List UInt8)) (w : World) : Prop := w.ownsRow base 9 1 v xs.length (xs.flatMap stCells)
theorem strInfo : (Tryz.prog.info? 9).map (fun i => (i.zero, i.size, i.bytes)) = some (some (.string ⟨#[]⟩), 1, 16) := by kernel_rfl
theorem strs_nil (base : Nat) (w : World) : Strs base (.slice none 0 0) [] w := ⟨by simp, .inl ⟨rfl, rfl⟩⟩
theorem Strs.grown {base g : Nat} {v : Value} {xs : List (List UInt8)} {w w' : World} (h : Strs base v xs w) (hg : w.grownBy w' (some g)) (hb : g < base) : Strs base v xs w' :=
  World.ownsRow.kept h hg (.inr fun e => by have := own_base h g e; omega)
theorem Strs.slice {base : Nat} {v : Value} {xs : List (List UInt8)} {w : World} (h : Strs base v xs w) : ∃ a c, v = .slice a xs.length c := by
  obtain ⟨a, c, h, _⟩ := own_slice h
  exact ⟨a, c, h⟩
section
variable {ops : Array Oper} {rest : List Oper} {o : Oper} {a : Act} {Q : Exit → Act → World → Prop}
/-- append(xs, x): the literal's block has just been laid -/
theorem wp_appStr {W : World} (base : Nat) (hgd : o.guard = none) (s x : Operand)
    (ho : o.op = .call { callee := .builtin .append, args := #[s, x], argTypes := #[33, 33] })
    (v : Value) (xs : List (List UInt8)) (t : ByteArray) (y : List UInt8) (hy : StrIs t y) (c : Nat) (hs : a.eval s = v) (hx : a.eval x = .slice (some ⟨W.heap.size, 0, none⟩) 1 c)
    (HO : Strs base v xs W) (hbase : base ≤ W.heap.size) (hl : xs.length ≤ 1099511627776)
    (h : ∀ v1 w1, Strs base v1 (xs ++ [y]) w1 → W.grownBy w1 v.ownBlock → wpList Tryz.prog ops Q rest (a.put o.dst v1) w1) :
    wpList Tryz.prog ops Q (o :: rest) a (W.alloc (.cells #[.string t] 9)) := by
  obtain ⟨i0, hi, hz0, hz1, hz2⟩ := info_parts strInfo
  refine wpList_append_own (W.alloc (.cells #[.string t] 9)) hgd s x 33 ho base 9 i0 (.string ⟨#[]⟩) 1 16 Tryz.underlying33 hi hz0 hz1 hz2 rfl (by decide) v xs.length (xs.flatMap stCells) hs (own_below HO ((Below.refl _ W).alloc (Nat.le_refl _) _))
    ⟨W.heap.size, 0, none⟩ 1 c (stCells y) hx rfl ?_ ?_ (by simp only [maxLen]; omega) (by omega) (by simp; omega) ?_
  · rw [show stCells y = (#[Value.string t] : Array Value).toList by rw [hy.eq]; rfl]
    exact World.news_of_block (t := 9) (fr := (0, 0)) (heap_new W _)
  · intro u hu
    simp only [stCells, List.mem_cons, List.not_mem_nil, or_false] at hu
    rcases hu with rfl
    rfl
  · intro v1 w1 hown hg _
    refine h v1 w1 ?_ ((World.grownBy_alloc W _ _).trans hg)
    unfold Strs
    rw [List.length_append, List.flatMap_append]
    simpa using hown
end
theorem grown_more {w w2 w3 : World} {base e size n : Nat} {v : Value} {xs : List Value} {row : Option Nat} (h : w.grownBy w2 row) (hO : w2.ownsRow base e size v n xs) (hb : w.heap.size ≤ base) (hg : w2.grownBy w3 v.ownBlock) : w.grownBy w3 row :=
  ⟨hg.os.trans h.os, hg.tape.trans h.tape, hg.output.trans h.output, Nat.le_trans h.size hg.size, fun i hi hne =>
    (hg.block i (Nat.lt_of_lt_of_le hi h.size) fun e => by have := own_base hO i e.symm; omega).trans (h.block i hi hne)⟩
/-- what is read so far, and the rest, make the whole -/
def PathAt (T : Except Nat (List (List UInt8) × List UInt8)) (xs : List (List UInt8)) (n k : Nat) (l : List UInt8) : Prop := T = (pathF n k l).map fun x => (xs ++ x.1, x.2)
theorem path_end {T : Except Nat (List (List UInt8) × List UInt8)} {xs : List (List UInt8)} {n k : Nat} {l : List UInt8} (h : PathAt T xs (n + 1) k l) (hp : List.isPrefixOf [46] l = false) : T = .ok (xs, l) := by
  rw [h, pathF, hp]
  simp [Except.map]
theorem path_err {T : Except Nat (List (List UInt8) × List UInt8)} {xs : List (List UInt8)} {n k : Nat} {l : List UInt8} {e : Nat} (h : PathAt T xs (n + 1) k l) (hp : List.isPrefixOf [46] l = true) (hn : nameL (l.drop 1) = .error e) : T = .error e := by
  rw [h, pathF, hp, if_pos rfl, hn]
  rfl
theorem path_many {T : Except Nat (List (List UInt8) × List UInt8)} {xs : List (List UInt8)} {n k : Nat} {l x r : List UInt8} (h : PathAt T xs (n + 1) k l) (hp : List.isPrefixOf [46] l = true) (hn : nameL (l.drop 1) = .ok (x, r)) (hk : ¬ k + 1 ≤ 8) : T = .error 1400 := by
  rw [h, pathF, hp, if_pos rfl, hn]
  dsimp only
  rw [if_neg hk]
  rfl
theorem path_go {T : Except Nat (List (List UInt8) × List UInt8)} {xs : List (List UInt8)} {n k : Nat} {l x r : List UInt8} (h : PathAt T xs (n + 1) k l) (hp : List.isPrefixOf [46] l = true) (hn : nameL (l.drop 1) = .ok (x, r)) (hk : k + 1 ≤ 8) : PathAt T (xs ++ [x]) n (k + 1) r := by
  unfold PathAt at *
  rw [h, pathF, hp, if_pos rfl, hn]
  dsimp only
  rw [if_pos hk]
  cases pathF n (k + 1) r with
  | error e => rfl
  | ok y => simp [Except.map]
theorem nameL_len {l x r : List UInt8} (h : nameL l = .ok (x, r)) : r.length ≤ l.length := by
  unfold nameL at h
  split at h
  · injection h with h
    injection h with _ h
    rw [← h]
    simp
  · cases h

set_option maxRecDepth 100000 in
set_option maxHeartbeats 2000000 in
theorem wpath_calls (g : Nat) (s : ByteArray) (o : Value) (l : List UInt8) (w : World) (hB : Rd g s o w) (hl : StrIs s l) (hs : s.size ≤ 4611686018427387900) :
    Calls Tryz.prog 154 #[.pointer (some ⟨g, 0, none⟩)] w fun e w' =>
      (∀ xs r, pathL l = .ok (xs, r) → ∃ (v : Value) (s' : ByteArray), e = .returned v ∧ Strs w.heap.size v xs w' ∧ StrIs s' r ∧ Rd g s' o w') ∧ (∀ c, pathL l = .error c → e = pan c) ∧ w.grownBy w' (some g) := by
  obtain ⟨T, hT⟩ : ∃ T, T = pathL l := ⟨_, rfl⟩
  rw [← hT]
  have hT' : PathAt T [] 9 0 l := by
    unfold PathAt
    rw [hT]
    show pathF 9 0 l = _
    cases pathF 9 0 l <;> rfl
  have hll : l.length = s.size := hl.size.symm
  have hgl := hB.lt
  clear hT
  go_enter Tryz.func154, Tryz.ntmps154
  go_wp2
  go_loopg [3] 9 (fun gk v3 wr => ∃ (k : Nat) (xs : List (List UInt8)) (s' : ByteArray) (l' : List UInt8), k + gk = 9 ∧ k ≤ 8 ∧ xs.length = k ∧ Strs w.heap.size v3 xs wr ∧ StrIs s' l' ∧ l'.length ≤ l.length ∧ Rd g s' o wr ∧ w.grownBy wr (some g) ∧ Hid (PathAt T xs gk k l'))
  case atStart => exact ⟨0, [], s, l, by omega, by omega, rfl, strs_nil _ _, hl, Nat.le_refl _, hB, World.grownBy.refl _ _, hT'⟩
  case round =>
    obtain ⟨k, xs, s', l', hkg, hk8, hxk, hO, hs', hll', hBr, hgr, hP⟩ := hrel
    obtain ⟨n, rfl⟩ : ∃ n, gk = n + 1 := ⟨gk - 1, by omega⟩
    have HKG := Lib.hid hkg
    have HXK := Lib.hid hxk
    clear hkg hxk hT'
    go_wp2_with fail
    refine (whas_calls g s' ⟨#[46]⟩ o l' _ hBr hs').mono ?_
    rintro e w1 ⟨s1, rfl, hs1, hB1, hg1⟩
    have hO1 := hO.grown hg1 hgl
    have hgr1 := hgr.trans hg1
    cases hp : List.isPrefixOf [46] l' with
    | false =>
      rw [show cutP (⟨#[46]⟩ : ByteArray).data.toList l' = l' from cutP_no hp] at hs1
      have hT := path_end hP.out hp
      have HT := Lib.hid hT
      clear hT hP hp
      go_wp2
      go_ret
      refine ⟨fun ys r h => ?_, fun c h => ?_, hgr1⟩
      · rw [HT.out] at h
        cases h
        exact ⟨_, s1, rfl, hO1, hs1, hB1⟩
      · rw [HT.out] at h
        cases h
    | true =>
      rw [show cutP (⟨#[46]⟩ : ByteArray).data.toList l' = l'.drop 1 from cutP_yes hp] at hs1
      have hl1 : (l'.drop 1).length ≤ l.length := by rw [List.length_drop]; omega
      have hz1 : s1.size ≤ 4611686018427387900 := by rw [hs1.size]; omega
      have hN := fun W hW => wname_calls g s1 o (l'.drop 1) W hW hs1 hz1
      cases hn : nameL (l'.drop 1) with
      | error c =>
        have hT := path_err hP.out hp hn
        have HT := Lib.hid hT
        clear hT hP hp
        go_wp2_with fail
        refine (hN _ hB1).mono ?_
        rintro e w2 ⟨-, he, hg2⟩
        obtain rfl := he c hn
        have hgr2 := hgr1.trans hg2
        unfold pan
        go_wp2
        refine ⟨rfl, fun ys r h => ?_, fun c' h => ?_, hgr2⟩
        · rw [HT.out] at h
          cases h
        · rw [HT.out] at h
          cases h
          rfl
      | ok y =>
        obtain ⟨x, r⟩ := y
        go_wp2_with fail
        refine (hN _ hB1).mono ?_
        rintro e w2 ⟨hok, -, hg2⟩
        obtain ⟨t, s2, rfl, ht, hs2, hB2⟩ := hok x r hn
        have hgr2 := hgr1.trans hg2
        have hO2 := hO1.grown hg2 hgl
        have hrl := nameL_len hn
        have hz2 := hgr2.size
        have HN := Lib.hid hn
        have HHP := Lib.hid hp
        clear hok hn hN hp
        have hxl2 : (xs ++ [x]).length = k + 1 := by rw [List.length_append, HXK.out]; rfl
        have hbn : ∀ (v3 : Value) (w3 : World), Strs w.heap.size v3 (xs ++ [x]) w3 → w2.grownBy w3 u3.ownBlock → ∃ sa m sc, v3 = .slice sa m sc ∧ m = k + 1 ∧ Rd g s2 o w3 ∧ w.grownBy w3 (some g) := fun v3 w3 hO3 hg3 => by
          obtain ⟨sa, sc, h⟩ := hO3.slice
          exact ⟨sa, _, sc, h, hxl2, Blk.grown hB2 hg3 (fun e => by have := own_base hO2 _ e.symm; omega), grown_more hgr2 hO2 (Nat.le_refl _) hg3⟩
        have hxl : xs.length ≤ 1099511627776 := by have := HXK.out; omega
        have HBN := Lib.hid hbn
        have HX2 := Lib.hid hxl2
        clear hbn hxl2
        by_cases hk : k + 1 ≤ 8
        · have hP2 := path_go hP.out HHP.out HN.out hk
          have HP2 := Lib.hid hP2
          have hrl2 : r.length ≤ l.length := by omega
          clear hP2 hP HHP HN hrl
          go_wp2_with (first | (at_builtin; refine wp_appStr w.heap.size rfl (.tmp 6) (.tmp 9) rfl u3 xs t x ht 1 rfl rfl hO2 hz2 hxl ?_; intro v3 w3 hO3 hg3; obtain ⟨sa, m, sc, rfl, hm, hB3, hgr3⟩ := HBN.out v3 w3 hO3 hg3; have hkb : decide ((m : Int) ≤ 8) = true := decide_eq_true (by omega); have hm2 : m ≤ 9223372036854775807 := (by omega); clear hm) | (go_at_call 117; refine (fail_ok _ _).mono ?_; rintro e w9 ⟨rfl, rfl⟩))
          go_roundg n
          case measure => omega
          case rel => exact ⟨k + 1, xs ++ [x], s2, r, by have := HKG.out; omega, hk, HX2.out, hO3, hs2, hrl2, hB3, hgr3, HP2.out⟩
        · have hT := path_many hP.out HHP.out HN.out hk
          have HT := Lib.hid hT
          clear hT hP HHP HN hrl
          go_wp2_with (first | (at_builtin; refine wp_appStr w.heap.size rfl (.tmp 6) (.tmp 9) rfl u3 xs t x ht 1 rfl rfl hO2 hz2 hxl ?_; intro v3 w3 hO3 hg3; obtain ⟨sa, m, sc, rfl, hm, hB3, hgr3⟩ := HBN.out v3 w3 hO3 hg3; have hkb : decide ((m : Int) ≤ 8) = false := decide_eq_false (by omega); have hm2 : m ≤ 9223372036854775807 := (by omega); clear hm) | (go_at_call 117; refine (fail_no 1400 _).mono ?_; unfold pan; rintro e w9 ⟨rfl, rfl⟩))
          refine ⟨rfl, fun ys r h => ?_, fun c' h => ?_, hgr3⟩
          · rw [HT.out] at h
            cases h
          · rw [HT.out] at h
            cases h
            rfl
end Go.Proofs.YtdaffedbboofjaaGreatDoor.S
