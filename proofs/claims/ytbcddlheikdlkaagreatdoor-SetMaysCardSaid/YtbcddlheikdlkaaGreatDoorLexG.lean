import Derived.Test.YtbcddlheikdlkaaGreatDoorUtfWalks
import Derived.Test.YtbcddlheikdlkaaGreatDoorByteWalks
import Derived.Test.YtbcddlheikdlkaaGreatDoorRefNorm
import Derived.Test.YtbcddlheikdlkaaGreatDoorState
import Derived.Test.YtbcddlheikdlkaaGreatDoorPlainL2
import Derived.RegionTactic
import Derived.BigRegion
import Derived.BigQuiet
import Derived.StillTailTactics
import Derived.Deep.QuietTactic
import Derived.Shelf.Strings.SlTrimAscii
import Derived.Deep.DeepCutAuto
import Derived.Deep.RegionLaw
import Derived.Deep.RegionHeld3
import Derived.Laws.OwnMore
import Derived.Deep.Onto
/-
  THE WALKS of package lex, its cursor: Blank, rest, skip, mark.
-/
set_option linter.unusedVariables false
set_option linter.unusedSimpArgs false
namespace Go.Proofs.YtbcddlheikdlkaaGreatDoor.S
open Go.RowKit

theorem index_blank (c : Nat) (h : c < 256) : decide (0 ≤ Lib.indexByte [32, 9, 10] (c : Int).toNat.toUInt8) = blk c := by
  have e := (by decide +kernel : ∀ c : Fin 256, decide (0 ≤ Lib.indexByte [32, 9, 10] (c.val : Int).toNat.toUInt8) = blk c.val)
  exact e ⟨c, h⟩
theorem blank_calls (c : Nat) (w : World) (h : c < 256) :
    Calls Tryz.prog 107 #[.int .u8 c] w fun e w' => e = .returned (.bool (blk c)) ∧ w = w' := by
  have hb := index_blank c h
  go_enter Tryz.func107, Tryz.ntmps107
  go_wp2_with fail
  refine (Tryz.strings_IndexByte _ _ _).mono ?_
  rintro e w1 ⟨rfl, hw⟩
  subst hw
  go_wp2
  go_ret
  exact ⟨ret_bool (by simpa using hb), rfl⟩

theorem blank_q (c : Nat) (w : World) (h : c < 256) :
    Calls Tryz.prog 107 #[.int .u8 c] w fun e w' => e = .returned (.bool (blk c)) ∧ w' = w := (blank_calls c w h).mono fun _ _ ⟨he, hw⟩ => ⟨he, hw.symm⟩

/-- the cursor's block -/
abbrev CurB (g : Nat) (s : ByteArray) (i : Nat) (tr : Bool) (v : Value) (w : World) : Prop := Blk g 106 [.string s, .int .i64 i, .bool tr, v] w

theorem _root_.Go.Proofs.YtbcddlheikdlkaaGreatDoor.S.Blk.goto {g : Nat} {s : ByteArray} {i : Nat} {tr : Bool} {v : Value} {w : World} (h : CurB g s i tr v w) (x : Int) (j : Nat) (hx : x = j) : CurB g s j tr v (w.setCell ⟨g, 1, none⟩ (.int .i64 x)) := by
  subst hx
  exact h.set 1 _
theorem _root_.Go.Proofs.YtbcddlheikdlkaaGreatDoor.S.Blk.untrim {g : Nat} {s : ByteArray} {i : Nat} {tr : Bool} {v : Value} {w : World} (h : CurB g s i tr v w) : CurB g s i false v (w.setCell ⟨g, 2, none⟩ (.bool false)) := h.set 2 _
theorem _root_.Go.Proofs.YtbcddlheikdlkaaGreatDoor.S.Blk.trims {g : Nat} {s : ByteArray} {i : Nat} {tr : Bool} {v : Value} {w : World} (h : CurB g s i tr v w) : CurB g s i true v (w.setCell ⟨g, 2, none⟩ (.bool true)) := h.set 2 _
theorem _root_.Go.Proofs.YtbcddlheikdlkaaGreatDoor.S.Blk.puts {g : Nat} {s : ByteArray} {i : Nat} {tr : Bool} {v : Value} {w : World} (h : CurB g s i tr v w) (v' : Value) : CurB g s i tr v' (w.setCell ⟨g, 3, none⟩ v') := h.set 3 _
theorem rest_q (g : Nat) (s : ByteArray) (i : Nat) (tr : Bool) (v : Value) (w : World) (hB : CurB g s i tr v w) (hi : i ≤ s.size) (hs : s.size ≤ 4611686018427387904) :
    Calls Tryz.prog 78 #[.pointer (some ⟨g, 0, none⟩)] w fun e w' => e = .returned (.string (s.extract i s.size)) ∧ ∃ m, w' = w.drewN m := by
  have c0 := hB.cell 0 _ rfl
  have c1 := hB.cell 1 _ rfl
  have hsl := fun W => run_slice_string (P := Tryz.prog) (w := W) 9 s .i64 .i64 (i : Int) (s.size : Int) Tryz.underlying9 (by omega) (by omega) (by omega)
  simp only [Int.toNat_natCast] at hsl
  go_enter Tryz.func78, Tryz.ntmps78
  go_wp2
  go_region
  go_wp2
  go_ret
  exact ⟨rfl, 1, rfl⟩
theorem extract_end (s : ByteArray) (i : Nat) : StrIs (s.extract i s.size) (s.data.toList.drop i) := by
  show _ = _
  rw [Lib.extract_data, List.take_of_length_le]
  simp
theorem Below.drewN {B : Nat} {a w : World} (h : Below B a w) (n : Nat) : Below B a (w.drewN n) := ⟨h.os, h.tape, h.output, h.size, h.block⟩
theorem rest_calls (g : Nat) (s : ByteArray) (i : Nat) (tr : Bool) (v : Value) (w : World) (hB : CurB g s i tr v w) (hi : i ≤ s.size) (hs : s.size ≤ 4611686018427387904) :
    Calls Tryz.prog 78 #[.pointer (some ⟨g, 0, none⟩)] w fun e w' => ∃ r : ByteArray, e = .returned (.string r) ∧ StrIs r (s.data.toList.drop i) ∧ Below w.heap.size w w' :=
  (rest_q g s i tr v w hB hi hs).mono fun _ _ ⟨he, m, hm⟩ => ⟨_, he, extract_end s i, hm ▸ Below.drewN (Below.refl _ _) m⟩

theorem grownBy_drewN (w : World) (row : Option Nat) (n : Nat) : w.grownBy (w.drewN n) row := ⟨rfl, rfl, rfl, Nat.le_refl _, fun _ _ _ => rfl⟩
theorem grownBy_setd (w : World) (g j : Nat) (x : Value) (n : Nat) : w.grownBy ((w.drewN n).setCell ⟨g, j, none⟩ x) (some g) := (grownBy_drewN w _ n).trans (grownBy_set _ g j x)

set_option maxHeartbeats 2000000 in
theorem skip_calls (g : Nat) (s : ByteArray) (i : Nat) (tr : Bool) (v : Value) (w : World) (hB : CurB g s i tr v w) (hi : i ≤ s.size) (hs : s.size ≤ 4611686018427387904) :
    Calls Tryz.prog 80 #[.pointer (some ⟨g, 0, none⟩)] w fun e w' => e = .returned (.bool (decide (0 < blkN (s.data.toList.drop i)))) ∧ CurB g s (i + blkN (s.data.toList.drop i)) tr v w' ∧ w.grownBy w' (some g) := by
  have c1 := hB.cell 1 _ rfl
  go_enter Tryz.func80, Tryz.ntmps80
  go_wp2
  clear c1
  go_loopg [] (s.size - i) (fun gk wr => ∃ j, CurB g s j tr v wr ∧ w.grownBy wr (some g) ∧ i ≤ j ∧ gk = s.size - j ∧ j ≤ s.size ∧ Hid (j + blkN (s.data.toList.drop j) = i + blkN (s.data.toList.drop i)))
  case atStart => exact ⟨i, hB, World.grownBy.refl _ _, Nat.le_refl _, rfl, hi, rfl⟩
  case round =>
    obtain ⟨j, hBj, hg, hij, hgk, hjs, hH⟩ := hrel
    have HGK := Lib.hid hgk
    clear hgk
    have c0 := hBj.cell 0 _ rfl
    have c1 := hBj.cell 1 _ rfl
    have f1 := hBj.free 1
    by_cases h : j < s.size
    · have hdc := drop_cons s j h
      obtain ⟨b, hb⟩ : ∃ b : UInt8, b = s[j]'h := ⟨_, rfl⟩
      have hbt : ∀ h', ((s[j]'h').toNat : Nat) = b.toNat := fun h' => by rw [hb]
      rw [← hb] at hdc
      have hlt := b.toNat_lt
      have hn : blkN (s.data.toList.drop j) = if blk b.toNat = true then blkN (s.data.toList.drop (j + 1)) + 1 else 0 := by rw [hdc]; rfl
      have HN := Lib.hid hn
      have HB := Lib.hid hB
      clear hn hdc hb hB
      generalize b.toNat = c at *
      have hjb : decide ((j : Int) < (s.size : Int)) = true := decide_eq_true (by omega)
      cases hbl : blk c with
      | true =>
        go_wp2_with fail
        go_quiet ((go_at_call 107; refine Calls.quiet_of_same (blank_q c _ hlt)))
        go_wp2
        go_roundg (gk - 1)
        case measure => have := HGK.out; omega
        case rel =>
          refine ⟨j + 1, hBj.set 1 (.int .i64 (j + 1 : Nat)), hg.trans (grownBy_setd wr g 1 _ nq), by omega, by have := HGK.out; omega, by omega, ?_⟩
          have e := HN.out
          rw [hbl, if_pos rfl] at e
          have := hH.out
          show _ = _
          omega
      | false =>
        go_wp2_with fail
        go_quiet ((go_at_call 107; refine Calls.quiet_of_same (blank_q c _ hlt)))
        go_wp2
        go_ret
        have e := HN.out
        rw [hbl, if_neg (by simp)] at e
        have e2 : j = i + blkN (s.data.toList.drop i) := by have := hH.out; omega
        refine ⟨ret_bool ?_, e2 ▸ hBj, hg.trans (grownBy_drewN wr _ _)⟩
        simp only [decide_eq_decide]
        omega
    · obtain rfl : j = s.size := by omega
      have hjb : decide ((s.size : Int) < (s.size : Int)) = false := decide_eq_false (by omega)
      have e : blkN (s.data.toList.drop s.size) = 0 := by rw [List.drop_eq_nil_of_le (Nat.le_of_eq (size_list s))]; rfl
      have e2 : s.size = i + blkN (s.data.toList.drop i) := by have := hH.out; omega
      have E2 := Lib.hid e2
      clear e e2
      go_wp2_with fail
      go_quiet (fail)
      go_wp2
      go_ret
      refine ⟨ret_bool ?_, E2.out ▸ hBj, hg.trans (grownBy_drewN wr _ _)⟩
      have e2 := E2.out
      simp only [decide_eq_decide]
      omega
theorem getD_byte (s : ByteArray) (i : Nat) : ∀ h : i < s.size, ((s[i]'h).toNat : Nat) = (s.data.toList.getD i 0).toNat := fun h => by rw [byte_getD s i h]
theorem markL_eq (l : List UInt8) : markL l = (decide (2 ≤ l.length) && ((l.getD 0 0).toNat == 45 && blk (l.getD 1 0).toNat)) := by
  match l with
  | [] => rfl
  | [a] => simp [markL]
  | a :: b :: r => simp [markL]

/-- how many bytes a trim mark takes -/
def markN (l : List UInt8) : Nat := if markL l = true then 1 else 0
theorem markN_eq {l : List UInt8} {m : Bool} (h : markL l = m) : markN l = if m = true then 1 else 0 := by rw [← h]; rfl

set_option maxHeartbeats 2000000 in
theorem mark_calls (g : Nat) (s : ByteArray) (i : Nat) (tr : Bool) (v : Value) (w : World) (hB : CurB g s i tr v w) (hi : i ≤ s.size) (hs : s.size ≤ 4611686018427387904) :
    Calls Tryz.prog 105 #[.pointer (some ⟨g, 0, none⟩)] w fun e w' => e = .returned (.bool (markL (s.data.toList.drop i))) ∧ CurB g s (i + markN (s.data.toList.drop i)) tr v w' ∧ w.grownBy w' (some g) := by
  go_enter Tryz.func105, Tryz.ntmps105
  go_wp2_with fail
  refine (rest_calls g s i tr v _ hB hi hs).mono ?_
  rintro e w1 ⟨r, rfl, hr, hb1⟩
  have hB1 := hB.below hb1
  have hg1 := grownBy_below (row := some g) hb1
  have hr' : r.data.toList = s.data.toList.drop i := hr
  have hme := markL_eq r.data.toList
  have hmn := fun m (h : markL r.data.toList = m) => markN_eq h
  rw [size_list] at hme
  have h0 := getD_byte r 0
  have h1 := getD_byte r 1
  rw [hr'] at hme h0 h1 hmn
  have l0 := ((s.data.toList.drop i).getD 0 0).toNat_lt
  have l1 := ((s.data.toList.drop i).getD 1 0).toNat_lt
  generalize ((s.data.toList.drop i).getD 0 0).toNat = a at *
  generalize ((s.data.toList.drop i).getD 1 0).toNat = b at *
  have c1 := hB1.cell 1 _ rfl
  have f1 := hB1.free 1
  have hrs := hr.size
  rw [List.length_drop, size_list] at hrs
  have HB := Lib.hid hB
  have HR := Lib.hid hr'
  have HRS := Lib.hid hrs
  have HM := Lib.hid hmn
  clear hB hr hr' hrs hmn
  by_cases hz : r.size < 2
  · rw [show decide (2 ≤ r.size) = false from decide_eq_false (by omega), Bool.false_and] at hme
    have hzb : decide ((r.size : Int) < 2) = true := decide_eq_true (by omega)
    have HE := Lib.hid hme
    clear hme
    go_wp2_with (go_at_call 107; refine (blank_calls b _ l1).mono ?_; rintro e w' ⟨rfl, rfl⟩)
    go_ret
    rw [HM.out _ HE.out]
    exact ⟨ret_bool HE.out.symm, hB1, hg1⟩
  · have hzb : decide ((r.size : Int) < 2) = false := decide_eq_false (by omega)
    rw [show decide (2 ≤ r.size) = true from decide_eq_true (by omega), Bool.true_and] at hme
    by_cases ha : a = 45
    · have hab : ((a : Int) == 45) = true := beq_iff_eq.2 (by omega)
      rw [show (a == 45) = true from beq_iff_eq.2 ha, Bool.true_and] at hme
      cases hbl : blk b with
      | true =>
        have HE := Lib.hid (hme.trans hbl)
        clear hme
        go_wp2_with (go_at_call 107; refine (blank_calls b _ l1).mono ?_; rintro e w' ⟨rfl, rfl⟩)
        go_ret
        rw [HM.out _ HE.out]
        exact ⟨ret_bool HE.out.symm, hB1.set 1 (.int .i64 (i + 1 : Nat)), hg1.trans (grownBy_set _ g 1 _)⟩
      | false =>
        have HE := Lib.hid (hme.trans hbl)
        clear hme
        go_wp2_with (go_at_call 107; refine (blank_calls b _ l1).mono ?_; rintro e w' ⟨rfl, rfl⟩)
        go_ret
        rw [HM.out _ HE.out]
        exact ⟨ret_bool HE.out.symm, hB1, hg1⟩
    · have hab : ((a : Int) == 45) = false := beq_eq_false_iff_ne.2 (by omega)
      rw [show (a == 45) = false from beq_eq_false_iff_ne.2 ha, Bool.false_and] at hme
      have HE := Lib.hid hme
      clear hme
      go_wp2_with (go_at_call 107; refine (blank_calls b _ l1).mono ?_; rintro e w' ⟨rfl, rfl⟩)
      go_ret
      rw [HM.out _ HE.out]
      exact ⟨ret_bool HE.out.symm, hB1, hg1⟩
end Go.Proofs.YtbcddlheikdlkaaGreatDoor.S
/-
  THE WALK of package lex's text.
-/
set_option linter.unusedVariables false
set_option linter.unusedSimpArgs false
namespace Go.Proofs.YtbcddlheikdlkaaGreatDoor.S
open Go.RowKit

theorem blanks_ascii : ∀ (j : Nat) b, (⟨#[32, 9, 10]⟩ : ByteArray).data.toList[j]? = some b → b.toNat < 128 := by
  intro j b h
  have : b ∈ ([32, 9, 10] : List UInt8) := List.mem_of_getElem? h
  simp at this
  rcases this with rfl | rfl | rfl <;> decide
theorem trimLeft_calls (s : ByteArray) (l : List UInt8) (h : StrIs s l) (w : World) :
    Calls Tryz.prog 104 #[.string s, .string ⟨#[32, 9, 10]⟩] w fun e w' => ∃ r : ByteArray, e = .returned (.string r) ∧ StrIs r (trimL l) ∧ Below w.heap.size w w' :=
  (Any.strings_TrimLeft_laid Tryz.lays161 (by kernel_rfl) s ⟨#[32, 9, 10]⟩ w (by decide) blanks_ascii).mono fun _ _ ⟨he, hb⟩ => ⟨_, he, by rw [trimL_eq, ← h]; rfl, hb⟩
theorem trimRight_calls (s : ByteArray) (l : List UInt8) (h : StrIs s l) (w : World) (hs : s.size ≤ 9223372036854775807) :
    Calls Tryz.prog 106 #[.string s, .string ⟨#[32, 9, 10]⟩] w fun e w' => ∃ r : ByteArray, e = .returned (.string r) ∧ StrIs r (trimR l) ∧ Below w.heap.size w w' :=
  (Any.strings_TrimRight_laid Tryz.lays162 (by kernel_rfl) s ⟨#[32, 9, 10]⟩ w hs (by decide) blanks_ascii).mono fun _ _ ⟨he, hb⟩ => ⟨_, he, by rw [trimR_eq, ← h]; rfl, hb⟩
theorem trimBoth_calls (s : ByteArray) (l : List UInt8) (h : StrIs s l) (w : World) (hs : s.size ≤ 9223372036854775807) :
    Calls Tryz.prog 110 #[.string s, .string ⟨#[32, 9, 10]⟩] w fun e w' => ∃ r : ByteArray, e = .returned (.string r) ∧ StrIs r (trimR (trimL l)) ∧ Below w.heap.size w w' :=
  (Any.strings_Trim_laid Tryz.lays160 (by kernel_rfl) s ⟨#[32, 9, 10]⟩ w hs (by decide) blanks_ascii).mono fun _ _ ⟨he, hb⟩ => ⟨_, he, by rw [← trim_both, ← h]; rfl, hb⟩

theorem index_calls (s p : ByteArray) (l : List UInt8) (h : StrIs s l) (w : World) (hE : Env w) (hs : s.size < 4294967281) (hp : p.data.toList ≠ []) :
    Calls Tryz.prog 77 #[.string s, .string p] w fun e w' => e = .returned (.int .i64 (if hasI p.data.toList l = true then (cutI p.data.toList l : Int) else -1)) ∧ w = w' := by
  obtain ⟨m, hm⟩ := hE.maxLen
  exact (Tryz.strings_Index s p m w hs hm).mono fun _ _ ⟨he, hw⟩ => ⟨by rw [he, ← h, index_cut _ hp], hw.symm⟩

/-- rows of pieces -/
def pcCells (p : Pc) : List Value := [.bool p.act, .string ⟨p.text.toArray⟩, .int .i64 p.pos]
def Pcs (base : Nat) (v : Value) (ps : List Pc) (w : World) : Prop := w.ownsRow base 73 3 v ps.length (ps.flatMap pcCells)
theorem pieceInfo : (Tryz.prog.info? 73).map (fun i => (i.zero, i.size, i.bytes)) = some (some (.agg #[.bool false, .string ⟨#[]⟩, .int .i64 0]), 3, 32) := by kernel_rfl
theorem pcs_nil (base : Nat) (w : World) : Pcs base (.slice none 0 0) [] w := ⟨by simp, .inl ⟨rfl, rfl⟩⟩
section
variable {ops : Array Oper} {rest : List Oper} {o : Oper} {a : Act} {Q : Exit → Act → World → Prop}
/-- append(ps, p): the literal's block has just been laid -/
theorem wp_appPiece {w0 W : World} (B base : Nat) (hgd : o.guard = none) (s x : Operand)
    (ho : o.op = .call { callee := .builtin .append, args := #[s, x], argTypes := #[62, 62] })
    (v : Value) (ps : List Pc) (p : Pc) (cs : Array Value) (c : Nat) (hcs : cs.toList = pcCells p) (hs : a.eval s = v) (hx : a.eval x = .slice (some ⟨W.heap.size, 0, none⟩) 1 c)
    (HO : Pcs base v ps W) (HB : Below B w0 W) (hBb : B ≤ base) (hbase : base ≤ W.heap.size) (hl : ps.length ≤ 1099511627776)
    (h : ∀ v1 w1, Pcs base v1 (ps ++ [p]) w1 → Below B w0 w1 → W.grownBy w1 v.ownBlock → wpList Tryz.prog ops Q rest (a.put o.dst v1) w1) :
    wpList Tryz.prog ops Q (o :: rest) a (W.alloc (.cells cs 73)) := by
  obtain ⟨i0, hi, hz0, hz1, hz2⟩ := info_parts pieceInfo
  refine wpList_append_own (W.alloc (.cells cs 73)) hgd s x 62 ho base 73 i0 (.agg #[.bool false, .string ⟨#[]⟩, .int .i64 0]) 3 32 Tryz.underlying62 hi hz0 hz1 hz2 rfl (by decide) v ps.length (ps.flatMap pcCells) hs (own_below HO ((Below.refl _ W).alloc (Nat.le_refl _) _))
    ⟨W.heap.size, 0, none⟩ 1 c (pcCells p) hx rfl ?_ ?_ (by simp only [maxLen]; omega) (by omega) (by simp; omega) ?_
  · rw [← hcs]
    exact World.news_of_block (cs := cs) (t := 73) (fr := (0, 0)) (heap_new W _)
  · intro u hu
    simp only [pcCells, List.mem_cons, List.not_mem_nil, or_false] at hu
    rcases hu with rfl | rfl | rfl <;> rfl
  · intro v1 w1 hown hg _
    refine h v1 w1 ?_ ((HB.alloc (Nat.le_trans hBb hbase) _).grown hg (by simp; omega) fun k hk => Nat.le_trans hBb (own_base HO k hk)) ((World.grownBy_alloc W _ _).trans hg)
    unfold Pcs
    rw [List.length_append, List.flatMap_append]
    simpa using hown
/-- append(ps, p) as a step of a region that draws its order; the literal's block is known whole -/
theorem step_appPiece {K : Act → World → Prop} {E : Prop} {w0 W : World} (B base : Nat) (hgd : o.guard = none) (s x : Operand)
    (ho : o.op = .call { callee := .builtin .append, args := #[s, x], argTypes := #[62, 62] })
    (v : Value) (ps : List Pc) (p : Pc) (L : Nat) (cs : Array Value) (fr : Nat × Nat) (c : Nat) (hcs : cs.toList = pcCells p) (hs : a.eval s = v) (hx : a.eval x = .slice (some ⟨L, 0, none⟩) 1 c)
    (hL : W.heap[L]? = some (.cells cs 73 fr)) (HO : Pcs base v ps W) (HB : Below B w0 W) (hBb : B ≤ base) (hbase : base ≤ W.heap.size) (hl : ps.length ≤ 1099511627776)
    (h : ∀ a1 c1 w1, Pcs base (.slice a1 (ps.length + 1) c1) (ps ++ [p]) w1 → Below B w0 w1 → W.grownBy w1 v.ownBlock → K (a.put o.dst (.slice a1 (ps.length + 1) c1)) w1) :
    if Region.wanted o (yielded ops a.tmps) = true then Oper.wp Tryz.prog o a W K Q else E := by
  obtain ⟨i0, hi, hz0, hz1, hz2⟩ := info_parts pieceInfo
  refine step_append_lies W hgd s x 62 ho base 73 i0 (.agg #[.bool false, .string ⟨#[]⟩, .int .i64 0]) 3 32 Tryz.underlying62 hi hz0 hz1 hz2 rfl (by decide) v ps.length (ps.flatMap pcCells) hs HO
    ⟨L, 0, none⟩ 1 c (pcCells p) hx rfl ?_ ?_ (by decide) (by simp only [maxLen]; omega) (by omega) hbase _ rfl ?_
  · rw [← hcs]
    exact World.news_of_block hL
  · intro u hu
    simp only [pcCells, List.mem_cons, List.not_mem_nil, or_false] at hu
    rcases hu with rfl | rfl | rfl <;> rfl
  · intro g cap w1 hown hg _ _
    refine h _ _ w1 ?_ (HB.grown hg (by omega) fun k hk => Nat.le_trans hBb (own_base HO k hk)) hg
    unfold Pcs
    rw [List.length_append, List.flatMap_append]
    simpa using hown
end
/-- the cursor with its pieces -/
def Cur (g : Nat) (s : ByteArray) (i : Nat) (tr : Bool) (ps : List Pc) (w : World) : Prop := ∃ v, CurB g s i tr v w ∧ Pcs (g + 1) v ps w

/-- how many bytes the text and the opening with its mark take -/
def textN (l : List UInt8) : Nat := if hasI [123, 123] l = true then cutI [123, 123] l + 2 + markN (l.drop (cutI [123, 123] l + 2)) else cutI [123, 123] l
/-- the text itself -/
def textT (l : List UInt8) (tr : Bool) : List UInt8 := if hasI [123, 123] l = true ∧ markL (l.drop (cutI [123, 123] l + 2)) = true then trimR (headT l tr) else headT l tr

theorem headT_len (l : List UInt8) (tr : Bool) : (headT l tr).length ≤ l.length := by
  unfold headT
  split
  · exact Nat.le_trans (trimL_len _) (by simp; omega)
  · simp; omega
theorem headT_cut (l : List UInt8) (tr : Bool) : headT l tr = if tr = true then trimL (l.take (cutI [123, 123] l)) else l.take (cutI [123, 123] l) := rfl
theorem textT_cut (l : List UInt8) (tr : Bool) (h : hasI [123, 123] l = true) : textT l tr = if markL (l.drop (cutI [123, 123] l + 2)) = true then trimR (headT l tr) else headT l tr := by
  unfold textT
  simp only [h, true_and]
theorem textT_none (l : List UInt8) (tr : Bool) (h : hasI [123, 123] l = false) : textT l tr = headT l tr := by
  unfold textT
  simp only [h, Bool.false_eq_true, false_and, if_false]
theorem textN_some {l : List UInt8} (h : hasI [123, 123] l = true) : textN l = cutI [123, 123] l + 2 + markN (l.drop (cutI [123, 123] l + 2)) := if_pos h
theorem textN_none {l : List UInt8} (h : hasI [123, 123] l = false) : textN l = cutI [123, 123] l := if_neg (by simp [h])

set_option maxRecDepth 100000 in
set_option maxHeartbeats 4000000 in
theorem text_calls (g : Nat) (s : ByteArray) (i : Nat) (tr : Bool) (ps : List Pc) (w : World) (hE : Env w) (hC : Cur g s i tr ps w) (hi : i ≤ s.size) (hs : s.size ≤ 65536) (hl : ps.length ≤ 1099511627775) :
    Calls Tryz.prog 79 #[.pointer (some ⟨g, 0, none⟩)] w fun e w' => e = .returned (.tuple #[]) ∧ Cur g s (i + textN (s.data.toList.drop i)) false (ps ++ txtP (textT (s.data.toList.drop i) tr) i) w' ∧ Below g w w' := by
  obtain ⟨v, hB, hP⟩ := hC
  have hbase : g + 1 ≤ w.heap.size := hB.lt
  have c1 := hB.cell 1 _ rfl
  obtain ⟨l, hl0⟩ : ∃ l, l = s.data.toList.drop i := ⟨_, rfl⟩
  have hll := congrArg List.length hl0
  rw [List.length_drop, size_list] at hll
  rw [← hl0]
  have HL := Lib.hid hl0
  clear hl0
  have HLL := Lib.hid hll
  clear hll
  cases hh : hasI [123, 123] l with
  | true =>
    obtain ⟨c, hc⟩ : ∃ c, c = cutI [123, 123] l := ⟨_, rfl⟩
    have hle := (cutI_some [123, 123] (by simp) l hh).2
    rw [← hc, HLL.out] at hle
    have hTN := textN_some hh
    have HC := Lib.hid hc
    have HH := Lib.hid hh
    have HTN := Lib.hid hTN
    have hle2 : i + c + 2 ≤ s.size := by simp only [List.length_cons, List.length_nil] at hle; omega
    clear hc hTN hh hle
    have hsl := fun W => run_slice_string (P := Tryz.prog) (w := W) 9 s .i64 .i64 (i : Int) ((i : Int) + c) Tryz.underlying9 (by omega) (by omega) (by omega)
    have e1 : ((i : Int) + (c : Int)).toNat = i + c := by omega
    simp only [e1, Int.toNat_natCast] at hsl
    clear e1
    go_enter Tryz.func79, Tryz.ntmps79
    go_wp2_with fail
    refine (rest_calls g s i tr v _ hB hi (by omega)).mono ?_
    rintro e w1 ⟨r, rfl, hr, hb1⟩
    rw [← HL.out] at hr
    have hB1 := hB.below hb1
    have hE1 := hE.below hb1
    have hg1 := grownBy_below (row := some g) hb1
    have hrs := hr.size
    rw [HLL.out] at hrs
    have HRS := Lib.hid hrs
    clear hrs
    go_wp2_with fail
    refine (index_calls r ⟨#[123, 123]⟩ l hr _ hE1 (by rw [HRS.out]; omega) (by simp)).mono ?_
    rw [show (⟨#[123, 123]⟩ : ByteArray).data.toList = [123, 123] from rfl, HH.out, if_pos rfl, ← HC.out]
    rintro e w2 ⟨rfl, rfl⟩
    have c0 := hB1.cell 0 _ rfl
    have c1 := hB1.cell 1 _ rfl
    have c2 := hB1.cell 2 _ rfl
    have f1 := hB1.free 1
    go_upto_if 48 with (fail)
    have hB2 := (hB1.goto ((i : Int) + c) (i + c) (by omega)).goto ((i : Int) + c + 2) (i + c + 2) (by omega)
    have hg2 := (hg1.trans (grownBy_set w1 g 1 (.int .i64 ((i : Int) + c)))).trans (grownBy_set _ g 1 (.int .i64 ((i : Int) + c + 2)))
    generalize (w1.setCell ⟨g, 1, none⟩ (.int .i64 ((i : Int) + c))).setCell ⟨g, 1, none⟩ (.int .i64 ((i : Int) + c + 2)) = w2 at *
    have ht0 : StrIs (s.extract i (i + c)) (l.take c) := by
      show _ = _
      rw [Lib.extract_data, HL.out, show i + c - i = c by omega]
    have ht0' := headT_cut l tr
    rw [← HC.out] at ht0'
    generalize s.extract i (i + c) = t0 at *
    clear c0 c1 c2 f1
    go_cut [5] (fun v5 wx => ∃ t, v5 = .string t ∧ StrIs t (headT l tr) ∧ CurB g s (i + c + 2) tr v wx ∧ w.grownBy wx (some g))
    case first =>
      cases tr with
      | true =>
        go_wp2_with fail
        refine (trimLeft_calls t0 _ ht0 _).mono ?_
        rintro e w3 ⟨t, rfl, ht, hb3⟩
        go_wp2
        go_meet
        exact ⟨t, rfl, by rw [ht0']; exact ht, hB2.below hb3, hg2.trans (grownBy_below hb3)⟩
      | false =>
        go_wp2
        go_meet
        exact ⟨t0, rfl, by rw [ht0']; exact ht0, hB2, hg2⟩
    case rest =>
    obtain ⟨t, rfl, ht, hB3, hg3⟩ := hcut
    clear hB2 hg2 ht0 ht0' hsl
    have hld : s.data.toList.drop (i + c + 2) = l.drop (c + 2) := by rw [HL.out, List.drop_drop, Nat.add_assoc]
    obtain ⟨d, hd⟩ : ∃ d, d = l.drop (c + 2) := ⟨_, rfl⟩
    have hmk := fun W hW => mark_calls g s (i + c + 2) tr v W hW (by omega) (by omega)
    rw [hld, ← hd] at hmk
    have hT := textT_cut l tr HH.out
    have hN := HTN.out
    rw [← HC.out, ← hd] at hT hN
    have HT := Lib.hid hT
    have HN := Lib.hid hN
    have HM := Lib.hid hmk
    clear hld hd hT hN hmk
    go_upto_if 55 with (go_at_call 105; refine (HM.out _ hB3).mono ?_; rintro e w4 ⟨rfl, hB4, hg4'⟩)
    have hg4 := hg3.trans hg4'
    clear hB3 hg3 hg4'
    go_cut [5] (fun v5 wx => ∃ t, v5 = .string t ∧ StrIs t (textT l tr) ∧ CurB g s (i + c + 2 + markN d) tr v wx ∧ w.grownBy wx (some g))
    case first =>
      cases hm : markL d with
      | true =>
        rw [hm, if_pos rfl] at HT
        go_wp2_with fail
        refine (trimRight_calls t _ ht _ (by rw [ht.size]; have := headT_len l tr; rw [HLL.out] at this; omega)).mono ?_
        rintro e w5 ⟨t', rfl, ht', hb5⟩
        go_wp2
        go_meet
        exact ⟨t', rfl, by rw [HT.out]; exact ht', hB4.below hb5, hg4.trans (grownBy_below hb5)⟩
      | false =>
        rw [hm, if_neg (by simp)] at HT
        go_wp2
        go_meet
        exact ⟨t, rfl, by rw [HT.out]; exact ht, hB4, hg4⟩
    case rest =>
    clear hB4 hg4 ht
    obtain ⟨t, rfl, ht, hB4, hg4⟩ := hcut
    have f2 := hB4.free 2
    have c2 := hB4.cell 2 _ rfl
    go_upto_region 14 with (fail)
    have hB5 := hB4.untrim
    have hg5 := hg4.trans (grownBy_set wc g 2 (.bool false))
    generalize wc.setCell ⟨g, 2, none⟩ (.bool false) = w5 at *
    clear c2 f2
    have c3 := hB5.cell 3 _ rfl
    have f3 := hB5.free 3
    have hne : v.ownBlock ≠ some g := fun h => by have := own_base hP g h; omega
    have hP5 : Pcs (g + 1) v ps w5 := World.ownsRow.kept hP hg5 (.inr hne)
    have hb5 : Below g w w5 := (Below.refl g w).grown hg5 (by omega) (fun k hk => by simp at hk; omega)
    have hz5 := hg5.size
    by_cases h0 : t.size = 0
    · have h1 := empty_test h0
      have h2 : textT l tr = [] := by rw [← ht]; exact nil_of_size h0
      go_wp2
      go_end0
      rw [HN.out, h2]
      exact ⟨rfl, ⟨v, by rw [← Nat.add_assoc, ← Nat.add_assoc]; exact hB5, by simpa [txtP] using hP5⟩, hb5⟩
    · have h1 := nonempty_test h0
      have h2 : textT l tr ≠ [] := fun h => h0 (by rw [ht.size, h]; rfl)
      have h3 : txtP (textT l tr) i = [⟨false, textT l tr, i⟩] := if_neg h2
      have HEQ := Lib.hid ht.eq
      have HH2 := Lib.hid h2
      clear h2 ht
      go_wp2_with (at_builtin; refine wp_appPiece g (g + 1) rfl (.tmp 67) (.tmp 71) rfl v ps ⟨false, textT l tr, i⟩ _ 1 ?hcs rfl rfl hP5 hb5 (by omega) (by omega) (by omega) ?_; (case hcs => rw [HEQ.out]; rfl); intro v6 w6 hP6 hb6 hg6; obtain ⟨sa, sc, rfl, -⟩ := own_slice hP6; have hB6 := hB5.grown hg6 (fun h => hne h.symm); have f6 := hB6.free 3; have c6 := hB6.cell 3 _ rfl)
      go_end0
      rw [HN.out, h3]
      have hlen : (ps ++ [(⟨false, textT l tr, i⟩ : Pc)]).length = ps.length + 1 := by simp
      rw [hlen] at hP6
      refine ⟨rfl, ⟨_, by rw [← Nat.add_assoc, ← Nat.add_assoc]; exact hB6.puts _, own_set hP6 (fun h => by have := own_base hP6 g h; omega) 3 _⟩, hb6.setCell (Nat.le_refl _) _⟩
  | false =>
    obtain ⟨c, hc⟩ : ∃ c, c = cutI [123, 123] l := ⟨_, rfl⟩
    have hcl := cutI_none [123, 123] l hh
    rw [← hc] at hcl
    have hTN := textN_none hh
    rw [← hc] at hTN
    have hTT := textT_none l tr hh
    have HTN := Lib.hid hTN
    have HTT := Lib.hid hTT
    have HH := Lib.hid hh
    have hcs : i + c = s.size := by rw [hcl, HLL.out]; omega
    have HCS := Lib.hid hcs
    have HC := Lib.hid hcl
    clear hcl hTN hTT hh hc
    have hcc : c ≤ s.size := by omega
    have hsl := fun W => run_slice_string (P := Tryz.prog) (w := W) 9 s .i64 .i64 (i : Int) ((i : Int) + c) Tryz.underlying9 (by omega) (by omega) (by omega)
    have e1 : ((i : Int) + (c : Int)).toNat = i + c := by omega
    simp only [e1, Int.toNat_natCast] at hsl
    clear e1 hcs
    go_enter Tryz.func79, Tryz.ntmps79
    go_wp2_with fail
    refine (rest_calls g s i tr v _ hB hi (by omega)).mono ?_
    rintro e w1 ⟨r, rfl, hr, hb1⟩
    rw [← HL.out] at hr
    have hB1 := hB.below hb1
    have hE1 := hE.below hb1
    have hg1 := grownBy_below (row := some g) hb1
    have hrs := hr.size
    rw [HLL.out] at hrs
    have HRS := Lib.hid hrs
    clear hrs
    go_wp2_with fail
    refine (index_calls r ⟨#[123, 123]⟩ l hr _ hE1 (by rw [HRS.out]; omega) (by simp)).mono ?_
    rw [show (⟨#[123, 123]⟩ : ByteArray).data.toList = [123, 123] from rfl, HH.out, if_neg (by simp)]
    rintro e w2 ⟨rfl, rfl⟩
    go_wp2_with fail
    refine (rest_calls g s i tr v _ hB1 hi (by omega)).mono ?_
    rintro e w2 ⟨r2, rfl, hr2, hb2⟩
    have hB1' := hB1.below hb2
    have hg1' := hg1.trans (grownBy_below (row := some g) hb2)
    have hr2s : (r2.size : Int) = c := by
      have := hr2.size
      rw [← HL.out, ← HC.out] at this
      omega
    clear hB1 hg1 hr2 hb2 hr hb1
    have hB1 := hB1'
    have hg1 := hg1'
    clear hB1' hg1'
    have c0 := hB1.cell 0 _ rfl
    have c1 := hB1.cell 1 _ rfl
    have c2 := hB1.cell 2 _ rfl
    have f1 := hB1.free 1
    go_upto_if 48 with (fail)
    have hB2 := hB1.goto ((i : Int) + c) (i + c) (by omega)
    have hg2 := hg1.trans (grownBy_set w2 g 1 (.int .i64 ((i : Int) + c)))
    generalize w2.setCell ⟨g, 1, none⟩ (.int .i64 ((i : Int) + c)) = w3 at *
    have ht0 : StrIs (s.extract i (i + c)) (l.take c) := by
      show _ = _
      rw [Lib.extract_data, HL.out, show i + c - i = c by omega]
    have ht0' := headT_cut l tr
    rw [cutI_none [123, 123] l HH.out, ← HC.out] at ht0'
    generalize s.extract i (i + c) = t0 at *
    clear c0 c1 c2 f1
    go_cut [5] (fun v5 wx => ∃ t, v5 = .string t ∧ StrIs t (headT l tr) ∧ CurB g s (i + c) tr v wx ∧ w.grownBy wx (some g))
    case first =>
      cases tr with
      | true =>
        go_wp2_with fail
        refine (trimLeft_calls t0 _ ht0 _).mono ?_
        rintro e w3 ⟨t, rfl, ht, hb3⟩
        go_wp2
        go_meet
        exact ⟨t, rfl, by rw [ht0']; exact ht, hB2.below hb3, hg2.trans (grownBy_below hb3)⟩
      | false =>
        go_wp2
        go_meet
        exact ⟨t0, rfl, by rw [ht0']; exact ht0, hB2, hg2⟩
    case rest =>
    clear hB2 hg2 ht0 ht0' hsl hB1 hg1 hB
    obtain ⟨t, rfl, ht, hB4, hg4⟩ := hcut
    rw [← HTT.out] at ht
    have f2 := hB4.free 2
    have c2 := hB4.cell 2 _ rfl
    go_upto_region 14 with (fail)
    have hB5 := hB4.untrim
    have hg5 := hg4.trans (grownBy_set wc g 2 (.bool false))
    generalize wc.setCell ⟨g, 2, none⟩ (.bool false) = w5 at *
    clear c2 f2
    have c3 := hB5.cell 3 _ rfl
    have f3 := hB5.free 3
    have hne : v.ownBlock ≠ some g := fun h => by have := own_base hP g h; omega
    have hP5 : Pcs (g + 1) v ps w5 := World.ownsRow.kept hP hg5 (.inr hne)
    have hb5 : Below g w w5 := (Below.refl g w).grown hg5 (by omega) (fun k hk => by simp at hk; omega)
    have hz5 := hg5.size
    by_cases h0 : t.size = 0
    · have h1 := empty_test h0
      have h2 : textT l tr = [] := by rw [← ht]; exact nil_of_size h0
      go_wp2
      go_end0
      rw [HTN.out, h2]
      exact ⟨rfl, ⟨v, hB5, by simpa [txtP] using hP5⟩, hb5⟩
    · have h1 := nonempty_test h0
      have h2 : textT l tr ≠ [] := fun h => h0 (by rw [ht.size, h]; rfl)
      have h3 : txtP (textT l tr) i = [⟨false, textT l tr, i⟩] := if_neg h2
      have HEQ := Lib.hid ht.eq
      have HH2 := Lib.hid h2
      clear h2 ht
      go_wp2_with (at_builtin; refine wp_appPiece g (g + 1) rfl (.tmp 67) (.tmp 71) rfl v ps ⟨false, textT l tr, i⟩ _ 1 ?hcs rfl rfl hP5 hb5 (by omega) (by omega) (by omega) ?_; (case hcs => rw [HEQ.out]; rfl); intro v6 w6 hP6 hb6 hg6; obtain ⟨sa, sc, rfl, -⟩ := own_slice hP6; have hB6 := hB5.grown hg6 (fun h => hne h.symm); have f6 := hB6.free 3; have c6 := hB6.cell 3 _ rfl)
      go_end0
      rw [HTN.out, h3]
      have hlen : (ps ++ [(⟨false, textT l tr, i⟩ : Pc)]).length = ps.length + 1 := by simp
      rw [hlen] at hP6
      refine ⟨rfl, ⟨_, hB6.puts _, own_set hP6 (fun h => by have := own_base hP6 g h; omega) 3 _⟩, hb6.setCell (Nat.le_refl _) _⟩
end Go.Proofs.YtbcddlheikdlkaaGreatDoor.S
/-
  THE WALK of package lex's end.
-/
set_option linter.unusedVariables false
set_option linter.unusedSimpArgs false
namespace Go.Proofs.YtbcddlheikdlkaaGreatDoor.S
open Go.RowKit

theorem pre2 (x y : UInt8) (l : List UInt8) : List.isPrefixOf [x, y] l = (decide (2 ≤ l.length) && (x == l.getD 0 0 && y == l.getD 1 0)) := by
  match l with
  | [] => rfl
  | [a] => simp [List.isPrefixOf]
  | a :: b :: r => simp [List.isPrefixOf]
theorem prefix_calls (s p : ByteArray) (l : List UInt8) (h : StrIs s l) (w : World) :
    Calls Tryz.prog 81 #[.string s, .string p] w fun e w' => e = .returned (.bool (List.isPrefixOf p.data.toList l)) ∧ w = w' := by
  rw [← h]
  exact (Tryz.strings_HasPrefix _ _ _).mono fun _ _ ⟨he, hw⟩ => ⟨he, hw.symm⟩

set_option maxHeartbeats 4000000 in
theorem end_calls (s : ByteArray) (w : World) (hs : s.size ≤ 4611686018427387904) :
    Calls Tryz.prog 109 #[.string s] w fun e w' => e = .returned (.int .i64 (endZ (endL false s.data.toList) 0)) ∧ w = w' := by
  obtain ⟨T, hT⟩ : ∃ T, T = endZ (endL false s.data.toList) 0 := ⟨_, rfl⟩
  rw [← hT]
  have HT := Lib.hid hT
  clear hT
  go_enter Tryz.func109, Tryz.ntmps109
  go_wp2
  go_loopg [3] (s.size + 2) (fun gk v3 wr => ∃ i : Nat, i + gk = s.size + 2 ∧ v3 = .int .i64 i ∧ Hid (endZ (endL false (s.data.toList.drop i)) i = T) ∧ w = wr)
  case atStart => exact ⟨0, by omega, rfl, HT.out.symm, rfl⟩
  case round =>
    obtain ⟨i, hig, rfl, hi, rfl⟩ := hrel
    have HIG := Lib.hid hig
    clear hig
    by_cases h : i < s.size
    · have hdc := drop_cons s i h
      obtain ⟨b, hb⟩ : ∃ b : UInt8, b = s[i]'h := ⟨_, rfl⟩
      have hbt : ∀ h', ((s[i]'h').toNat : Nat) = b.toNat := fun h' => by rw [hb]
      rw [← hb] at hdc
      have hlt := b.toNat_lt
      have hst := endL_false b (s.data.toList.drop (i + 1)) i
      rw [← hdc, hi.out] at hst
      have hpc := fun W => prefix_calls (s.extract i s.size) ⟨#[125, 125]⟩ _ (extract_end s i) W
      have hq : b = 34 ↔ b.toNat = 34 := ⟨fun h => by rw [h]; rfl, fun h => UInt8.toNat_inj.1 h⟩
      have HC := Lib.hid hpc
      clear hdc hb hpc hi
      cases hp : List.isPrefixOf [125, 125] (s.data.toList.drop i) with
      | true =>
        rw [hp, if_pos rfl] at hst
        have HST := Lib.hid hst
        clear hst hq
        go_wp2_with (go_at_call 81; refine (HC.out _).mono ?_; rintro e w1 ⟨rfl, rfl⟩)
        go_ret
        exact ⟨ret_int HST.out.symm, rfl⟩
      | false =>
        rw [hp, if_neg (by simp)] at hst
        by_cases h34 : b.toNat = 34
        · have h34b : ((b.toNat : Int) == 34) = true := beq_iff_eq.2 (by omega)
          rw [if_pos (hq.2 h34)] at hst
          have HST := Lib.hid hst
          clear hst hq h34
          go_wp2_with (go_at_call 81; refine (HC.out _).mono ?_; rintro e w1 ⟨rfl, rfl⟩)
          go_loopg [3] (s.size - i) (fun gi v3 wr => ∃ j : Nat, j + gi = s.size + 1 ∧ i < j ∧ v3 = .int .i64 j ∧ Hid (endZ (endL true (s.data.toList.drop j)) j = T) ∧ w = wr)
          case atStart => exact ⟨i + 1, by omega, by omega, by go_num, HST.out.symm, rfl⟩
          case round =>
            obtain ⟨j, hjg, hij, rfl, hj, rfl⟩ := hrel
            have HJG := Lib.hid hjg
            clear hjg
            clear hbt hlt
            by_cases h : j < s.size
            · have hdc := drop_cons s j h
              obtain ⟨b, hb⟩ : ∃ b : UInt8, b = s[j]'h := ⟨_, rfl⟩
              have hbt : ∀ h', ((s[j]'h').toNat : Nat) = b.toNat := fun h' => by rw [hb]
              rw [← hb] at hdc
              have hlt := b.toNat_lt
              have hst := endL_true b (s.data.toList.drop (j + 1)) j
              rw [← hdc, hj.out] at hst
              have hq : b = 34 ↔ b.toNat = 34 := ⟨fun h => by rw [h]; rfl, fun h => UInt8.toNat_inj.1 h⟩
              have hq2 : b = 92 ↔ b.toNat = 92 := ⟨fun h => by rw [h]; rfl, fun h => UInt8.toNat_inj.1 h⟩
              clear hdc hb hj
              by_cases h34 : b.toNat = 34
              · have h34b : ((b.toNat : Int) == 34) = true := beq_iff_eq.2 (by omega)
                rw [if_neg (fun h => by have := hq2.1 h; omega), if_pos (hq.2 h34)] at hst
                have HST2 := Lib.hid hst
                clear hst hq hq2 h34
                go_wp2
                go_roundg (s.size + 1 - j)
                case measure => have := HIG.out; omega
                case rel => exact ⟨j + 1, by omega, by go_num, HST2.out.symm, rfl⟩
              · have h34b : ((b.toNat : Int) == 34) = false := beq_eq_false_iff_ne.2 (by omega)
                by_cases h92 : b.toNat = 92
                · have h92b : ((b.toNat : Int) == 92) = true := beq_iff_eq.2 (by omega)
                  rw [if_pos (hq2.2 h92)] at hst
                  rw [List.drop_drop] at hst
                  have HST2 := Lib.hid hst
                  clear hst hq hq2 h34 h92
                  go_wp2
                  go_roundg (gk - 2)
                  case measure => have := HJG.out; omega
                  case rel => exact ⟨j + 2, by have := HJG.out; omega, by omega, by go_num, HST2.out.symm, rfl⟩
                · have h92b : ((b.toNat : Int) == 92) = false := beq_eq_false_iff_ne.2 (by omega)
                  rw [if_neg (fun h => h92 (hq2.1 h)), if_neg (fun h => h34 (hq.1 h))] at hst
                  have HST2 := Lib.hid hst
                  clear hst hq hq2 h34 h92
                  go_wp2
                  go_roundg (gk - 1)
                  case measure => have := HJG.out; omega
                  case rel => exact ⟨j + 1, by have := HJG.out; omega, by omega, by go_num, HST2.out.symm, rfl⟩
            · have hj2 : j ≤ s.size + 1 := by have := HJG.out; omega
              have e : s.data.toList.drop j = [] := List.drop_eq_nil_of_le (by rw [size_list]; omega)
              have e2 : s.data.toList.drop (j + 1) = [] := List.drop_eq_nil_of_le (by rw [size_list]; omega)
              have ht := hj.out
              rw [e] at ht
              have HT2 := Lib.hid ht
              have E2 := Lib.hid e2
              clear e e2 ht hj
              go_wp2
              go_roundg (s.size + 1 - j)
              case measure => have := HIG.out; omega
              case rel => exact ⟨j + 1, by have := HJG.out; omega, by go_num, by rw [E2.out]; exact HT2.out, rfl⟩
        · have h34b : ((b.toNat : Int) == 34) = false := beq_eq_false_iff_ne.2 (by omega)
          rw [if_neg (fun h => h34 (hq.1 h))] at hst
          have HST := Lib.hid hst
          clear hst hq h34
          go_wp2_with (go_at_call 81; refine (HC.out _).mono ?_; rintro e w1 ⟨rfl, rfl⟩)
          go_roundg (gk - 1)
          case measure => have := HIG.out; omega
          case rel => exact ⟨i + 1, by have := HIG.out; omega, by go_num, HST.out.symm, rfl⟩
    · have e : s.data.toList.drop i = [] := List.drop_eq_nil_of_le (by rw [size_list]; omega)
      have ht := hi.out
      rw [e] at ht
      have HT2 := Lib.hid ht
      clear e ht hi
      go_wp2
      go_ret
      exact ⟨ret_int HT2.out, rfl⟩
end Go.Proofs.YtbcddlheikdlkaaGreatDoor.S
/-
  THE WALK of package lex's comment.
-/
set_option linter.unusedVariables false
set_option linter.unusedSimpArgs false
namespace Go.Proofs.YtbcddlheikdlkaaGreatDoor.S
open Go.RowKit

theorem comL_has {l : List UInt8} (h : hasI [42, 47] l = true) : comL l =
    (let j := cutI [42, 47] l + 2
     let k := blkN (l.drop j)
     let tr := decide (0 < k) && List.isPrefixOf [45] (l.drop (j + k))
     let m := if tr = true then j + k + 1 else j + k
     if List.isPrefixOf [125, 125] (l.drop m) = true then some (m + 2, tr) else none) := by
  unfold comL
  rw [if_pos h]
theorem comL_not {l : List UInt8} (h : hasI [42, 47] l = false) : comL l = none := by
  unfold comL
  rw [if_neg (by simp [h])]
theorem pre_len {p l : List UInt8} (h : List.isPrefixOf p l = true) : p.length ≤ l.length := List.IsPrefix.length_le (List.isPrefixOf_iff_prefix.1 h)

set_option maxRecDepth 100000 in
set_option maxHeartbeats 4000000 in
theorem comment_calls (g : Nat) (s : ByteArray) (i : Nat) (ps : List Pc) (w : World) (hE : EnvAt g w) (hC : Cur g s i false ps w) (hi : i + 2 ≤ s.size) (hs : s.size ≤ 65536) :
    Calls Tryz.prog 82 #[.pointer (some ⟨g, 0, none⟩)] w fun e w' => ∃ b, e = .returned (.bool b) ∧ Below g w w' ∧ (∀ n tr, comL (s.data.toList.drop (i + 2)) = some (n, tr) → b = true ∧ i + 2 + n ≤ s.size ∧ Cur g s (i + 2 + n) tr ps w') ∧ (comL (s.data.toList.drop (i + 2)) = none → b = false) := by
  obtain ⟨v, hB, hP⟩ := hC
  have hbase : g + 1 ≤ w.heap.size := hB.lt
  have hne : v.ownBlock ≠ some g := fun h => by have := own_base hP g h; omega
  obtain ⟨l, hl0⟩ : ∃ l, l = s.data.toList.drop (i + 2) := ⟨_, rfl⟩
  have hll := congrArg List.length hl0
  rw [List.length_drop, size_list] at hll
  rw [← hl0]
  have HL := Lib.hid hl0
  have HLL := Lib.hid hll
  clear hl0 hll
  have c1 := hB.cell 1 _ rfl
  have f1 := hB.free 1
  go_enter Tryz.func82, Tryz.ntmps82
  go_wp2_with fail
  have hB1 := hB.goto ((i : Int) + 2) (i + 2) (by omega)
  have hg1 := grownBy_set w g 1 (.int .i64 ((i : Int) + 2))
  generalize w.setCell ⟨g, 1, none⟩ (.int .i64 ((i : Int) + 2)) = w1 at *
  clear c1 f1
  refine (rest_calls g s (i + 2) false v _ hB1 hi (by omega)).mono ?_
  rintro e w2 ⟨r, rfl, hr, hb2⟩
  have hB2 := hB1.below hb2
  have hg2 := hg1.trans (grownBy_below (row := some g) hb2)
  have hE2 := hE.below (Below.grow1 hg2 (by omega) (Nat.le_refl g))
  rw [← HL.out] at hr
  have hrs := hr.size
  rw [HLL.out] at hrs
  have HRS := Lib.hid hrs
  clear hrs
  go_wp2_with fail
  refine (index_calls r ⟨#[42, 47]⟩ l hr _ hE2.env (by rw [HRS.out]; omega) (by simp)).mono ?_
  rw [show (⟨#[42, 47]⟩ : ByteArray).data.toList = [42, 47] from rfl]
  cases hh : hasI [42, 47] l with
  | false =>
    rw [if_neg (by simp)]
    have hcn := comL_not hh
    have HCN := Lib.hid hcn
    clear hcn hh
    rintro e w3 ⟨rfl, rfl⟩
    go_wp2
    go_ret
    exact ⟨_, rfl, Below.grow1 hg2 (by omega) (Nat.le_refl g), fun n tr h => (by rw [HCN.out] at h; cases h), fun _ => rfl⟩
  | true =>
    rw [if_pos rfl]
    have hcm := comL_has hh
    dsimp only at hcm
    have hle := (cutI_some [42, 47] (by simp) l hh).2
    obtain ⟨c, hc⟩ : ∃ c, c = cutI [42, 47] l := ⟨_, rfl⟩
    rw [← hc] at hcm hle ⊢
    simp only [List.length_cons, List.length_nil] at hle
    have hle2 : i + 2 + c + 2 ≤ s.size := by rw [HLL.out] at hle; omega
    obtain ⟨k, hk⟩ : ∃ k, k = blkN (l.drop (c + 2)) := ⟨_, rfl⟩
    have hkl := blkN_le (l.drop (c + 2))
    rw [List.length_drop, HLL.out] at hkl
    rw [← hk] at hcm hkl
    have hld : s.data.toList.drop (i + 2 + c + 2) = l.drop (c + 2) := by rw [HL.out, List.drop_drop]; congr 1
    have hsk := fun W hW => skip_calls g s (i + 2 + c + 2) false v W hW (by omega) (by omega)
    rw [hld, ← hk] at hsk
    have HCM := Lib.hid hcm
    have HSK := Lib.hid hsk
    clear hcm hsk hk hh hc hld hle
    rintro e w3 ⟨rfl, rfl⟩
    have c1 := hB2.cell 1 _ rfl
    have f1 := hB2.free 1
    go_wp2_with fail
    have hB3 := hB2.goto ((i : Int) + 2 + ((c : Int) + 2)) (i + 2 + c + 2) (by omega)
    have hg3 := hg2.trans (grownBy_set w2 g 1 (.int .i64 ((i : Int) + 2 + ((c : Int) + 2))))
    generalize w2.setCell ⟨g, 1, none⟩ (.int .i64 ((i : Int) + 2 + ((c : Int) + 2))) = w3 at *
    clear c1 f1
    refine (HSK.out _ hB3).mono ?_
    rintro e w4 ⟨rfl, hB4, hg4'⟩
    have hg4 := hg3.trans hg4'
    clear hB3 hg3 hg4' HSK
    cases htr : (decide (0 < k) && List.isPrefixOf [45] (l.drop (c + 2 + k))) with
    | true =>
      rw [Bool.and_eq_true] at htr
      obtain ⟨hk0, hpm⟩ := htr
      have hcm := HCM.out
      rw [hk0, hpm] at hcm
      simp only [Bool.and_self, if_true] at hcm
      have HCM := Lib.hid hcm
      clear hcm
      have hpl := pre_len hpm
      rw [List.length_drop, HLL.out] at hpl
      simp only [List.length_cons, List.length_nil] at hpl
      have hi4 : i + 2 + c + 2 + k + 1 ≤ s.size := by omega
      clear hpl hkl
      go_wp2_with fail
      refine (rest_calls g s (i + 2 + c + 2 + k) false v _ hB4 (by omega) (by omega)).mono ?_
      rintro e w5 ⟨r5, rfl, hr5, hb5⟩
      have hB5 := hB4.below hb5
      have hg5 := hg4.trans (grownBy_below (row := some g) hb5)
      have hld : s.data.toList.drop (i + 2 + c + 2 + k) = l.drop (c + 2 + k) := by rw [HL.out, List.drop_drop]; congr 1; omega
      rw [hld] at hr5
      clear hld
      go_wp2_with fail
      refine (prefix_calls r5 ⟨#[45]⟩ _ hr5 _).mono ?_
      rw [show (⟨#[45]⟩ : ByteArray).data.toList = [45] from rfl, hpm]
      rintro e w6 ⟨rfl, rfl⟩
      have c1 := hB5.cell 1 _ rfl
      have f1 := hB5.free 1
      have c2 := hB5.cell 2 _ rfl
      have f2 := hB5.free 2
      go_wp2_with fail
      have hB6 := (hB5.goto ((i : Int) + 2 + c + 2 + k + 1) (i + 2 + c + 2 + k + 1) (by omega)).trims
      have hg6 := (hg5.trans (grownBy_set w5 g 1 (.int .i64 ((i : Int) + 2 + c + 2 + k + 1)))).trans (grownBy_set _ g 2 (.bool true))
      generalize (w5.setCell ⟨g, 1, none⟩ (.int .i64 ((i : Int) + 2 + c + 2 + k + 1))).setCell ⟨g, 2, none⟩ (.bool true) = w6 at *
      clear c1 f1 c2 f2 hr5 hb5 hB5 hg5 hB4 hg4
      refine (rest_calls g s (i + 2 + c + 2 + k + 1) true v _ hB6 (by omega) (by omega)).mono ?_
      rintro e w7 ⟨r7, rfl, hr7, hb7⟩
      have hB7 := hB6.below hb7
      have hg7 := hg6.trans (grownBy_below (row := some g) hb7)
      have hld : s.data.toList.drop (i + 2 + c + 2 + k + 1) = l.drop (c + 2 + k + 1) := by rw [HL.out, List.drop_drop]; congr 1; omega
      rw [hld] at hr7
      clear hld
      go_wp2_with fail
      refine (prefix_calls r7 ⟨#[125, 125]⟩ _ hr7 _).mono ?_
      rw [show (⟨#[125, 125]⟩ : ByteArray).data.toList = [125, 125] from rfl]
      have hcm := HCM.out
      cases hpe : List.isPrefixOf [125, 125] (l.drop (c + 2 + k + 1)) with
      | true =>
        rw [hpe, if_pos rfl] at hcm
        have HCM := Lib.hid hcm
        have hpl := pre_len hpe
        rw [List.length_drop, HLL.out] at hpl
        simp only [List.length_cons, List.length_nil] at hpl
        have hi7 : i + 2 + c + 2 + k + 1 + 2 ≤ s.size := by omega
        clear hcm hpl
        rintro e w8 ⟨rfl, rfl⟩
        have c1 := hB7.cell 1 _ rfl
        have f1 := hB7.free 1
        go_wp2
        go_ret
        refine ⟨_, rfl, Below.grow1 (hg7.trans (grownBy_set _ g 1 _)) (by omega) (Nat.le_refl g), fun n tr h => ?_, fun h => ?_⟩
        · rw [HCM.out] at h
          cases h
          refine ⟨rfl, by omega, v, ?_, ?_⟩
          · exact hB7.goto _ _ (by omega)
          · exact own_set (World.ownsRow.kept hP hg7 (.inr hne)) hne 1 _
        · rw [HCM.out] at h
          cases h
      | false =>
        rw [hpe, if_neg (by simp)] at hcm
        have HCM := Lib.hid hcm
        clear hcm
        rintro e w8 ⟨rfl, rfl⟩
        go_wp2
        go_ret
        exact ⟨_, rfl, Below.grow1 hg7 (by omega) (Nat.le_refl g), fun n tr h => (by rw [HCM.out] at h; cases h), fun _ => rfl⟩
    | false =>
      have hcm := HCM.out
      rw [htr] at hcm
      simp only [Bool.false_eq_true, if_false] at hcm
      have HCM := Lib.hid hcm
      clear hcm
      have hi4 : i + 2 + c + 2 + k ≤ s.size := by omega
      clear hkl
      cases hk0 : decide (0 < k) with
      | true =>
        rw [hk0, Bool.true_and] at htr
        go_wp2_with fail
        refine (rest_calls g s (i + 2 + c + 2 + k) false v _ hB4 (by omega) (by omega)).mono ?_
        rintro e w5 ⟨r5, rfl, hr5, hb5⟩
        have hB6 := hB4.below hb5
        have hg6 := hg4.trans (grownBy_below (row := some g) hb5)
        have hld : s.data.toList.drop (i + 2 + c + 2 + k) = l.drop (c + 2 + k) := by rw [HL.out, List.drop_drop]; congr 1; omega
        rw [hld] at hr5
        clear hld
        go_wp2_with fail
        refine (prefix_calls r5 ⟨#[45]⟩ _ hr5 _).mono ?_
        rw [show (⟨#[45]⟩ : ByteArray).data.toList = [45] from rfl, htr]
        rintro e w6 ⟨rfl, rfl⟩
        clear hB4 hg4
        go_wp2_with fail
        refine (rest_calls g s (i + 2 + c + 2 + k) false v _ hB6 (by omega) (by omega)).mono ?_
        rintro e w7 ⟨r7, rfl, hr7, hb7⟩
        have hB7 := hB6.below hb7
        have hg7 := hg6.trans (grownBy_below (row := some g) hb7)
        have hld : s.data.toList.drop (i + 2 + c + 2 + k) = l.drop (c + 2 + k) := by rw [HL.out, List.drop_drop]; congr 1; omega
        rw [hld] at hr7
        clear hld
        go_wp2_with fail
        refine (prefix_calls r7 ⟨#[125, 125]⟩ _ hr7 _).mono ?_
        rw [show (⟨#[125, 125]⟩ : ByteArray).data.toList = [125, 125] from rfl]
        have hcm := HCM.out
        cases hpe : List.isPrefixOf [125, 125] (l.drop (c + 2 + k)) with
        | true =>
          rw [hpe, if_pos rfl] at hcm
          have HCM := Lib.hid hcm
          have hpl := pre_len hpe
          rw [List.length_drop, HLL.out] at hpl
          simp only [List.length_cons, List.length_nil] at hpl
          have hi7 : i + 2 + c + 2 + k + 2 ≤ s.size := by omega
          clear hcm hpl
          rintro e w8 ⟨rfl, rfl⟩
          have c1 := hB7.cell 1 _ rfl
          have f1 := hB7.free 1
          go_wp2
          go_ret
          refine ⟨_, rfl, Below.grow1 (hg7.trans (grownBy_set _ g 1 _)) (by omega) (Nat.le_refl g), fun n tr h => ?_, fun h => ?_⟩
          · rw [HCM.out] at h
            cases h
            refine ⟨rfl, by omega, v, ?_, ?_⟩
            · exact hB7.goto _ _ (by omega)
            · exact own_set (World.ownsRow.kept hP hg7 (.inr hne)) hne 1 _
          · rw [HCM.out] at h
            cases h
        | false =>
          rw [hpe, if_neg (by simp)] at hcm
          have HCM := Lib.hid hcm
          clear hcm
          rintro e w8 ⟨rfl, rfl⟩
          go_wp2
          go_ret
          exact ⟨_, rfl, Below.grow1 hg7 (by omega) (Nat.le_refl g), fun n tr h => (by rw [HCM.out] at h; cases h), fun _ => rfl⟩
      | false =>
        have hB6 := hB4
        have hg6 := hg4
        clear hB4 hg4
        go_wp2_with fail
        refine (rest_calls g s (i + 2 + c + 2 + k) false v _ hB6 (by omega) (by omega)).mono ?_
        rintro e w7 ⟨r7, rfl, hr7, hb7⟩
        have hB7 := hB6.below hb7
        have hg7 := hg6.trans (grownBy_below (row := some g) hb7)
        have hld : s.data.toList.drop (i + 2 + c + 2 + k) = l.drop (c + 2 + k) := by rw [HL.out, List.drop_drop]; congr 1; omega
        rw [hld] at hr7
        clear hld
        go_wp2_with fail
        refine (prefix_calls r7 ⟨#[125, 125]⟩ _ hr7 _).mono ?_
        rw [show (⟨#[125, 125]⟩ : ByteArray).data.toList = [125, 125] from rfl]
        have hcm := HCM.out
        cases hpe : List.isPrefixOf [125, 125] (l.drop (c + 2 + k)) with
        | true =>
          rw [hpe, if_pos rfl] at hcm
          have HCM := Lib.hid hcm
          have hpl := pre_len hpe
          rw [List.length_drop, HLL.out] at hpl
          simp only [List.length_cons, List.length_nil] at hpl
          have hi7 : i + 2 + c + 2 + k + 2 ≤ s.size := by omega
          clear hcm hpl
          rintro e w8 ⟨rfl, rfl⟩
          have c1 := hB7.cell 1 _ rfl
          have f1 := hB7.free 1
          go_wp2
          go_ret
          refine ⟨_, rfl, Below.grow1 (hg7.trans (grownBy_set _ g 1 _)) (by omega) (Nat.le_refl g), fun n tr h => ?_, fun h => ?_⟩
          · rw [HCM.out] at h
            cases h
            refine ⟨rfl, by omega, v, ?_, ?_⟩
            · exact hB7.goto _ _ (by omega)
            · exact own_set (World.ownsRow.kept hP hg7 (.inr hne)) hne 1 _
          · rw [HCM.out] at h
            cases h
        | false =>
          rw [hpe, if_neg (by simp)] at hcm
          have HCM := Lib.hid hcm
          clear hcm
          rintro e w8 ⟨rfl, rfl⟩
          go_wp2
          go_ret
          exact ⟨_, rfl, Below.grow1 hg7 (by omega) (Nat.le_refl g), fun n tr h => (by rw [HCM.out] at h; cases h), fun _ => rfl⟩
end Go.Proofs.YtbcddlheikdlkaaGreatDoor.S
/-
  THE WALK of package lex's action.
-/
set_option linter.unusedVariables false
set_option linter.unusedSimpArgs false
namespace Go.Proofs.YtbcddlheikdlkaaGreatDoor.S
open Go.RowKit

theorem endL_len : ∀ (t : Bool) (l : List UInt8) (m : Nat), endL t l = some m → m + 2 ≤ l.length
  | _, [], _, h => by rw [endL.eq_def] at h; cases h
  | false, b :: r, m, h => by
    rw [endL.eq_def] at h
    dsimp only at h
    split at h
    · rename_i hp
      have := List.IsPrefix.length_le (List.isPrefixOf_iff_prefix.1 hp)
      cases h
      simpa using this
    · split at h
      · cases hr : endL true r with
        | none => rw [hr] at h; cases h
        | some n => rw [hr] at h; cases h; have := endL_len true r n hr; simp; omega
      · cases hr : endL false r with
        | none => rw [hr] at h; cases h
        | some n => rw [hr] at h; cases h; have := endL_len false r n hr; simp; omega
  | true, b :: r, m, h => by
    rw [endL.eq_def] at h
    dsimp only at h
    split at h
    · cases r with
      | nil => cases h
      | cons d r' =>
        dsimp only at h
        cases hr : endL true r' with
        | none => rw [hr] at h; cases h
        | some n => rw [hr] at h; cases h; have := endL_len true r' n hr; simp; omega
    · split at h
      · cases hr : endL false r with
        | none => rw [hr] at h; cases h
        | some n => rw [hr] at h; cases h; have := endL_len false r n hr; simp; omega
      · cases hr : endL true r with
        | none => rw [hr] at h; cases h
        | some n => rw [hr] at h; cases h; have := endL_len true r n hr; simp; omega

theorem index_at (T : ByteArray) (x : Int) (n c : Nat) (hx : x.toNat = n) (h : ∀ h' : n < T.size, ((T[n]'h').toNat : Nat) = c) : ∀ h' : x.toNat < T.size, ((T[x.toNat]'h').toNat : Nat) = c := by
  subst hx
  exact h

theorem Blk.alloc {g : Nat} {T : TypeId} {cs : List Value} {w : World} (h : Blk g T cs w) (o : Obj) : Blk g T cs (w.alloc o) := h.below ((Below.refl _ w).alloc (Nat.le_refl _) o)
theorem after_trim {g : Nat} {s : ByteArray} {i : Nat} {tr : Bool} {v : Value} {ps : List Pc} {w wc w5 : World} (hB : CurB g s i tr v wc) (hP : Pcs (g + 1) v ps wc) (hb : Below g w wc) (h5 : Below wc.drew.heap.size wc.drew w5) (hz : g + 1 ≤ wc.heap.size) :
    CurB g s i tr v w5 ∧ (∀ o, Pcs (g + 1) v ps (w5.alloc o)) ∧ (∀ o, Below g w (w5.alloc o)) ∧ ∀ o, g + 1 ≤ (w5.alloc o).heap.size := by
  have hz5 : wc.heap.size ≤ w5.heap.size := h5.size
  have h1 : Pcs (g + 1) v ps w5 := own_below (World.ownsRow.drew hP) h5
  have h2 : Below g w w5 := hb.drew.trans (h5.mono (Nat.le_trans (Nat.le_succ g) hz))
  refine ⟨Blk.below (Blk.drew hB) h5, fun o => World.ownsRow.alloc h1 o, fun o => h2.alloc (by omega) o, fun o => ?_⟩
  show g + 1 ≤ (w5.heap.push o).size
  simp
  omega

set_option maxRecDepth 100000 in
set_option maxHeartbeats 4000000 in
theorem action_calls (g : Nat) (s : ByteArray) (i from_ : Nat) (ps : List Pc) (w : World) (hE : EnvAt g w) (hC : Cur g s i false ps w) (hi : i ≤ s.size) (hs : s.size ≤ 65536) (hl : ps.length ≤ 1099511627775) :
    Calls Tryz.prog 83 #[.pointer (some ⟨g, 0, none⟩), .int .i64 from_] w fun e w' => ∃ b, e = .returned (.bool b) ∧ Below g w w' ∧ (∀ m, endL false (s.data.toList.drop i) = some m → b = true ∧ i + m + 2 ≤ s.size ∧ Cur g s (i + m + 2) (actTrims ((s.data.toList.drop i).take m)) (ps ++ [⟨true, actText ((s.data.toList.drop i).take m), from_⟩]) w') ∧ (endL false (s.data.toList.drop i) = none → b = false) := by
  obtain ⟨v, hB, hP⟩ := hC
  have hbase : g + 1 ≤ w.heap.size := hB.lt
  have hne : v.ownBlock ≠ some g := fun h => by have := own_base hP g h; omega
  obtain ⟨l, hl0⟩ : ∃ l, l = s.data.toList.drop i := ⟨_, rfl⟩
  have hll := congrArg List.length hl0
  rw [List.length_drop, size_list] at hll
  rw [← hl0]
  have HL := Lib.hid hl0
  have HLL := Lib.hid hll
  clear hl0 hll
  go_enter Tryz.func83, Tryz.ntmps83
  go_wp2_with fail
  refine (rest_calls g s i false v _ hB hi (by omega)).mono ?_
  rintro e w1 ⟨r, rfl, hr, hb1⟩
  have hB1 := hB.below hb1
  have hg1 := grownBy_below (row := some g) hb1
  rw [← HL.out] at hr
  have hrs := hr.size
  rw [HLL.out] at hrs
  go_wp2_with fail
  refine (end_calls r _ (by omega)).mono ?_
  rw [show r.data.toList = l from hr]
  clear hr hrs
  cases hm : endL false l with
  | none =>
    have HM := Lib.hid hm
    clear hm
    rintro e w2 ⟨rfl, rfl⟩
    rw [show endZ none 0 = -1 from rfl]
    go_wp2
    go_ret
    exact ⟨_, rfl, Below.grow1 hg1 (by omega) (Nat.le_refl g), fun m h => (by rw [HM.out] at h; cases h), fun _ => rfl⟩
  | some m =>
    have hml := endL_len false l m hm
    rw [HLL.out] at hml
    have hml2 : i + m + 2 ≤ s.size := by omega
    have HM := Lib.hid hm
    clear hm hml
    rintro e w2 ⟨rfl, rfl⟩
    rw [show endZ (some m) 0 = (m : Int) from congrArg (fun x : Nat => (x : Int)) (Nat.zero_add m)]
    go_wp2_with fail
    refine (rest_calls g s i false v _ hB1 hi (by omega)).mono ?_
    rintro e w2 ⟨r2, rfl, hr2, hb2⟩
    have hB2 := hB1.below hb2
    have hg2 := hg1.trans (grownBy_below (row := some g) hb2)
    rw [← HL.out] at hr2
    have hr2s := hr2.size
    rw [HLL.out] at hr2s
    have hmr : m ≤ r2.size := by omega
    have HR2 := Lib.hid hr2s
    clear hr2s
    have hsl := fun W => run_slice_string (P := Tryz.prog) (w := W) 9 r2 .i64 .i64 0 (m : Int) Tryz.underlying9 (by omega) (by omega) (by omega)
    simp only [Int.toNat_natCast, Int.toNat_zero] at hsl
    have c1 := hB2.cell 1 _ rfl
    have f1 := hB2.free 1
    go_upto_region 6 with (fail)
    have ht : StrIs (r2.extract 0 m) (l.take m) := by
      show _ = _
      rw [Lib.extract_data, show r2.data.toList = l from hr2]
      simp
    have hB3 := hB2.goto ((i : Int) + ((m : Int) + 2)) (i + m + 2) (by omega)
    have hg3 := hg2.trans (grownBy_set w2 g 1 (.int .i64 ((i : Int) + ((m : Int) + 2))))
    generalize w2.setCell ⟨g, 1, none⟩ (.int .i64 ((i : Int) + ((m : Int) + 2))) = w3 at *
    obtain ⟨T, hT⟩ : ∃ T, T = r2.extract 0 m := ⟨_, rfl⟩
    rw [← hT] at ht ⊢
    clear hsl c1 f1 hB2 hg2 hr2 hb2 hT
    obtain ⟨t, ht0⟩ : ∃ t, t = l.take m := ⟨_, rfl⟩
    have htl : t.length = m := by rw [ht0, List.length_take, HLL.out]; omega
    rw [← ht0] at ht
    have hTs : T.size = m := ht.size.trans htl
    have hT0 := getD_byte T (m - 1)
    have hT1 := getD_byte T (m - 2)
    rw [show T.data.toList = t from ht] at hT0 hT1
    have hat : actTrims t = (decide (2 ≤ m) && (t.getD (m - 1) 0).toNat == 45 && blk (t.getD (m - 2) 0).toNat) := by unfold actTrims; rw [htl]
    have l0 := (t.getD (m - 1) 0).toNat_lt
    have l1 := (t.getD (m - 2) 0).toNat_lt
    generalize (t.getD (m - 1) 0).toNat = ca at *
    generalize (t.getD (m - 2) 0).toNat = cb at *
    have HTS := Lib.hid hTs
    have HTL := Lib.hid htl
    have HT0 := Lib.hid ht0
    clear hTs htl ht0
    go_cut [40] (fun v40 wx => v40 = .bool (actTrims t) ∧ w3 = wx)
    case first =>
      by_cases hm2 : 2 ≤ m
      · have hmb : decide (1 < (m : Int)) = true := decide_eq_true (by omega)
        rw [show decide (2 ≤ m) = true from decide_eq_true hm2, Bool.true_and] at hat
        have q1 : (m : Int) - 1 < (T.size : Int) := by rw [HTS.out]; omega
        have q2 : (m : Int) - 2 < (T.size : Int) := by rw [HTS.out]; omega
        by_cases hca : ca = 45
        · have hcab : ((ca : Int) == 45) = true := beq_iff_eq.2 (by omega)
          rw [show (ca == 45) = true from beq_iff_eq.2 hca, Bool.true_and] at hat
          have HAT := Lib.hid hat
          clear hat hca
          go_wp2_with (go_at_call 107; refine (blank_calls cb _ l1).mono ?_; rintro e w' ⟨rfl, rfl⟩)
          go_meet
          exact ⟨by rw [HAT.out], rfl⟩
        · have hcab : ((ca : Int) == 45) = false := beq_eq_false_iff_ne.2 (by omega)
          rw [show (ca == 45) = false from beq_eq_false_iff_ne.2 hca, Bool.false_and] at hat
          have HAT := Lib.hid hat
          clear hat hca
          go_wp2_with (go_at_call 107; refine (blank_calls cb _ l1).mono ?_; rintro e w' ⟨rfl, rfl⟩)
          go_meet
          exact ⟨by rw [HAT.out], rfl⟩
      · have hmb : decide (1 < (m : Int)) = false := decide_eq_false (by omega)
        rw [show decide (2 ≤ m) = false from decide_eq_false hm2, Bool.false_and, Bool.false_and] at hat
        have HAT := Lib.hid hat
        clear hat
        go_wp2_with (go_at_call 107; refine (blank_calls cb _ l1).mono ?_; rintro e w' ⟨rfl, rfl⟩)
        go_meet
        exact ⟨by rw [HAT.out], rfl⟩
    case rest =>
    obtain ⟨rfl, rfl⟩ := hcut
    have htx : actText t = trimR (trimL (if actTrims t = true then t.take (m - 1) else t)) := by unfold actText; rw [HTL.out]
    clear hT0 hT1 l0 l1
    have hm1 : actTrims t = true → 2 ≤ m := fun h => by
      have h2 := hat.symm.trans h
      simp only [Bool.and_eq_true, decide_eq_true_eq] at h2
      exact h2.1.1
    clear hat
    generalize hq : actTrims t = q at *
    go_upto_if 40 with (fail)
    go_cut [6] (fun v6 wx => ∃ T', v6 = .string T' ∧ StrIs T' (if q = true then t.take (m - 1) else t) ∧ CurB g s (i + m + 2) q v wx ∧ w.grownBy wx (some g))
    case first =>
      cases q with
      | true =>
        have hm2 := hm1 rfl
        have k1 : 1 ≤ (m : Int) := by omega
        have k2 : (m : Int) - 1 ≤ (T.size : Int) := by rw [HTS.out]; omega
        have c2 := hB3.cell 2 _ rfl
        have f2 := hB3.free 2
        go_wp2
        go_meet
        refine ⟨_, rfl, ?_, hB3.trims, hg3.trans (grownBy_set _ g 2 _)⟩
        show _ = _
        rw [Lib.extract_data, show T.data.toList = t from ht]
        simp
      | false =>
        go_wp2
        go_meet
        exact ⟨_, rfl, ht, hB3, hg3⟩
    case rest =>
    obtain ⟨T', rfl, hT', hB4, hg4⟩ := hcut
    have c3 := hB4.cell 3 _ rfl
    have hP4 : Pcs (g + 1) v ps wc := World.ownsRow.kept hP hg4 (.inr hne)
    have hb4 := Below.grow1 hg4 (Nat.le_of_succ_le hbase) (Nat.le_refl g)
    have hz4 := hg4.size
    have hTS' : T'.size ≤ 65536 := by
      rw [hT'.size]
      split
      · rw [List.length_take, HTL.out]; omega
      · rw [HTL.out]; omega
    have HTX := Lib.hid htx
    clear hB3 hg3 ht htx hm1 hB hB1 hg1 hb1
    go_wp2_with fail
    go_region_law (first | (go_simp; go_at_call 110; refine (trimBoth_calls T' _ hT' _ (by omega)).mono ?_; rintro e w5 ⟨r5, rfl, hr5, hb5'⟩; have hF := after_trim hB4 hP4 hb4 hb5' (by omega); have c5 := hF.1.cell 3 _ rfl; have c5' := fun o => (Blk.alloc hF.1 o).cell 3 _ rfl; have HEQ := Lib.hid hr5.eq) | (refine step_appPiece g (g + 1) rfl (.tmp 52) (.tmp 57) rfl v ps ⟨true, actText t, from_⟩ w5.heap.size _ (0, 0) 1 ?hcs rfl rfl (heap_new w5 _) (hF.2.1 _) (hF.2.2.1 _) (Nat.le_succ g) (hF.2.2.2 _) (Nat.le_succ_of_le hl) ?_; (case hcs => rw [HEQ.out, ← HTX.out]; rfl); intro sa sc w6 hP6 hb6 hg6; have hB6 := Blk.grown (hF.1.alloc _) hg6 (fun h => hne h.symm); have f6 := hB6.free 3; have c6 := hB6.cell 3 _ rfl))
    all_goals go_wp2
    all_goals go_ret
    all_goals
      refine ⟨_, rfl, hb6.setCell (Nat.le_refl g) _, fun m' h => ?_, fun h => ?_⟩
      · rw [HM.out] at h
        cases h
        rw [← HT0.out, hq]
        exact ⟨rfl, by omega, _, hB6.puts _, own_set hP6 (fun h => by have := own_base hP6 g h; omega) 3 _⟩
      · rw [HM.out] at h
        cases h
end Go.Proofs.YtbcddlheikdlkaaGreatDoor.S
/-
  THE WALK of package lex's split, Split; of utf's Lines.
-/
set_option linter.unusedVariables false
set_option linter.unusedSimpArgs false
namespace Go.Proofs.YtbcddlheikdlkaaGreatDoor.S
open Go.RowKit

theorem lines_calls (s : ByteArray) (w : World) (hE : Env w) (hs : s.size ≤ 1048576) :
    Calls Tryz.prog 47 #[.string s] w fun e w' => ∃ r : ByteArray, e = .returned (.string r) ∧ StrIs r (linesL s.data.toList) ∧ Below w.heap.size w w' := by
  go_enter Tryz.func47, Tryz.ntmps47
  go_wp2_with fail
  have hl2 := replaceAll_len s.data.toList [13, 10] [10]
  rw [size_list] at hl2
  simp only [List.length_cons, List.length_nil] at hl2
  refine (replaceAll_calls s ⟨#[13, 10]⟩ ⟨#[10]⟩ _ hE (by omega) (by decide) (by rw [show (⟨#[10]⟩ : ByteArray).size = 1 from rfl]; omega)).mono ?_
  rintro e w1 ⟨r, rfl, hr, hb1⟩
  have hrs := hr.size
  have hrs2 : r.size ≤ 2 * s.size + 1 := by rw [hrs]; exact Nat.le_trans hl2 (by omega)
  clear hrs hl2
  go_wp2_with fail
  refine (replaceAll_calls r ⟨#[13]⟩ ⟨#[10]⟩ _ (hE.below hb1) (by omega) (by decide) (by rw [show (⟨#[10]⟩ : ByteArray).size = 1 from rfl]; omega)).mono ?_
  rintro e w2 ⟨z, rfl, hz, hb2⟩
  go_wp2
  go_ret
  refine ⟨z, rfl, ?_, hb1.trans (hb2.mono hb1.size)⟩
  unfold StrIs at *
  rw [hz, hr]
  exact lines_law _

theorem splitF_nil (n : Nat) (i : Nat) (tr : Bool) : splitF n [] i tr = some [] := by cases n <;> rfl
/-- where an action's own signs begin -/
theorem openN_text {l : List UInt8} (h : hasI [123, 123] l = true) : openN l = textN l + blkN (l.drop (textN l)) := by
  unfold openN
  rw [textN_some h]
  unfold markN
  dsimp only
  split <;> rfl
theorem splitF_none {n : Nat} {l : List UInt8} (i : Nat) (tr : Bool) (hl : l ≠ []) (h : hasI [123, 123] l = false) : splitF (n + 1) l i tr = some (txtP (textT l tr) i) := by
  cases l with
  | nil => exact absurd rfl hl
  | cons c r =>
    rw [splitF]
    simp only [h, Bool.false_eq_true, if_false]
    rw [textT_none _ _ h]
theorem splitF_some {n : Nat} {l : List UInt8} (i : Nat) (tr : Bool) (h : hasI [123, 123] l = true) : splitF (n + 1) l i tr =
    if List.isPrefixOf [47, 42] (l.drop (openN l)) = true then
      match comL (l.drop (openN l + 2)) with
      | none => none
      | some (m, tr') => (splitF n (l.drop (openN l + 2 + m)) (i + (openN l + 2 + m)) tr').map (txtP (textT l tr) i ++ ·)
    else
      match endL false (l.drop (openN l)) with
      | none => none
      | some m => (splitF n (l.drop (openN l + m + 2)) (i + (openN l + m + 2)) (actTrims ((l.drop (openN l)).take m))).map (txtP (textT l tr) i ++ [⟨true, actText ((l.drop (openN l)).take m), i + cutI [123, 123] l⟩] ++ ·) := by
  cases l with
  | nil => simp [hasI] at h
  | cons c r =>
    rw [splitF]
    simp only [h, if_true]
    rw [textT_cut _ _ h]
    rfl
theorem textN_le {l : List UInt8} (h : hasI [123, 123] l = true) : textN l ≤ l.length := by
  rw [textN_some h]
  have h1 := (cutI_some [123, 123] (by simp) l h).2
  simp only [List.length_cons, List.length_nil] at h1
  unfold markN
  split
  · rename_i hm
    rw [markL_eq] at hm
    simp only [Bool.and_eq_true, decide_eq_true_eq, List.length_drop] at hm
    omega
  · omega
/-- what is split so far, and the rest, make the whole -/
def Parts (T : Option (List Pc)) (ps : List Pc) (n : Nat) (l : List UInt8) (i : Nat) (tr : Bool) : Prop := T = (splitF n l i tr).map (ps ++ ·)
theorem parts_step {T : Option (List Pc)} {ps qs : List Pc} {n n' : Nat} {l l' : List UInt8} {i i' : Nat} {tr tr' : Bool} (h : Parts T ps n l i tr) (h2 : splitF n l i tr = (splitF n' l' i' tr').map (qs ++ ·)) : Parts T (ps ++ qs) n' l' i' tr' := by
  unfold Parts at *
  rw [h, h2, Option.map_map]
  congr 1
  funext x
  simp
theorem Cur.b {g : Nat} {s : ByteArray} {i : Nat} {tr : Bool} {ps : List Pc} {w : World} (h : Cur g s i tr ps w) : ∃ v, CurB g s i tr v w := let ⟨v, hv, _⟩ := h; ⟨v, hv⟩
theorem Cur.grown {g : Nat} {s : ByteArray} {i' : Nat} {tr' : Bool} {v : Value} {ps : List Pc} {w w' : World} (hP : Pcs (g + 1) v ps w) (hg : w.grownBy w' (some g)) (h : CurB g s i' tr' v w') : Cur g s i' tr' ps w' :=
  ⟨v, h, World.ownsRow.kept hP hg (.inr fun e => by have := own_base hP g e; omega)⟩
theorem Cur.below {g : Nat} {s : ByteArray} {i : Nat} {tr : Bool} {ps : List Pc} {w w' : World} (h : Cur g s i tr ps w) (hb : Below w.heap.size w w') : Cur g s i tr ps w' :=
  let ⟨v, hB, hP⟩ := h; ⟨v, hB.below hb, own_below hP hb⟩
theorem txtP_len (t : List UInt8) (i : Nat) : (txtP t i).length ≤ 1 := by unfold txtP; split <;> simp

set_option maxRecDepth 100000 in
set_option maxHeartbeats 4000000 in
theorem split_calls (g : Nat) (s : ByteArray) (w : World) (hE : EnvAt g w) (hC : Cur g s 0 false [] w) (hs : s.size ≤ 65536) :
    Calls Tryz.prog 48 #[.pointer (some ⟨g, 0, none⟩)] w fun e w' => ∃ b, e = .returned (.bool b) ∧ Below g w w' ∧ (∀ ps, splitF s.size s.data.toList 0 false = some ps → b = true ∧ ∃ i tr, Cur g s i tr ps w') ∧ (splitF s.size s.data.toList 0 false = none → b = false) := by
  obtain ⟨T, hT⟩ : ∃ T, T = splitF s.size s.data.toList 0 false := ⟨_, rfl⟩
  rw [← hT]
  have hT' : Parts T [] s.size s.data.toList 0 false := by unfold Parts; rw [hT]; simp
  clear hT
  go_enter Tryz.func48, Tryz.ntmps48
  go_wp2
  go_loopg [3, 4] s.size (fun gk _ _ wr => ∃ (i : Nat) (tr : Bool) (ps : List Pc), s.size - i ≤ gk ∧ i ≤ s.size ∧ Cur g s i tr ps wr ∧ Below g w wr ∧ Hid (Parts T ps gk (s.data.toList.drop i) i tr) ∧ ps.length + 2 * gk ≤ 2 * s.size)
  case atStart => exact ⟨0, false, [], by omega, by omega, hC, Below.refl _ _, hT', by simp⟩
  case round =>
    obtain ⟨i, tr, ps, hig, his, hCr, hbr, hPt, hpl⟩ := hrel
    obtain ⟨v, hB⟩ := hCr.b
    have c0 := hB.cell 0 _ rfl
    have c1 := hB.cell 1 _ rfl
    have HIG := Lib.hid hig
    have HPL := Lib.hid hpl
    clear hig hpl
    by_cases h : i < s.size
    · have hjb : decide ((i : Int) < (s.size : Int)) = true := decide_eq_true (by omega)
      obtain ⟨l, hl0⟩ : ∃ l, l = s.data.toList.drop i := ⟨_, rfl⟩
      have hll := congrArg List.length hl0
      rw [List.length_drop, size_list] at hll
      rw [← hl0] at hPt
      have HL := Lib.hid hl0
      have HLL := Lib.hid hll
      clear hl0 hll
      have hix : ∀ W : World, Env W → Calls Tryz.prog 77 #[.string (s.extract i s.size), .string ⟨#[123, 123]⟩] W fun e w' => e = .returned (.int .i64 (if hasI [123, 123] l = true then (cutI [123, 123] l : Int) else -1)) ∧ w' = W := fun W hW => by
        refine (index_calls (s.extract i s.size) ⟨#[123, 123]⟩ l ?_ W hW ?_ (by simp)).mono fun _ _ ⟨he, hw⟩ => ⟨he, hw.symm⟩
        · rw [HL.out]; exact extract_end s i
        · rw [ByteArray.size_extract]; omega
      have hEr := hE.below hbr
      cases hh : hasI [123, 123] l with
      | false =>
        rw [hh] at hix
        simp only [Bool.false_eq_true, if_false] at hix
        have HH := Lib.hid hh
        clear hh
        go_wp2_with fail
        go_quiet (fail)
        go_wp2_with fail
        have hB' : CurB g s i tr v (wr.drewN nq) := hB
        have hCr' : Cur g s i tr ps (wr.drewN nq) := hCr
        have hbr' := Below.drewN hbr nq
        have hEr' := hE.below hbr'
        clear c0 c1 hB hCr hbr hEr
        generalize wr.drewN nq = wq at *
        have c1 := hB'.cell 1 _ rfl
        have hR := fun n => Calls.quiet_of (rest_q g s i tr v (wq.drewN n) hB' his (by omega))
        have hI := fun n => Calls.quiet_of_same (n := n) (hix (wq.drewN n) (hEr'.below (Below.drewN (Below.refl g wq) n)).env)
        go_quiet ((first | (go_at_call 78; exact hR _) | (go_at_call 77; exact hI _)))
        clear hR hI hix
        have hB : CurB g s i tr v (wq.drewN nq) := hB'
        have hCr : Cur g s i tr ps (wq.drewN nq) := hCr'
        have hbr := Below.drewN hbr' nq
        have hEr := hE.below hbr
        clear c1 hB' hCr' hbr' hEr'
        generalize wq.drewN nq = wr at *
        have c1 := hB.cell 1 _ rfl
        go_wp2_with fail
        refine (text_calls g s i tr ps _ hEr.env hCr his hs (by have := HPL.out; omega)).mono ?_
        rw [← HL.out]
        rintro e w3 ⟨rfl, hC3, hb3⟩
        have hbr3 := hbr.trans hb3
        clear c1 hB hCr hbr hEr hb3
        have hcb : decide ((i : Int) ≤ (i : Int) + -1) = false := decide_eq_false (by omega)
        go_wp2
        go_ret
        have hp := hPt.out
        unfold Parts at hp
        obtain ⟨n, hn⟩ : ∃ n, gk = n + 1 := ⟨gk - 1, by have := HIG.out; omega⟩
        rw [hn, splitF_none i tr (fun e => by have := HLL.out; rw [e] at this; simp at this; omega) HH.out] at hp
        refine ⟨true, rfl, hbr3, fun qs hq => ⟨rfl, i + textN l, false, ?_⟩, fun hq => ?_⟩
        · rw [hp] at hq
          cases hq
          exact hC3
        · rw [hp] at hq
          cases hq
      | true =>
        rw [hh] at hix
        simp only [if_true] at hix
        have hle := (cutI_some [123, 123] (by simp) l hh).2
        have hopen := openN_text hh
        have htn := textN_le hh
        have hsp := fun n => splitF_some (n := n) i tr hh
        generalize cutI [123, 123] l = c at *
        simp only [List.length_cons, List.length_nil] at hle
        rw [HLL.out] at hle htn
        have hic : i + c + 2 ≤ s.size := by omega
        have hit : i + textN l ≤ s.size := by omega
        have HH := Lib.hid hh
        have HOP := Lib.hid hopen
        have HSP := Lib.hid hsp
        clear hh hle hopen htn hsp
        go_wp2_with fail
        go_quiet (fail)
        go_wp2_with fail
        have hB' : CurB g s i tr v (wr.drewN nq) := hB
        have hCr' : Cur g s i tr ps (wr.drewN nq) := hCr
        have hbr' := Below.drewN hbr nq
        have hEr' := hE.below hbr'
        clear c0 c1 hB hCr hbr hEr
        generalize wr.drewN nq = wq at *
        have c1 := hB'.cell 1 _ rfl
        have hR := fun n => Calls.quiet_of (rest_q g s i tr v (wq.drewN n) hB' his (by omega))
        have hI := fun n => Calls.quiet_of_same (n := n) (hix (wq.drewN n) (hEr'.below (Below.drewN (Below.refl g wq) n)).env)
        go_quiet ((first | (go_at_call 78; exact hR _) | (go_at_call 77; exact hI _)))
        clear hR hI hix
        have hB : CurB g s i tr v (wq.drewN nq) := hB'
        have hCr : Cur g s i tr ps (wq.drewN nq) := hCr'
        have hbr := Below.drewN hbr' nq
        have hEr := hE.below hbr
        clear c1 hB' hCr' hbr' hEr'
        generalize wq.drewN nq = wr at *
        have c1 := hB.cell 1 _ rfl
        go_wp2_with fail
        refine (text_calls g s i tr ps _ hEr.env hCr his hs (by have := HPL.out; omega)).mono ?_
        rw [← HL.out]
        rintro e w3 ⟨rfl, hC3, hb3⟩
        have hbr3 := hbr.trans hb3
        clear c1 hB hCr hbr hEr hb3
        have hcb : decide ((i : Int) ≤ (i : Int) + (c : Int)) = true := decide_eq_true (by omega)
        obtain ⟨v3, hB3, hP3⟩ := hC3
        have hsk := skip_calls g s (i + textN l) false v3 w3 hB3 hit (by omega)
        have hld : s.data.toList.drop (i + textN l) = l.drop (textN l) := by rw [HL.out, List.drop_drop]
        have hok : i + textN l + blkN (s.data.toList.drop (i + textN l)) = i + openN l := by rw [hld, HOP.out]; omega
        have hob : i + openN l ≤ s.size := by
          have := blkN_le (s.data.toList.drop (i + textN l))
          rw [List.length_drop, size_list] at this
          omega
        rw [hok] at hsk
        have HSK := Lib.hid hsk
        clear hok hld hsk
        have hgw : g ≤ w3.heap.size := Nat.le_of_lt hB3.lt
        obtain ⟨n, hn⟩ : ∃ n, gk = n + 1 := ⟨gk - 1, by have := HIG.out; omega⟩
        have hsp := HSP.out n
        rw [← hn] at hsp
        have hpt := fun T' (hT' : splitF gk l i tr = T') => hPt.out.trans (congrArg _ hT')
        have HPT := Lib.hid hpt
        clear hpt
        have hld2 : ∀ k, s.data.toList.drop (i + openN l + k) = l.drop (openN l + k) := fun k => by rw [HL.out, List.drop_drop]; congr 1; omega
        have HLD := Lib.hid hld2
        have hld2 := hld2 0
        simp only [Nat.add_zero] at hld2
        have hpl2 : (ps ++ txtP (textT l tr) i).length ≤ ps.length + 1 := by
          have := txtP_len (textT l tr) i
          simp; omega
        cases hpf : List.isPrefixOf [47, 42] (l.drop (openN l)) with
        | true =>
          rw [hpf, if_pos rfl] at hsp
          have hpl := pre_len hpf
          rw [List.length_drop, HLL.out] at hpl
          simp only [List.length_cons, List.length_nil] at hpl
          have hi2 : i + openN l + 2 ≤ s.size := by omega
          have HSP2 := Lib.hid hsp
          have HPF := Lib.hid (show List.isPrefixOf (⟨#[47, 42]⟩ : ByteArray).data.toList (s.data.toList.drop (i + openN l)) = true by rw [hld2]; exact hpf)
          clear hpl hsp hpf hld2
          go_wp2_with fail
          refine HSK.out.mono ?_
          rintro e w4 ⟨rfl, hB4, hg4⟩
          have hC4 := Cur.grown hP3 hg4 hB4
          have hbr4 := hbr3.trans (Below.grow1 hg4 hgw (Nat.le_refl g))
          go_wp2_with fail
          refine (rest_calls g s (i + openN l) false v3 _ hB4 hob (by omega)).mono ?_
          rintro e w5 ⟨r5, rfl, hr5, hb5⟩
          have hC5 := hC4.below hb5
          have hbr5 := hbr4.trans (hb5.mono (Nat.le_of_lt hB4.lt))
          go_wp2_with fail
          refine (prefix_calls r5 ⟨#[47, 42]⟩ _ hr5 _).mono ?_
          rw [HPF.out]
          rintro e w6 ⟨rfl, rfl⟩
          go_wp2_with fail
          refine (comment_calls g s (i + openN l) _ _ (hE.below hbr5) hC5 hi2 hs).mono ?_
          rw [HLD.out 2]
          cases hcm : comL (l.drop (openN l + 2)) with
          | none =>
            rintro e w7 ⟨b, rfl, hb7, -, hno⟩
            obtain rfl := hno rfl
            have hsp := HSP2.out
            rw [hcm] at hsp
            have HSP3 := Lib.hid (hPt.out.trans (congrArg _ hsp))
            clear hsp
            go_wp2
            go_ret
            refine ⟨false, rfl, hbr5.trans hb7, fun qs hq => ?_, fun _ => rfl⟩
            rw [HSP3.out] at hq
            cases hq
          | some x =>
            obtain ⟨m, tr'⟩ := x
            rintro e w7 ⟨b, rfl, hb7, hso, -⟩
            obtain ⟨rfl, hi7, hC7⟩ := hso m tr' rfl
            have hsp := HSP2.out
            rw [hcm] at hsp
            have HSP3 := Lib.hid (parts_step hPt.out (hsp.trans (by rfl)))
            clear hsp
            go_wp2
            go_roundg n
            case measure => omega
            case rel =>
              refine ⟨i + openN l + 2 + m, tr', _, ?_, hi7, hC7, hbr5.trans hb7, ?_, ?_⟩
              · have := HIG.out; omega
              · have e := HSP3.out
                have e2 := HLD.out (2 + m)
                show Parts _ _ _ _ _ _
                rw [show i + openN l + 2 + m = i + openN l + (2 + m) by omega, e2]
                rw [show i + (openN l + 2 + m) = i + openN l + (2 + m) by omega, show openN l + 2 + m = openN l + (2 + m) by omega] at e
                exact e
              · have := HPL.out; omega
        | false =>
          rw [hpf, if_neg (by simp)] at hsp
          have HSP2 := Lib.hid hsp
          have HPF := Lib.hid (show List.isPrefixOf (⟨#[47, 42]⟩ : ByteArray).data.toList (s.data.toList.drop (i + openN l)) = false by rw [hld2]; exact hpf)
          clear hsp hpf
          go_wp2_with fail
          refine HSK.out.mono ?_
          rintro e w4 ⟨rfl, hB4, hg4⟩
          have hC4 := Cur.grown hP3 hg4 hB4
          have hbr4 := hbr3.trans (Below.grow1 hg4 hgw (Nat.le_refl g))
          go_wp2_with fail
          refine (rest_calls g s (i + openN l) false v3 _ hB4 hob (by omega)).mono ?_
          rintro e w5 ⟨r5, rfl, hr5, hb5⟩
          have hC5 := hC4.below hb5
          have hbr5 := hbr4.trans (hb5.mono (Nat.le_of_lt hB4.lt))
          go_wp2_with fail
          refine (prefix_calls r5 ⟨#[47, 42]⟩ _ hr5 _).mono ?_
          rw [HPF.out]
          rintro e w6 ⟨rfl, rfl⟩
          go_wp2_with fail
          refine (action_calls g s (i + openN l) (i + c) _ _ (hE.below hbr5) hC5 hob hs (by have := HPL.out; omega)).mono ?_
          rw [hld2]
          cases hcm : endL false (l.drop (openN l)) with
          | none =>
            rintro e w7 ⟨b, rfl, hb7, -, hno⟩
            obtain rfl := hno rfl
            have hsp := HSP2.out
            rw [hcm] at hsp
            have HSP3 := Lib.hid (hPt.out.trans (congrArg _ hsp))
            clear hsp
            go_wp2
            go_ret
            refine ⟨false, rfl, hbr5.trans hb7, fun qs hq => ?_, fun _ => rfl⟩
            rw [HSP3.out] at hq
            cases hq
          | some m =>
            rintro e w7 ⟨b, rfl, hb7, hso, -⟩
            obtain ⟨rfl, hi7, hC7⟩ := hso m rfl
            have hsp := HSP2.out
            rw [hcm] at hsp
            have HSP3 := Lib.hid (parts_step hPt.out (hsp.trans (by rfl)))
            clear hsp
            go_wp2
            go_roundg n
            case measure => omega
            case rel =>
              refine ⟨i + openN l + m + 2, _, _, ?_, hi7, hC7, hbr5.trans hb7, ?_, ?_⟩
              · have := HIG.out; omega
              · have e := HSP3.out
                have e2 := HLD.out (m + 2)
                show Parts _ _ _ _ _ _
                rw [show i + openN l + m + 2 = i + openN l + (m + 2) by omega, e2]
                rw [show i + (openN l + m + 2) = i + openN l + (m + 2) by omega, ← List.append_assoc] at e
                exact e
              · have := HPL.out
                rw [List.length_append, List.length_singleton]
                omega
    · obtain rfl : i = s.size := by omega
      have hjb : decide ((s.size : Int) < (s.size : Int)) = false := decide_eq_false (by omega)
      have hp := hPt.out
      rw [List.drop_eq_nil_of_le (Nat.le_of_eq (size_list s))] at hp
      unfold Parts at hp
      rw [splitF_nil] at hp
      have HP := Lib.hid hp
      clear hp hPt
      go_wp2_with fail
      go_quiet (fail)
      go_wp2
      go_ret
      refine ⟨true, rfl, Below.drewN hbr nq, fun qs hq => ⟨rfl, s.size, tr, ?_⟩, fun hq => ?_⟩
      · rw [HP.out] at hq
        have : ps = qs := by simpa using hq
        rw [← this]
        exact hCr
      · rw [HP.out] at hq
        cases hq
end Go.Proofs.YtbcddlheikdlkaaGreatDoor.S
/-
  THE WALK of package lex's Split.
-/
set_option linter.unusedVariables false
set_option linter.unusedSimpArgs false
namespace Go.Proofs.YtbcddlheikdlkaaGreatDoor.S
open Go.RowKit

/-- P13.1: its limits -/
def longP (ps : List Pc) : Bool := ps.any fun p => p.act && decide (256 < p.text.length)
def splitR (l : List UInt8) : List Pc × Nat :=
  if 65536 < l.length then ([], 1301) else match splitL l with
    | none => ([], 1300)
    | some ps => if longP ps = true then ([], 1301) else if 1024 < ps.length then ([], 1302) else (ps, 0)
theorem flat_get : ∀ (ps : List Pc) (k : Nat) (h : k < ps.length) (r : Nat), r < 3 → (ps.flatMap pcCells)[k * 3 + r]? = (pcCells ps[k])[r]?
  | p :: ps, 0, _, r, hr => by
    rw [List.flatMap_cons, Nat.zero_mul, Nat.zero_add, List.getElem?_append_left (by simpa [pcCells] using hr)]
    rfl
  | p :: ps, k + 1, h, r, hr => by
    rw [List.flatMap_cons, List.getElem?_append_right (by simp [pcCells]; omega)]
    have e : (k + 1) * 3 + r - (pcCells p).length = k * 3 + r := by simp [pcCells]; omega
    rw [e, flat_get ps k (by simpa using h) r hr]
    rfl
theorem Pcs.form {base : Nat} {v : Value} {ps : List Pc} {w : World} (h : Pcs base v ps w) (hn : 0 < ps.length) : ∃ b cap, v = .slice (some ⟨b, 0, none⟩) ps.length cap ∧ base ≤ b ∧ ps.length ≤ cap := by
  rcases h.2 with ⟨rfl, h0⟩ | ⟨g, cap, cur, rfl, hb, _, hc, _⟩
  · omega
  · exact ⟨g, cap, rfl, hb, hc⟩
theorem Pcs.len_le {base : Nat} {v : Value} {ps : List Pc} {w : World} (h : Pcs base v ps w) : ps.length ≤ 9223372036854775807 := by
  rcases h.2 with ⟨rfl, h0⟩ | ⟨g, cap, cur, rfl, hb, _, hc, hm, _⟩
  · omega
  · simp only [maxLen] at hm; omega
theorem Pcs.at {base b cap : Nat} {ps : List Pc} {w : World} (h : Pcs base (.slice (some ⟨b, 0, none⟩) ps.length cap) ps w) (k : Nat) (hk : k < ps.length) :
    w.cell? ⟨b, k * 3, none⟩ = some (.bool ps[k].act) ∧ w.cell? ⟨b, k * 3 + 1, none⟩ = some (.string ⟨ps[k].text.toArray⟩) ∧ w.cell? ⟨b, k * 3 + 2, none⟩ = some (.int .i64 ps[k].pos) :=
  ⟨(World.ownsRow.cellAt h (k * 3 + 0) (by omega)).trans (flat_get ps k hk 0 (by omega)), (World.ownsRow.cellAt h (k * 3 + 1) (by omega)).trans (flat_get ps k hk 1 (by omega)), (World.ownsRow.cellAt h (k * 3 + 2) (by omega)).trans (flat_get ps k hk 2 (by omega))⟩

set_option maxRecDepth 100000 in
set_option maxHeartbeats 4000000 in
theorem lexSplit_calls (s : ByteArray) (w : World) (hE : Env w) (hs : s.size ≤ 1073741824) :
    Calls Tryz.prog 25 #[.string s] w fun e w' => ∃ v ps n, e = .returned (.tuple #[v, .int .i64 (n : Nat)]) ∧ Pcs w.heap.size v ps w' ∧ Below w.heap.size w w' ∧ splitR s.data.toList = (ps, n) := by
  by_cases h : 65536 < s.size
  · have hr : splitR s.data.toList = ([], 1301) := if_pos h
    go_enter Tryz.func25, Tryz.ntmps25
    go_wp2
    go_ret2
    exact ⟨_, [], 1301, rfl, pcs_nil _ _, Below.refl _ _, hr⟩
  · have hr : splitR s.data.toList = match splitL s.data.toList with
      | none => ([], 1300)
      | some ps => if longP ps = true then ([], 1301) else if 1024 < ps.length then ([], 1302) else (ps, 0) := if_neg h
    have HR := Lib.hid hr
    clear hr
    go_enter Tryz.func25, Tryz.ntmps25
    go_wp2_with fail
    refine (lines_calls s _ hE (by omega)).mono ?_
    rintro e w1 ⟨t, rfl, ht, hb1⟩
    have hts : t.size ≤ 65536 := by rw [ht.size]; exact Nat.le_trans (linesL_len _) (by rw [size_list]; omega)
    have hE1 := (hE.below hb1).at
    have hsp : splitL s.data.toList = splitF t.size t.data.toList 0 false := by
      unfold splitL
      rw [← show t.data.toList = linesL s.data.toList from ht]
      rfl
    go_wp2_with fail
    have hB : CurB w1.heap.size t 0 false (.slice none 0 0) (w1.alloc (.cells #[.string t, .int .i64 0, .bool false, .slice none 0 0] 106)) := Blk.new w1 _ _
    have hC : Cur w1.heap.size t 0 false [] (w1.alloc (.cells #[.string t, .int .i64 0, .bool false, .slice none 0 0] 106)) := ⟨_, hB, pcs_nil _ _⟩
    have hbn : Below w1.heap.size w1 (w1.alloc (.cells #[.string t, .int .i64 0, .bool false, .slice none 0 0] 106)) := (Below.refl _ w1).alloc (Nat.le_refl _) _
    have hE2 := hE1.below hbn
    generalize w1.alloc (.cells #[.string t, .int .i64 0, .bool false, .slice none 0 0] 106) = w2 at *
    refine (split_calls w1.heap.size t _ hE2 hC hts).mono ?_
    rw [← hsp]
    rintro e w3 ⟨b, rfl, hb3, hso, hno⟩
    have hb13 := (hbn.trans hb3)
    have hbw := hb1.trans (hb13.mono hb1.size)
    cases hq : splitL s.data.toList with
    | none =>
      obtain rfl := hno hq
      have hr := HR.out
      rw [hq] at hr
      have HR2 := Lib.hid hr
      clear hr
      go_wp2
      go_ret2
      exact ⟨_, [], 1300, rfl, pcs_nil _ _, hbw, HR2.out⟩
    | some ps =>
      obtain ⟨rfl, i, tr, hC3⟩ := hso ps hq
      have hr := HR.out
      rw [hq] at hr
      have HR2 := Lib.hid hr
      clear hr hso hno hsp hq
      obtain ⟨v, hB3, hP3⟩ := hC3
      obtain ⟨sa, sc, rfl, hcap⟩ := own_slice hP3
      have c3 := hB3.cell 3 _ rfl
      go_wp2
      clear c3
      go_loopg [6, 22] ps.length (fun gk _ v22 wr => ∃ k : Nat, k + gk = ps.length ∧ v22 = .int .i64 k ∧ Hid (longP (ps.take k) = false) ∧ Below w3.heap.size w3 wr)
      case atStart => exact ⟨0, by omega, rfl, rfl, Below.refl _ _⟩
      case round =>
        obtain ⟨k, hkg, rfl, hlp, hbr⟩ := hrel
        have HKG := Lib.hid hkg
        have hkl : k ≤ ps.length := by omega
        clear hkg
        have hPr := own_below hP3 hbr
        have hBr := hB3.below hbr
        have c3 := hBr.cell 3 _ rfl
        have hpsl := hP3.len_le
        by_cases hk : k < ps.length
        · obtain ⟨b, cap, hv, hbb, hcc⟩ := hP3.form (by omega)
          obtain ⟨rfl, -, rfl⟩ := Value.slice.inj hv
          obtain ⟨d0, d1, d2⟩ := Pcs.at hPr k hk
          have hsz : (⟨ps[k].text.toArray⟩ : ByteArray).size = ps[k].text.length := rfl
          have hst : longP (ps.take (k + 1)) = (longP (ps.take k) || (ps[k].act && decide (256 < ps[k].text.length))) := by
            unfold longP
            rw [List.take_succ_eq_append_getElem hk, List.any_append]
            simp
          rw [hlp.out, Bool.false_or] at hst
          have hmem : (ps[k].act && decide (256 < ps[k].text.length)) = true → longP ps = true := fun h => List.any_eq_true.2 ⟨ps[k], List.getElem_mem hk, h⟩
          generalize (⟨ps[k].text.toArray⟩ : ByteArray) = tx at *
          generalize ps[k].text.length = tn at *
          generalize ps[k].act = ta at *
          generalize ps[k].pos = tp at *
          have HST := Lib.hid hst
          have HM := Lib.hid hmem
          clear hst hmem hv
          cases ta with
          | true =>
            by_cases h256 : 256 < tn
            · have h256b : decide (256 < (tn : Int)) = true := decide_eq_true (by omega)
              have hlong : longP ps = true := HM.out (by simpa using h256)
              have HLG := Lib.hid hlong
              clear hlong
              go_wp2
              go_ret2
              exact ⟨_, [], 1301, rfl, pcs_nil _ _, hbw.trans ((hbr.alloc hbr.size _).mono hbw.size), HR2.out.trans (if_pos HLG.out)⟩
            · have h256b : decide (256 < (tn : Int)) = false := decide_eq_false (by omega)
              have H256 := Lib.hid h256
              clear h256
              go_wp2
              go_roundg (gk - 1)
              case measure => have := HKG.out; omega
              case rel => exact ⟨k + 1, by have := HKG.out; omega, by go_num, (by have := H256.out; show _ = _; rw [HST.out]; simpa using this), hbr.alloc hbr.size _⟩
          | false =>
            go_wp2
            go_roundg (gk - 1)
            case measure => have := HKG.out; omega
            case rel => exact ⟨k + 1, by have := HKG.out; omega, by go_num, (by show _ = _; rw [HST.out]; rfl), hbr.alloc hbr.size _⟩
        · obtain rfl : k = ps.length := by omega
          have hl := hlp.out
          rw [List.take_length] at hl
          have hr := HR2.out
          rw [hl, if_neg (by simp)] at hr
          by_cases hm : 1024 < ps.length
          · have hmb : decide (1024 < (ps.length : Int)) = true := decide_eq_true (by omega)
            rw [if_pos hm] at hr
            have HR3 := Lib.hid hr
            clear hr hm
            go_wp2
            go_ret2
            exact ⟨_, [], 1302, rfl, pcs_nil _ _, hbw.trans (hbr.mono hbw.size), HR3.out⟩
          · have hmb : decide (1024 < (ps.length : Int)) = false := decide_eq_false (by omega)
            rw [if_neg hm] at hr
            have HR3 := Lib.hid hr
            clear hr hm
            go_wp2
            go_ret2
            exact ⟨_, ps, 0, rfl, World.ownsRow.mono hPr (by have := hb1.size; omega), hbw.trans (hbr.mono hbw.size), HR3.out⟩
end Go.Proofs.YtbcddlheikdlkaaGreatDoor.S
/-
  Split of a string of any size.
-/
set_option linter.unusedVariables false
set_option linter.unusedSimpArgs false
namespace Go.Proofs.YtbcddlheikdlkaaGreatDoor.S
open Go.RowKit

theorem lexSplit_any (s : ByteArray) (w : World) (hE : Env w) :
    Calls Tryz.prog 25 #[.string s] w fun e w' => ∃ v ps n, e = .returned (.tuple #[v, .int .i64 (n : Nat)]) ∧ Pcs w.heap.size v ps w' ∧ Below w.heap.size w w' ∧ splitR s.data.toList = (ps, n) := by
  by_cases h : 65536 < s.size
  · have hr : splitR s.data.toList = ([], 1301) := if_pos h
    go_enter Tryz.func25, Tryz.ntmps25
    go_wp2
    go_ret2
    exact ⟨_, [], 1301, rfl, pcs_nil _ _, Below.refl _ _, hr⟩
  · exact lexSplit_calls s w hE (by omega)
end Go.Proofs.YtbcddlheikdlkaaGreatDoor.S
