/-
  ROWS OF BYTES of the call's own: append of bytes, of a text; the text of a row.
-/
import Derived.Test.YthmcacgkhpigaaaDoorBuilder
import Derived.WalkKit
import Derived.BigCall
import Derived.OwnWalk
import Derived.Laws.AppendOwn
import Derived.Maps.AppendAt
import Derived.Lib.AppendStr
import Derived.Laws.BytesArg
import Derived.Deep.AppendLies
set_option linter.unusedVariables false
namespace Go.Proofs.YthmcacgkhpigaaaDoor.S
open Go.RowKit

/-- a row of bytes that the call owns -/
def Bytes (base : Nat) (v : Value) (l : List UInt8) (w : World) : Prop := w.ownsRow base 5 1 v l.length (Lib.byteCells l)
theorem byteInfo : (Tryd.prog.info? 5).map (fun i => (i.zero, i.size, i.bytes)) = some (some (.int .u8 0), 1, 1) := by kernel_rfl
theorem bytes_nil (base : Nat) (w : World) : Bytes base (.slice none 0 0) [] w := ⟨by simp [Lib.byteCells], .inl ⟨rfl, rfl⟩⟩
theorem Bytes.ownBase {base : Nat} {v : Value} {l : List UInt8} {w : World} (h : Bytes base v l w) (k : Nat) (hk : v.ownBlock = some k) : base ≤ k := by
  rcases h.2 with ⟨rfl, _⟩ | ⟨g, cap, cur, rfl, hb, _⟩
  · simp [Value.ownBlock] at hk
  · have : g = k := by simpa [Value.ownBlock] using hk
    omega
theorem Bytes.below {base : Nat} {v : Value} {l : List UInt8} {w w' : World} (h : Bytes base v l w) (hb : Below w.heap.size w w') : Bytes base v l w' :=
  World.ownsRow.kept (row := none) h ⟨hb.os, hb.tape, hb.output, hb.size, fun i hi _ => hb.block i hi⟩ (by cases v.ownBlock <;> simp)

theorem heap_new (w : World) (o : Obj) : (w.alloc o).heap[w.heap.size]? = some o := by show (w.heap.push o)[w.heap.size]? = some o; simp
section
variable {ops : Array Oper} {rest : List Oper} {o : Oper} {a : Act} {Q : Exit → Act → World → Prop}
/-- append(v, c0, c1, ..): the literal's block has just been laid -/
theorem wp_appBytes {w0 W : World} (base : Nat) (hgd : o.guard = none) (s x : Operand)
    (ho : o.op = .call { callee := .builtin .append, args := #[s, x], argTypes := #[37, 37] })
    (v : Value) (l new : List UInt8) (cs : Array Value) (m c : Nat) (hcs : cs.toList = Lib.byteCells new) (hm : m = new.length) (hs : a.eval s = v) (hx : a.eval x = .slice (some ⟨W.heap.size, 0, none⟩) m c)
    (HO : Bytes base v l W) (HB : Below base w0 W) (hbase : base ≤ W.heap.size) (hl : l.length + new.length ≤ 140737488355328)
    (h : ∀ v1 w1, Bytes base v1 (l ++ new) w1 → Below base w0 w1 → W.heap.size ≤ w1.heap.size → wpList Tryd.prog ops Q rest (a.put o.dst v1) w1) :
    wpList Tryd.prog ops Q (o :: rest) a (W.alloc (.cells cs 5)) := by
  obtain ⟨i0, hi, hz0, hz1, hz2⟩ := info_parts byteInfo
  subst hm
  refine wpList_append_own (W.alloc (.cells cs 5)) hgd s x 37 ho base 5 i0 (.int .u8 0) 1 1 Tryd.underlying37 hi hz0 hz1 hz2 rfl (by decide) v l.length (Lib.byteCells l) hs (HO.below ((Below.refl _ W).alloc (Nat.le_refl _) _))
    ⟨W.heap.size, 0, none⟩ new.length c (Lib.byteCells new) hx (by rw [Lib.byteCells_length, Nat.mul_one]) ?_ ?_ (by simp only [maxLen]; omega) (by omega) (by simp; omega) ?_
  · rw [← hcs]
    exact World.news_of_block (cs := cs) (t := 5) (fr := (0, 0)) (heap_new W _)
  · intro u hu
    simp only [Lib.byteCells, List.mem_map] at hu
    obtain ⟨b, _, rfl⟩ := hu
    rfl
  · intro v1 w1 hown hg _
    refine h v1 w1 ?_ ((HB.alloc hbase _).grown hg (by simp; omega) HO.ownBase) (by have := hg.size; simp at this; omega)
    unfold Bytes
    rw [List.length_append, Lib.byteCells_append]
    exact hown
/-- append(v, c0, ..) as a step of a region that draws its order; the literal's block is known whole -/
theorem step_appBytes {K : Act → World → Prop} {E : Prop} {w0 W : World} (base : Nat) (hgd : o.guard = none) (s x : Operand)
    (ho : o.op = .call { callee := .builtin .append, args := #[s, x], argTypes := #[37, 37] })
    (v : Value) (l new : List UInt8) (B : Nat) (cs : Array Value) (fr : Nat × Nat) (m c : Nat) (hcs : cs.toList = Lib.byteCells new) (hm : m = new.length) (hpos : 0 < m) (hs : a.eval s = v) (hx : a.eval x = .slice (some ⟨B, 0, none⟩) m c)
    (hB : W.heap[B]? = some (.cells cs 5 fr)) (HO : Bytes base v l W) (HB : Below base w0 W) (hbase : base ≤ W.heap.size) (hl : l.length + new.length ≤ 140737488355328)
    (h : ∀ v1 w1, Bytes base v1 (l ++ new) w1 → Below base w0 w1 → W.heap.size ≤ w1.heap.size → K (a.put o.dst v1) w1) :
    if Region.wanted o (yielded ops a.tmps) = true then Oper.wp Tryd.prog o a W K Q else E := by
  obtain ⟨i0, hi, hz0, hz1, hz2⟩ := info_parts byteInfo
  subst hm
  refine step_append_lies W hgd s x 37 ho base 5 i0 (.int .u8 0) 1 1 Tryd.underlying37 hi hz0 hz1 hz2 rfl (by decide) v l.length (Lib.byteCells l) hs HO
    ⟨B, 0, none⟩ new.length c (Lib.byteCells new) hx (by rw [Lib.byteCells_length, Nat.mul_one]) ?_ ?_ hpos (by simp only [maxLen]; omega) (by omega) hbase _ rfl ?_
  · rw [← hcs]
    exact World.news_of_block hB
  · intro u hu
    simp only [Lib.byteCells, List.mem_map] at hu
    obtain ⟨b, _, rfl⟩ := hu
    rfl
  · intro g cap w1 hown hg _ _
    refine h _ w1 ?_ (HB.grown hg hbase HO.ownBase) hg.size
    unfold Bytes
    rw [List.length_append, Lib.byteCells_append]
    exact hown
/-- append(v, t...), t a text -/
theorem wp_appText {w0 W : World} (base : Nat) (hgd : o.guard = none) (s x : Operand)
    (ho : o.op = .call { callee := .builtin .append, args := #[s, x], argTypes := #[37, 9] })
    (v : Value) (l : List UInt8) (hs : a.eval s = v) (t : ByteArray) (hx : a.eval x = .string t)
    (HO : Bytes base v l W) (HB : Below base w0 W) (hbase : base ≤ W.heap.size) (hl : l.length + t.size ≤ 140737488355328)
    (h : ∀ v1 w1, Bytes base v1 (l ++ t.data.toList) w1 → Below base w0 w1 → W.heap.size ≤ w1.heap.size → wpList Tryd.prog ops Q rest (a.put o.dst v1) w1) :
    wpList Tryd.prog ops Q (o :: rest) a W := by
  obtain ⟨i0, hi, hz0, hz1, hz2⟩ := info_parts byteInfo
  refine Lib.wpList_append_own_string W hgd s x 37 9 ho base 5 i0 Tryd.underlying37 Tryd.underlying9 hi hz0 hz1 hz2 v l.length (Lib.byteCells l) hs HO t hx (by simp only [maxLen]; omega) (by omega) hbase ?_
  intro v1 w1 hown hg _
  refine h v1 w1 ?_ (HB.grown hg hbase HO.ownBase) hg.size
  unfold Bytes
  rw [List.length_append, Lib.byteCells_append]
  exact hown
end
theorem nums_bytes (l : List UInt8) : strOfNums (l.map fun b => (b.toNat : Int)) = ⟨l.toArray⟩ := by
  unfold strOfNums
  congr 2
  rw [List.map_map]
  conv => rhs; rw [← List.map_id l]
  exact List.map_congr_left fun b _ => by simp
/-- string(v) -/
theorem bytes_string {base : Nat} {v : Value} {l : List UInt8} {w : World} (h : Bytes base v l w) : (convert 37 9 v).run Tryd.prog w = .ok (.string ⟨l.toArray⟩) w := by
  rcases h.2 with ⟨rfl, hl⟩ | ⟨g, cap, cur, rfl, _, _⟩
  · obtain rfl : l = [] := List.eq_nil_of_length_eq_zero hl
    exact run_convert_bytes_nil w 37 5 Tryd.underlying37 Tryd.underlying5 0 0 9 Tryd.underlying9
  · have e := run_convert_bytes_arg (P := Tryd.prog) w 37 5 Tryd.underlying37 Tryd.underlying5 g 0 l.length cap (l.map fun b => (b.toNat : Int)) (by simp) (fun i hi => by
      have hc := World.ownsRow.cells h (g := g) rfl i (.int .u8 ((l.map fun b => (b.toNat : Int)).getD i 0)) (by simp [Lib.byteCells, List.getElem?_eq_getElem hi, List.getD_eq_getElem?_getD])
      have ha : (⟨g, 0, none⟩ : Addr).add i = ⟨g, 0 + i, none⟩ := by unfold Addr.add; split <;> simp_all
      rwa [ha] at hc) 9 Tryd.underlying9
    rw [e, nums_bytes]
end Go.Proofs.YthmcacgkhpigaaaDoor.S
