/-
  strings.Builder's WriteByte, WriteString, String at this translation, by the shelf's contracts (forms '_k'), laid by hand: the shelf's own command does not lay them here (type string is named by no body of their closures).
-/
import Derived.Test.YtbcddlheikdlkaaGreatDoorProg
import Derived.Shelf.Strings.BuilderK
set_option linter.unusedVariables false
namespace Go.Proofs
open Go.Shelf Go.RowKit Go.Lib

def Tryz.layB_ren : Go.Shelf.Ren := ⟨fun | 166 => 132 | 167 => 0 | 169 => 134 | 240 => 161 | 276 => 174 | n => n, fun | 0 => 0 | 3 => 3 | 4 => 4 | 5 => 5 | 9 => 9 | 20 => 20 | 37 => 52 | 70 => 173 | 72 => 175 | 75 => 177 | 76 => 178 | 80 => 135 | 127 => 197 | 164 => 205 | n => n, fun | n => n⟩
theorem Tryz.layB166 : Lays.n166 Tryz.prog Tryz.layB_ren := {
  mixed := by kernel_rfl
  f166 := Tryz.func132.trans (congrArg some (by kernel_rfl))
  f240 := Tryz.func161.trans (congrArg some (by kernel_rfl))
  f276 := Tryz.func174.trans (congrArg some (by kernel_rfl))
  t0 := Tryz.underlying0
  a0 := Tryz.isAgg0
  z0 := Tryz.sizeOf0
  v0 := Tryz.zeroValue0
  t3 := Tryz.underlying3
  a3 := Tryz.isAgg3
  z3 := Tryz.sizeOf3
  v3 := Tryz.zeroValue3
  t4 := Tryz.underlying4
  a4 := Tryz.isAgg4
  z4 := Tryz.sizeOf4
  v4 := Tryz.zeroValue4
  t9 := Tryz.underlying9
  a9 := Tryz.isAgg9
  z9 := Tryz.sizeOf9
  v9 := Tryz.zeroValue9
  t20 := Tryz.underlying20
  a20 := Tryz.isAgg20
  z20 := Tryz.sizeOf20
  v20 := Tryz.zeroValue20
  t37 := Tryz.underlying52
  a37 := Tryz.isAgg52
  z37 := Tryz.sizeOf52
  v37 := Tryz.zeroValue52
  t70 := Tryz.underlying173
  a70 := Tryz.isAgg173
  z70 := Tryz.sizeOf173
  v70 := Tryz.zeroValue173
  t72 := Tryz.underlying175
  a72 := Tryz.isAgg175
  z72 := Tryz.sizeOf175
  v72 := Tryz.zeroValue175
  t75 := Tryz.underlying177
  a75 := Tryz.isAgg177
  z75 := Tryz.sizeOf177
  v75 := Tryz.zeroValue177
  t164 := Tryz.underlying205
  a164 := Tryz.isAgg205
  z164 := Tryz.sizeOf205
  v164 := Tryz.zeroValue205 }
theorem Tryz.layB169 : Lays.n169 Tryz.prog Tryz.layB_ren := {
  mixed := by kernel_rfl
  f169 := Tryz.func134.trans (congrArg some (by kernel_rfl))
  t0 := Tryz.underlying0
  a0 := Tryz.isAgg0
  z0 := Tryz.sizeOf0
  v0 := Tryz.zeroValue0
  t3 := Tryz.underlying3
  a3 := Tryz.isAgg3
  z3 := Tryz.sizeOf3
  v3 := Tryz.zeroValue3
  t9 := Tryz.underlying9
  a9 := Tryz.isAgg9
  z9 := Tryz.sizeOf9
  v9 := Tryz.zeroValue9
  t37 := Tryz.underlying52
  a37 := Tryz.isAgg52
  z37 := Tryz.sizeOf52
  v37 := Tryz.zeroValue52
  t70 := Tryz.underlying173
  a70 := Tryz.isAgg173
  z70 := Tryz.sizeOf173
  v70 := Tryz.zeroValue173
  t72 := Tryz.underlying175
  a72 := Tryz.isAgg175
  z72 := Tryz.sizeOf175
  v72 := Tryz.zeroValue175
  t127 := Tryz.underlying197
  a127 := Tryz.isAgg197
  z127 := Tryz.sizeOf197
  v127 := Tryz.zeroValue197 }
theorem Tryz.layBX : Builder.Extra Tryz.prog Tryz.layB_ren := {
  sizeBuilder := by kernel_rfl
  liesBuilder := by kernel_rfl
  t5 := Tryz.underlying5
  a5 := Tryz.isAgg5
  z5 := Tryz.sizeOf5
  v5 := Tryz.zeroValue5
  infoByte := by kernel_rfl
  cellsByte := by kernel_rfl
  sizeByte := by kernel_rfl
  neB5 := by decide }

/-- a builder of the call's own holds these bytes: block b, behind block B -/
def Tryz.BuilderHas (B b : Nat) (l : List UInt8) (w : World) : Prop := Lib.IsBuilderF 175 5 B b (Lib.byteCells l) w

theorem Tryz.writeString (B b : Nat) (l : List UInt8) (s : ByteArray) (w : World) (h : Tryz.BuilderHas B b l w) (hlen : l.length + s.size ≤ 140737488355328) (hBw : B ≤ w.heap.size) :
    Calls Tryz.prog 132 #[.pointer (some ⟨b, 0, none⟩), .string s] w fun e w' => e = .returned (.tuple #[.int .i64 s.size, .nilIface]) ∧ Tryz.BuilderHas B b (l ++ s.data.toList) w' ∧ Below B w w' :=
  (Any.Builder_WriteString_k Tryz.layB166 Tryz.layBX B b (Lib.byteCells l) s w h (by rw [Lib.byteCells_length]; exact hlen) hBw).mono fun e w' ⟨he, hb, hB, _⟩ =>
    ⟨he, by unfold Tryz.BuilderHas; rw [Lib.byteCells_append]; exact .inr hb, hB⟩
theorem Tryz.builderString (B b : Nat) (l : List UInt8) (w : World) (h : Tryz.BuilderHas B b l w) (hBw : B ≤ w.heap.size) :
    Calls Tryz.prog 134 #[.pointer (some ⟨b, 0, none⟩)] w fun e w' => e = .returned (.string ⟨l.toArray⟩) ∧ Below B w w' :=
  (Any.Builder_String_any_k Tryz.layB169 Tryz.layBX B b l w h hBw).mono fun e w' ⟨he, _, hB, _⟩ => ⟨he, hB⟩
theorem Tryz.freshBuilder (w : World) : Tryz.BuilderHas w.heap.size w.heap.size [] (w.alloc (.cells #[.pointer none, .slice none 0 0] 175)) :=
  Lib.IsBuilderF.of (Lib.fresh_isBuilder 175 5 w)
theorem Tryz.builderBelow {B b : Nat} {l : List UInt8} {w w' : World} (h : Tryz.BuilderHas B b l w) (hb : Below w.heap.size w w') : Tryz.BuilderHas B b l w' := by
  have one : ∀ p, Lib.BuilderAtF 175 5 B b p (Lib.byteCells l) w → Lib.BuilderAtF 175 5 B b p (Lib.byteCells l) w' := fun p ⟨hB, v, hv, hr, hne⟩ =>
    ⟨hB, v, (hb.block b (Array.getElem?_eq_some_iff.1 hv).1).trans hv, hr.kept (row := none) ⟨hb.os, hb.tape, hb.output, hb.size, fun i hi _ => hb.block i hi⟩ (by cases v.ownBlock <;> simp), hne⟩
  exact h.elim (fun x => .inl (one _ x)) (fun x => .inr (one _ x))
/-- a text's bytes, behind a name -/
def YtbcddlheikdlkaaGreatDoor.S.StrIs (r : ByteArray) (l : List UInt8) : Prop := r.data.toList = l
theorem Tryz.builderString' (B b : Nat) (l : List UInt8) (w : World) (h : Tryz.BuilderHas B b l w) (hBw : B ≤ w.heap.size) :
    Calls Tryz.prog 134 #[.pointer (some ⟨b, 0, none⟩)] w fun e w' => ∃ r : ByteArray, e = .returned (.string r) ∧ YtbcddlheikdlkaaGreatDoor.S.StrIs r l ∧ Below B w w' :=
  (Tryz.builderString B b l w h hBw).mono fun _ _ ⟨he, hB⟩ => ⟨_, he, rfl, hB⟩
end Go.Proofs
