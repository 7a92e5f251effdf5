/-
  TREES OF VALUES in memory, as they may be read.
-/
import Derived.Test.YthmcacgkhpigaaaDoorPlainJ
import Derived.Test.YthmcacgkhpigaaaDoorState
import Derived.Test.YthmcacgkhpigaaaDoorUtfWalks
set_option linter.unusedVariables false
set_option linter.unusedSimpArgs false
namespace Go.Proofs.YthmcacgkhpigaaaDoor.S
open Go.RowKit

/-- a value, and the values of its rows -/
structure Vc where
  jv : JV
  iv : Value
  kv : Value
def Vc.cells (z : Vc) : List Value := [.int .i64 z.jv.kind, .int .i64 z.jv.num, .int .u64 z.jv.bits, .string ⟨z.jv.text.toArray⟩, z.iv, z.kv]
def vcsCells (zs : List Vc) : List Value := zs.flatMap Vc.cells
theorem vcsCells_len (zs : List Vc) : (vcsCells zs).length = zs.length * 6 := by
  induction zs with
  | nil => rfl
  | cons z zs ih =>
    unfold vcsCells at *
    rw [List.flatMap_cons, List.length_append, ih]; simp [Vc.cells]; omega
theorem vcsCells_at (zs : List Vc) (i : Nat) (hi : i < zs.length) (j : Nat) (hj : j < 6) : (vcsCells zs)[i * 6 + j]? = (zs[i]'hi).cells[j]? := by
  induction zs generalizing i with
  | nil => simp at hi
  | cons z zs ih =>
    have hlen : z.cells.length = 6 := rfl
    unfold vcsCells at *
    rw [List.flatMap_cons]
    cases i with
    | zero =>
      rw [Nat.zero_mul, Nat.zero_add, List.getElem?_append_left (by rw [hlen]; exact hj)]
      rfl
    | succ i =>
      rw [List.getElem?_append_right (by rw [hlen]; omega), hlen]
      have := ih i (by simpa using hi)
      rw [show (i + 1) * 6 + j - 6 = i * 6 + j by omega, this]
      rfl
/-- a row of texts that may be read -/
inductive KR (P : Nat → Prop) (W : World) : Value → List (List UInt8) → Prop
  | nil (a : Option Addr) (c : Nat) : KR P W (.slice a 0 c) []
  | mk (g o c : Nat) (ks : List (List UInt8)) (hP : P g) (hg : g < W.heap.size) (hc : ∀ j (h : j < ks.length), W.cell? ⟨g, o + j, none⟩ = some (.string ⟨(ks[j]'h).toArray⟩)) : KR P W (.slice (some ⟨g, o, none⟩) ks.length c) ks
/-- a row of values that may be read -/
inductive VR (P : Nat → Prop) (W : World) : Value → List JV → Prop
  | nil (a : Option Addr) (c : Nat) : VR P W (.slice a 0 c) []
  | mk (g o c : Nat) (zs : List Vc) (hP : P g) (hg : g < W.heap.size) (hc : ∀ j, j < zs.length * 6 → W.cell? ⟨g, o + j, none⟩ = (vcsCells zs)[j]?) (hk : ∀ z ∈ zs, KR P W z.kv z.jv.keys) (hi : ∀ z ∈ zs, VR P W z.iv z.jv.items) :
      VR P W (.slice (some ⟨g, o, none⟩) zs.length c) (zs.map Vc.jv)
variable {P P' : Nat → Prop} {W W' : World} {v : Value} {ks : List (List UInt8)} {js : List JV}
theorem size_of_block {g : Nat} (h : W'.heap[g]? = W.heap[g]?) (hg : g < W.heap.size) : g < W'.heap.size := by
  rw [Array.getElem?_eq_getElem hg] at h
  exact (Array.getElem?_eq_some_iff.1 h).1
theorem KR.keep (h : KR P W v ks) (k : ∀ g, P g → g < W.heap.size → W'.heap[g]? = W.heap[g]?) : KR P W' v ks := by
  cases h with
  | nil a c => exact .nil a c
  | mk g o c ks hP hg hc => exact .mk g o c ks hP (size_of_block (k g hP hg) hg) fun j hj => (World.cell?_of_block (k g hP hg)).trans (hc j hj)
theorem KR.mono (h : KR P W v ks) (k : ∀ g, g < W.heap.size → P g → P' g) : KR P' W v ks := by
  cases h with
  | nil a c => exact .nil a c
  | mk g o c ks hP hg hc => exact .mk g o c ks (k g hg hP) hg hc
theorem VR.keep (h : VR P W v js) (k : ∀ g, P g → g < W.heap.size → W'.heap[g]? = W.heap[g]?) : VR P W' v js := by
  induction h with
  | nil a c => exact .nil a c
  | mk g o c zs hP hg hc hk hi ih => exact .mk g o c zs hP (size_of_block (k g hP hg) hg) (fun j hj => (World.cell?_of_block (k g hP hg)).trans (hc j hj)) (fun z hz => (hk z hz).keep k) ih
theorem VR.mono (h : VR P W v js) (k : ∀ g, g < W.heap.size → P g → P' g) : VR P' W v js := by
  induction h with
  | nil a c => exact .nil a c
  | mk g o c zs hP hg hc hk hi ih => exact .mk g o c zs (k g hg hP) hg hc (fun z hz => (hk z hz).mono k) ih
theorem KR.blw (h : KR P W v ks) (hb : Below W.heap.size W W') : KR P W' v ks := h.keep fun g _ hg => hb.block g hg
theorem VR.blw (h : VR P W v js) (hb : Below W.heap.size W W') : VR P W' v js := h.keep fun g _ hg => hb.block g hg
theorem KR.slice (h : KR P W v ks) : ∃ a c, v = .slice a ks.length c := by
  cases h with
  | nil a c => exact ⟨a, c, rfl⟩
  | mk g o c ks hP hg hc => exact ⟨_, c, rfl⟩
theorem VR.slice (h : VR P W v js) : ∃ a c, v = .slice a js.length c := by
  cases h with
  | nil a c => exact ⟨a, c, rfl⟩
  | mk g o c zs hP hg hc hk hi => exact ⟨_, c, by rw [List.length_map]⟩
/-- the row laid open: where, which elements -/
theorem VR.open (h : VR P W v js) : ∃ (a : Option Addr) (c : Nat) (zs : List Vc), v = .slice a zs.length c ∧ zs.map Vc.jv = js ∧
    ∀ i (hi : i < zs.length), ∃ g o, a = some ⟨g, o, none⟩ ∧ P g ∧ g < W.heap.size ∧ (∀ j, j < 6 → W.cell? ⟨g, o + (i * 6 + j), none⟩ = (zs[i]'hi).cells[j]?) ∧ KR P W (zs[i]'hi).kv (zs[i]'hi).jv.keys ∧ VR P W (zs[i]'hi).iv (zs[i]'hi).jv.items := by
  cases h with
  | nil a c => exact ⟨a, c, [], rfl, rfl, fun i hi => by simp at hi⟩
  | mk g o c zs hP hg hc hk hi =>
    refine ⟨_, c, zs, rfl, rfl, fun i hi' => ⟨g, o, rfl, hP, hg, fun j hj => ?_, hk _ (List.getElem_mem hi'), hi _ (List.getElem_mem hi')⟩⟩
    rw [hc (i * 6 + j) (by omega), vcsCells_at zs i hi' j hj]
theorem KR.open (h : KR P W v ks) : ∃ (a : Option Addr) (c : Nat), v = .slice a ks.length c ∧ ∀ i (hi : i < ks.length), ∃ g o, a = some ⟨g, o, none⟩ ∧ W.cell? ⟨g, o + i, none⟩ = some (.string ⟨(ks[i]'hi).toArray⟩) := by
  cases h with
  | nil a c => exact ⟨a, c, rfl, fun i hi => by simp at hi⟩
  | mk g o c ks hP hg hc => exact ⟨_, c, rfl, fun i hi => ⟨g, o, rfl, hc i hi⟩⟩
end Go.Proofs.YthmcacgkhpigaaaDoor.S
