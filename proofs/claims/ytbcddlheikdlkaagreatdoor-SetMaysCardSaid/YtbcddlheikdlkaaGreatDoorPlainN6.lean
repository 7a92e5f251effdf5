/-
  PLAIN: the law SetMays (chapter 17): each part of what is read that may not be.
-/
import Derived.Test.YtbcddlheikdlkaaGreatDoorSetStore
set_option linter.unusedVariables false
set_option linter.unusedSimpArgs false
namespace Go.Proofs.YtbcddlheikdlkaaGreatDoor.S
open Go.RowKit

def srcM : List UInt8 := [116, 123, 123, 114, 97, 110, 103, 101, 32, 46, 125, 125, 123, 123, 46, 125, 125, 123, 123, 98, 114, 101, 97, 107, 125, 125, 123, 123, 101, 110, 100, 125, 125, 123, 123, 116, 101, 109, 112, 108, 97, 116, 101, 32, 34, 98, 34, 32, 46, 125, 125, 123, 123, 36, 120, 32, 58, 61, 32, 49, 125, 125]
def numP : List Cm := [⟨[], [⟨2, [], [], 1, []⟩]⟩]
def empP : List Cm := [⟨[], []⟩]
def rowM : List It := [.mk 1 [] dotP [] [], .mk 7 [] [] [] []]
def i0M : It := .mk 0 [116] [] [] []
def i1M : It := .mk 5 [] dotP rowM []
def i2M : It := .mk 6 [98] dotP [] []
def i3M : It := .mk 2 [120] numP [] []
def n1M : Nm := ([98], [.mk 0 [117] [] [] []])
def isM : List It := [i0M, i1M, i2M, i3M]
def nsM : List Nm := [([97], isM), n1M]
theorem rdM : readL [([97], srcM), ([98], [117])] = .ok nsM := by kernel_rfl
theorem mayM : mayL nsM = true := by kernel_rfl
theorem ar_dot : ArOk ⟨0, [], [], 0, []⟩ := .dot [] (fun x hx => by cases hx) (by decide)
theorem ar_one : ArOk ⟨2, [], [], 1, []⟩ := .num 1 (by decide)
theorem pOk_nil : ∀ c ∈ ([] : List Cm), ∀ a ∈ c.args, ArOk a := fun c hc => by cases hc
theorem pOk_emp : ∀ c ∈ empP, ∀ a ∈ c.args, ArOk a := fun c hc a ha => by
  have hc : c ∈ [(⟨[], []⟩ : Cm)] := hc
  rw [List.mem_singleton.1 hc] at ha
  cases ha
theorem pOk_dot : ∀ c ∈ dotP, ∀ a ∈ c.args, ArOk a := fun c hc a ha => by
  have hc : c ∈ [(⟨[], [⟨0, [], [], 0, []⟩]⟩ : Cm)] := hc
  rw [List.mem_singleton.1 hc] at ha
  rw [List.mem_singleton.1 ha]
  exact ar_dot
theorem pOk_num : ∀ c ∈ numP, ∀ a ∈ c.args, ArOk a := fun c hc a ha => by
  have hc : c ∈ [(⟨[], [⟨2, [], [], 1, []⟩]⟩ : Cm)] := hc
  rw [List.mem_singleton.1 hc] at ha
  rw [List.mem_singleton.1 ha]
  exact ar_one
theorem leafP (k : Nat) (t : List UInt8) (p : List Cm) (hp : ∀ c ∈ p, ∀ a ∈ c.args, ArOk a) (ht : t.length ≤ 9223372036854775807) : ItOk (.mk k t p [] []) :=
  .mk _ _ _ _ _ hp (by decide) ht (fun i hi => by cases hi) (fun i hi => by cases hi)
theorem one_ok {a : It} (ha : ItOk a) : ∀ i ∈ [a], ItOk i := fun i hi => by rw [List.mem_singleton.1 hi]; exact ha
theorem four_ok {a b c d : It} (ha : ItOk a) (hb : ItOk b) (hc : ItOk c) (hd : ItOk d) : ∀ i ∈ [a, b, c, d], ItOk i := fun i hi => by
  simp only [List.mem_cons, List.not_mem_nil, or_false] at hi
  rcases hi with rfl | rfl | rfl | rfl <;> assumption
theorem rowM_ok : ∀ i ∈ rowM, ItOk i := fun i hi => by
  simp only [rowM, List.mem_cons, List.not_mem_nil, or_false] at hi
  rcases hi with rfl | rfl
  · exact leafP _ _ _ pOk_dot (by decide)
  · exact leafP _ _ _ pOk_nil (by decide)
theorem blockP (k : Nat) (t : List UInt8) (p : List Cm) (el : List It) (hp : ∀ c ∈ p, ∀ a ∈ c.args, ArOk a) (ht : t.length ≤ 9223372036854775807) (hel : ∀ i ∈ el, ItOk i) (hl : el.length ≤ 10) : ItOk (.mk k t p rowM el) :=
  .mk _ _ _ _ _ hp (by show 2 + el.length ≤ _; omega) ht rowM_ok hel
theorem ok0 : ItOk i0M := leafP _ _ _ pOk_nil (by decide)
theorem ok1 : ItOk i1M := blockP _ _ _ _ pOk_dot (by decide) (fun i hi => by cases hi) (by decide)
theorem ok2 : ItOk i2M := leafP _ _ _ pOk_dot (by decide)
theorem ok3 : ItOk i3M := leafP _ _ _ pOk_num (by decide)
theorem n1_ok : ∀ i ∈ n1M.2, ItOk i := one_ok (leafP _ _ _ pOk_nil (by decide))
/-- templates that may not be, as they lie -/
def NoMay (v : Value) (w W : World) : Prop := ∃ ns : List Nm, mayL ns = false ∧ (∀ n ∈ ns, ∀ i ∈ n.2, ItOk i) ∧ (∀ n ∈ ns, n.1.length ≤ 9223372036854775807) ∧ NmV v ns W ∧ Below w.heap.size w W
theorem NoMay.item {v : Value} {w W : World} {k : Nat} {i' : It} (hm : mayL [([97], isM.set k i'), n1M] = false) (hi : ItOk i') (hV : NmV v [([97], isM.set k i'), n1M] W) (hb : Below w.heap.size w W) : NoMay v w W := by
  refine ⟨_, hm, fun n hn i hin => ?_, fun n hn => ?_, hV, hb⟩
  · simp only [List.mem_cons, List.not_mem_nil, or_false] at hn
    rcases hn with rfl | rfl
    · rcases List.mem_or_eq_of_mem_set hin with h | rfl
      · exact four_ok ok0 ok1 ok2 ok3 i h
      · exact hi
    · exact n1_ok i hin
  · simp only [List.mem_cons, List.not_mem_nil, or_false] at hn
    rcases hn with rfl | rfl
    · show ([97] : List UInt8).length ≤ _; decide
    · show ([98] : List UInt8).length ≤ _; decide
theorem NoMay.name {v : Value} {w W : World} {t : List UInt8} (ht : t.length ≤ 64) (hm : mayL [([97], isM), (t, n1M.2)] = false) (hV : NmV v [([97], isM), (t, n1M.2)] W) (hb : Below w.heap.size w W) : NoMay v w W := by
  refine ⟨_, hm, fun n hn i hin => ?_, fun n hn => ?_, hV, hb⟩
  · simp only [List.mem_cons, List.not_mem_nil, or_false] at hn
    rcases hn with rfl | rfl
    · exact four_ok ok0 ok1 ok2 ok3 i hin
    · exact n1_ok i hin
  · simp only [List.mem_cons, List.not_mem_nil, or_false] at hn
    rcases hn with rfl | rfl
    · show _ ≤ _; decide
    · show t.length ≤ _; omega
theorem NoMay.less {v : Value} {w W : World} (hV : NmV v [([97], isM)] W) (hb : Below w.heap.size w W) : NoMay v w W := by
  refine ⟨_, by kernel_rfl, fun n hn i hin => ?_, fun n hn => ?_, hV, hb⟩
  · rw [List.mem_singleton.1 hn] at hin
    exact four_ok ok0 ok1 ok2 ok3 i hin
  · rw [List.mem_singleton.1 hn]
    show _ ≤ _; decide
theorem m0 : mayL [([97], isM), ([97], n1M.2)] = false := by kernel_rfl
theorem m1 : mayL [([97], isM), ([99], n1M.2)] = false := by kernel_rfl
theorem m2 : mayL [([97], isM.set 0 (.mk 0 [] [] [] [])), n1M] = false := by kernel_rfl
theorem m3 (d : Nat) (h1 : 1 ≤ d) (h2 : d ≤ 64) : mayL [([97], isM.set 0 (.mk (8 + d) [116] [] [] [])), n1M] = false := by
  have key : ∀ d : Fin 64, mayL [([97], isM.set 0 (.mk (8 + (1 + d.val)) [116] [] [] [])), n1M] = false := by decide +kernel
  have := key ⟨d - 1, by omega⟩
  simpa [show 1 + (d - 1) = d by omega] using this
theorem m4 : mayL [([97], isM.set 0 (.mk 7 [116] [] [] [])), n1M] = false := by kernel_rfl
theorem m5 : mayL [([97], isM.set 0 (.mk 0 [116] [] [.mk 0 [120] [] [] []] [])), n1M] = false := by kernel_rfl
theorem m6 : mayL [([97], isM.set 0 (.mk 0 [116] dotP [] [])), n1M] = false := by kernel_rfl
theorem m7 : mayL [([97], isM.set 1 (.mk 5 [] [] rowM [])), n1M] = false := by kernel_rfl
theorem m8 : mayL [([97], isM.set 1 (.mk 5 [120] dotP rowM [])), n1M] = false := by kernel_rfl
theorem m9 : mayL [([97], isM.set 1 (.mk 5 [] dotP rowM [.mk 7 [] [] [] []])), n1M] = false := by kernel_rfl
theorem m10 : mayL [([97], isM.set 2 (.mk 6 [122] dotP [] [])), n1M] = false := by kernel_rfl
theorem m11 : mayL [([97], isM.set 2 (.mk 6 [98] empP [] [])), n1M] = false := by kernel_rfl
theorem m12 : mayL [([97], isM.set 3 (.mk 2 [49] numP [] [])), n1M] = false := by kernel_rfl
theorem m13 : mayL [([97], isM.set 3 (.mk 2 [120] [] [] [])), n1M] = false := by kernel_rfl
theorem m14 : mayL [([97], isM.set 1 (.mk 3 [] dotP rowM [])), n1M] = false := by kernel_rfl
theorem m16 (t : List UInt8) (h : 65536 < t.length) : mayL [([97], isM.set 0 (.mk 0 t [] [] [])), n1M] = false := by
  have hr : mayR [[97], [98]] (.mk 0 t [] [] [] :: [i1M, i2M, i3M]) 0 false 1024 65536 = none := by
    have hne : ¬ (t ≠ [] ∧ t.length ≤ 65536) := fun h' => by omega
    have h1 : may1 [[97], [98]] (.mk 0 t [] [] []) 0 false 1024 65536 = none := by
      rw [may1, if_neg (by decide), if_neg (by simp [bareI, isBlock, isTexted, isPiped, It.kind, It.th, It.el, It.text, It.pipe]), if_pos rfl, if_neg hne]
    rw [mayR, h1]
  exact mayL_rows 0 (by simp) hr
end Go.Proofs.YtbcddlheikdlkaaGreatDoor.S
