/-
  THE WALK of stolelaw11.Escapes.
-/
import Derived.Test.YtblkbhomlblfnaaDoorLaw11
import Derived.Test.YtblkbhomlblfnaaDoorRefEsc
set_option linter.unusedVariables false
namespace Go.Proofs.YtblkbhomlblfnaaDoor.S
open Go.RowKit
theorem escape_same (l : List UInt8) : escapeL l = escR (norm l) := esc_law (norm l)
theorem escapes_calls (s : ByteArray) (w : World) (hE : Env w) (hs : s.size ≤ 1048576) :
    Calls Tryd.prog 3 #[.string s] w fun e w' => e = .returned (.bool true) ∧ Below w.heap.size w w' := by
  go_enter Tryd.func3, Tryd.ntmps3
  go_wp2_with fail
  refine (escape_calls' s _ hE (by omega)).mono ?_
  rintro e w1 ⟨r1, rfl, hr1, hb1⟩
  go_wp2_with fail
  refine (rescape_calls s _ (by omega)).mono ?_
  rintro e w2 ⟨r2, rfl, hr2, hb2⟩
  rw [← escape_same] at hr2
  obtain rfl : r1 = r2 := hr1.eq.trans hr2.eq.symm
  have hb := hb1.trans (hb2.mono hb1.size)
  have hE2 := hE.below hb
  clear hr1 hr2
  go_wp2_with fail
  refine (awake11_calls _ hE2).mono ?_
  rintro e w3 ⟨rfl, hb3⟩
  go_wp2
  go_ret
  exact ⟨ret_bool (by simp), hb.trans (hb3.mono hb.size)⟩
end Go.Proofs.YtblkbhomlblfnaaDoor.S
