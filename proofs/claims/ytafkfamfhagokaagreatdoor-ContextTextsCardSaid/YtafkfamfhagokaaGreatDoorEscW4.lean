/-
  THE WALKS of package ctx: Escape at the values that the laws hand in.
-/
import Derived.Test.YtafkfamfhagokaaGreatDoorEscW3
set_option linter.unusedVariables false
set_option linter.unusedSimpArgs false
namespace Go.Proofs.YtafkfamfhagokaaGreatDoor.S
open Go.RowKit

set_option maxRecDepth 100000 in
set_option maxHeartbeats 2000000 in
theorem eSaid_calls (fn : Fn) (x y : Array Value) (w : World) : Calls Tryz.prog 36 #[.func fn x y] w fun e w' => ∃ b : Nat, e = .returned (.func (.func 82) #[] #[.pointer (some ⟨b, 0, none⟩)]) ∧ w'.cell? ⟨b, 0, none⟩ = some (.func fn x y) ∧ Below w.heap.size w w' := by
  go_enter Tryz.func36, Tryz.ntmps36
  go_wp2
  go_ret
  exact ⟨w.heap.size, rfl, (Blk.new w [.func fn x y] 77).cell 0 _ rfl, (Below.refl _ _).alloc (Nat.le_refl _) _⟩
set_option maxRecDepth 100000 in
set_option maxHeartbeats 2000000 in
theorem eWithin_calls (fn : Fn) (x y : Array Value) (w : World) : Calls Tryz.prog 38 #[.func fn x y] w fun e w' => ∃ b : Nat, e = .returned (.func (.func 89) #[] #[.pointer (some ⟨b, 0, none⟩)]) ∧ w'.cell? ⟨b, 0, none⟩ = some (.func fn x y) ∧ Below w.heap.size w w' := by
  go_enter Tryz.func38, Tryz.ntmps38
  go_wp2
  go_ret
  exact ⟨w.heap.size, rfl, (Blk.new w [.func fn x y] 75).cell 0 _ rfl, (Below.refl _ _).alloc (Nat.le_refl _) _⟩
set_option maxRecDepth 100000 in
set_option maxHeartbeats 2000000 in
theorem eWithinJ_calls (m b : Nat) (s : ByteArray) (w : World) (hE : Env w) (hs : s.size ≤ 65536) (hq : (escapeL s.data.toList).length ≤ 1000) (hL : LfAt m 4 0 s w) (hc : w.cell? ⟨b, 0, none⟩ = some (.func (.func 41) #[] #[])) :
    Calls Tryz.prog 89 #[.pointer (some ⟨m, 0, none⟩), .pointer (some ⟨b, 0, none⟩)] w fun e w' => ∃ r : ByteArray, e = .returned (.tuple #[.string r, .int .i64 0]) ∧ StrIs r (encL ([32] ++ ([34] ++ escapeL s.data.toList ++ [34]) ++ [32])) ∧ Below w.heap.size w w' := by
  have HQ := Lib.hid hq
  have HJ := Lib.hid (cxJsoned_txt m s w hE hs hq hL)
  clear hq hL
  go_enter Tryz.func89, Tryz.ntmps89
  go_upto_region 2 with (go_at_call 41; refine HJ.out.mono ?_; rintro e w1 ⟨r, rfl, hr, hb1⟩)
  have hrs : r.size ≤ 1004 := by rw [hr.size]; have := HQ.out; simp; omega
  have hX := rfEncode_calls r w1 (hE.below hb1) (by omega)
  unfold StrIs at hr
  rw [hr] at hX
  have HX := Lib.hid hX
  clear hX hr
  go_wp2_with (go_at_call 37; refine HX.out.mono ?_; rintro e w2 ⟨r2, rfl, hr2, hb2⟩)
  go_ret2
  exact ⟨r2, rfl, hr2, hb1.trans (hb2.mono hb1.size)⟩
set_option maxRecDepth 100000 in
set_option maxHeartbeats 2000000 in
theorem eSaid_lst (m : Nat) (w : World) (hL : LfAt m 5 0 ⟨#[]⟩ w) : Calls Tryz.prog 83 #[.pointer (some ⟨m, 0, none⟩)] w fun e w' => e = .returned (.tuple #[.string ⟨#[]⟩, .int .i64 402]) ∧ w = w' := by
  obtain ⟨l0, l1, l2, l3, l4, l5⟩ := hL
  go_enter Tryz.func83, Tryz.ntmps83
  go_wp2
  go_ret2
  exact ⟨rfl, rfl⟩
set_option maxRecDepth 100000 in
set_option maxHeartbeats 2000000 in
theorem eSaidL_calls (m b : Nat) (w : World) (hL : LfAt m 5 0 ⟨#[]⟩ w) : Calls Tryz.prog 82 #[.pointer (some ⟨m, 0, none⟩), .pointer (some ⟨b, 0, none⟩)] w fun e w' => e = .returned (.tuple #[.string ⟨#[]⟩, .int .i64 402]) ∧ w = w' := by
  have HS := Lib.hid (eSaid_lst m w hL)
  clear hL
  go_enter Tryz.func82, Tryz.ntmps82
  go_wp2_with (go_at_call 83; refine HS.out.mono ?_; rintro e w1 ⟨rfl, rfl⟩)
  go_ret2
  exact ⟨rfl, rfl⟩
end Go.Proofs.YtafkfamfhagokaaGreatDoor.S
