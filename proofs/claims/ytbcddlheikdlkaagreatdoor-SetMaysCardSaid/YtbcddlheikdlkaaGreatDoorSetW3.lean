/-
  THE WALK of package pipe's argMay: an argument as it was read may be.
-/
import Derived.Test.YtbcddlheikdlkaaGreatDoorSetG
import Derived.Test.YtbcddlheikdlkaaGreatDoorPipeG
import Derived.Deep.RegionHeld3
set_option linter.unusedVariables false
set_option linter.unusedSimpArgs false
namespace Go.Proofs.YtbcddlheikdlkaaGreatDoor.S
open Go.RowKit

/-- an argument as it is read -/
inductive ArOk : Ar → Prop
  | dot (xs : List (List UInt8)) (h : ∀ x ∈ xs, nameOk x = true) (hl : xs.length ≤ 8) : ArOk ⟨0, [], xs, 0, []⟩
  | var (x : List UInt8) (xs : List (List UInt8)) (h : nameOk x = true) (hs : ∀ x ∈ xs, nameOk x = true) (hl : xs.length ≤ 8) : ArOk ⟨1, x, xs, 0, []⟩
  | num (z : Int) (h : z.natAbs ≤ 9007199254740991) : ArOk ⟨2, [], [], z, []⟩
  | text (t : List UInt8) (h : t.length ≤ 65536) : ArOk ⟨3, [], [], 0, t⟩
  | yes : ArOk ⟨4, [], [], 1, []⟩
  | no : ArOk ⟨4, [], [], 0, []⟩
  | null : ArOk ⟨5, [], [], 0, []⟩
theorem keep1 {w1 : World} {g h j : Nat} {x : Value} (hne : g ≠ h) (j' : Nat) (v : Value) (e : w1.cell? ⟨g, j, none⟩ = some x) : (w1.setCell ⟨h, j', none⟩ v).cell? ⟨g, j, none⟩ = some x := by
  rw [← e]
  exact World.cell?_setCell_far w1 _ _ v (fun e2 => hne e2.symm)
theorem path_q (base : Nat) (v : Value) (xs : List (List UInt8)) (w : World) (hP : Txs base v xs w) (hn : ∀ x ∈ xs, nameOk x = true) (hl : xs.length ≤ 8) :
    Calls Tryz.prog 151 #[v] w fun e w' => e = .returned (.bool true) ∧ w' = w := (path_calls base v xs w hP hn hl).mono fun _ _ ⟨he, hw⟩ => ⟨he, hw.symm⟩
theorem vint_q (x : Int) (h : x.natAbs ≤ 9007199254740991) (w : World) :
    Calls Tryz.prog 152 #[.int .i64 x] w fun e w' => e = .returned (.bool true) ∧ w' = w := (vint_calls x h w).mono fun _ _ ⟨he, hw⟩ => ⟨he, hw.symm⟩
set_option maxRecDepth 100000 in
set_option maxHeartbeats 8000000 in
theorem argMay_null  (g off base : Nat) (pv : Value) (w : World) (c0 : w.cell? ⟨g, off, none⟩ = some (.int .i64 5)) (c1 : w.cell? ⟨g, off + 1, none⟩ = some (.string ⟨#[]⟩))
    (c2 : w.cell? ⟨g, off + 2, none⟩ = some pv) (c3 : w.cell? ⟨g, off + 3, none⟩ = some (.int .i64 0)) (c4 : w.cell? ⟨g, off + 4, none⟩ = some (.string ⟨#[]⟩)) (hp : Txs base pv ([] : List (List UInt8)) w) :
    Calls Tryz.prog 125 #[.pointer (some ⟨g, off, none⟩)] w fun e w' => e = .returned (.bool true) ∧ Below w.heap.size w w' := by
  obtain ⟨pa, pc, rfl⟩ := hp.slice
  have hW : Blk w.heap.size 87 [.int .i64 5, .string ⟨#[]⟩, .slice none 0 0, .int .i64 0, .string ⟨#[]⟩] (w.alloc (.cells #[.int .i64 5, .string ⟨#[]⟩, .slice none 0 0, .int .i64 0, .string ⟨#[]⟩] 87)) := Blk.new w _ _
  have hb1 : Below w.heap.size w (w.alloc (.cells #[.int .i64 5, .string ⟨#[]⟩, .slice none 0 0, .int .i64 0, .string ⟨#[]⟩] 87)) := (Below.refl _ w).alloc (Nat.le_refl _) _
  have hk : ∀ {p v}, w.cell? p = some v → (w.alloc (.cells #[.int .i64 5, .string ⟨#[]⟩, .slice none 0 0, .int .i64 0, .string ⟨#[]⟩] 87)).cell? p = some v := fun {p v} hv => (hb1.cell (World.block_lt_of_cell? w p hv)).trans hv
  have hp1 := hp.below hb1
  have hpk := hp
  have hne : g ≠ w.heap.size := by have := World.block_lt_of_cell? w _ c0; intro e; simp only at this; omega
  have e0 := hk c0
  have e1 := hk c1
  have e2 := hk c2
  have e3 := hk c3
  have e4 := hk c4
  clear hk hp
  go_enter Tryz.func125, Tryz.ntmps125
  go_upto_region 2 with (fail)
  clear c0 c1 c2 c3 c4
  generalize w.alloc (.cells #[.int .i64 5, .string ⟨#[]⟩, .slice none 0 0, .int .i64 0, .string ⟨#[]⟩] 87) = w1 at *
  have hW2 := hW
  have hb2 := hb1
  have hp2 := hp1
  have k1 := hW2.cell 1 _ rfl
  have k3 := hW2.cell 3 _ rfl
  have k4 := hW2.cell 4 _ rfl
  have hP := fun n => path_q base (.slice pa ([] : List (List UInt8)).length pc) ([] : List (List UInt8)) (World.drewN w1 n) (hp2.drewN n) (fun x hx => by cases hx) (by decide)
  have hV := fun n => vint_q 0 (by omega) (World.drewN w1 n)
  have HP := Lib.hid hP
  have HV := Lib.hid hV
  have HB := Lib.hid hb2
  clear hP hV hb2 hp2 hW2 hW hb1 hp1 hpk hne
  go_upto_region 18 with (first | (go_at_call 99; refine (hN _).mono ?_; rintro e w' ⟨rfl, rfl⟩) | fail)
  go_quiet (first | (go_at_call 151; exact Calls.quiet_of_same (HP.out _)) | (go_at_call 152; exact Calls.quiet_of_same (HV.out _)))
  go_wp2
  go_ret
  exact ⟨rfl, Below.drewN HB.out _⟩
set_option maxRecDepth 100000 in
set_option maxHeartbeats 8000000 in
theorem argMay_dot (xs : List (List UInt8)) (h : ∀ x ∈ xs, nameOk x = true) (hl : xs.length ≤ 8) (g off base : Nat) (pv : Value) (w : World) (c0 : w.cell? ⟨g, off, none⟩ = some (.int .i64 0)) (c1 : w.cell? ⟨g, off + 1, none⟩ = some (.string ⟨#[]⟩))
    (c2 : w.cell? ⟨g, off + 2, none⟩ = some pv) (c3 : w.cell? ⟨g, off + 3, none⟩ = some (.int .i64 0)) (c4 : w.cell? ⟨g, off + 4, none⟩ = some (.string ⟨#[]⟩)) (hp : Txs base pv xs w) :
    Calls Tryz.prog 125 #[.pointer (some ⟨g, off, none⟩)] w fun e w' => e = .returned (.bool true) ∧ Below w.heap.size w w' := by
  obtain ⟨pa, pc, rfl⟩ := hp.slice
  have hW : Blk w.heap.size 87 [.int .i64 0, .string ⟨#[]⟩, .slice none 0 0, .int .i64 0, .string ⟨#[]⟩] (w.alloc (.cells #[.int .i64 0, .string ⟨#[]⟩, .slice none 0 0, .int .i64 0, .string ⟨#[]⟩] 87)) := Blk.new w _ _
  have hb1 : Below w.heap.size w (w.alloc (.cells #[.int .i64 0, .string ⟨#[]⟩, .slice none 0 0, .int .i64 0, .string ⟨#[]⟩] 87)) := (Below.refl _ w).alloc (Nat.le_refl _) _
  have hk : ∀ {p v}, w.cell? p = some v → (w.alloc (.cells #[.int .i64 0, .string ⟨#[]⟩, .slice none 0 0, .int .i64 0, .string ⟨#[]⟩] 87)).cell? p = some v := fun {p v} hv => (hb1.cell (World.block_lt_of_cell? w p hv)).trans hv
  have hp1 := hp.below hb1
  have hpk := hp
  have hne : g ≠ w.heap.size := by have := World.block_lt_of_cell? w _ c0; intro e; simp only at this; omega
  have e0 := hk c0
  have e1 := hk c1
  have e2 := hk c2
  have e3 := hk c3
  have e4 := hk c4
  clear hk hp
  go_enter Tryz.func125, Tryz.ntmps125
  go_upto_region 2 with (fail)
  clear c0 c1 c2 c3 c4
  generalize w.alloc (.cells #[.int .i64 0, .string ⟨#[]⟩, .slice none 0 0, .int .i64 0, .string ⟨#[]⟩] 87) = w1 at *
  have hW2 := hW
  have hb2 := hb1
  have hp2 := hp1
  have k1 := hW2.cell 1 _ rfl
  have k3 := hW2.cell 3 _ rfl
  have k4 := hW2.cell 4 _ rfl
  have hP := fun n => path_q base (.slice pa xs.length pc) xs (World.drewN w1 n) (hp2.drewN n) h hl
  have hV := fun n => vint_q 0 (by omega) (World.drewN w1 n)
  have HP := Lib.hid hP
  have HV := Lib.hid hV
  have HB := Lib.hid hb2
  clear hP hV hb2 hp2 hW2 hW hb1 hp1 hpk hne
  go_upto_region 18 with (first | (go_at_call 99; refine (hN _).mono ?_; rintro e w' ⟨rfl, rfl⟩) | fail)
  go_quiet (first | (go_at_call 151; exact Calls.quiet_of_same (HP.out _)) | (go_at_call 152; exact Calls.quiet_of_same (HV.out _)))
  go_wp2
  go_ret
  exact ⟨rfl, Below.drewN HB.out _⟩
set_option maxRecDepth 100000 in
set_option maxHeartbeats 8000000 in
theorem argMay_no  (g off base : Nat) (pv : Value) (w : World) (c0 : w.cell? ⟨g, off, none⟩ = some (.int .i64 4)) (c1 : w.cell? ⟨g, off + 1, none⟩ = some (.string ⟨#[]⟩))
    (c2 : w.cell? ⟨g, off + 2, none⟩ = some pv) (c3 : w.cell? ⟨g, off + 3, none⟩ = some (.int .i64 0)) (c4 : w.cell? ⟨g, off + 4, none⟩ = some (.string ⟨#[]⟩)) (hp : Txs base pv ([] : List (List UInt8)) w) :
    Calls Tryz.prog 125 #[.pointer (some ⟨g, off, none⟩)] w fun e w' => e = .returned (.bool true) ∧ Below w.heap.size w w' := by
  obtain ⟨pa, pc, rfl⟩ := hp.slice
  have hW : Blk w.heap.size 87 [.int .i64 4, .string ⟨#[]⟩, .slice none 0 0, .int .i64 0, .string ⟨#[]⟩] (w.alloc (.cells #[.int .i64 4, .string ⟨#[]⟩, .slice none 0 0, .int .i64 0, .string ⟨#[]⟩] 87)) := Blk.new w _ _
  have hb1 : Below w.heap.size w (w.alloc (.cells #[.int .i64 4, .string ⟨#[]⟩, .slice none 0 0, .int .i64 0, .string ⟨#[]⟩] 87)) := (Below.refl _ w).alloc (Nat.le_refl _) _
  have hk : ∀ {p v}, w.cell? p = some v → (w.alloc (.cells #[.int .i64 4, .string ⟨#[]⟩, .slice none 0 0, .int .i64 0, .string ⟨#[]⟩] 87)).cell? p = some v := fun {p v} hv => (hb1.cell (World.block_lt_of_cell? w p hv)).trans hv
  have hp1 := hp.below hb1
  have hpk := hp
  have hne : g ≠ w.heap.size := by have := World.block_lt_of_cell? w _ c0; intro e; simp only at this; omega
  have e0 := hk c0
  have e1 := hk c1
  have e2 := hk c2
  have e3 := hk c3
  have e4 := hk c4
  clear hk hp
  go_enter Tryz.func125, Tryz.ntmps125
  go_upto_region 2 with (fail)
  clear c0 c1 c2 c3 c4
  generalize w.alloc (.cells #[.int .i64 4, .string ⟨#[]⟩, .slice none 0 0, .int .i64 0, .string ⟨#[]⟩] 87) = w1 at *
  have hbit : bits .and .i64 0 1 = 0 := by decide
  have y3 := hW.free 3
  have x3 := hW.cell 3 _ rfl
  have hW2 := hW.set 3 (.int .i64 0)
  have hb2 := hb1.setCell (p := ⟨w.heap.size, 3, none⟩) (Nat.le_refl _) (.int .i64 0)
  have m0 := keep1 hne 3 (.int .i64 0) e0
  have m1 := keep1 hne 3 (.int .i64 0) e1
  have m2 := keep1 hne 3 (.int .i64 0) e2
  have m3 := keep1 hne 3 (.int .i64 0) e3
  have m4 := keep1 hne 3 (.int .i64 0) e4
  have hp2 := hpk.below hb2
  have k1 := hW2.cell 1 _ rfl
  have k3 := hW2.cell 3 _ rfl
  have k4 := hW2.cell 4 _ rfl
  have hP := fun n => path_q base (.slice pa ([] : List (List UInt8)).length pc) ([] : List (List UInt8)) (World.drewN (w1.setCell ⟨w.heap.size, 3, none⟩ (.int .i64 0)) n) (hp2.drewN n) (fun x hx => by cases hx) (by decide)
  have hV := fun n => vint_q 0 (by omega) (World.drewN (w1.setCell ⟨w.heap.size, 3, none⟩ (.int .i64 0)) n)
  have HP := Lib.hid hP
  have HV := Lib.hid hV
  have HB := Lib.hid hb2
  clear hP hV hb2 hp2 hW2 hW hb1 hp1 hpk hne
  go_upto_region 18 with (first | (go_at_call 99; refine (hN _).mono ?_; rintro e w' ⟨rfl, rfl⟩) | fail)
  generalize w1.setCell ⟨w.heap.size, 3, none⟩ (.int .i64 0) = w2 at *
  clear e0 e1 e2 e3 e4 x3 y3
  go_quiet (first | (go_at_call 151; exact Calls.quiet_of_same (HP.out _)) | (go_at_call 152; exact Calls.quiet_of_same (HV.out _)))
  go_wp2
  go_ret
  exact ⟨rfl, Below.drewN HB.out _⟩
set_option maxRecDepth 100000 in
set_option maxHeartbeats 8000000 in
theorem argMay_yes  (g off base : Nat) (pv : Value) (w : World) (c0 : w.cell? ⟨g, off, none⟩ = some (.int .i64 4)) (c1 : w.cell? ⟨g, off + 1, none⟩ = some (.string ⟨#[]⟩))
    (c2 : w.cell? ⟨g, off + 2, none⟩ = some pv) (c3 : w.cell? ⟨g, off + 3, none⟩ = some (.int .i64 1)) (c4 : w.cell? ⟨g, off + 4, none⟩ = some (.string ⟨#[]⟩)) (hp : Txs base pv ([] : List (List UInt8)) w) :
    Calls Tryz.prog 125 #[.pointer (some ⟨g, off, none⟩)] w fun e w' => e = .returned (.bool true) ∧ Below w.heap.size w w' := by
  obtain ⟨pa, pc, rfl⟩ := hp.slice
  have hW : Blk w.heap.size 87 [.int .i64 4, .string ⟨#[]⟩, .slice none 0 0, .int .i64 0, .string ⟨#[]⟩] (w.alloc (.cells #[.int .i64 4, .string ⟨#[]⟩, .slice none 0 0, .int .i64 0, .string ⟨#[]⟩] 87)) := Blk.new w _ _
  have hb1 : Below w.heap.size w (w.alloc (.cells #[.int .i64 4, .string ⟨#[]⟩, .slice none 0 0, .int .i64 0, .string ⟨#[]⟩] 87)) := (Below.refl _ w).alloc (Nat.le_refl _) _
  have hk : ∀ {p v}, w.cell? p = some v → (w.alloc (.cells #[.int .i64 4, .string ⟨#[]⟩, .slice none 0 0, .int .i64 0, .string ⟨#[]⟩] 87)).cell? p = some v := fun {p v} hv => (hb1.cell (World.block_lt_of_cell? w p hv)).trans hv
  have hp1 := hp.below hb1
  have hpk := hp
  have hne : g ≠ w.heap.size := by have := World.block_lt_of_cell? w _ c0; intro e; simp only at this; omega
  have e0 := hk c0
  have e1 := hk c1
  have e2 := hk c2
  have e3 := hk c3
  have e4 := hk c4
  clear hk hp
  go_enter Tryz.func125, Tryz.ntmps125
  go_upto_region 2 with (fail)
  clear c0 c1 c2 c3 c4
  generalize w.alloc (.cells #[.int .i64 4, .string ⟨#[]⟩, .slice none 0 0, .int .i64 0, .string ⟨#[]⟩] 87) = w1 at *
  have hbit : bits .and .i64 1 1 = 1 := by decide
  have y3 := hW.free 3
  have x3 := hW.cell 3 _ rfl
  have hW2 := hW.set 3 (.int .i64 1)
  have hb2 := hb1.setCell (p := ⟨w.heap.size, 3, none⟩) (Nat.le_refl _) (.int .i64 1)
  have m0 := keep1 hne 3 (.int .i64 1) e0
  have m1 := keep1 hne 3 (.int .i64 1) e1
  have m2 := keep1 hne 3 (.int .i64 1) e2
  have m3 := keep1 hne 3 (.int .i64 1) e3
  have m4 := keep1 hne 3 (.int .i64 1) e4
  have hp2 := hpk.below hb2
  have k1 := hW2.cell 1 _ rfl
  have k3 := hW2.cell 3 _ rfl
  have k4 := hW2.cell 4 _ rfl
  have hP := fun n => path_q base (.slice pa ([] : List (List UInt8)).length pc) ([] : List (List UInt8)) (World.drewN (w1.setCell ⟨w.heap.size, 3, none⟩ (.int .i64 1)) n) (hp2.drewN n) (fun x hx => by cases hx) (by decide)
  have hV := fun n => vint_q 1 (by omega) (World.drewN (w1.setCell ⟨w.heap.size, 3, none⟩ (.int .i64 1)) n)
  have HP := Lib.hid hP
  have HV := Lib.hid hV
  have HB := Lib.hid hb2
  clear hP hV hb2 hp2 hW2 hW hb1 hp1 hpk hne
  go_upto_region 18 with (first | (go_at_call 99; refine (hN _).mono ?_; rintro e w' ⟨rfl, rfl⟩) | fail)
  generalize w1.setCell ⟨w.heap.size, 3, none⟩ (.int .i64 1) = w2 at *
  clear e0 e1 e2 e3 e4 x3 y3
  go_quiet (first | (go_at_call 151; exact Calls.quiet_of_same (HP.out _)) | (go_at_call 152; exact Calls.quiet_of_same (HV.out _)))
  go_wp2
  go_ret
  exact ⟨rfl, Below.drewN HB.out _⟩
set_option maxRecDepth 100000 in
set_option maxHeartbeats 8000000 in
theorem argMay_num (z : Int) (h : z.natAbs ≤ 9007199254740991) (g off base : Nat) (pv : Value) (w : World) (c0 : w.cell? ⟨g, off, none⟩ = some (.int .i64 2)) (c1 : w.cell? ⟨g, off + 1, none⟩ = some (.string ⟨#[]⟩))
    (c2 : w.cell? ⟨g, off + 2, none⟩ = some pv) (c3 : w.cell? ⟨g, off + 3, none⟩ = some (.int .i64 z)) (c4 : w.cell? ⟨g, off + 4, none⟩ = some (.string ⟨#[]⟩)) (hp : Txs base pv ([] : List (List UInt8)) w) :
    Calls Tryz.prog 125 #[.pointer (some ⟨g, off, none⟩)] w fun e w' => e = .returned (.bool true) ∧ Below w.heap.size w w' := by
  obtain ⟨pa, pc, rfl⟩ := hp.slice
  have hW : Blk w.heap.size 87 [.int .i64 2, .string ⟨#[]⟩, .slice none 0 0, .int .i64 0, .string ⟨#[]⟩] (w.alloc (.cells #[.int .i64 2, .string ⟨#[]⟩, .slice none 0 0, .int .i64 0, .string ⟨#[]⟩] 87)) := Blk.new w _ _
  have hb1 : Below w.heap.size w (w.alloc (.cells #[.int .i64 2, .string ⟨#[]⟩, .slice none 0 0, .int .i64 0, .string ⟨#[]⟩] 87)) := (Below.refl _ w).alloc (Nat.le_refl _) _
  have hk : ∀ {p v}, w.cell? p = some v → (w.alloc (.cells #[.int .i64 2, .string ⟨#[]⟩, .slice none 0 0, .int .i64 0, .string ⟨#[]⟩] 87)).cell? p = some v := fun {p v} hv => (hb1.cell (World.block_lt_of_cell? w p hv)).trans hv
  have hp1 := hp.below hb1
  have hpk := hp
  have hne : g ≠ w.heap.size := by have := World.block_lt_of_cell? w _ c0; intro e; simp only at this; omega
  have e0 := hk c0
  have e1 := hk c1
  have e2 := hk c2
  have e3 := hk c3
  have e4 := hk c4
  clear hk hp
  go_enter Tryz.func125, Tryz.ntmps125
  go_upto_region 2 with (fail)
  clear c0 c1 c2 c3 c4
  generalize w.alloc (.cells #[.int .i64 2, .string ⟨#[]⟩, .slice none 0 0, .int .i64 0, .string ⟨#[]⟩] 87) = w1 at *
  have y3 := hW.free 3
  have x3 := hW.cell 3 _ rfl
  have hW2 := hW.set 3 (.int .i64 z)
  have hb2 := hb1.setCell (p := ⟨w.heap.size, 3, none⟩) (Nat.le_refl _) (.int .i64 z)
  have m0 := keep1 hne 3 (.int .i64 z) e0
  have m1 := keep1 hne 3 (.int .i64 z) e1
  have m2 := keep1 hne 3 (.int .i64 z) e2
  have m3 := keep1 hne 3 (.int .i64 z) e3
  have m4 := keep1 hne 3 (.int .i64 z) e4
  have hp2 := hpk.below hb2
  have k1 := hW2.cell 1 _ rfl
  have k3 := hW2.cell 3 _ rfl
  have k4 := hW2.cell 4 _ rfl
  have hP := fun n => path_q base (.slice pa ([] : List (List UInt8)).length pc) ([] : List (List UInt8)) (World.drewN (w1.setCell ⟨w.heap.size, 3, none⟩ (.int .i64 z)) n) (hp2.drewN n) (fun x hx => by cases hx) (by decide)
  have hV := fun n => vint_q z h (World.drewN (w1.setCell ⟨w.heap.size, 3, none⟩ (.int .i64 z)) n)
  have HP := Lib.hid hP
  have HV := Lib.hid hV
  have HB := Lib.hid hb2
  clear hP hV hb2 hp2 hW2 hW hb1 hp1 hpk hne
  go_upto_region 18 with (first | (go_at_call 99; refine (hN _).mono ?_; rintro e w' ⟨rfl, rfl⟩) | fail)
  generalize w1.setCell ⟨w.heap.size, 3, none⟩ (.int .i64 z) = w2 at *
  clear e0 e1 e2 e3 e4 x3 y3
  go_quiet (first | (go_at_call 151; exact Calls.quiet_of_same (HP.out _)) | (go_at_call 152; exact Calls.quiet_of_same (HV.out _)))
  go_wp2
  go_ret
  exact ⟨rfl, Below.drewN HB.out _⟩
set_option maxRecDepth 100000 in
set_option maxHeartbeats 8000000 in
theorem argMay_var (x : ByteArray) (hN : ∀ W, Calls Tryz.prog 99 #[.string x] W fun e w' => e = .returned (.bool true) ∧ W = w') (xs : List (List UInt8)) (h : ∀ x ∈ xs, nameOk x = true) (hl : xs.length ≤ 8) (g off base : Nat) (pv : Value) (w : World) (c0 : w.cell? ⟨g, off, none⟩ = some (.int .i64 1)) (c1 : w.cell? ⟨g, off + 1, none⟩ = some (.string x))
    (c2 : w.cell? ⟨g, off + 2, none⟩ = some pv) (c3 : w.cell? ⟨g, off + 3, none⟩ = some (.int .i64 0)) (c4 : w.cell? ⟨g, off + 4, none⟩ = some (.string ⟨#[]⟩)) (hp : Txs base pv xs w) :
    Calls Tryz.prog 125 #[.pointer (some ⟨g, off, none⟩)] w fun e w' => e = .returned (.bool true) ∧ Below w.heap.size w w' := by
  obtain ⟨pa, pc, rfl⟩ := hp.slice
  have hW : Blk w.heap.size 87 [.int .i64 1, .string ⟨#[]⟩, .slice none 0 0, .int .i64 0, .string ⟨#[]⟩] (w.alloc (.cells #[.int .i64 1, .string ⟨#[]⟩, .slice none 0 0, .int .i64 0, .string ⟨#[]⟩] 87)) := Blk.new w _ _
  have hb1 : Below w.heap.size w (w.alloc (.cells #[.int .i64 1, .string ⟨#[]⟩, .slice none 0 0, .int .i64 0, .string ⟨#[]⟩] 87)) := (Below.refl _ w).alloc (Nat.le_refl _) _
  have hk : ∀ {p v}, w.cell? p = some v → (w.alloc (.cells #[.int .i64 1, .string ⟨#[]⟩, .slice none 0 0, .int .i64 0, .string ⟨#[]⟩] 87)).cell? p = some v := fun {p v} hv => (hb1.cell (World.block_lt_of_cell? w p hv)).trans hv
  have hp1 := hp.below hb1
  have hpk := hp
  have hne : g ≠ w.heap.size := by have := World.block_lt_of_cell? w _ c0; intro e; simp only at this; omega
  have e0 := hk c0
  have e1 := hk c1
  have e2 := hk c2
  have e3 := hk c3
  have e4 := hk c4
  clear hk hp
  go_enter Tryz.func125, Tryz.ntmps125
  go_upto_region 2 with (fail)
  clear c0 c1 c2 c3 c4
  generalize w.alloc (.cells #[.int .i64 1, .string ⟨#[]⟩, .slice none 0 0, .int .i64 0, .string ⟨#[]⟩] 87) = w1 at *
  have y1 := hW.free 1
  have x1 := hW.cell 1 _ rfl
  have hW2 := hW.set 1 (.string x)
  have hb2 := hb1.setCell (p := ⟨w.heap.size, 1, none⟩) (Nat.le_refl _) (.string x)
  have m0 := keep1 hne 1 (.string x) e0
  have m1 := keep1 hne 1 (.string x) e1
  have m2 := keep1 hne 1 (.string x) e2
  have m3 := keep1 hne 1 (.string x) e3
  have m4 := keep1 hne 1 (.string x) e4
  have hp2 := hpk.below hb2
  have k1 := hW2.cell 1 _ rfl
  have k3 := hW2.cell 3 _ rfl
  have k4 := hW2.cell 4 _ rfl
  have hP := fun n => path_q base (.slice pa xs.length pc) xs (World.drewN (w1.setCell ⟨w.heap.size, 1, none⟩ (.string x)) n) (hp2.drewN n) h hl
  have hV := fun n => vint_q 0 (by omega) (World.drewN (w1.setCell ⟨w.heap.size, 1, none⟩ (.string x)) n)
  have HP := Lib.hid hP
  have HV := Lib.hid hV
  have HB := Lib.hid hb2
  clear hP hV hb2 hp2 hW2 hW hb1 hp1 hpk hne
  go_upto_region 18 with (first | (go_at_call 99; refine (hN _).mono ?_; rintro e w' ⟨rfl, rfl⟩) | fail)
  generalize w1.setCell ⟨w.heap.size, 1, none⟩ (.string x) = w2 at *
  clear e0 e1 e2 e3 e4 x1 y1
  go_quiet (first | (go_at_call 151; exact Calls.quiet_of_same (HP.out _)) | (go_at_call 152; exact Calls.quiet_of_same (HV.out _)))
  go_wp2
  go_ret
  exact ⟨rfl, Below.drewN HB.out _⟩
set_option maxRecDepth 100000 in
set_option maxHeartbeats 8000000 in
theorem argMay_text (x : ByteArray) (h : x.size ≤ 65536) (g off base : Nat) (pv : Value) (w : World) (c0 : w.cell? ⟨g, off, none⟩ = some (.int .i64 3)) (c1 : w.cell? ⟨g, off + 1, none⟩ = some (.string ⟨#[]⟩))
    (c2 : w.cell? ⟨g, off + 2, none⟩ = some pv) (c3 : w.cell? ⟨g, off + 3, none⟩ = some (.int .i64 0)) (c4 : w.cell? ⟨g, off + 4, none⟩ = some (.string x)) (hp : Txs base pv ([] : List (List UInt8)) w) :
    Calls Tryz.prog 125 #[.pointer (some ⟨g, off, none⟩)] w fun e w' => e = .returned (.bool true) ∧ Below w.heap.size w w' := by
  obtain ⟨pa, pc, rfl⟩ := hp.slice
  have hW : Blk w.heap.size 87 [.int .i64 3, .string ⟨#[]⟩, .slice none 0 0, .int .i64 0, .string ⟨#[]⟩] (w.alloc (.cells #[.int .i64 3, .string ⟨#[]⟩, .slice none 0 0, .int .i64 0, .string ⟨#[]⟩] 87)) := Blk.new w _ _
  have hb1 : Below w.heap.size w (w.alloc (.cells #[.int .i64 3, .string ⟨#[]⟩, .slice none 0 0, .int .i64 0, .string ⟨#[]⟩] 87)) := (Below.refl _ w).alloc (Nat.le_refl _) _
  have hk : ∀ {p v}, w.cell? p = some v → (w.alloc (.cells #[.int .i64 3, .string ⟨#[]⟩, .slice none 0 0, .int .i64 0, .string ⟨#[]⟩] 87)).cell? p = some v := fun {p v} hv => (hb1.cell (World.block_lt_of_cell? w p hv)).trans hv
  have hp1 := hp.below hb1
  have hpk := hp
  have hne : g ≠ w.heap.size := by have := World.block_lt_of_cell? w _ c0; intro e; simp only at this; omega
  have e0 := hk c0
  have e1 := hk c1
  have e2 := hk c2
  have e3 := hk c3
  have e4 := hk c4
  clear hk hp
  go_enter Tryz.func125, Tryz.ntmps125
  go_upto_region 2 with (fail)
  clear c0 c1 c2 c3 c4
  generalize w.alloc (.cells #[.int .i64 3, .string ⟨#[]⟩, .slice none 0 0, .int .i64 0, .string ⟨#[]⟩] 87) = w1 at *
  have h6 : decide ((x.size : Int) ≤ 65536) = true := decide_eq_true (by omega)
  have y4 := hW.free 4
  have x4 := hW.cell 4 _ rfl
  have hW2 := hW.set 4 (.string x)
  have hb2 := hb1.setCell (p := ⟨w.heap.size, 4, none⟩) (Nat.le_refl _) (.string x)
  have m0 := keep1 hne 4 (.string x) e0
  have m1 := keep1 hne 4 (.string x) e1
  have m2 := keep1 hne 4 (.string x) e2
  have m3 := keep1 hne 4 (.string x) e3
  have m4 := keep1 hne 4 (.string x) e4
  have hp2 := hpk.below hb2
  have k1 := hW2.cell 1 _ rfl
  have k3 := hW2.cell 3 _ rfl
  have k4 := hW2.cell 4 _ rfl
  have hP := fun n => path_q base (.slice pa ([] : List (List UInt8)).length pc) ([] : List (List UInt8)) (World.drewN (w1.setCell ⟨w.heap.size, 4, none⟩ (.string x)) n) (hp2.drewN n) (fun x hx => by cases hx) (by decide)
  have hV := fun n => vint_q 0 (by omega) (World.drewN (w1.setCell ⟨w.heap.size, 4, none⟩ (.string x)) n)
  have HP := Lib.hid hP
  have HV := Lib.hid hV
  have HB := Lib.hid hb2
  clear hP hV hb2 hp2 hW2 hW hb1 hp1 hpk hne
  go_upto_region 18 with (first | (go_at_call 99; refine (hN _).mono ?_; rintro e w' ⟨rfl, rfl⟩) | fail)
  generalize w1.setCell ⟨w.heap.size, 4, none⟩ (.string x) = w2 at *
  clear e0 e1 e2 e3 e4 x4 y4
  go_quiet (first | (go_at_call 151; exact Calls.quiet_of_same (HP.out _)) | (go_at_call 152; exact Calls.quiet_of_same (HV.out _)))
  go_wp2
  go_ret
  exact ⟨rfl, Below.drewN HB.out _⟩
end Go.Proofs.YtbcddlheikdlkaaGreatDoor.S
