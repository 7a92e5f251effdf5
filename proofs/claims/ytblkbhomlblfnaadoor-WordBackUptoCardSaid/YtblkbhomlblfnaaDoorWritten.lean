/-
  THE WALK of the law's written: a word as it may be written.
-/
import Derived.Test.YtblkbhomlblfnaaDoorPlainW4
import Derived.Test.YtblkbhomlblfnaaDoorLaw14a
set_option linter.unusedVariables false
set_option linter.unusedSimpArgs false
namespace Go.Proofs.YtblkbhomlblfnaaDoor.S
open Go.RowKit

def WtPost (l : List UInt8) (w : World) (e : Ending) (w' : World) : Prop := ∃ r : ByteArray, e = .returned (.string r) ∧ StrIs r l ∧ Below w.heap.size w w'

set_option maxRecDepth 100000 in
set_option maxHeartbeats 4000000 in
theorem wt_pipe (x : ByteArray) (pv : Value) (z : Int) (w : World) :
    Calls Tryd.prog 24 #[.agg #[.int .i64 5, .string x, pv, .int .i64 z]] w fun e w' => WtPost [124] w e w' := by
  have hW := Blk.new w [.int .i64 5, .string x, pv, .int .i64 z] 40
  have hb := (Below.refl w.heap.size w).alloc (Nat.le_refl _) (.cells #[.int .i64 5, .string x, pv, .int .i64 z] 40)
  go_enter Tryd.func24, Tryd.ntmps24
  go_upto_region 1 with (fail)
  generalize w.alloc _ = w1 at *
  have c0 := hW.cell 0 _ rfl
  have c1 := hW.cell 1 _ rfl
  have c2 := hW.cell 2 _ rfl
  have c3 := hW.cell 3 _ rfl
  go_wp2
  go_ret
  exact ⟨_, rfl, rfl, hb⟩
set_option maxRecDepth 100000 in
set_option maxHeartbeats 4000000 in
theorem wt_set (x : ByteArray) (pv : Value) (z : Int) (w : World) :
    Calls Tryd.prog 24 #[.agg #[.int .i64 6, .string x, pv, .int .i64 z]] w fun e w' => WtPost [58, 61] w e w' := by
  have hW := Blk.new w [.int .i64 6, .string x, pv, .int .i64 z] 40
  have hb := (Below.refl w.heap.size w).alloc (Nat.le_refl _) (.cells #[.int .i64 6, .string x, pv, .int .i64 z] 40)
  go_enter Tryd.func24, Tryd.ntmps24
  go_upto_region 1 with (fail)
  generalize w.alloc _ = w1 at *
  have c0 := hW.cell 0 _ rfl
  have c1 := hW.cell 1 _ rfl
  have c2 := hW.cell 2 _ rfl
  have c3 := hW.cell 3 _ rfl
  go_wp2
  go_ret
  exact ⟨_, rfl, rfl, hb⟩
set_option maxRecDepth 100000 in
set_option maxHeartbeats 4000000 in
theorem wt_name (x : ByteArray) (l : List UInt8) (hx : StrIs x l) (pv : Value) (z : Int) (w : World) :
    Calls Tryd.prog 24 #[.agg #[.int .i64 0, .string x, pv, .int .i64 z]] w fun e w' => WtPost l w e w' := by
  have hW := Blk.new w [.int .i64 0, .string x, pv, .int .i64 z] 40
  have hb := (Below.refl w.heap.size w).alloc (Nat.le_refl _) (.cells #[.int .i64 0, .string x, pv, .int .i64 z] 40)
  go_enter Tryd.func24, Tryd.ntmps24
  go_upto_region 1 with (fail)
  generalize w.alloc _ = w1 at *
  have c0 := hW.cell 0 _ rfl
  have c1 := hW.cell 1 _ rfl
  have c2 := hW.cell 2 _ rfl
  have c3 := hW.cell 3 _ rfl
  go_wp2
  go_ret
  exact ⟨_, rfl, hx, hb⟩
set_option maxRecDepth 100000 in
set_option maxHeartbeats 4000000 in
theorem wt_neg (x : ByteArray) (pv : Value) (n : Nat) (h0 : 0 < n) (h : n ≤ 9007199254740991) (w : World) :
    Calls Tryd.prog 24 #[.agg #[.int .i64 3, .string x, pv, .int .i64 (-(n : Int))]] w fun e w' => WtPost (45 :: decL n) w e w' := by
  have hW := Blk.new w [.int .i64 3, .string x, pv, .int .i64 (-(n : Int))] 40
  have hb := (Below.refl w.heap.size w).alloc (Nat.le_refl _) (.cells #[.int .i64 3, .string x, pv, .int .i64 (-(n : Int))] 40)
  go_enter Tryd.func24, Tryd.ntmps24
  go_upto_region 1 with (fail)
  generalize w.alloc _ = w1 at *
  have c0 := hW.cell 0 _ rfl
  have c1 := hW.cell 1 _ rfl
  have c2 := hW.cell 2 _ rfl
  have c3 := hW.cell 3 _ rfl
  have h1 : decide (-(n : Int) < 0) = true := decide_eq_true (by omega)
  have h2 : IntKind.wrap .i64 (- -(n : Int)) = n := by rw [Int.neg_neg]; exact IntWalk.i64_in _ ⟨by omega, by omega⟩
  have hd := fun W => decimal_calls n W (by omega)
  have hdl := decR_len 16 n [] (Nat.lt_of_le_of_lt h (by decide))
  go_wp2_with (go_at_call 25; refine (hd _).mono ?_; rintro e w2 ⟨r, rfl, hr, hb2⟩; have hrs : r.size ≤ 17 := (by rw [hr.size]; exact hdl); have hcat := cat_s ⟨#[45]⟩ r (by show 1 + _ ≤ _; omega))
  go_ret
  exact ⟨_, rfl, StrIs.app (a := ⟨#[45]⟩) (l := [45]) rfl hr, hb.trans (hb2.mono hb.size)⟩
set_option maxRecDepth 100000 in
set_option maxHeartbeats 4000000 in
theorem wt_pos (x : ByteArray) (pv : Value) (n : Nat) (h : n ≤ 9007199254740991) (w : World) :
    Calls Tryd.prog 24 #[.agg #[.int .i64 3, .string x, pv, .int .i64 (n : Int)]] w fun e w' => WtPost (decL n) w e w' := by
  have hW := Blk.new w [.int .i64 3, .string x, pv, .int .i64 (n : Int)] 40
  have hb := (Below.refl w.heap.size w).alloc (Nat.le_refl _) (.cells #[.int .i64 3, .string x, pv, .int .i64 (n : Int)] 40)
  go_enter Tryd.func24, Tryd.ntmps24
  go_upto_region 1 with (fail)
  generalize w.alloc _ = w1 at *
  have c0 := hW.cell 0 _ rfl
  have c1 := hW.cell 1 _ rfl
  have c2 := hW.cell 2 _ rfl
  have c3 := hW.cell 3 _ rfl
  have h1 : decide ((n : Int) < 0) = false := decide_eq_false (by omega)
  have hd := fun W => decimal_calls n W (by omega)
  go_wp2_with (go_at_call 25; refine (hd _).mono ?_; rintro e w2 ⟨r, rfl, hr, hb2⟩)
  go_ret
  exact ⟨_, rfl, hr, hb.trans (hb2.mono hb.size)⟩
theorem byte_of (s : ByteArray) (i : Nat) (h : i < s.size) : StrIs (s.extract i (i + 1)) [s[i]] := by
  show _ = _
  rw [Lib.extract_data, show i + 1 - i = 1 by omega, drop_cons s i h]
  rfl
theorem escs_snoc (t : List UInt8) (k : Nat) (h : k < t.length) : escsL (t.take (k + 1)) = escsL (t.take k) ++ escB t[k] := flatMap_snoc escB t k h
theorem dots_snoc (xs : List (List UInt8)) (k : Nat) (h : k < xs.length) : dotsL (xs.take (k + 1)) = dotsL (xs.take k) ++ (46 :: xs[k]) := by
  unfold dotsL
  rw [List.take_succ_eq_append_getElem h, List.flatMap_append]
  simp
theorem dots_le (xs : List (List UInt8)) (k : Nat) : (dotsL (xs.take k)).length ≤ (dotsL xs).length := by
  have h : dotsL xs = dotsL (xs.take k) ++ dotsL (xs.drop k) := by
    unfold dotsL
    rw [← List.flatMap_append, List.take_append_drop]
  rw [h, List.length_append]
  omega
set_option maxRecDepth 100000 in
set_option maxHeartbeats 4000000 in
theorem wt_text (x : ByteArray) (t : List UInt8) (hx : StrIs x t) (hl : t.length ≤ 1073741824) (pv : Value) (z : Int) (w : World) :
    Calls Tryd.prog 24 #[.agg #[.int .i64 4, .string x, pv, .int .i64 z]] w fun e w' => WtPost (34 :: (escsL t ++ [34])) w e w' := by
  have hW := Blk.new w [.int .i64 4, .string x, pv, .int .i64 z] 40
  have hb := (Below.refl w.heap.size w).alloc (Nat.le_refl _) (.cells #[.int .i64 4, .string x, pv, .int .i64 z] 40)
  go_enter Tryd.func24, Tryd.ntmps24
  go_upto_region 1 with (fail)
  generalize w.alloc _ = w1 at *
  have c0 := hW.cell 0 _ rfl
  have c1 := hW.cell 1 _ rfl
  have c2 := hW.cell 2 _ rfl
  have c3 := hW.cell 3 _ rfl
  have hxs : x.size = t.length := hx.size
  go_upto_if 26 with (fail)
  go_upto_region 13 with (fail)
  go_loopg [3, 4] t.length (fun gk v3 v4 wr => ∃ (k : Nat) (S : ByteArray), v3 = .string S ∧ v4 = .int .i64 k ∧ k + gk = t.length ∧ Hid (StrIs S (escsL (t.take k))) ∧ S.size ≤ 2 * k ∧ w1 = wr)
  case atStart => exact ⟨0, ⟨#[]⟩, rfl, rfl, by omega, rfl, Nat.le_refl _, rfl⟩
  case round =>
    obtain ⟨k, S, rfl, rfl, hkg, hS, hSs, rfl⟩ := hrel
    have HKG := Lib.hid hkg
    have hkt : k ≤ t.length := by omega
    clear hkg
    by_cases h1 : k < t.length
    · have h1b : decide ((k : Int) < (x.size : Int)) = true := decide_eq_true (by omega)
      have hks : k < x.size := by omega
      have hone := byte_of x k hks
      have hsl := fun W => slice_mid x (k : Int) ((k : Int) + 1) k (k + 1) (by omega) (by omega) (by omega) (by omega) W
      obtain ⟨b, hbq⟩ : ∃ b : UInt8, b = x[k]'hks := ⟨_, rfl⟩
      have hbt : ∀ h', ((x[k]'h').toNat : Nat) = b.toNat := fun h' => by rw [hbq]
      have hsn : escsL (t.take (k + 1)) = escsL (t.take k) ++ escB b := by
        rw [escs_snoc t k h1]
        congr 2
        rw [hbq]
        have := hx
        unfold StrIs at this
        subst this
        rfl
      rw [← hbq] at hone
      clear hbq
      have h1s : (x.extract k (k + 1)).size = 1 := hone.size
      generalize x.extract k (k + 1) = y at *
      have hcA := cat_s S ⟨#[92]⟩ (by show _ + 1 ≤ _; omega)
      have hcB := cat_s (S ++ ⟨#[92]⟩) y (by rw [h1s, ByteArray.size_append]; show _ + 1 + _ ≤ _; omega)
      have hcC := cat_s S ⟨#[92, 110]⟩ (by show _ + 2 ≤ _; omega)
      have hcD := cat_s S ⟨#[92, 116]⟩ (by show _ + 2 ≤ _; omega)
      have hcE := cat_s S y (by omega)
      have hsz : ∀ z : ByteArray, StrIs z (escB b) → (S ++ z).size ≤ 2 * (k + 1) := fun z hz => by
        have := (escB_len b).2
        rw [ByteArray.size_append, hz.size]
        omega
      have hN : ∀ z : ByteArray, StrIs z (escB b) → Hid (StrIs (S ++ z) (escsL (t.take (k + 1)))) := fun z hz => by
        have := StrIs.app hS.out hz
        rw [← hsn] at this
        exact this
      have HN := Lib.hid hN
      have HSZ := Lib.hid hsz
      have HS1 := Lib.hid h1s
      clear hN hsz hsn hS h1s
      have hassoc : S ++ ⟨#[92]⟩ ++ y = S ++ (⟨#[92]⟩ ++ y) := ByteArray.append_assoc
      have HA := Lib.hid hassoc
      clear hassoc
      by_cases e1 : b = 34
      · have q1 : ((b.toNat : Int) == 34) = true := by rw [e1]; rfl
        have hz : StrIs (⟨#[92]⟩ ++ y) (escB b) := by rw [e1] at hone ⊢; exact StrIs.app (l := [92]) rfl hone
        have HZ := Lib.hid hz
        clear e1 hz hone
        generalize b.toNat = c at *
        go_wp2
        go_roundg (gk - 1)
        case measure => have := HKG.out; omega
        case rel => exact ⟨k + 1, _, rfl, by go_num, by have := HKG.out; omega, by rw [HA.out]; exact HN.out _ HZ.out, by rw [HA.out]; exact HSZ.out _ HZ.out, rfl⟩
      · have q1 : ((b.toNat : Int) == 34) = false := beq_eq_false_iff_ne.2 fun e => e1 (UInt8.toNat_inj.1 (by show _ = 34; omega))
        by_cases e2 : b = 92
        · have q2 : ((b.toNat : Int) == 92) = true := by rw [e2]; rfl
          have hz : StrIs (⟨#[92]⟩ ++ y) (escB b) := by rw [e2] at hone ⊢; exact StrIs.app (l := [92]) rfl hone
          have HZ := Lib.hid hz
          clear e1 e2 hz hone
          generalize b.toNat = c at *
          go_wp2
          go_roundg (gk - 1)
          case measure => have := HKG.out; omega
          case rel => exact ⟨k + 1, _, rfl, by go_num, by have := HKG.out; omega, by rw [HA.out]; exact HN.out _ HZ.out, by rw [HA.out]; exact HSZ.out _ HZ.out, rfl⟩
        · have q2 : ((b.toNat : Int) == 92) = false := beq_eq_false_iff_ne.2 fun e => e2 (UInt8.toNat_inj.1 (by show _ = 92; omega))
          by_cases e3 : b = 10
          · have q3 : ((b.toNat : Int) == 10) = true := by rw [e3]; rfl
            have hz : StrIs ⟨#[92, 110]⟩ (escB b) := by rw [e3]; rfl
            have HZ := Lib.hid hz
            clear e1 e2 e3 hz hone
            generalize b.toNat = c at *
            go_wp2
            go_roundg (gk - 1)
            case measure => have := HKG.out; omega
            case rel => exact ⟨k + 1, _, rfl, by go_num, by have := HKG.out; omega, HN.out _ HZ.out, HSZ.out _ HZ.out, rfl⟩
          · have q3 : ((b.toNat : Int) == 10) = false := beq_eq_false_iff_ne.2 fun e => e3 (UInt8.toNat_inj.1 (by show _ = 10; omega))
            by_cases e4 : b = 9
            · have q4 : ((b.toNat : Int) == 9) = true := by rw [e4]; rfl
              have hz : StrIs ⟨#[92, 116]⟩ (escB b) := by rw [e4]; rfl
              have HZ := Lib.hid hz
              clear e1 e2 e3 e4 hz hone
              generalize b.toNat = c at *
              go_wp2
              go_roundg (gk - 1)
              case measure => have := HKG.out; omega
              case rel => exact ⟨k + 1, _, rfl, by go_num, by have := HKG.out; omega, HN.out _ HZ.out, HSZ.out _ HZ.out, rfl⟩
            · have q4 : ((b.toNat : Int) == 9) = false := beq_eq_false_iff_ne.2 fun e => e4 (UInt8.toNat_inj.1 (by show _ = 9; omega))
              have hz : StrIs y (escB b) := by
                have : escB b = [b] := by
                  unfold escB
                  rw [if_neg (fun h => h.elim e1 e2), if_neg e3, if_neg e4]
                rw [this]
                exact hone
              have HZ := Lib.hid hz
              clear e1 e2 e3 e4 hz hone
              generalize b.toNat = c at *
              go_wp2
              go_roundg (gk - 1)
              case measure => have := HKG.out; omega
              case rel => exact ⟨k + 1, _, rfl, by go_num, by have := HKG.out; omega, HN.out _ HZ.out, HSZ.out _ HZ.out, rfl⟩
    · have h1b : decide ((k : Int) < (x.size : Int)) = false := decide_eq_false (by omega)
      obtain rfl : k = t.length := by omega
      have hS1 := hS.out
      rw [List.take_length] at hS1
      have hc1 := cat_s ⟨#[34]⟩ S (by show 1 + _ ≤ _; omega)
      have hc2 := cat_s (⟨#[34]⟩ ++ S) ⟨#[34]⟩ (by rw [ByteArray.size_append]; show 1 + _ + 1 ≤ _; omega)
      have hz : StrIs (⟨#[34]⟩ ++ S ++ ⟨#[34]⟩) (34 :: (escsL t ++ [34])) := StrIs.app (a := ⟨#[34]⟩ ++ S) (b := ⟨#[34]⟩) (l := [34] ++ escsL t) (r := [34]) (StrIs.app (a := ⟨#[34]⟩) (l := [34]) rfl hS1) rfl
      have HZ := Lib.hid hz
      clear hz hS1 hS
      go_wp2
      go_ret
      exact ⟨_, rfl, HZ.out, hb⟩
set_option maxRecDepth 100000 in
set_option maxHeartbeats 4000000 in
theorem wt_var (base : Nat) (x : ByteArray) (t : List UInt8) (hx : StrIs x t) (pv : Value) (xs : List (List UInt8)) (hl : t.length + (dotsL xs).length ≤ 1073741824) (z : Int) (w : World) (hP : Strs base pv xs w) :
    Calls Tryd.prog 24 #[.agg #[.int .i64 2, .string x, pv, .int .i64 z]] w fun e w' => WtPost (refW (36 :: t) xs) w e w' := by
  obtain ⟨sa, sc, rfl⟩ := hP.slice
  have hrf : refW (36 :: t) xs = (36 :: t) ++ dotsL xs := by unfold refW; rw [if_neg (by simp)]
  rw [hrf]
  obtain ⟨p, hp⟩ : ∃ p, p = 36 :: t := ⟨_, rfl⟩
  have hp0 : StrIs (⟨#[36]⟩ ++ x) p := by rw [hp]; exact StrIs.app (a := ⟨#[36]⟩) (l := [36]) rfl hx
  have hpl0 : p.length = t.length + 1 := by rw [hp]; rfl
  rw [← hp]
  have hpn : p ≠ [] := by rw [hp]; simp
  have HP0 := Lib.hid hp0
  clear hp0 hrf hp
  have hW := Blk.new w [.int .i64 2, .string x, .slice sa xs.length sc, .int .i64 z] 40
  have hb := (Below.refl w.heap.size w).alloc (Nat.le_refl _) (.cells #[.int .i64 2, .string x, .slice sa xs.length sc, .int .i64 z] 40)
  go_enter Tryd.func24, Tryd.ntmps24
  go_upto_region 1 with (fail)
  generalize w.alloc _ = w1 at *
  have c0 := hW.cell 0 _ rfl
  have c1 := hW.cell 1 _ rfl
  have c2 := hW.cell 2 _ rfl
  have c3 := hW.cell 3 _ rfl
  have hc0 := cat_s ⟨#[36]⟩ x (by rw [hx.size]; show 1 + _ ≤ _; omega)
  have hPw : Strs base (.slice sa xs.length sc) xs w1 := own_below hP hb
  have hpl := hPw.len_le
  go_upto_region 29 with (fail)
  go_upto_region 30 with (fail)
  go_loopg [3, 5] xs.length (fun gk v3 v5 wr => ∃ (k : Nat) (S : ByteArray), v3 = .string S ∧ v5 = .int .i64 k ∧ k + gk = xs.length ∧ Hid (StrIs S (p ++ dotsL (xs.take k))) ∧ w1 = wr)
  case atStart => exact ⟨0, _, rfl, rfl, by omega, by show StrIs _ (p ++ []); rw [List.append_nil]; exact HP0.out, rfl⟩
  case round =>
    obtain ⟨k, S, rfl, rfl, hkg, hS, rfl⟩ := hrel
    have HKG := Lib.hid hkg
    have hkt : k ≤ xs.length := by omega
    clear hkg
    by_cases h1 : k < xs.length
    · have h1b : decide ((k : Int) < (xs.length : Int)) = true := decide_eq_true (by omega)
      obtain ⟨b, cap, hv⟩ := hPw.form (by omega)
      obtain ⟨rfl, -, rfl⟩ := Value.slice.inj hv
      have d0 := hPw.at k h1
      have hsn := dots_snoc xs k h1
      have hle := dots_le xs (k + 1)
      rw [hsn, List.length_append, List.length_cons] at hle
      have hyz : StrIs ⟨xs[k].toArray⟩ xs[k] := rfl
      generalize (⟨xs[k].toArray⟩ : ByteArray) = y at *
      generalize xs[k] = yl at *
      have hSs := hS.out.size
      rw [List.length_append] at hSs
      have hys := hyz.size
      have hcA := cat_s S ⟨#[46]⟩ (by show _ + 1 ≤ _; omega)
      have hcB := cat_s (S ++ ⟨#[46]⟩) y (by rw [ByteArray.size_append]; show _ + 1 + _ ≤ _; omega)
      have hN : StrIs (S ++ ⟨#[46]⟩ ++ y) (p ++ dotsL (xs.take (k + 1))) := by
        have := StrIs.app (StrIs.app (b := ⟨#[46]⟩) (r := [46]) hS.out rfl) hyz
        rw [hsn]
        unfold StrIs at this ⊢
        rw [this]
        simp
      have HN := Lib.hid hN
      clear hN hsn hle hyz hSs hys hv
      go_wp2
      go_roundg (gk - 1)
      case measure => have := HKG.out; omega
      case rel => exact ⟨k + 1, _, rfl, by go_num, by have := HKG.out; omega, HN.out, rfl⟩
    · have h1b : decide ((k : Int) < (xs.length : Int)) = false := decide_eq_false (by omega)
      obtain rfl : k = xs.length := by omega
      have hS1 := hS.out
      rw [List.take_length] at hS1
      clear hS
      have hne := nonempty_test (t := S) (by rw [hS1.size, List.length_append]; have := List.length_pos_iff.2 hpn; omega)
      have HS := Lib.hid hS1
      clear hS1
      go_wp2
      go_ret
      exact ⟨_, rfl, HS.out, hb⟩
set_option maxRecDepth 100000 in
set_option maxHeartbeats 4000000 in
theorem wt_field (base : Nat) (x : ByteArray) (pv : Value) (xs : List (List UInt8)) (hl : (dotsL xs).length ≤ 1073741824) (z : Int) (w : World) (hP : Strs base pv xs w) :
    Calls Tryd.prog 24 #[.agg #[.int .i64 1, .string x, pv, .int .i64 z]] w fun e w' => WtPost (refW [] xs) w e w' := by
  obtain ⟨sa, sc, rfl⟩ := hP.slice
  have hW := Blk.new w [.int .i64 1, .string x, .slice sa xs.length sc, .int .i64 z] 40
  have hb := (Below.refl w.heap.size w).alloc (Nat.le_refl _) (.cells #[.int .i64 1, .string x, .slice sa xs.length sc, .int .i64 z] 40)
  go_enter Tryd.func24, Tryd.ntmps24
  go_upto_region 1 with (fail)
  generalize w.alloc _ = w1 at *
  have c0 := hW.cell 0 _ rfl
  have c1 := hW.cell 1 _ rfl
  have c2 := hW.cell 2 _ rfl
  have c3 := hW.cell 3 _ rfl
  have hPw : Strs base (.slice sa xs.length sc) xs w1 := own_below hP hb
  have hpl := hPw.len_le
  go_upto_region 29 with (fail)
  go_upto_region 30 with (fail)
  go_loopg [3, 5] xs.length (fun gk v3 v5 wr => ∃ (k : Nat) (S : ByteArray), v3 = .string S ∧ v5 = .int .i64 k ∧ k + gk = xs.length ∧ Hid (StrIs S ([] ++ dotsL (xs.take k))) ∧ w1 = wr)
  case atStart => exact ⟨0, _, rfl, rfl, by omega, rfl, rfl⟩
  case round =>
    obtain ⟨k, S, rfl, rfl, hkg, hS, rfl⟩ := hrel
    have HKG := Lib.hid hkg
    have hkt : k ≤ xs.length := by omega
    clear hkg
    by_cases h1 : k < xs.length
    · have h1b : decide ((k : Int) < (xs.length : Int)) = true := decide_eq_true (by omega)
      obtain ⟨b, cap, hv⟩ := hPw.form (by omega)
      obtain ⟨rfl, -, rfl⟩ := Value.slice.inj hv
      have d0 := hPw.at k h1
      have hsn := dots_snoc xs k h1
      have hle := dots_le xs (k + 1)
      rw [hsn, List.length_append, List.length_cons] at hle
      have hyz : StrIs ⟨xs[k].toArray⟩ xs[k] := rfl
      generalize (⟨xs[k].toArray⟩ : ByteArray) = y at *
      generalize xs[k] = yl at *
      have hSs := hS.out.size
      rw [List.nil_append] at hSs
      have hys := hyz.size
      have hcA := cat_s S ⟨#[46]⟩ (by show _ + 1 ≤ _; omega)
      have hcB := cat_s (S ++ ⟨#[46]⟩) y (by rw [ByteArray.size_append]; show _ + 1 + _ ≤ _; omega)
      have hN : StrIs (S ++ ⟨#[46]⟩ ++ y) ([] ++ dotsL (xs.take (k + 1))) := by
        have := StrIs.app (StrIs.app (b := ⟨#[46]⟩) (r := [46]) hS.out rfl) hyz
        rw [hsn]
        unfold StrIs at this ⊢
        rw [this]
        simp
      have HN := Lib.hid hN
      clear hN hsn hle hyz hSs hys hv
      go_wp2
      go_roundg (gk - 1)
      case measure => have := HKG.out; omega
      case rel => exact ⟨k + 1, _, rfl, by go_num, by have := HKG.out; omega, HN.out, rfl⟩
    · have h1b : decide ((k : Int) < (xs.length : Int)) = false := decide_eq_false (by omega)
      obtain rfl : k = xs.length := by omega
      have hS1 := hS.out
      rw [List.take_length] at hS1
      clear hS
      rw [List.nil_append] at hS1
      by_cases he : xs = []
      · subst he
        have hne := empty_test (t := S) (by rw [hS1.size]; rfl)
        clear hS1
        go_wp2
        go_ret
        exact ⟨_, rfl, rfl, hb⟩
      · obtain ⟨x0, xt, hx0⟩ : ∃ x0 xt, xs = x0 :: xt := by
          cases xs with
          | nil => exact absurd rfl he
          | cons a b => exact ⟨a, b, rfl⟩
        have hne := nonempty_test (t := S) (by rw [hS1.size, hx0, dotsL_cons]; simp)
        have hS2 : StrIs S (refW [] xs) := by
          unfold refW
          rw [List.nil_append, if_neg (by rw [hx0, dotsL_cons]; simp)]
          exact hS1
        have HS := Lib.hid hS2
        clear hS1 hS2 hx0
        go_wp2
        go_ret
        exact ⟨_, rfl, HS.out, hb⟩
theorem escsL_ge : ∀ t : List UInt8, t.length ≤ (escsL t).length
  | [] => Nat.le_refl _
  | b :: t => by
    have h1 := escsL_ge t
    have h2 := (escB_len b).1
    show _ ≤ (escB b ++ escsL t).length
    rw [List.length_append, List.length_cons]
    omega
/-- a word as it is written -/
theorem written_calls (base : Nat) (d : Wd) (pv : Value) (w : World) (hd : WdOk d) (hP : Strs base pv d.path w) (hl : (wrL d).length ≤ 536870912) :
    Calls Tryd.prog 24 #[.agg #[.int .i64 d.kind, .string ⟨d.text.toArray⟩, pv, .int .i64 d.num]] w fun e w' => WtPost (wrL d) w e w' := by
  cases hd with
  | name x h => exact wt_name ⟨x.toArray⟩ x rfl pv 0 w
  | field xs h h8 =>
    refine wt_field base _ pv xs ?_ 0 w hP
    have : (dotsL xs).length ≤ (refW [] xs).length := by unfold refW; rw [List.nil_append]; split <;> simp_all
    exact Nat.le_trans this (Nat.le_trans hl (by decide))
  | var x xs h hs h8 =>
    refine wt_var base ⟨x.toArray⟩ x rfl pv xs ?_ 0 w hP
    have : (refW (36 :: x) xs).length = 1 + x.length + (dotsL xs).length := by
      simp only [refW, List.cons_append, reduceCtorEq, if_false, List.length_cons, List.length_append]
      omega
    have h2 : (refW (36 :: x) xs).length ≤ 536870912 := hl
    omega
  | num z h =>
    by_cases hz : z < 0
    · obtain ⟨n, rfl⟩ : ∃ n : Nat, z = -(n : Int) := ⟨z.natAbs, by omega⟩
      have := wt_neg ⟨#[]⟩ pv n (by omega) (by omega) w
      rw [show wrL ⟨3, [], [], -(n : Int)⟩ = 45 :: decL n by show numW _ = _; unfold numW; rw [if_pos hz, Int.natAbs_neg]; rfl]
      exact this
    · obtain ⟨n, rfl⟩ : ∃ n : Nat, z = (n : Int) := ⟨z.natAbs, by omega⟩
      have := wt_pos ⟨#[]⟩ pv n (by omega) w
      rw [show wrL ⟨3, [], [], (n : Int)⟩ = decL n by show numW _ = _; unfold numW; rw [if_neg hz]; rfl]
      exact this
  | text t =>
    refine wt_text ⟨t.toArray⟩ t rfl ?_ pv 0 w
    have h1 := escsL_ge t
    have h2 : (34 :: (escsL t ++ [34])).length ≤ 536870912 := hl
    rw [List.length_cons, List.length_append] at h2
    omega
  | pipe => exact wt_pipe _ pv 0 w
  | set => exact wt_set _ pv 0 w
end Go.Proofs.YtblkbhomlblfnaaDoor.S
