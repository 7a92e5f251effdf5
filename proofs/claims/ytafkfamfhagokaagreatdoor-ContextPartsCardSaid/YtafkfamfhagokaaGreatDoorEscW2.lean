/-
  THE WALKS of package refs: Encode; json: Put at a text.
-/
import Derived.Test.YtafkfamfhagokaaGreatDoorEscW1
import Derived.Test.YtafkfamfhagokaaGreatDoorJstrWalks
set_option linter.unusedVariables false
set_option linter.unusedSimpArgs false
namespace Go.Proofs.YtafkfamfhagokaaGreatDoor.S
open Go.RowKit

def encW (c : Nat) : List UInt8 := if c = 38 then [38, 97, 109, 112, 59] else if c = 60 then [38, 108, 116, 59] else if c = 62 then [38, 103, 116, 59] else if c = 34 then [38, 113, 117, 111, 116, 59] else if c = 39 then [38, 35, 51, 57, 59] else if c = 13 then [38, 35, 49, 51, 59] else []
def encB (b : UInt8) : List UInt8 := if (encW b.toNat).isEmpty = true then [b] else encW b.toNat
/-- P2.1 -/
def encL (l : List UInt8) : List UInt8 := (norm l).flatMap encB
theorem encW_len (c : Nat) : (encW c).length ≤ 6 := by
  unfold encW
  repeat' split
  all_goals decide
theorem encB_len (b : UInt8) : (encB b).length ≤ 6 := by
  unfold encB
  split
  · simp
  · exact encW_len _
set_option maxRecDepth 100000 in
set_option maxHeartbeats 2000000 in
theorem rfWritten_calls (c : Nat) (w : World) (hc : c < 256) : Calls Tryz.prog 85 #[.int .u8 c] w fun e w' => e = .returned (.string ⟨(encW c).toArray⟩) ∧ w = w' := by
  obtain ⟨R, hR⟩ : ∃ R, R = encW c := ⟨_, rfl⟩
  rw [← hR]
  by_cases h0 : c = 38
  · obtain rfl : R = [38, 97, 109, 112, 59] := by rw [hR]; unfold encW; rw [if_pos h0]
    have t38 : ((c : Int) == 38) = true := beq_iff_eq.2 (by omega)
    clear hR h0
    go_enter Tryz.func85, Tryz.ntmps85
    go_wp2
    go_ret
    exact ⟨rfl, rfl⟩
  have t38 : ((c : Int) == 38) = false := beq_eq_false_iff_ne.2 (by omega)
  by_cases h1 : c = 60
  · obtain rfl : R = [38, 108, 116, 59] := by rw [hR]; unfold encW; rw [if_neg h0]; rw [if_pos h1]
    have t60 : ((c : Int) == 60) = true := beq_iff_eq.2 (by omega)
    clear hR h0 h1
    go_enter Tryz.func85, Tryz.ntmps85
    go_wp2
    go_ret
    exact ⟨rfl, rfl⟩
  have t60 : ((c : Int) == 60) = false := beq_eq_false_iff_ne.2 (by omega)
  by_cases h2 : c = 62
  · obtain rfl : R = [38, 103, 116, 59] := by rw [hR]; unfold encW; rw [if_neg h0]; rw [if_neg h1]; rw [if_pos h2]
    have t62 : ((c : Int) == 62) = true := beq_iff_eq.2 (by omega)
    clear hR h0 h1 h2
    go_enter Tryz.func85, Tryz.ntmps85
    go_wp2
    go_ret
    exact ⟨rfl, rfl⟩
  have t62 : ((c : Int) == 62) = false := beq_eq_false_iff_ne.2 (by omega)
  by_cases h3 : c = 34
  · obtain rfl : R = [38, 113, 117, 111, 116, 59] := by rw [hR]; unfold encW; rw [if_neg h0]; rw [if_neg h1]; rw [if_neg h2]; rw [if_pos h3]
    have t34 : ((c : Int) == 34) = true := beq_iff_eq.2 (by omega)
    clear hR h0 h1 h2 h3
    go_enter Tryz.func85, Tryz.ntmps85
    go_wp2
    go_ret
    exact ⟨rfl, rfl⟩
  have t34 : ((c : Int) == 34) = false := beq_eq_false_iff_ne.2 (by omega)
  by_cases h4 : c = 39
  · obtain rfl : R = [38, 35, 51, 57, 59] := by rw [hR]; unfold encW; rw [if_neg h0]; rw [if_neg h1]; rw [if_neg h2]; rw [if_neg h3]; rw [if_pos h4]
    have t39 : ((c : Int) == 39) = true := beq_iff_eq.2 (by omega)
    clear hR h0 h1 h2 h3 h4
    go_enter Tryz.func85, Tryz.ntmps85
    go_wp2
    go_ret
    exact ⟨rfl, rfl⟩
  have t39 : ((c : Int) == 39) = false := beq_eq_false_iff_ne.2 (by omega)
  by_cases h5 : c = 13
  · obtain rfl : R = [38, 35, 49, 51, 59] := by rw [hR]; unfold encW; rw [if_neg h0]; rw [if_neg h1]; rw [if_neg h2]; rw [if_neg h3]; rw [if_neg h4]; rw [if_pos h5]
    have t13 : ((c : Int) == 13) = true := beq_iff_eq.2 (by omega)
    clear hR h0 h1 h2 h3 h4 h5
    go_enter Tryz.func85, Tryz.ntmps85
    go_wp2
    go_ret
    exact ⟨rfl, rfl⟩
  have t13 : ((c : Int) == 13) = false := beq_eq_false_iff_ne.2 (by omega)
  obtain rfl : R = [] := by rw [hR]; unfold encW; rw [if_neg h0, if_neg h1, if_neg h2, if_neg h3, if_neg h4, if_neg h5]
  clear hR h0 h1 h2 h3 h4 h5
  go_enter Tryz.func85, Tryz.ntmps85
  go_wp2
  go_ret
  exact ⟨rfl, rfl⟩
set_option maxRecDepth 100000 in
set_option maxHeartbeats 4000000 in
theorem rfEncode_calls (s : ByteArray) (w : World) (hE : Env w) (hs : s.size ≤ 16777216) :
    Calls Tryz.prog 37 #[.string s] w fun e w' => ∃ r : ByteArray, e = .returned (.string r) ∧ StrIs r (encL s.data.toList) ∧ Below w.heap.size w w' := by
  go_enter Tryz.func37, Tryz.ntmps37
  go_wp2_with (go_at_call 84; refine (norm_calls' s _ hE (by omega)).mono ?_; rintro e w1 ⟨t, rfl, ht, hb1⟩)
  have hts : t.size ≤ 3 * s.size := by have := norm_len s.data.toList; rw [← ht.size] at this; exact this
  have hz : w.heap.size ≤ w1.heap.size := hb1.size
  go_loopw [4, 5, 10] (fun _ _ v10 wr => ∃ (k : Nat), k ≤ t.size ∧ v10 = .int .i64 k ∧ Tryz.BuilderHas w1.heap.size w1.heap.size ((t.data.toList.take k).flatMap encB) wr ∧ Below w1.heap.size w1 wr ∧ w1.heap.size + 1 ≤ wr.heap.size) (fun _ _ v10 _ => t.size - (intOf v10).toNat)
  case atStart => exact ⟨0, by omega, rfl, Tryz.freshBuilder w1, (Below.refl _ _).alloc (Nat.le_refl _) _, by simp⟩
  case round =>
    obtain ⟨k, hk, rfl, hI, hbw, hsz⟩ := hrel
    by_cases h : k < t.size
    · have hsn := flatMap_snoc encB t.data.toList k h
      obtain ⟨b, hb⟩ : ∃ b : UInt8, b = t[k]'h := ⟨_, rfl⟩
      have hsn' : (t.data.toList.take (k + 1)).flatMap encB = (t.data.toList.take k).flatMap encB ++ encB b := by rw [hb]; exact hsn
      have hbt : ∀ h', ((t[k]'h').toNat : Nat) = b.toNat := fun h' => by rw [hb]
      have hlt := b.toNat_lt
      have HS := Lib.hid hsn'
      have HB := Lib.hid hb
      have hl1 := flatMap_len encB 6 encB_len (t.data.toList.take k)
      simp only [List.length_take] at hl1
      clear hsn hsn' hb
      have hW := fun W => rfWritten_calls b.toNat W hlt
      have hwl := encW_len b.toNat
      have he : encB b = if (encW b.toNat).isEmpty = true then [b] else encW b.toNat := rfl
      generalize hbc : b.toNat = c at *
      have HBC := Lib.hid hbc
      clear hbc
      generalize encW c = x at *
      have hxs : (⟨x.toArray⟩ : ByteArray).size = x.length := rfl
      have hxd : (⟨x.toArray⟩ : ByteArray).data.toList = x := rfl
      cases hx : x.isEmpty with
      | true =>
        have HE := Lib.hid (show encB b = [b] by rw [he, hx, if_pos rfl])
        obtain rfl : x = [] := by cases x; rfl; cases hx
        clear he hx hwl hxs hxd
        have HW := Lib.hid hW
        clear hW
        go_wp2_with (first | (go_at_call 85; refine (HW.out _).mono ?_; rintro e w3 ⟨rfl, rfl⟩) | (go_at_call 87; rw [← HBC.out]; refine (Tryz.writeByte _ _ _ b _ hI (by omega) (by omega)).mono ?_; rintro e w3 ⟨rfl, hI3, hb3⟩))
        go_roundw
        case rel => exact ⟨k + 1, by omega, by go_num, by rw [HS.out, HE.out]; exact hI3, hbw.trans (hb3.mono (by omega)), by have := hb3.size; omega⟩
        case measure => simp [intOf]; omega
      | false =>
        have HE := Lib.hid (show encB b = x by rw [he, hx]; rfl)
        have tx : ((⟨x.toArray⟩ : ByteArray).toList == []) = false := by rw [Lib.toList_data]; cases x; cases hx; rfl
        clear he hx
        have HXD := Lib.hid hxd
        have hxl : (⟨x.toArray⟩ : ByteArray).size ≤ 6 := by rw [hxs]; exact hwl
        clear hxd hxs hwl
        generalize (⟨x.toArray⟩ : ByteArray) = xb at *
        have HW := Lib.hid hW
        clear hW
        go_wp2_with (first | (go_at_call 85; refine (HW.out _).mono ?_; rintro e w3 ⟨rfl, rfl⟩) | (go_at_call 86; refine (Tryz.writeString _ _ _ _ _ hI (by omega) (by omega)).mono ?_; rintro e w3 ⟨rfl, hI3, hb3⟩))
        rw [HXD.out] at hI3
        go_roundw
        case rel => exact ⟨k + 1, by omega, by go_num, by rw [HS.out, HE.out]; exact hI3, hbw.trans (hb3.mono (by omega)), by have := hb3.size; omega⟩
        case measure => simp [intOf]; omega
    · obtain rfl : k = t.size := by omega
      have HT := Lib.hid ht
      clear ht
      go_wp2_with (go_at_call 88; refine (Tryz.builderString' _ _ _ _ hI (by omega)).mono ?_; rintro e w3 ⟨x, rfl, hx, hb3⟩)
      go_ret
      refine ⟨x, rfl, ?_, (hb1.trans (hbw.mono hz)).trans (hb3.mono (by omega))⟩
      have ex := List.take_of_length_le (Nat.le_of_eq (size_list t))
      rw [ex] at hx
      have h2 := HT.out
      unfold StrIs at *
      rw [hx, h2]
      rfl
theorem wp_appText2 {ops : Array Oper} {rest : List Oper} {o : Oper} {a : Act} {Q : Exit → Act → World → Prop} {W : World} (base : Nat) (hgd : o.guard = none) (s x : Operand)
    (ho : o.op = .call { callee := .builtin .append, args := #[s, x], argTypes := #[59, 9] })
    (v : Value) (l : List UInt8) (hs : a.eval s = v) (t : ByteArray) (hx : a.eval x = .string t)
    (HO : Bytes base v l W) (hbase : base ≤ W.heap.size) (hl : l.length + t.size ≤ 140737488355328)
    (h : ∀ v1 w1, Bytes base v1 (l ++ t.data.toList) w1 → W.grownBy w1 v.ownBlock → wpList Tryz.prog ops Q rest (a.put o.dst v1) w1) :
    wpList Tryz.prog ops Q (o :: rest) a W := by
  obtain ⟨i0, hi, hz0, hz1, hz2⟩ := info_parts byteInfo
  refine Lib.wpList_append_own_string W hgd s x 59 9 ho base 5 i0 Tryz.underlying59 Tryz.underlying9 hi hz0 hz1 hz2 v l.length (Lib.byteCells l) hs HO t hx (by simp only [maxLen]; omega) (by omega) hbase ?_
  intro v1 w1 hown hg _
  refine h v1 w1 ?_ hg
  unfold Bytes
  rw [List.length_append, Lib.byteCells_append]
  exact hown
theorem own_ty {base e size n : Nat} {v : Value} {xs : List Value} {w : World} (h : w.ownsRow base e size v n xs) (k : Nat) (hk : v.ownBlock = some k) : ∃ cs, w.heap[k]? = some (.cells cs e (0, 0)) := by
  rcases h.2 with ⟨rfl, _⟩ | ⟨g, cap, cur, rfl, _, hh, _⟩
  · simp [Value.ownBlock] at hk
  · have : g = k := by simpa [Value.ownBlock] using hk
    subst this
    exact ⟨cur, hh⟩
theorem ownB_ne {base g : Nat} {u v : Value} {l : List UInt8} {w : World} (hB : Blk g 142 [u] w) (h : Bytes base v l w) : v.ownBlock ≠ some g := fun e => by
  obtain ⟨cs, hc⟩ := own_ty h g e
  rw [show w.heap[g]? = _ from hB] at hc
  injection hc with hc
  injection hc with _ hc
  revert hc
  decide
/-- a writer's block with what it holds -/
def WrAt (base g : Nat) (l : List UInt8) (w : World) : Prop := base ≤ g ∧ ∃ v, Blk g 142 [v] w ∧ Bytes base v l w
theorem WrAt.ne {base g : Nat} {v : Value} {l : List UInt8} {w : World} (hB : Blk g 142 [v] w) (h : Bytes base v l w) : v.ownBlock ≠ some g := fun e => by
  obtain ⟨cs, hc⟩ := own_ty h g e
  rw [show w.heap[g]? = _ from hB] at hc
  injection hc with hc
  injection hc with _ hc
  revert hc
  decide
theorem WrAt.below {base g : Nat} {l : List UInt8} {w w' : World} (h : WrAt base g l w) (hb : Below w.heap.size w w') : WrAt base g l w' := by
  obtain ⟨h0, v, hB, hv⟩ := h
  exact ⟨h0, v, hB.below hb, own_below hv hb⟩
set_option maxRecDepth 100000 in
set_option maxHeartbeats 2000000 in
theorem jwAdd_calls (base g : Nat) (l : List UInt8) (s : ByteArray) (w : World) (h : WrAt base g l w) (hs : l.length + s.size ≤ 140737488355328) :
    Calls Tryz.prog 199 #[.pointer (some ⟨g, 0, none⟩), .string s] w fun e w' => e = .returned (.tuple #[]) ∧ WrAt base g (l ++ s.data.toList) w' ∧ Below base w w' := by
  obtain ⟨hbg, v, hB, hv⟩ := h
  have hlt := hB.lt
  have hne := WrAt.ne hB hv
  obtain ⟨va, vc, rfl, -⟩ := own_slice hv
  have c0 := hB.cell 0 _ rfl
  have HV := Lib.hid hv
  clear hv
  go_enter Tryz.func199, Tryz.ntmps199
  go_wp2_with (at_builtin; refine wp_appText2 base ?_ (.tmp 8) (.tmp 9) ?_ (.slice va l.length vc) l ?_ s ?_ ?_ ?_ ?_ ?_; rfl; rfl; rfl; rfl; exact HV.out; omega; exact hs; intro v1 w1 hv1 hg1; obtain ⟨xa, xc, hxe, -⟩ := own_slice hv1; subst hxe; have hB1 := hB.grown hg1 (fun e => hne e.symm); have f0 := hB1.free 0; have d0 := hB1.cell 0 _ rfl; have HV1 := Lib.hid hv1; clear hv1)
  go_end0
  have hv1 := HV1.out
  rw [show (l ++ s.data.toList).length = l.length + s.size by rw [List.length_append, size_list]] at hv1
  refine ⟨rfl, ⟨hbg, _, hB1.set 0 _, own_set hv1 (ownB_ne hB1 hv1) 0 _⟩, ?_⟩
  exact ((Below.refl base w).grown hg1 (by omega) fun k hk => own_base HV.out k hk).setCell hbg _
end Go.Proofs.YtafkfamfhagokaaGreatDoor.S
