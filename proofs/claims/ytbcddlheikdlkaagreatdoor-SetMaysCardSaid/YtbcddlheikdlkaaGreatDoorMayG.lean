import Derived.Test.YtbcddlheikdlkaaGreatDoorSetW6e
import Derived.Test.YtbcddlheikdlkaaGreatDoorReadG
/-
  THE WALK of package set's walk over a row of items.
-/
set_option linter.unusedVariables false
set_option linter.unusedSimpArgs false
namespace Go.Proofs.YtbcddlheikdlkaaGreatDoor.S
open Go.RowKit

set_option maxRecDepth 100000 in
set_option maxHeartbeats 8000000 in
theorem rowMay_n (ns : List Nm) : ∀ (N : Nat) (is : List It), SizeOf.sizeOf is ≤ N → (∀ i ∈ is, ItOk i) → RowMay ns is := by
  intro N
  induction N with
  | zero =>
    intro is hN
    cases is <;> simp at hN
  | succ N ih =>
  intro is hN hok g nsv v deep loop n m w0 w hV hI hb hg hB hd hn hm
  obtain ⟨sa, sc, rfl⟩ := hI.slice
  have hpl := hI.len_le
  obtain ⟨R, hR⟩ : ∃ R, R = mayR (ns.map Prod.fst) is deep loop n m := ⟨_, rfl⟩
  rw [← hR]
  have HV := Lib.hid hV
  have HI := Lib.hid hI
  have HR0 := Lib.hid hR
  have HBB := Lib.hid hB
  have HB0 := Lib.hid hb
  have IH := Lib.hid (fun (k : Nat) (h : k < is.length) => (⟨fun hth => ih is[k].th (by have h1 := List.sizeOf_lt_of_mem (List.getElem_mem h); have h2 := it_th is[k]; omega) hth, fun hel => ih is[k].el (by have h1 := List.sizeOf_lt_of_mem (List.getElem_mem h); have h2 := it_el is[k]; omega) hel⟩ : ((∀ i ∈ is[k].th, ItOk i) → RowMay ns is[k].th) ∧ ((∀ i ∈ is[k].el, ItOk i) → RowMay ns is[k].el)))
  have HOK := Lib.hid hok
  clear ih hN hok hV hI hR hB hb
  go_enter Tryz.func45, Tryz.ntmps45
  go_wp2
  go_loopg [12] is.length (fun gk v12 wr => ∃ k n1 m1 : Nat, k + gk = is.length ∧ v12 = .int .i64 k ∧ WkB g nsv n1 m1 wr ∧ Below w0.heap.size w0 wr ∧ n1 ≤ n ∧ m1 ≤ m ∧ R = mayR (ns.map Prod.fst) (is.drop k) deep loop n1 m1)
  case atStart => exact ⟨0, n, m, by omega, rfl, HBB.out, HB0.out, Nat.le_refl _, Nat.le_refl _, HR0.out⟩
  case round =>
    obtain ⟨k, n1, m1, hkg, rfl, hBr, hbr, hn1, hm1, hRk⟩ := hrel
    have HKG := Lib.hid hkg
    have HRK := Lib.hid hRk
    have HBR := Lib.hid hBr
    have Hbr := Lib.hid hbr
    have hkl : k ≤ is.length := by omega
    clear hkg hRk hBr hbr HR0 HBB HB0
    by_cases hk : k < is.length
    · have hkb : decide ((k : Int) < (is.length : Int)) = true := decide_eq_true (by omega)
      obtain ⟨b, cap, pv, tv, ev, hv, hcc, y0, y1, y2, y3, y4, hP, hT, hE⟩ := HI.out.at k hk
      obtain ⟨rfl, -, rfl⟩ := Value.slice.inj hv
      obtain ⟨ih1, ih2⟩ := IH.out k hk
      have hok1 := HOK.out _ (List.getElem_mem hk)
      have hdr : is.drop k = is[k] :: is.drop (k + 1) := List.drop_eq_getElem_cons hk
      have hC : Calls Tryz.prog 74 #[.pointer (some ⟨g, 0, none⟩), .pointer (some ⟨b, k * 5, none⟩), .int .i64 deep, .bool loop] wr (MayPost (may1 (ns.map Prod.fst) is[k] deep loop n1 m1) g nsv w0) := by
        generalize is[k] = it at *
        cases hok1 with
        | mk kd t p th el hp hs ht hth hel => exact item_calls ns kd t p th el hp hs ht (ih1 hth) (ih2 hel) g b (k * 5) nsv pv tv ev deep loop n1 m1 w0 wr HV.out hP hT hE y0 y1 y2 y3 y4 Hbr.out hg HBR.out hd (by omega) (by omega)
      have hRd : R = match may1 (ns.map Prod.fst) is[k] deep loop n1 m1 with
          | none => none
          | some (n', m') => mayR (ns.map Prod.fst) (is.drop (k + 1)) deep loop n' m' := by
        rw [HRK.out, hdr, mayR]
        rfl
      have hle : ∀ n2 m2, may1 (ns.map Prod.fst) is[k] deep loop n1 m1 = some (n2, m2) → n2 ≤ n1 ∧ m2 ≤ m1 := fun n2 m2 h2 => may1_le h2
      generalize may1 (ns.map Prod.fst) is[k] deep loop n1 m1 = R1 at *
      have HRD := Lib.hid hRd
      have HLE := Lib.hid hle
      clear hv y0 y1 y2 y3 y4 hP hT hE ih1 ih2 hok1 hdr hRd hle HI IH HOK HRK
      cases R1 with
      | none =>
        have hR2 : R = none := HRD.out
        have HR2 := Lib.hid hR2
        clear hR2
        go_wp2_with (go_at_call 74; refine hC.mono ?_; rintro e w2 ⟨-, hno, hb2⟩; obtain rfl := hno rfl; have HB2 := Lib.hid hb2; clear hno hb2)
        go_ret
        exact MayPost.no HR2.out HB2.out
      | some x =>
        obtain ⟨n2, m2⟩ := x
        obtain ⟨hn2, hm2⟩ := HLE.out n2 m2 rfl
        go_wp2_with (go_at_call 74; refine hC.mono ?_; rintro e w2 ⟨hy, -, hb2⟩; obtain ⟨rfl, hB2⟩ := hy n2 m2 rfl; have HB2 := Lib.hid hB2; have Hb2 := Lib.hid hb2; clear hy hb2 hB2)
        go_roundg (gk - 1)
        case measure => have := HKG.out; omega
        case rel => exact ⟨k + 1, n2, m2, by have := HKG.out; omega, by go_num, HB2.out, Hb2.out, by omega, by omega, HRD.out⟩
    · have hkb : decide ((k : Int) < (is.length : Int)) = false := decide_eq_false (by omega)
      have hR2 : R = some (n1, m1) := by rw [HRK.out, List.drop_eq_nil_of_le (by omega), mayR]
      have HR2 := Lib.hid hR2
      clear hR2
      go_wp2
      go_ret
      exact MayPost.yes HR2.out HBR.out Hbr.out
theorem rowMay (ns : List Nm) (is : List It) (h : ∀ i ∈ is, ItOk i) : RowMay ns is := rowMay_n ns _ is (Nat.le_refl _) h
end Go.Proofs.YtbcddlheikdlkaaGreatDoor.S
/-
  THE WALK of package set's May.
-/
set_option linter.unusedVariables false
set_option linter.unusedSimpArgs false
namespace Go.Proofs.YtbcddlheikdlkaaGreatDoor.S
open Go.RowKit

theorem NmV.caps {a : Option Addr} {n c : Nat} {ns : List Nm} {w : World} (h : NmV (.slice a n c) ns w) : ns.length ≤ c ∧ c ≤ 9223372036854775807 := by
  obtain ⟨a', c', hv, h1, h2, -⟩ := h
  obtain ⟨-, -, rfl⟩ := Value.slice.inj hv
  exact ⟨h1, h2⟩
theorem mayL_names {ns : List Nm} (k : Nat) (hk : k < ns.length) (h : nameT ns[k].1 = false ∨ hasN ((ns.map Prod.fst).take k) ns[k].1 = true) : mayL ns = false := by
  unfold mayL
  rw [namesOk_at (ns.map Prod.fst) [] k (by simpa using hk) (by simpa using h), Bool.and_false, Bool.false_and]
theorem mayL_rows {ns : List Nm} (k : Nat) (hk : k < ns.length) (h : mayR (ns.map Prod.fst) ns[k].2 0 false 1024 65536 = none) : mayL ns = false := by
  unfold mayL
  rw [show (ns.all fun n => (mayR (ns.map Prod.fst) n.2 0 false 1024 65536).isSome) = false from by
    rw [List.all_eq_false]
    exact ⟨ns[k], List.getElem_mem hk, by rw [h]; simp⟩, Bool.and_false]
theorem mayL_yes {ns : List Nm} (h1 : 1 ≤ ns.length) (h2 : ns.length ≤ 16) (hn : ∀ j (hj : j < ns.length), nameT ns[j].1 = true ∧ hasN ((ns.map Prod.fst).take j) ns[j].1 = false) (hr : ∀ j (hj : j < ns.length), (mayR (ns.map Prod.fst) ns[j].2 0 false 1024 65536).isSome = true) : mayL ns = true := by
  unfold mayL
  rw [decide_eq_true h1, decide_eq_true h2, namesOk_all (ns.map Prod.fst) [] fun k hk => by simpa using hn k (by simpa using hk), Bool.true_and, Bool.true_and, Bool.true_and, List.all_eq_true]
  intro x hx
  obtain ⟨j, hj, rfl⟩ := List.getElem_of_mem hx
  exact hr j hj
set_option maxRecDepth 100000 in
set_option maxHeartbeats 16000000 in
theorem setMay_calls (v : Value) (ns : List Nm) (w : World) (hV : NmV v ns w) (hok : ∀ n ∈ ns, ∀ i ∈ n.2, ItOk i) (hln : ∀ n ∈ ns, n.1.length ≤ 9223372036854775807) :
    Calls Tryz.prog 20 #[v] w fun e w' => e = .returned (.bool (mayL ns)) ∧ Below w.heap.size w w' := by
  obtain ⟨sa, sc, rfl⟩ := hV.slice
  obtain ⟨hcap, hmax⟩ := hV.caps
  obtain ⟨R, hR⟩ : ∃ R, R = mayL ns := ⟨_, rfl⟩
  rw [← hR]
  have HR := Lib.hid hR
  have HV := Lib.hid hV
  have HOK := Lib.hid hok
  have HLN := Lib.hid hln
  clear hR hV hok hln
  go_enter Tryz.func20, Tryz.ntmps20
  by_cases h1 : ns.length < 1
  · have hb1 : decide ((ns.length : Int) < 1) = true := decide_eq_true (by omega)
    have hRf : R = false := by rw [HR.out]; unfold mayL; rw [decide_eq_false (by omega : ¬ 1 ≤ ns.length)]; rfl
    subst hRf
    go_wp2
    go_ret
    exact ⟨rfl, Below.refl _ _⟩
  have hb1 : decide ((ns.length : Int) < 1) = false := decide_eq_false (by omega)
  by_cases h16 : 16 < ns.length
  · have hb2 : decide ((16 : Int) < (ns.length : Int)) = true := decide_eq_true (by omega)
    have hRf : R = false := by rw [HR.out]; unfold mayL; rw [decide_eq_false (by omega : ¬ ns.length ≤ 16), Bool.and_false]; rfl
    subst hRf
    go_wp2
    go_ret
    exact ⟨rfl, Below.refl _ _⟩
  have hb2 : decide ((16 : Int) < (ns.length : Int)) = false := decide_eq_false (by omega)
  go_wp2
  clear hb1 hb2
  go_loopg [16] ns.length (fun gk v16 wr => ∃ k : Nat, k + gk = ns.length ∧ v16 = .int .i64 k ∧ Below w.heap.size w wr ∧ Hid (∀ j (hj : j < ns.length), j < k → nameT ns[j].1 = true ∧ hasN ((ns.map Prod.fst).take j) ns[j].1 = false))
  case atStart => exact ⟨0, by omega, rfl, Below.refl _ _, Lib.hid fun j _ h => absurd h (Nat.not_lt_zero _)⟩
  case round =>
    obtain ⟨k, hkg, rfl, hbr, hall⟩ := hrel
    have HKG := Lib.hid hkg
    have HBR := Lib.hid hbr
    have hkl : k ≤ ns.length := by omega
    have HVr := Lib.hid (HV.out.below hbr)
    clear hkg hbr
    by_cases hk : k < ns.length
    · have hkb : decide ((k : Int) < (ns.length : Int)) = true := decide_eq_true (by omega)
      obtain ⟨a', c', hv, -, -, hc⟩ := HVr.out
      obtain ⟨rfl, -, rfl⟩ := Value.slice.inj hv
      obtain ⟨g, off, iv, rfl, e0, -, -⟩ := hc k hk
      obtain ⟨ta, tc, hts⟩ := (HVr.out.take k hkl).slice
      have hTk := Lib.hid (show NmV (.slice ta (ns.take k).length tc) (ns.take k) wr by rw [← hts]; exact HVr.out.take k hkl)
      have hlk : (ns.take k).length = k := by rw [List.length_take]; omega
      rw [hlk] at hts hTk
      have hsl : ∀ W, (Instr.slice 34 (.slice (some ⟨g, off, none⟩) ns.length sc) none (some (.int .i64 k)) none).run Tryz.prog W = .ok (.slice ta k tc) W := fun W => by rw [run_takeN k (by omega) W, hts]
      have hNM := fun W => sname_q ⟨ns[k].1.toArray⟩ ns[k].1 rfl (HLN.out _ (List.getElem_mem hk)) W
      have hFD := fun (m : Nat) => find_at ta k tc (ns.take k) (wr.drewN m) (hTk.out.below (Below.drewN (Below.refl _ _) m)) ⟨ns[k].1.toArray⟩ ns[k].1 rfl
      have hFQ := hTk.out.findQ_some ns[k].1
      rw [List.map_take] at hFD hFQ
      have hno := fun h => mayL_names k hk h
      rw [← HR.out] at hno
      have hst : nameT ns[k].1 = true → hasN ((ns.map Prod.fst).take k) ns[k].1 = false → ∀ j (hj : j < ns.length), j < k + 1 → nameT ns[j].1 = true ∧ hasN ((ns.map Prod.fst).take j) ns[j].1 = false := fun h1 h2 j hj hjk => by
        by_cases e : j = k
        · subst e; exact ⟨h1, h2⟩
        · exact hall.out j hj (by omega)
      have HST := Lib.hid hst
      have HNO := Lib.hid hno
      generalize findQ ta ((ns.map Prod.fst).take k) ns[k].1 = Q at *
      generalize hasN ((ns.map Prod.fst).take k) ns[k].1 = bh at *
      generalize nameT ns[k].1 = bn at *
      generalize (⟨ns[k].1.toArray⟩ : ByteArray) = tx at *
      have HNM := Lib.hid hNM
      have HFD := Lib.hid hFD
      clear hv hc hts hTk hall hNM hFD hst hno hlk
      go_upto_region 6 with (fail)
      cases bn with
      | false =>
        have hRf : R = false := HNO.out (.inl rfl)
        subst hRf
        clear hFQ
        go_quiet ((go_at_call 36; exact Calls.quiet_of_same (HNM.out _)))
        go_wp2
        go_ret
        exact ⟨rfl, Below.drewN HBR.out _⟩
      | true =>
        cases bh with
        | true =>
          have hRf : R = false := HNO.out (.inr rfl)
          subst hRf
          obtain ⟨qa, rfl⟩ : ∃ qa, Q = some qa := by cases Q with | none => cases hFQ | some a => exact ⟨a, rfl⟩
          clear hFQ
          go_quiet ((first | (go_at_call 36; exact Calls.quiet_of_same (HNM.out _)) | (go_at_call 44; exact Calls.quiet_of_same (HFD.out _))))
          go_wp2
          go_ret
          exact ⟨rfl, Below.drewN HBR.out _⟩
        | false =>
          obtain rfl : Q = none := by cases Q with | none => rfl | some a => cases hFQ
          clear hFQ
          go_quiet ((first | (go_at_call 36; exact Calls.quiet_of_same (HNM.out _)) | (go_at_call 44; exact Calls.quiet_of_same (HFD.out _))))
          go_wp2
          go_roundg (gk - 1)
          case measure => have := HKG.out; omega
          case rel => exact ⟨k + 1, by have := HKG.out; omega, by go_num, Below.drewN HBR.out _, Lib.hid (HST.out (by simp) (by simp))⟩
    · have hkb : decide ((k : Int) < (ns.length : Int)) = false := decide_eq_false (by omega)
      have HNA := Lib.hid (fun j (hj : j < ns.length) => hall.out j hj (by omega))
      clear hall
      go_wp2
      clear hkb
      go_loopg [41] ns.length (fun gk v41 wr => ∃ m : Nat, m + gk = ns.length ∧ v41 = .int .i64 m ∧ Below w.heap.size w wr ∧ Hid (∀ j (hj : j < ns.length), j < m → (mayR (ns.map Prod.fst) ns[j].2 0 false 1024 65536).isSome = true))
      case atStart => exact ⟨0, by omega, rfl, HBR.out, Lib.hid fun j _ h => absurd h (Nat.not_lt_zero _)⟩
      case round =>
        obtain ⟨m, hmg, rfl, hbx, hall⟩ := hrel
        have HMG := Lib.hid hmg
        have HBX := Lib.hid hbx
        have HVx := Lib.hid (HV.out.below hbx)
        have hml : m ≤ ns.length := by omega
        clear hmg hbx
        by_cases hm : m < ns.length
        · have hmb : decide ((m : Int) < (ns.length : Int)) = true := decide_eq_true (by omega)
          obtain ⟨a', c', hv, -, -, hc⟩ := HVx.out
          obtain ⟨rfl, -, rfl⟩ := Value.slice.inj hv
          obtain ⟨g, off, iv, rfl, -, e1, hp⟩ := hc m hm
          have hW := Blk.new wr [.slice (some ⟨g, off, none⟩) ns.length sc, .int .i64 1024, .int .i64 65536] 97
          have hbW := (Below.refl wr.heap.size wr).alloc (Nat.le_refl _) (.cells #[.slice (some ⟨g, off, none⟩) ns.length sc, .int .i64 1024, .int .i64 65536] 97)
          have hC : Calls Tryz.prog 45 #[.pointer (some ⟨wr.heap.size, 0, none⟩), iv, .int .i64 0, .bool false] (wr.alloc (.cells #[.slice (some ⟨g, off, none⟩) ns.length sc, .int .i64 1024, .int .i64 65536] 97)) (MayPost (mayR (ns.map Prod.fst) ns[m].2 0 false 1024 65536) wr.heap.size (.slice (some ⟨g, off, none⟩) ns.length sc) wr) :=
            rowMay ns ns[m].2 (HOK.out _ (List.getElem_mem hm)) wr.heap.size _ iv 0 false 1024 65536 wr _ HVx.out hp hbW (Nat.le_refl _) hW (by omega) (by omega) (by omega)
          have hno := fun h => mayL_rows m hm h
          rw [← HR.out] at hno
          have hst : (mayR (ns.map Prod.fst) ns[m].2 0 false 1024 65536).isSome = true → ∀ j (hj : j < ns.length), j < m + 1 → (mayR (ns.map Prod.fst) ns[j].2 0 false 1024 65536).isSome = true := fun h1 j hj hjk => by
            by_cases e : j = m
            · subst e; exact h1
            · exact hall.out j hj (by omega)
          have e2 := cell_keep hbW e1
          obtain ⟨ra, rc, rfl⟩ := hp.slice
          generalize mayR (ns.map Prod.fst) ns[m].2 0 false 1024 65536 = R1 at *
          have HST := Lib.hid hst
          have HNO := Lib.hid hno
          have HC := Lib.hid hC
          clear hv hc hp hall hst hno hC hW hbW
          cases R1 with
          | none =>
            have hRf : R = false := HNO.out rfl
            subst hRf
            go_wp2_with (go_at_call 45; refine HC.out.mono ?_; rintro e w2 ⟨-, hn2, hb2⟩; obtain rfl := hn2 rfl; clear hn2)
            go_ret
            exact ⟨rfl, HBX.out.trans (hb2.mono HBX.out.size)⟩
          | some x =>
            go_wp2_with (go_at_call 45; refine HC.out.mono ?_; rintro e w2 ⟨hy2, -, hb2⟩; obtain ⟨rfl, -⟩ := hy2 x.1 x.2 rfl; have HB2 := Lib.hid hb2; clear hy2 hb2)
            go_roundg (gk - 1)
            case measure => have := HMG.out; omega
            case rel => exact ⟨m + 1, by have := HMG.out; omega, by go_num, HBX.out.trans (HB2.out.mono HBX.out.size), Lib.hid (HST.out (by simp))⟩
        · have hmb : decide ((m : Int) < (ns.length : Int)) = false := decide_eq_false (by omega)
          have hRt : R = true := by
            rw [HR.out]
            exact mayL_yes (by omega) (by omega) HNA.out fun j hj => hall.out j hj (by omega)
          subst hRt
          clear hall HNA
          go_wp2
          go_ret
          exact ⟨rfl, HBX.out⟩
end Go.Proofs.YtbcddlheikdlkaaGreatDoor.S
