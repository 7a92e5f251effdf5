import Derived.Test.YtbcddlheikdlkaaGreatDoorPlainN
import Derived.Test.YtbcddlheikdlkaaGreatDoorByteWalks
/-
  THE WALKS of package set's name and Find.
-/
set_option linter.unusedVariables false
set_option linter.unusedSimpArgs false
namespace Go.Proofs.YtbcddlheikdlkaaGreatDoor.S
open Go.RowKit

theorem index_sign (c : Nat) (h : c < 256) : decide (Lib.indexByte [95, 46, 45] (c : Int).toNat.toUInt8 < 0) = !(c == 95 || c == 46 || c == 45) := by
  have e := (by decide +kernel : ∀ c : Fin 256, decide (Lib.indexByte [95, 46, 45] (c.val : Int).toNat.toUInt8 < 0) = !(c.val == 95 || c.val == 46 || c.val == 45))
  exact e ⟨c, h⟩
theorem all_at {l : List UInt8} {f : UInt8 → Bool} (k : Nat) (hk : k < l.length) (h : f l[k] = false) : l.all f = false := by
  rw [List.all_eq_false]
  exact ⟨l[k], List.getElem_mem hk, by rw [h]; simp⟩
theorem all_upto {l : List UInt8} {f : UInt8 → Bool} (h : ∀ j (hj : j < l.length), f l[j] = true) : l.all f = true := by
  rw [List.all_eq_true]
  intro x hx
  obtain ⟨j, hj, rfl⟩ := List.getElem_of_mem hx
  exact h j hj
set_option maxRecDepth 100000 in
set_option maxHeartbeats 4000000 in
theorem sname_calls (s : ByteArray) (l : List UInt8) (hl : StrIs s l) (hs : s.size ≤ 9223372036854775807) (w : World) :
    Calls Tryz.prog 36 #[.string s] w fun e w' => e = .returned (.bool (nameT l)) ∧ w = w' := by
  obtain rfl : s.data.toList = l := hl
  have hsl := size_list s
  obtain ⟨B, hB⟩ : ∃ B, B = nameT s.data.toList := ⟨_, rfl⟩
  rw [← hB]
  have HB := Lib.hid hB
  clear hB
  go_enter Tryz.func36, Tryz.ntmps36
  go_wp2
  go_loopg [7] s.size (fun gk v7 wr => ∃ k : Nat, k + gk = s.size ∧ v7 = .int .i64 k ∧ w = wr ∧ ∀ j (hj : j < s.data.toList.length), j < k → signT (s.data.toList[j]).toNat = true)
  case atStart => exact ⟨0, by omega, rfl, rfl, fun j _ h => absurd h (Nat.not_lt_zero _)⟩
  case round =>
    obtain ⟨k, hkg, rfl, rfl, hall⟩ := hrel
    have HKG := Lib.hid hkg
    have HA := Lib.hid hall
    have hkl : k ≤ s.size := by omega
    clear hkg hall
    by_cases hk : k < s.size
    · have hb : decide ((k : Int) < (s.size : Int)) = true := decide_eq_true (by omega)
      obtain ⟨b, hbb⟩ : ∃ b : UInt8, b = s[k]'hk := ⟨_, rfl⟩
      have hbt : ∀ h', ((s[k]'h').toNat : Nat) = b.toNat := fun h' => by rw [hbb]
      have hbl : ∀ h', (s.data.toList[k]'h') = b := fun h' => by rw [hbb]; rfl
      have hlt := b.toNat_lt
      obtain ⟨c, hc⟩ : ∃ c, c = b.toNat := ⟨_, rfl⟩
      have HBL := Lib.hid hbl
      rw [← hc] at hbt hlt
      have HC := Lib.hid hc
      clear hbb hc hbl
      have hsg := index_sign c hlt
      obtain ⟨x, hx⟩ : ∃ x, x = Lib.indexByte [95, 46, 45] (c : Int).toNat.toUInt8 := ⟨_, rfl⟩
      have hI : ∀ W, Calls Tryz.prog 70 #[.string ⟨#[95, 46, 45]⟩, .int .u8 c] W fun e w' => e = .returned (.int .i64 x) ∧ w' = W := fun W => by rw [hx]; exact Tryz.strings_IndexByte _ _ _
      rw [← hx] at hsg
      clear hx
      have hL := fun W => letter_calls (c : Int) W (by omega) (by omega)
      have hD := fun W => digit_calls (c : Int) W (by omega) (by omega)
      have hst : signT c = (letterI c || digitI c || (c == 95 || c == 46 || c == 45)) := by simp [signT, Bool.or_assoc]
      cases hs : signT c with
      | true =>
        have HS := Lib.hid hs
        rw [hs] at hst
        clear hs
        cases hlc : letterI (c : Int) with
        | true =>
          rw [hlc] at hL
          clear hst hsg
          go_wp2_with (go_at_call 68; refine (hL _).mono ?_; rintro e w' ⟨rfl, rfl⟩)
          go_roundg (gk - 1)
          case measure => have := HKG.out; omega
          case rel => exact ⟨k + 1, by have := HKG.out; omega, by go_num, rfl, fun j hj h => if e : j = k then by subst e; rw [HBL.out hj, ← HC.out]; exact HS.out else HA.out j hj (by omega)⟩
        | false =>
          rw [hlc] at hL
          cases hdc : digitI (c : Int) with
          | true =>
            rw [hdc] at hD
            clear hst hsg
            go_wp2_with (first | (go_at_call 68; refine (hL _).mono ?_; rintro e w' ⟨rfl, rfl⟩) | (go_at_call 69; refine (hD _).mono ?_; rintro e w' ⟨rfl, rfl⟩))
            go_roundg (gk - 1)
            case measure => have := HKG.out; omega
            case rel => exact ⟨k + 1, by have := HKG.out; omega, by go_num, rfl, fun j hj h => if e : j = k then by subst e; rw [HBL.out hj, ← HC.out]; exact HS.out else HA.out j hj (by omega)⟩
          | false =>
            rw [hdc] at hD
            rw [hlc, hdc, Bool.false_or, Bool.false_or] at hst
            have hxb : decide (x < 0) = false := by rw [hsg, ← hst]; rfl
            clear hst hsg
            go_wp2_with (first | (go_at_call 68; refine (hL _).mono ?_; rintro e w' ⟨rfl, rfl⟩) | (go_at_call 69; refine (hD _).mono ?_; rintro e w' ⟨rfl, rfl⟩) | (go_at_call 70; refine (hI _).mono ?_; rintro e w' ⟨rfl, hw⟩; subst hw))
            go_roundg (gk - 1)
            case measure => have := HKG.out; omega
            case rel => exact ⟨k + 1, by have := HKG.out; omega, by go_num, rfl, fun j hj h => if e : j = k then by subst e; rw [HBL.out hj, ← HC.out]; exact HS.out else HA.out j hj (by omega)⟩
      | false =>
        have hBf : B = false := by
          rw [HB.out]
          unfold nameT
          rw [all_at k (by rw [hsl]; exact hk) (by rw [HBL.out (by rw [hsl]; exact hk), ← HC.out]; exact hs)]
          rfl
        rw [hs] at hst
        have h2 := hst.symm
        rw [Bool.or_eq_false_iff, Bool.or_eq_false_iff] at h2
        obtain ⟨⟨hlc, hdc⟩, hm⟩ := h2
        have hxb : decide (x < 0) = true := by rw [hsg, hm]; rfl
        rw [hlc] at hL
        rw [hdc] at hD
        clear hst hsg hs hm
        subst hBf
        go_wp2_with (first | (go_at_call 68; refine (hL _).mono ?_; rintro e w' ⟨rfl, rfl⟩) | (go_at_call 69; refine (hD _).mono ?_; rintro e w' ⟨rfl, rfl⟩) | (go_at_call 70; refine (hI _).mono ?_; rintro e w' ⟨rfl, hw⟩; subst hw))
        go_ret
        exact ⟨rfl, rfl⟩
    · have hb : decide ((k : Int) < (s.size : Int)) = false := decide_eq_false (by omega)
      have hall : s.data.toList.all (fun b => signT b.toNat) = true := all_upto fun j hj => HA.out j hj (by omega)
      have hBe : B = (!s.data.toList.isEmpty && decide (s.data.toList.length ≤ 32)) := by rw [HB.out]; unfold nameT; rw [hall, Bool.true_and]
      clear hall HB HA
      by_cases h0 : s.size = 0
      · have hBf : B = false := by
          rw [hBe, show s.data.toList = [] from List.eq_nil_of_length_eq_zero (by rw [hsl]; exact h0)]
          rfl
        obtain rfl : s = ⟨#[]⟩ := by
          have h1 : s.data.toList = [] := List.eq_nil_of_length_eq_zero (by rw [hsl]; exact h0)
          have h2 : s.data = #[] := by simpa using h1
          cases s; simp at h2; subst h2; rfl
        subst hBf
        clear hBe
        go_wp2
        go_ret
        exact ⟨rfl, rfl⟩
      · have hne := nonempty_test h0
        have hBf : B = decide ((s.size : Int) ≤ 32) := by
          rw [hBe, hsl, show s.data.toList.isEmpty = false by
            cases hq : s.data.toList with
            | nil => rw [hq] at hsl; simp at hsl; omega
            | cons => rfl]
          rw [Bool.not_false, Bool.true_and, Bool.eq_iff_iff, decide_eq_true_eq, decide_eq_true_eq]
          omega
        clear hBe
        by_cases h32 : s.size ≤ 32
        · have h3 : decide ((s.size : Int) ≤ 32) = true := decide_eq_true (by omega)
          rw [h3] at hBf
          subst hBf
          go_wp2
          go_ret
          exact ⟨rfl, rfl⟩
        · have h3 : decide ((s.size : Int) ≤ 32) = false := decide_eq_false (by omega)
          rw [h3] at hBf
          subst hBf
          go_wp2
          go_ret
          exact ⟨rfl, rfl⟩
end Go.Proofs.YtbcddlheikdlkaaGreatDoor.S
/-
  THE WALK of package set's Find; rows of templates by their names.
-/
set_option linter.unusedVariables false
set_option linter.unusedSimpArgs false
namespace Go.Proofs.YtbcddlheikdlkaaGreatDoor.S
open Go.RowKit

/-- a row of templates with their items, as it is read -/
def NmV (v : Value) (ns : List Nm) (W : World) : Prop :=
  ∃ a c, v = .slice a ns.length c ∧ ns.length ≤ c ∧ c ≤ 9223372036854775807 ∧ ∀ (k : Nat) (hk : k < ns.length), ∃ g off iv, a = some ⟨g, off, none⟩ ∧
    W.cell? ⟨g, off + k * 2, none⟩ = some (.string ⟨ns[k].1.toArray⟩) ∧ W.cell? ⟨g, off + k * 2 + 1, none⟩ = some iv ∧ Its 0 (fun _ => True) W iv ns[k].2
theorem NmV.slice {v : Value} {ns : List Nm} {w : World} (h : NmV v ns w) : ∃ a c, v = .slice a ns.length c := let ⟨a, c, h, _⟩ := h; ⟨a, c, h⟩
theorem NmV.below {v : Value} {ns : List Nm} {w w' : World} (h : NmV v ns w) (hb : Below w.heap.size w w') : NmV v ns w' := by
  obtain ⟨a, c, rfl, h1, h2, hc⟩ := h
  refine ⟨a, c, rfl, h1, h2, fun k hk => ?_⟩
  obtain ⟨g, off, iv, rfl, e0, e1, hp⟩ := hc k hk
  exact ⟨g, off, iv, rfl, cell_keep hb e0, cell_keep hb e1, hp.blw hb⟩
theorem NmV.take {a : Option Addr} {n c : Nat} {ns : List Nm} {w : World} (h : NmV (.slice a n c) ns w) (k : Nat) (hk : k ≤ ns.length) : NmV (sliced a 0 k c 2) (ns.take k) w := by
  obtain ⟨a', c', hv, h1, h2, hc⟩ := h
  obtain ⟨rfl, rfl, rfl⟩ := Value.slice.inj hv
  unfold sliced
  refine ⟨_, _, by rw [List.length_take, Nat.min_eq_left hk]; rfl, by rw [List.length_take]; omega, by omega, fun j hj => ?_⟩
  rw [List.length_take] at hj
  obtain ⟨g, off, iv, rfl, e0, e1, hp⟩ := hc j (by omega)
  simp only [List.getElem_take]
  refine ⟨g, off, iv, ?_, e0, e1, hp⟩
  split
  · rfl
  · simp [Addr.add_lit]
theorem strIs_eq {b : ByteArray} {l : List UInt8} (h : StrIs b l) : b = ⟨l.toArray⟩ := by
  unfold StrIs at h
  subst h
  simp
theorem hasN_at {ns : List (List UInt8)} {l : List UInt8} (k : Nat) (hk : k < ns.length) (h : ns[k] = l) : hasN ns l = true := by
  unfold hasN
  rw [List.any_eq_true]
  exact ⟨ns[k], List.getElem_mem hk, by rw [h]; exact beq_self_eq_true l⟩
theorem hasN_none {ns : List (List UInt8)} {l : List UInt8} (h : ∀ j (hj : j < ns.length), ns[j] ≠ l) : hasN ns l = false := by
  unfold hasN
  rw [List.any_eq_false]
  intro x hx
  obtain ⟨j, hj, rfl⟩ := List.getElem_of_mem hx
  simpa using h j hj
/-- where Find points -/
def findQ (a : Option Addr) (ns : List (List UInt8)) (l : List UInt8) : Option Addr := (ns.findIdx? (· == l)).bind fun k => a.map fun p => ⟨p.block, p.off + k * 2, none⟩
theorem findQ_at {g off : Nat} {ns : List (List UInt8)} {l : List UInt8} (k : Nat) (hk : k < ns.length) (h : ns[k] = l) (hall : ∀ j (hj : j < ns.length), j < k → ns[j] ≠ l) : findQ (some ⟨g, off, none⟩) ns l = some ⟨g, off + k * 2, none⟩ := by
  have hf : ns.findIdx? (· == l) = some k := by
    rw [List.findIdx?_eq_some_iff_getElem]
    exact ⟨hk, by rw [h]; exact beq_self_eq_true l, fun j hj => by simpa using hall j (by omega) hj⟩
  unfold findQ
  rw [hf]
  rfl
theorem findQ_none {a : Option Addr} {ns : List (List UInt8)} {l : List UInt8} (h : ∀ j (hj : j < ns.length), ns[j] ≠ l) : findQ a ns l = none := by
  have hf : ns.findIdx? (· == l) = none := by
    rw [List.findIdx?_eq_none_iff]
    intro x hx
    obtain ⟨j, hj, rfl⟩ := List.getElem_of_mem hx
    simpa using h j hj
  unfold findQ
  rw [hf]
  rfl
theorem NmV.findQ_some {a : Option Addr} {n c : Nat} {ns : List Nm} {w : World} (hV : NmV (.slice a n c) ns w) (l : List UInt8) : (findQ a (ns.map Prod.fst) l).isSome = hasN (ns.map Prod.fst) l := by
  unfold findQ hasN
  cases hf : (ns.map Prod.fst).findIdx? (· == l) with
  | none =>
    rw [List.findIdx?_eq_none_iff] at hf
    rw [List.any_eq_false.2 (by simpa using hf)]
    rfl
  | some k =>
    obtain ⟨hk, h1, -⟩ := List.findIdx?_eq_some_iff_getElem.1 hf
    obtain ⟨a', c', hv, -, -, hc⟩ := hV
    obtain ⟨rfl, -, -⟩ := Value.slice.inj hv
    obtain ⟨g, off, iv, rfl, -⟩ := hc k (by simpa using hk)
    rw [List.any_eq_true.2 ⟨_, List.getElem_mem hk, h1⟩]
    rfl
set_option maxRecDepth 100000 in
set_option maxHeartbeats 4000000 in
theorem find_at (a : Option Addr) (n c : Nat) (ns : List Nm) (w : World) (hV : NmV (.slice a n c) ns w) (s : ByteArray) (l : List UInt8) (hl : StrIs s l) :
    Calls Tryz.prog 44 #[.slice a n c, .string s] w fun e w' => e = .returned (.pointer (findQ a (ns.map Prod.fst) l)) ∧ w' = w := by
  obtain ⟨a', c', hv, hn1, hn2, hc⟩ := hV
  obtain ⟨rfl, rfl, rfl⟩ := Value.slice.inj hv
  obtain ⟨Q, hQ⟩ : ∃ Q, Q = findQ a (ns.map Prod.fst) l := ⟨_, rfl⟩
  rw [← hQ]
  have HQ := Lib.hid hQ
  clear hQ
  have HCC := Lib.hid hc
  have HL := Lib.hid hl
  clear hv hc hl
  go_enter Tryz.func44, Tryz.ntmps44
  go_wp2
  go_loopg [8] ns.length (fun gk v8 wr => ∃ k : Nat, k + gk = ns.length ∧ v8 = .int .i64 k ∧ w = wr ∧ ∀ j (hj : j < (ns.map Prod.fst).length), j < k → (ns.map Prod.fst)[j] ≠ l)
  case atStart => exact ⟨0, by omega, rfl, rfl, fun j _ h => absurd h (Nat.not_lt_zero _)⟩
  case round =>
    obtain ⟨k, hkg, rfl, rfl, hall⟩ := hrel
    have HKG := Lib.hid hkg
    have HA := Lib.hid hall
    have hkl : k ≤ ns.length := by omega
    clear hkg hall
    by_cases hk : k < ns.length
    · have hb : decide ((k : Int) < (ns.length : Int)) = true := decide_eq_true (by omega)
      obtain ⟨g, off, iv, rfl, e9, e1, -⟩ := HCC.out k hk
      obtain ⟨x, hx⟩ : ∃ x, x = ns[k].1 := ⟨_, rfl⟩
      have hxm : ∀ hj, (ns.map Prod.fst)[k]'hj = x := fun hj => by rw [hx]; simp
      have e0 : w.cell? ⟨g, off + k * 2, none⟩ = some (.string ⟨x.toArray⟩) := by rw [hx]; exact e9
      have HX := Lib.hid hxm
      clear hx hxm e1 e9 HCC
      by_cases hxl : x = l
      · have hs : s = ⟨x.toArray⟩ := by rw [hxl]; exact strIs_eq HL.out
        have hq : Q = some ⟨g, off + k * 2, none⟩ := by rw [HQ.out, findQ_at k (by simpa using hk) ((HX.out _).trans hxl) HA.out]
        have HQ2 := Lib.hid hq
        subst hs
        clear hxl hq
        generalize (⟨x.toArray⟩ : ByteArray) = t at *
        go_wp2
        go_ret
        exact ⟨by rw [HQ2.out]; rfl, rfl⟩
      · have hs : (⟨x.toArray⟩ : ByteArray) ≠ s := fun e => hxl (by have := HL.out; rw [← e] at this; exact this)
        have hsb : ((⟨x.toArray⟩ : ByteArray).toList == s.toList) = false := by
          rw [beq_eq_false_iff_ne]
          intro e
          apply hs
          rw [Lib.toList_data, Lib.toList_data] at e
          have h2 : (⟨x.toArray⟩ : ByteArray).data = s.data := Array.toList_inj.1 e
          cases s; simp at h2; subst h2; rfl
        generalize (⟨x.toArray⟩ : ByteArray) = t at *
        go_wp2
        go_roundg (gk - 1)
        case measure => have := HKG.out; omega
        case rel => exact ⟨k + 1, by have := HKG.out; omega, by go_num, rfl, fun j hj h => if e : j = k then by subst e; rw [HX.out]; exact hxl else HA.out j hj (by omega)⟩
    · have hb : decide ((k : Int) < (ns.length : Int)) = false := decide_eq_false (by omega)
      have hq : Q = none := by rw [HQ.out, findQ_none fun j hj => HA.out j hj (by simp at hj; omega)]
      have HQ2 := Lib.hid hq
      clear hq
      go_wp2
      go_ret
      exact ⟨by rw [HQ2.out]; rfl, rfl⟩
theorem find_calls (v : Value) (ns : List Nm) (w : World) (hV : NmV v ns w) (s : ByteArray) (l : List UInt8) (hl : StrIs s l) :
    Calls Tryz.prog 44 #[v, .string s] w fun e w' => ∃ q : Option Addr, e = .returned (.pointer q) ∧ q.isSome = hasN (ns.map Prod.fst) l ∧ w = w' := by
  obtain ⟨sa, sc, rfl⟩ := hV.slice
  refine (find_at sa ns.length sc ns w hV s l hl).mono ?_
  rintro e w' ⟨rfl, rfl⟩
  exact ⟨_, rfl, hV.findQ_some l, rfl⟩
end Go.Proofs.YtbcddlheikdlkaaGreatDoor.S
/-
  THE WALK of package set's calls: is each name there that items call?
-/
set_option linter.unusedVariables false
set_option linter.unusedSimpArgs false
namespace Go.Proofs.YtbcddlheikdlkaaGreatDoor.S
open Go.RowKit

theorem call1_eq (ns : List (List UInt8)) (i : It) : call1 ns i = (!(i.kind == 6 && !hasN ns i.text) && callsI ns i.th && callsI ns i.el) := by
  cases i
  rw [call1]
  rfl
set_option maxRecDepth 100000 in
set_option maxHeartbeats 16000000 in
theorem calls_n (ns : List Nm) : ∀ (N : Nat) (is : List It), SizeOf.sizeOf is ≤ N → ∀ (nsv v : Value) (w : World), NmV nsv ns w → Its 0 (fun _ => True) w v is →
    Calls Tryz.prog 39 #[nsv, v] w fun e w' => e = .returned (.bool (callsI (ns.map Prod.fst) is)) ∧ w = w' := by
  intro N
  induction N with
  | zero =>
    intro is hN
    cases is <;> simp at hN
  | succ N ih =>
  intro is hN nsv v w hV hI
  obtain ⟨na, nc, rfl⟩ := hV.slice
  obtain ⟨sa, sc, rfl⟩ := hI.slice
  have hpl := hI.len_le
  obtain ⟨R, hR⟩ : ∃ R, R = callsI (ns.map Prod.fst) is := ⟨_, rfl⟩
  rw [← hR]
  have HV := Lib.hid hV
  have HI := Lib.hid hI
  have HR0 := Lib.hid hR
  have IH := Lib.hid (fun (k : Nat) (h : k < is.length) => (⟨fun tv hT => ih is[k].th (by have h1 := List.sizeOf_lt_of_mem (List.getElem_mem h); have h2 := it_th is[k]; omega) _ tv w hV hT, fun ev hE => ih is[k].el (by have h1 := List.sizeOf_lt_of_mem (List.getElem_mem h); have h2 := it_el is[k]; omega) _ ev w hV hE⟩ :
    (∀ tv, Its 0 (fun _ => True) w tv is[k].th → Calls Tryz.prog 39 #[.slice na ns.length nc, tv] w fun e w' => e = .returned (.bool (callsI (ns.map Prod.fst) is[k].th)) ∧ w = w') ∧ (∀ ev, Its 0 (fun _ => True) w ev is[k].el → Calls Tryz.prog 39 #[.slice na ns.length nc, ev] w fun e w' => e = .returned (.bool (callsI (ns.map Prod.fst) is[k].el)) ∧ w = w')))
  clear ih hN hV hI hR
  go_enter Tryz.func39, Tryz.ntmps39
  go_wp2
  go_loopg [9] is.length (fun gk v9 wr => ∃ k : Nat, k + gk = is.length ∧ v9 = .int .i64 k ∧ w = wr ∧ R = callsI (ns.map Prod.fst) (is.drop k))
  case atStart => exact ⟨0, by omega, rfl, rfl, HR0.out⟩
  case round =>
    obtain ⟨k, hkg, rfl, rfl, hRk⟩ := hrel
    have HKG := Lib.hid hkg
    have HRK := Lib.hid hRk
    have hkl : k ≤ is.length := by omega
    clear hkg hRk HR0
    by_cases hk : k < is.length
    · have hkb : decide ((k : Int) < (is.length : Int)) = true := decide_eq_true (by omega)
      obtain ⟨b, cap, pv, tv, ev, hv, hcc, y0, y1, y2, y3, y4, hP, hT, hE⟩ := HI.out.at k hk
      obtain ⟨rfl, -, rfl⟩ := Value.slice.inj hv
      obtain ⟨ih1, ih2⟩ := IH.out k hk
      have hCT := ih1 tv hT
      have hCE := ih2 ev hE
      obtain ⟨ta, tc, rfl⟩ := hT.slice
      obtain ⟨ea, ec, rfl⟩ := hE.slice
      have hdr : is.drop k = is[k] :: is.drop (k + 1) := List.drop_eq_getElem_cons hk
      have hRd : R = ((!(is[k].kind == 6 && !hasN (ns.map Prod.fst) is[k].text) && callsI (ns.map Prod.fst) is[k].th && callsI (ns.map Prod.fst) is[k].el) && callsI (ns.map Prod.fst) (is.drop (k + 1))) := by
        rw [HRK.out, hdr, callsI, call1_eq]
      have hFD := find_at na ns.length nc ns w HV.out ⟨is[k].text.toArray⟩ is[k].text rfl
      have hFQ := HV.out.findQ_some is[k].text
      generalize findQ na (ns.map Prod.fst) is[k].text = Q at *
      generalize hasN (ns.map Prod.fst) is[k].text = hb at *
      generalize callsI (ns.map Prod.fst) is[k].th = ct at *
      generalize callsI (ns.map Prod.fst) is[k].el = ce at *
      generalize is[k].th.length = tn at *
      generalize is[k].el.length = en at *
      generalize (⟨is[k].text.toArray⟩ : ByteArray) = tx at *
      generalize is[k].kind = kd at *
      have HRD := Lib.hid hRd
      have HC := Lib.hid (fun (x : Value) (bb : Bool) (h : (x = .slice ta tn tc ∧ bb = ct) ∨ (x = .slice ea en ec ∧ bb = ce)) => (show Calls Tryz.prog 39 #[.slice na ns.length nc, x] w fun e w' => e = .returned (.bool bb) ∧ w = w' by
        rcases h with ⟨rfl, rfl⟩ | ⟨rfl, rfl⟩
        · exact hCT
        · exact hCE))
      have HFD := Lib.hid hFD
      clear hv y2 hP hT hE ih1 ih2 hdr hRd hCT hCE hFD HI IH HRK
      have hbad : kd = 6 ∧ hb = false ∨ (kd = 6 ∧ hb = true) ∨ kd ≠ 6 := by
        by_cases h6 : kd = 6
        · cases hb
          · exact .inl ⟨h6, rfl⟩
          · exact .inr (.inl ⟨h6, rfl⟩)
        · exact .inr (.inr h6)
      rcases hbad with ⟨rfl, rfl⟩ | ⟨rfl, rfl⟩ | h6
      · obtain rfl : Q = none := by cases Q; rfl; cases hFQ
        have hR2 : R = false := HRD.out
        have HR2 := Lib.hid hR2
        clear hR2 hFQ
        go_wp2_with (go_at_call 44; refine HFD.out.mono ?_; rintro e w2 ⟨rfl, hw⟩; subst hw)
        go_ret
        exact ⟨by rw [HR2.out]; rfl, rfl⟩
      case' inr.inl => obtain ⟨qa, rfl⟩ : ∃ a, Q = some a := by cases Q; cases hFQ; exact ⟨_, rfl⟩
      case' inr.inr => have h6b : ((kd : Int) == 6) = false := beq_eq_false_iff_ne.2 (by omega)
      all_goals clear hFQ
      all_goals
        cases ct with
        | false =>
          have hR2 : R = false := by
            rw [HRD.out]
            first | rfl | (rw [show (kd == 6) = false from beq_eq_false_iff_ne.2 h6]; rfl)
          have HR2 := Lib.hid hR2
          clear hR2
          go_wp2_with (first | (go_at_call 44; refine HFD.out.mono ?_; rintro e w2 ⟨rfl, hw⟩; subst hw) | (go_at_call 39; refine (HC.out _ _ (by first | exact .inl ⟨rfl, rfl⟩ | exact .inr ⟨rfl, rfl⟩)).mono ?_; rintro e w2 ⟨rfl, hw⟩; subst hw))
          go_ret
          exact ⟨by rw [HR2.out]; rfl, rfl⟩
        | true =>
          cases ce with
          | false =>
            have hR2 : R = false := by
              rw [HRD.out]
              first | rfl | (rw [show (kd == 6) = false from beq_eq_false_iff_ne.2 h6]; rfl)
            have HR2 := Lib.hid hR2
            clear hR2
            go_wp2_with (first | (go_at_call 44; refine HFD.out.mono ?_; rintro e w2 ⟨rfl, hw⟩; subst hw) | (go_at_call 39; refine (HC.out _ _ (by first | exact .inl ⟨rfl, rfl⟩ | exact .inr ⟨rfl, rfl⟩)).mono ?_; rintro e w2 ⟨rfl, hw⟩; subst hw))
            go_ret
            exact ⟨by rw [HR2.out]; rfl, rfl⟩
          | true =>
            have hR2 : R = callsI (ns.map Prod.fst) (is.drop (k + 1)) := by
              rw [HRD.out]
              first | rfl | (rw [show (kd == 6) = false from beq_eq_false_iff_ne.2 h6]; rfl)
            have HR2 := Lib.hid hR2
            clear hR2
            go_wp2_with (first | (go_at_call 44; refine HFD.out.mono ?_; rintro e w2 ⟨rfl, hw⟩; subst hw) | (go_at_call 39; refine (HC.out _ _ (by first | exact .inl ⟨rfl, rfl⟩ | exact .inr ⟨rfl, rfl⟩)).mono ?_; rintro e w2 ⟨rfl, hw⟩; subst hw))
            go_roundg (gk - 1)
            case measure => have := HKG.out; omega
            case rel => exact ⟨k + 1, by have := HKG.out; omega, by go_num, rfl, HR2.out⟩
    · have hkb : decide ((k : Int) < (is.length : Int)) = false := decide_eq_false (by omega)
      have hR2 : R = true := by rw [HRK.out, List.drop_eq_nil_of_le (by omega), callsI]
      have HR2 := Lib.hid hR2
      clear hR2
      go_wp2
      go_ret
      exact ⟨by rw [HR2.out]; rfl, rfl⟩
end Go.Proofs.YtbcddlheikdlkaaGreatDoor.S
