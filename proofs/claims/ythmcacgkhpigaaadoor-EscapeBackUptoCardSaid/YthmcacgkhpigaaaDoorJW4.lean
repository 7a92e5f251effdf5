/-
  THE WALK of package json's number.
-/
import Derived.Test.YthmcacgkhpigaaaDoorJW3
import Derived.Test.YthmcacgkhpigaaaDoorJMem
import Derived.Deep.DeepCutAuto
import Derived.Deep.RegionHeld3
import Derived.Defers
import Derived.Recover
import Derived.Laws.OwnMore
import Derived.Deep.QuietTactic
import Derived.BigQuiet
set_option linter.unusedVariables false
set_option linter.unusedSimpArgs false
namespace Go.Proofs.YthmcacgkhpigaaaDoor.S
open Go.RowKit

/-- a value as it is handed back -/
def aggV (v : JV) (iv kv : Value) : Value := .agg #[.int .i64 v.kind, .int .i64 v.num, .int .u64 v.bits, .string ⟨v.text.toArray⟩, iv, kv]
def zeroV : List Value := [.int .i64 0, .int .i64 0, .int .u64 0, .string ⟨#[]⟩, .slice none 0 0, .slice none 0 0]
theorem digN_drop {s : ByteArray} (k : Nat) (h : k < s.size) : digN (s.data.toList.drop k) = if digB (s[k]'h) = true then digN (s.data.toList.drop (k + 1)) + 1 else 0 := by
  rw [jdrop_cons k h]
  rfl
theorem digB_I (b : UInt8) : digB b = digitI b.toNat := all_bytes (fun b => digB b = digitI b.toNat) (by decide +kernel) b
theorem digN_all : ∀ (l : List UInt8) (i : Nat) (h : i < digN l) (h' : i < l.length), 48 ≤ (l[i]'h').toNat ∧ (l[i]'h').toNat ≤ 57
  | [], i, h, h' => by simp at h'
  | b :: r, i, h, h' => by
    unfold digN at h
    split at h
    · rename_i hb
      cases i with
      | zero => simp [digB] at hb; exact hb
      | succ i => exact digN_all r i (by omega) (by simpa using h')
    · omega
theorem decV_snoc (l : List UInt8) (i : Nat) (h : i < l.length) : decV (l.take (i + 1)) = 10 * decV (l.take i) + ((l[i]'h).toNat - 48) := by
  unfold decV
  rw [List.take_succ_eq_append_getElem h, List.foldl_append]
  rfl
theorem tail_at (b : UInt8) : decide (Lib.indexByte [46, 101, 69] b < 0) = !(b == 46 || b == 101 || b == 69) := all_bytes (fun b => decide (Lib.indexByte [46, 101, 69] b < 0) = !(b == 46 || b == 101 || b == 69)) (by decide +kernel) b
def NumPost (R : Option (JV × List UInt8)) (w : World) (g : Nat) (e : Ending) (w' : World) : Prop :=
  (∀ v r, R = some (v, r) → ∃ s' : ByteArray, e = .returned (aggV v (.slice none 0 0) (.slice none 0 0)) ∧ StrIs s' r ∧ JRd g s' w') ∧ (R = none → e = panJ) ∧ w.grownBy w' (some g)
theorem NumPost.no {R : Option (JV × List UInt8)} {w w' : World} {g : Nat} (h : R = none) (hg : w.grownBy w' (some g)) : NumPost R w g panJ w' :=
  ⟨(fun v r h' => by rw [h] at h'; cases h'), (fun _ => rfl), hg⟩
theorem NumPost.ok {R : Option (JV × List UInt8)} {w w' : World} {g : Nat} {v : JV} {r : List UInt8} {s' : ByteArray} (h : R = some (v, r)) (hs : StrIs s' r) (hB : JRd g s' w') (hg : w.grownBy w' (some g)) : NumPost R w g (.returned (aggV v (.slice none 0 0) (.slice none 0 0))) w' :=
  ⟨(fun v' r' h' => by rw [h] at h'; cases h'; exact ⟨s', rfl, hs, hB⟩), (fun h' => by rw [h] at h'; cases h'), hg⟩
/-- six cells of a fresh block are written -/
theorem jgrown_put6 {w W : World} {g b : Nat} (h : w.grownBy W (some g)) (hb : w.heap.size ≤ b) (v0 v1 v2 v3 v4 v5 : Value) :
    w.grownBy ((((((W.setCell ⟨b, 0, none⟩ v0).setCell ⟨b, 1, none⟩ v1).setCell ⟨b, 2, none⟩ v2).setCell ⟨b, 3, none⟩ v3).setCell ⟨b, 4, none⟩ v4).setCell ⟨b, 5, none⟩ v5) (some g) := by
  have one : ∀ (W : World) (j : Nat) (v : Value), w.grownBy W (some g) → w.grownBy (W.setCell ⟨b, j, none⟩ v) (some g) := fun W j v h => by
    have h2 := grownBy_set W b j v
    exact ⟨h2.os.trans h.os, h2.tape.trans h.tape, h2.output.trans h.output, Nat.le_trans h.size h2.size, fun i hi hne => (h2.block i (Nat.lt_of_lt_of_le hi h.size) (by simp; omega)).trans (h.block i hi hne)⟩
  exact one _ _ _ (one _ _ _ (one _ _ _ (one _ _ _ (one _ _ _ (one _ _ _ h)))))
theorem jblk_put6 {W : World} {g b : Nat} {T : TypeId} {cs : List Value} (h : Blk g T cs W) (hb : b ≠ g) (v0 v1 v2 v3 v4 v5 : Value) :
    Blk g T cs ((((((W.setCell ⟨b, 0, none⟩ v0).setCell ⟨b, 1, none⟩ v1).setCell ⟨b, 2, none⟩ v2).setCell ⟨b, 3, none⟩ v3).setCell ⟨b, 4, none⟩ v4).setCell ⟨b, 5, none⟩ v5) := by
  have one : ∀ (W : World) (j : Nat) (v : Value), Blk g T cs W → Blk g T cs (W.setCell ⟨b, j, none⟩ v) := fun W j v h => h.grown (grownBy_set W b j v) (by simp [Ne.symm hb])
  exact one _ _ _ (one _ _ _ (one _ _ _ (one _ _ _ (one _ _ _ (one _ _ _ h)))))
theorem numAt_zero {b : Bool} {l : List UInt8} (h : digN l = 0) : numAt b l = none := by unfold numAt; rw [if_pos (.inl h)]
theorem numAt_lead {b : Bool} {l : List UInt8} (h : digN l ≠ 1) (h2 : l.getD 0 0 = 48) : numAt b l = none := by unfold numAt; rw [if_pos (.inr (.inl ⟨h, h2⟩))]
theorem numAt_long {b : Bool} {l : List UInt8} (h : 16 < digN l) : numAt b l = none := by unfold numAt; rw [if_pos (.inr (.inr h))]
theorem numAt_tail {b : Bool} {l : List UInt8} (h : numTail (l.drop (digN l)) = false) : numAt b l = none := by unfold numAt; split <;> rfl
theorem numAt_ok {b : Bool} {l : List UInt8} (h0 : digN l ≠ 0) (h1 : digN l = 1 ∨ l.getD 0 0 ≠ 48) (h2 : digN l ≤ 16) (h : numTail (l.drop (digN l)) = true) : numAt b l = some (numV b (decV (l.take (digN l))), l.drop (digN l)) := by
  unfold numAt
  rw [if_neg (by rintro (h | ⟨h, h'⟩ | h) <;> first | exact h0 h | exact (h1.elim (fun e => h e) (fun e => e h')) | omega), h]
  rfl
theorem pow_le16 (i : Nat) (h : i ≤ 16) : 10 ^ i ≤ 10000000000000000 := Nat.pow_le_pow_right (n := 10) (by omega) h
set_option maxRecDepth 100000 in
set_option maxHeartbeats 8000000 in
theorem jnum_calls (g : Nat) (s : ByteArray) (l : List UInt8) (w : World) (hB : JRd g s w) (hl : StrIs s l) (hs : s.size ≤ 65536) :
    Calls Tryd.prog 38 #[.pointer (some ⟨g, 0, none⟩)] w (NumPost (numJ l) w g) := by
  have hgl := hB.lt
  have hV : Blk w.heap.size 28 zeroV (w.alloc (.cells #[.int .i64 0, .int .i64 0, .int .u64 0, .string ⟨#[]⟩, .slice none 0 0, .slice none 0 0] 28)) := Blk.new w zeroV _
  have hb0 : Below w.heap.size w (w.alloc (.cells #[.int .i64 0, .int .i64 0, .int .u64 0, .string ⟨#[]⟩, .slice none 0 0, .slice none 0 0] 28)) := (Below.refl _ w).alloc (Nat.le_refl _) _
  have hB0 := hB.below hb0
  have hz0 : w.heap.size < (w.alloc (.cells #[.int .i64 0, .int .i64 0, .int .u64 0, .string ⟨#[]⟩, .slice none 0 0, .slice none 0 0] 28)).heap.size := by simp
  have hg0 := grownBy_below (row := some g) hb0
  obtain ⟨T, hT⟩ : ∃ T, T = numJ l := ⟨_, rfl⟩
  rw [← hT]
  unfold numJ at hT
  go_enter Tryd.func38, Tryd.ntmps38
  go_upto_region 1 with (fail)
  generalize w.alloc (.cells #[.int .i64 0, .int .i64 0, .int .u64 0, .string ⟨#[]⟩, .slice none 0 0, .slice none 0 0] 28) = w0 at *
  go_wp2_with fail
  refine (jhas_calls g s ⟨#[45]⟩ l _ hB0 hl).mono ?_
  rintro e w1 ⟨s1, rfl, hs1, hB1, hg1⟩
  have hgA := hg0.trans hg1
  have hVA := Blk.grown hV hg1 (by simp; omega)
  have hcl : (cutJ [45] l).length ≤ l.length := by unfold cutJ; split <;> simp
  have hs1z : s1.size ≤ 65536 := by have h1 := hs1.size; have h2 := hl.size; rw [show (⟨#[45]⟩ : ByteArray).data.toList = [45] from rfl] at h1; omega
  rw [show (⟨#[45]⟩ : ByteArray).data.toList = [45] from rfl] at hs1 ⊢
  generalize cutJ [45] l = l1 at *
  generalize List.isPrefixOf [45] l = below at *
  obtain rfl : s1.data.toList = l1 := hs1
  have hsl : s1.data.toList.length = s1.size := rfl
  have hdl := digN_le s1.data.toList
  have HT := Lib.hid hT
  have c1 := hB1.cell 0 _ rfl
  have f1 := hB1.free 0
  clear hB hB0 hb0 hV hg0 hg1 hT hcl
  go_wp2
  go_loopg [4] s1.size (fun gk v4 wr => ∃ k : Nat, v4 = .int .i64 k ∧ k + gk = s1.size ∧ Hid (digN s1.data.toList = k + digN (s1.data.toList.drop k)) ∧ w1 = wr)
  case atStart => exact ⟨0, rfl, by omega, (by show _ = _; simp), rfl⟩
  case round =>
    obtain ⟨k, rfl, hkg, hH, rfl⟩ := hrel
    have HKG := Lib.hid hkg
    have hks : k ≤ s1.size := by omega
    clear hkg
    obtain ⟨B, hB'⟩ : ∃ B, B = decide (0 < digN (s1.data.toList.drop k)) := ⟨_, rfl⟩
    have HB := Lib.hid hB'
    clear hB'
    go_upto_region 3 with (fail)
    go_cut [24] (fun v24 wx => v24 = .bool B ∧ w1 = wx)
    case first =>
      by_cases h : k < s1.size
      · have hkb : decide ((k : Int) < (s1.size : Int)) = true := decide_eq_true (by omega)
        have hst := digN_drop k h
        obtain ⟨b, hb⟩ : ∃ b : UInt8, b = s1[k]'h := ⟨_, rfl⟩
        have hbt : ∀ h', ((s1[k]'h').toNat : Nat) = b.toNat := fun h' => by rw [hb]
        rw [← hb, digB_I] at hst
        have hlt := b.toNat_lt
        clear hb
        generalize b.toNat = d at *
        have hbb : B = digitI d := by rw [HB.out, hst]; cases digitI (d : Int) <;> simp
        have HBB := Lib.hid hbb
        clear hst hbb
        go_wp2_with (go_at_call 12; refine (digit_calls d _ (by omega) (by omega)).mono ?_; rintro e w3 ⟨rfl, rfl⟩)
        go_meet
        exact ⟨by rw [HBB.out], rfl⟩
      · have hkb : decide ((k : Int) < (s1.size : Int)) = false := decide_eq_false (by omega)
        have hbb : B = false := by rw [HB.out, List.drop_eq_nil_of_le (by rw [size_list]; omega)]; rfl
        have HBB := Lib.hid hbb
        clear hbb
        go_wp2
        go_meet
        exact ⟨by rw [HBB.out], rfl⟩
    case rest =>
    obtain ⟨rfl, rfl⟩ := hcut
    cases B with
    | true =>
      have hb0 : 0 < digN (s1.data.toList.drop k) := of_decide_eq_true HB.out.symm
      have hlt : k < s1.size := by
        refine Nat.lt_of_not_le fun h => ?_
        rw [List.drop_eq_nil_of_le (by rw [size_list]; exact h)] at hb0
        exact absurd hb0 (by decide)
      have hst := digN_drop k hlt
      have hst2 : digN (s1.data.toList.drop k) = digN (s1.data.toList.drop (k + 1)) + 1 := by
        cases hw : digB (s1[k]'hlt) with
        | false => rw [hw] at hst; simp at hst; omega
        | true => rw [hw] at hst; simpa using hst
      have HST := Lib.hid hst2
      clear hb0 hst hst2
      go_wp2
      go_roundg (gk - 1)
      case measure => have := HKG.out; omega
      case rel => exact ⟨k + 1, by go_num, by have := HKG.out; omega, (by show _ = _; have := hH.out; have := HST.out; omega), rfl⟩
    | false =>
      have hk : k = digN s1.data.toList := by have h1 := hH.out; have h2 := of_decide_eq_false HB.out.symm; omega
      have HK := Lib.hid hk
      clear hk hH HB HKG hdl hsl
      by_cases hk0 : k = 0
      · obtain rfl := hk0
        have HT2 := Lib.hid (HT.out.trans (numAt_zero (by rw [← HK.out])))
        clear HT
        go_wp2_with (go_at_call 33; refine (must_no _).mono ?_; unfold panJ; rintro e w9 ⟨rfl, rfl⟩)
        exact ⟨rfl, NumPost.no HT2.out hgA⟩
      · have hb1 : decide ((0 : Int) < (k : Int)) = true := decide_eq_true (by omega)
        have hb1' : decide (0 < k) = true := decide_eq_true (by omega)
        have hs0 : 0 < s1.size := by omega
        obtain ⟨b, hb⟩ : ∃ b : UInt8, b = s1[0]'hs0 := ⟨_, rfl⟩
        have hbt : ∀ h', ((s1[0]'h').toNat : Nat) = b.toNat := fun h' => by rw [hb]
        have hbd : s1.data.toList.getD 0 0 = b := by rw [hb, List.getD_eq_getElem?_getD, List.getElem?_eq_getElem (show 0 < s1.data.toList.length from hs0)]; rfl
        clear hb
        have h48 : ((b.toNat : Int) != 48) = (b != 48) := all_bytes (fun b => ((b.toNat : Int) != 48) = (b != 48)) (by decide +kernel) b
        by_cases hbadA : (k ≠ 1 ∧ b = 48)
        · have hb2 : ((k : Int) == 1) = false := beq_eq_false_iff_ne.2 (by omega)
          have hb3 : ((b.toNat : Int) != 48) = false := by rw [h48, hbadA.2]; rfl
          have hb3' : ((b.toNat : Int) == 48) = true := by rw [hbadA.2]; rfl
          have HT2 := Lib.hid (HT.out.trans (numAt_lead (by rw [← HK.out]; exact hbadA.1) (by rw [hbd]; exact hbadA.2)))
          clear hk0 HT hbadA h48 hbd
          generalize b.toNat = d at *
          go_wp2_with (go_at_call 33; refine (must_no _).mono ?_; unfold panJ; rintro e w9 ⟨rfl, rfl⟩)
          exact ⟨rfl, NumPost.no HT2.out hgA⟩
        · have hOK : (k = 1 ∨ b ≠ 48) := by
            by_cases h : k = 1
            · exact .inl h
            · exact .inr fun e => hbadA ⟨h, e⟩
          have hor : (((k : Int) == 1) = true ∧ True) ∨ (((k : Int) == 1) = false ∧ ((b.toNat : Int) != 48) = true ∧ ((b.toNat : Int) == 48) = false) := by
            by_cases h : k = 1
            · exact .inl ⟨by rw [h]; rfl, trivial⟩
            · have h2 := hOK.resolve_left h
              refine .inr ⟨beq_eq_false_iff_ne.2 (by omega), by rw [h48]; exact bne_iff_ne.2 h2, ?_⟩
              have := h48.trans (bne_iff_ne.2 h2)
              rw [bne] at this
              simpa using this
          have HOK := Lib.hid hOK
          clear hbadA h48 hOK
          by_cases hk16 : k ≤ 16
          · have hb4 : decide ((k : Int) ≤ 16) = true := decide_eq_true (by omega)
            have hkl : k ≤ s1.data.toList.length := hks
            have hdig : ∀ i (h : i < k) (h' : i < s1.size), 48 ≤ (s1[i]'h').toNat ∧ (s1[i]'h').toNat ≤ 57 := fun i h h' => digN_all s1.data.toList i (by rw [← HK.out]; exact h) h'
            have HDIG := Lib.hid hdig
            clear hdig hkl
            go_upto_region 5 with (fail)
            go_cut [] (fun wx => w1 = wx)
            case first =>
              clear hbd
              generalize b.toNat = d at *
              rcases hor with ⟨hb2, -⟩ | ⟨hb2, hb3, hb3'⟩
              · go_wp2_with (go_at_call 33; refine (must_ok _).mono ?_; rintro e w9 ⟨rfl, rfl⟩)
                go_meet
                rfl
              · go_wp2_with (go_at_call 33; refine (must_ok _).mono ?_; rintro e w9 ⟨rfl, rfl⟩)
                go_meet
                rfl
            case rest =>
            obtain rfl := hcut
            clear hbt hor
            go_wp2
            go_loopg [5, 6, 47] k (fun gk v5 _ v47 wr => ∃ i x : Nat, v5 = .int .i64 x ∧ v47 = .int .i64 i ∧ i + gk = k ∧ Hid (x = decV (s1.data.toList.take i)) ∧ x + 1 ≤ 10 ^ i ∧ w1 = wr)
            case atStart => exact ⟨0, 0, rfl, rfl, by omega, rfl, Nat.le_refl _, rfl⟩
            case round =>
              obtain ⟨i, x, rfl, rfl, hik, hX, hx10, rfl⟩ := hrel
              have HIK := Lib.hid hik
              have hik2 : i ≤ k := by omega
              have hp16 := pow_le16 i (by omega)
              have hxb : x < 10000000000000000 := by omega
              have HX10 := Lib.hid hx10
              clear hik hp16 hx10
              by_cases hi : i < k
              · have hib : decide ((i : Int) < (k : Int)) = true := decide_eq_true (by omega)
                have his : i < s1.size := by omega
                have hdd := HDIG.out i hi his
                have hsn := decV_snoc s1.data.toList i his
                rw [← hX.out] at hsn
                have hse : s1.data.toList[i]'his = s1[i]'his := rfl
                rw [hse] at hsn
                obtain ⟨c, hc⟩ : ∃ c : UInt8, c = s1[i]'his := ⟨_, rfl⟩
                have hct : ∀ h', ((s1[i]'h').toNat : Nat) = c.toNat := fun h' => by rw [hc]
                rw [← hc] at hsn hdd
                clear hc hse
                generalize c.toNat = d at *
                have hsub : IntKind.u8.wrap ((d : Int) - 48) = ((d - 48 : Nat) : Int) := by rw [IntWalk.u8_in _ (by omega)]; omega
                have hsub2 : (d : Int) - 48 = ((d - 48 : Nat) : Int) := by omega
                have HSN := Lib.hid hsn
                have HDD := Lib.hid hdd
                have hx1 : (x : Int) * 10 + ((d - 48 : Nat) : Int) ≤ 9223372036854775807 := by omega
                have hd9 : d - 48 ≤ 9 := by omega
                generalize d - 48 = y at *
                clear hsn hdd
                go_wp2
                go_roundg (gk - 1)
                case measure => have := HIK.out; omega
                case rel =>
                  refine ⟨i + 1, 10 * x + y, by go_num, by go_num, by have := HIK.out; omega, HSN.out.symm, ?_, rfl⟩
                  have := HX10.out
                  rw [Nat.pow_succ]
                  omega
              · have hib : decide ((i : Int) < (k : Int)) = false := decide_eq_false (by omega)
                obtain rfl : i = k := by omega
                have hsl2 := fun W => jslice_from s1 (i : Int) i rfl hks W
                have hx2 := jext_from s1 i
                generalize s1.extract i s1.size = s2 at *
                have hBW := hB1.set 0 (.string s2)
                have hgW := hgA.trans (grownBy_set w1 g 0 (.string s2))
                have hVW := Blk.grown hVA (grownBy_set w1 g 0 (.string s2)) (by simp; omega)
                have hbz : 0 < x ∨ x = 0 := by omega
                have hXX := hX.out
                have hTok : numTail (s1.data.toList.drop i) = true → T = some (numV below x, s1.data.toList.drop i) := fun ht => by
                  rw [HT.out, hXX]
                  have hkk := HK.out
                  have h2 := HOK.out
                  rw [← hbd] at h2
                  have := numAt_ok (b := below) (l := s1.data.toList) (by rw [← hkk]; exact hk0) (by rw [← hkk]; exact h2) (by rw [← hkk]; exact hk16) (by rw [← hkk]; exact ht)
                  rw [← hkk] at this
                  exact this
                have hTno : numTail (s1.data.toList.drop i) = false → T = none := fun ht => HT.out.trans (numAt_tail (by rw [← HK.out]; exact ht))
                have HTOK := Lib.hid hTok
                have HTNO := Lib.hid hTno
                have HX2 := Lib.hid hx2
                clear hX hXX HX10 HIK HOK hTok hTno HT HK hk0 hbd HDIG hik2 hi
                cases hr : s1.data.toList.drop i with
                | nil =>
                  have hz : s2.size = 0 := by rw [hx2.size, hr]; rfl
                  have h1 := empty_test hz
                  have HTT := Lib.hid (HTOK.out (by rw [hr]; rfl))
                  rw [hr] at HTT HX2
                  have HI := Lib.hid (Eq.refl (0 : Nat))
                  clear HTOK HTNO hx2 hz hr
                  cases below with
                  | false =>
                    have k0 := hVW.cell 0 _ rfl
                    have z0 := hVW.free 0
                    have k1 := hVW.cell 1 _ rfl
                    have z1 := hVW.free 1
                    have k2 := hVW.cell 2 _ rfl
                    have z2 := hVW.free 2
                    have k3 := hVW.cell 3 _ rfl
                    have z3 := hVW.free 3
                    have k4 := hVW.cell 4 _ rfl
                    have z4 := hVW.free 4
                    have k5 := hVW.cell 5 _ rfl
                    have z5 := hVW.free 5
                    have hW6 : Blk w.heap.size 28 [.int .i64 2, .int .i64 (x : Int), .int .u64 0, .string ⟨#[]⟩, .slice none 0 0, .slice none 0 0] (((((((w1.setCell ⟨g, 0, none⟩ (.string s2)).setCell ⟨w.heap.size, 0, none⟩ (.int .i64 2)).setCell ⟨w.heap.size, 1, none⟩ (.int .i64 (x : Int))).setCell ⟨w.heap.size, 2, none⟩ (.int .u64 0)).setCell ⟨w.heap.size, 3, none⟩ (.string ⟨#[]⟩)).setCell ⟨w.heap.size, 4, none⟩ (.slice none 0 0)).setCell ⟨w.heap.size, 5, none⟩ (.slice none 0 0)) := (((((hVW.set 0 _).set 1 _).set 2 _).set 3 _).set 4 _).set 5 _
                    have hg6 : w.grownBy (((((((w1.setCell ⟨g, 0, none⟩ (.string s2)).setCell ⟨w.heap.size, 0, none⟩ (.int .i64 2)).setCell ⟨w.heap.size, 1, none⟩ (.int .i64 (x : Int))).setCell ⟨w.heap.size, 2, none⟩ (.int .u64 0)).setCell ⟨w.heap.size, 3, none⟩ (.string ⟨#[]⟩)).setCell ⟨w.heap.size, 4, none⟩ (.slice none 0 0)).setCell ⟨w.heap.size, 5, none⟩ (.slice none 0 0)) (some g) := jgrown_put6 hgW (Nat.le_refl _) _ _ _ _ _ _
                    have hB6 : JRd g s2 (((((((w1.setCell ⟨g, 0, none⟩ (.string s2)).setCell ⟨w.heap.size, 0, none⟩ (.int .i64 2)).setCell ⟨w.heap.size, 1, none⟩ (.int .i64 (x : Int))).setCell ⟨w.heap.size, 2, none⟩ (.int .u64 0)).setCell ⟨w.heap.size, 3, none⟩ (.string ⟨#[]⟩)).setCell ⟨w.heap.size, 4, none⟩ (.slice none 0 0)).setCell ⟨w.heap.size, 5, none⟩ (.slice none 0 0)) := jblk_put6 hBW (by omega) _ _ _ _ _ _
                    go_wp2_with (first | (go_at_call 48; refine (Tryd.strings_IndexByte _ _ _).mono ?_; rintro e w3 ⟨rfl, rfl⟩; rw [HI.out]) | (go_at_call 33; refine (must_ok _).mono ?_; rintro e w9 ⟨rfl, rfl⟩))
                    clear k0 k1 k2 k3 k4 k5 z0 z1 z2 z3 z4 z5
                    generalize ((((((w1.setCell ⟨g, 0, none⟩ (.string s2)).setCell ⟨w.heap.size, 0, none⟩ (.int .i64 2)).setCell ⟨w.heap.size, 1, none⟩ (.int .i64 (x : Int))).setCell ⟨w.heap.size, 2, none⟩ (.int .u64 0)).setCell ⟨w.heap.size, 3, none⟩ (.string ⟨#[]⟩)).setCell ⟨w.heap.size, 4, none⟩ (.slice none 0 0)).setCell ⟨w.heap.size, 5, none⟩ (.slice none 0 0) = w40 at *
                    have d0 := hW6.cell 0 _ rfl
                    have d1 := hW6.cell 1 _ rfl
                    have d2 := hW6.cell 2 _ rfl
                    have d3 := hW6.cell 3 _ rfl
                    have d4 := hW6.cell 4 _ rfl
                    have d5 := hW6.cell 5 _ rfl
                    refine bodyPost_ret (v := .agg #[.int .i64 2, .int .i64 (x : Int), .int .u64 0, .string ⟨#[]⟩, .slice none 0 0, .slice none 0 0]) (by simp [results, Tryd.results38, go_sem, d0, d1, d2, d3, d4, d5]) rfl ?_
                    exact NumPost.ok (v := numV false x) HTT.out HX2.out hB6 hg6
                  | true =>
                    rcases hbz with hx0 | hx0
                    · have hxb0 : ((x : Int) == 0) = false := beq_eq_false_iff_ne.2 (by omega)
                      have hneg : IntKind.i64.wrap (-(x : Int)) = -(x : Int) := IntWalk.i64_in _ (by omega)
                      have k0 := hVW.cell 0 _ rfl
                      have z0 := hVW.free 0
                      have k1 := hVW.cell 1 _ rfl
                      have z1 := hVW.free 1
                      have k2 := hVW.cell 2 _ rfl
                      have z2 := hVW.free 2
                      have k3 := hVW.cell 3 _ rfl
                      have z3 := hVW.free 3
                      have k4 := hVW.cell 4 _ rfl
                      have z4 := hVW.free 4
                      have k5 := hVW.cell 5 _ rfl
                      have z5 := hVW.free 5
                      have hW6 : Blk w.heap.size 28 [.int .i64 2, .int .i64 (-(x : Int)), .int .u64 0, .string ⟨#[]⟩, .slice none 0 0, .slice none 0 0] (((((((w1.setCell ⟨g, 0, none⟩ (.string s2)).setCell ⟨w.heap.size, 0, none⟩ (.int .i64 2)).setCell ⟨w.heap.size, 1, none⟩ (.int .i64 (-(x : Int)))).setCell ⟨w.heap.size, 2, none⟩ (.int .u64 0)).setCell ⟨w.heap.size, 3, none⟩ (.string ⟨#[]⟩)).setCell ⟨w.heap.size, 4, none⟩ (.slice none 0 0)).setCell ⟨w.heap.size, 5, none⟩ (.slice none 0 0)) := (((((hVW.set 0 _).set 1 _).set 2 _).set 3 _).set 4 _).set 5 _
                      have hg6 : w.grownBy (((((((w1.setCell ⟨g, 0, none⟩ (.string s2)).setCell ⟨w.heap.size, 0, none⟩ (.int .i64 2)).setCell ⟨w.heap.size, 1, none⟩ (.int .i64 (-(x : Int)))).setCell ⟨w.heap.size, 2, none⟩ (.int .u64 0)).setCell ⟨w.heap.size, 3, none⟩ (.string ⟨#[]⟩)).setCell ⟨w.heap.size, 4, none⟩ (.slice none 0 0)).setCell ⟨w.heap.size, 5, none⟩ (.slice none 0 0)) (some g) := jgrown_put6 hgW (Nat.le_refl _) _ _ _ _ _ _
                      have hB6 : JRd g s2 (((((((w1.setCell ⟨g, 0, none⟩ (.string s2)).setCell ⟨w.heap.size, 0, none⟩ (.int .i64 2)).setCell ⟨w.heap.size, 1, none⟩ (.int .i64 (-(x : Int)))).setCell ⟨w.heap.size, 2, none⟩ (.int .u64 0)).setCell ⟨w.heap.size, 3, none⟩ (.string ⟨#[]⟩)).setCell ⟨w.heap.size, 4, none⟩ (.slice none 0 0)).setCell ⟨w.heap.size, 5, none⟩ (.slice none 0 0)) := jblk_put6 hBW (by omega) _ _ _ _ _ _
                      go_wp2_with (first | (go_at_call 48; refine (Tryd.strings_IndexByte _ _ _).mono ?_; rintro e w3 ⟨rfl, rfl⟩; rw [HI.out]) | (go_at_call 33; refine (must_ok _).mono ?_; rintro e w9 ⟨rfl, rfl⟩))
                      clear k0 k1 k2 k3 k4 k5 z0 z1 z2 z3 z4 z5
                      generalize ((((((w1.setCell ⟨g, 0, none⟩ (.string s2)).setCell ⟨w.heap.size, 0, none⟩ (.int .i64 2)).setCell ⟨w.heap.size, 1, none⟩ (.int .i64 (-(x : Int)))).setCell ⟨w.heap.size, 2, none⟩ (.int .u64 0)).setCell ⟨w.heap.size, 3, none⟩ (.string ⟨#[]⟩)).setCell ⟨w.heap.size, 4, none⟩ (.slice none 0 0)).setCell ⟨w.heap.size, 5, none⟩ (.slice none 0 0) = w40 at *
                      have d0 := hW6.cell 0 _ rfl
                      have d1 := hW6.cell 1 _ rfl
                      have d2 := hW6.cell 2 _ rfl
                      have d3 := hW6.cell 3 _ rfl
                      have d4 := hW6.cell 4 _ rfl
                      have d5 := hW6.cell 5 _ rfl
                      refine bodyPost_ret (v := .agg #[.int .i64 2, .int .i64 (-(x : Int)), .int .u64 0, .string ⟨#[]⟩, .slice none 0 0, .slice none 0 0]) (by simp [results, Tryd.results38, go_sem, d0, d1, d2, d3, d4, d5]) rfl ?_
                      have hv : numV true x = .mk 2 (-(x : Int)) 0 [] [] [] := by unfold numV; rw [if_pos rfl, if_neg (by omega)]
                      have HTT := HTT.out
                      rw [hv] at HTT
                      exact NumPost.ok (v := .mk 2 (-(x : Int)) 0 [] [] []) HTT HX2.out hB6 hg6
                    · obtain rfl := hx0
                      have k0 := hVW.cell 0 _ rfl
                      have z0 := hVW.free 0
                      have k1 := hVW.cell 1 _ rfl
                      have z1 := hVW.free 1
                      have k2 := hVW.cell 2 _ rfl
                      have z2 := hVW.free 2
                      have k3 := hVW.cell 3 _ rfl
                      have z3 := hVW.free 3
                      have k4 := hVW.cell 4 _ rfl
                      have z4 := hVW.free 4
                      have k5 := hVW.cell 5 _ rfl
                      have z5 := hVW.free 5
                      have hW6 : Blk w.heap.size 28 [.int .i64 3, .int .i64 0, .int .u64 9223372036854775808, .string ⟨#[]⟩, .slice none 0 0, .slice none 0 0] (((((((w1.setCell ⟨g, 0, none⟩ (.string s2)).setCell ⟨w.heap.size, 0, none⟩ (.int .i64 3)).setCell ⟨w.heap.size, 1, none⟩ (.int .i64 0)).setCell ⟨w.heap.size, 2, none⟩ (.int .u64 9223372036854775808)).setCell ⟨w.heap.size, 3, none⟩ (.string ⟨#[]⟩)).setCell ⟨w.heap.size, 4, none⟩ (.slice none 0 0)).setCell ⟨w.heap.size, 5, none⟩ (.slice none 0 0)) := (((((hVW.set 0 _).set 1 _).set 2 _).set 3 _).set 4 _).set 5 _
                      have hg6 : w.grownBy (((((((w1.setCell ⟨g, 0, none⟩ (.string s2)).setCell ⟨w.heap.size, 0, none⟩ (.int .i64 3)).setCell ⟨w.heap.size, 1, none⟩ (.int .i64 0)).setCell ⟨w.heap.size, 2, none⟩ (.int .u64 9223372036854775808)).setCell ⟨w.heap.size, 3, none⟩ (.string ⟨#[]⟩)).setCell ⟨w.heap.size, 4, none⟩ (.slice none 0 0)).setCell ⟨w.heap.size, 5, none⟩ (.slice none 0 0)) (some g) := jgrown_put6 hgW (Nat.le_refl _) _ _ _ _ _ _
                      have hB6 : JRd g s2 (((((((w1.setCell ⟨g, 0, none⟩ (.string s2)).setCell ⟨w.heap.size, 0, none⟩ (.int .i64 3)).setCell ⟨w.heap.size, 1, none⟩ (.int .i64 0)).setCell ⟨w.heap.size, 2, none⟩ (.int .u64 9223372036854775808)).setCell ⟨w.heap.size, 3, none⟩ (.string ⟨#[]⟩)).setCell ⟨w.heap.size, 4, none⟩ (.slice none 0 0)).setCell ⟨w.heap.size, 5, none⟩ (.slice none 0 0)) := jblk_put6 hBW (by omega) _ _ _ _ _ _
                      go_wp2_with (first | (go_at_call 48; refine (Tryd.strings_IndexByte _ _ _).mono ?_; rintro e w3 ⟨rfl, rfl⟩; rw [HI.out]) | (go_at_call 33; refine (must_ok _).mono ?_; rintro e w9 ⟨rfl, rfl⟩))
                      clear k0 k1 k2 k3 k4 k5 z0 z1 z2 z3 z4 z5
                      generalize ((((((w1.setCell ⟨g, 0, none⟩ (.string s2)).setCell ⟨w.heap.size, 0, none⟩ (.int .i64 3)).setCell ⟨w.heap.size, 1, none⟩ (.int .i64 0)).setCell ⟨w.heap.size, 2, none⟩ (.int .u64 9223372036854775808)).setCell ⟨w.heap.size, 3, none⟩ (.string ⟨#[]⟩)).setCell ⟨w.heap.size, 4, none⟩ (.slice none 0 0)).setCell ⟨w.heap.size, 5, none⟩ (.slice none 0 0) = w40 at *
                      have d0 := hW6.cell 0 _ rfl
                      have d1 := hW6.cell 1 _ rfl
                      have d2 := hW6.cell 2 _ rfl
                      have d3 := hW6.cell 3 _ rfl
                      have d4 := hW6.cell 4 _ rfl
                      have d5 := hW6.cell 5 _ rfl
                      refine bodyPost_ret (v := .agg #[.int .i64 3, .int .i64 0, .int .u64 9223372036854775808, .string ⟨#[]⟩, .slice none 0 0, .slice none 0 0]) (by simp [results, Tryd.results38, go_sem, d0, d1, d2, d3, d4, d5]) rfl ?_
                      exact NumPost.ok (v := numV true 0) HTT.out HX2.out hB6 hg6
                | cons b2 r2 =>
                  have hz : ¬ s2.size = 0 := by rw [hx2.size, hr]; simp
                  have h1 := nonempty_test hz
                  have hs20 : 0 < s2.size := by omega
                  have hbt2 : ∀ h', ((s2[0]'h').toNat : Nat) = b2.toNat := fun h' => by
                    have e : s2.data.toList = b2 :: r2 := by rw [show s2.data.toList = _ from hx2, hr]
                    have e2 : s2.data.toList[0]'h' = b2 := by simp [e]
                    exact congrArg UInt8.toNat e2
                  have hta := tail_at b2
                  have hnt : numTail (b2 :: r2) = !(b2 == 46 || b2 == 101 || b2 == 69) := rfl
                  rw [← hta] at hnt
                  have hie : Lib.indexByte [46, 101, 69] ((b2.toNat : Int)).toNat.toUInt8 = Lib.indexByte [46, 101, 69] b2 := by rw [byte_self]
                  generalize Lib.indexByte [46, 101, 69] b2 = J at *
                  have HI := Lib.hid hie
                  cases hJ : decide (J < 0) with
                  | true =>
                    have HTT := Lib.hid (HTOK.out (by rw [hr, hnt, hJ]))
                    rw [hr] at HTT HX2
                    clear HTOK HTNO hx2 hz hr hta hnt hie
                    generalize b2.toNat = d2 at *
                    cases below with
                    | false =>
                      have k0 := hVW.cell 0 _ rfl
                      have z0 := hVW.free 0
                      have k1 := hVW.cell 1 _ rfl
                      have z1 := hVW.free 1
                      have k2 := hVW.cell 2 _ rfl
                      have z2 := hVW.free 2
                      have k3 := hVW.cell 3 _ rfl
                      have z3 := hVW.free 3
                      have k4 := hVW.cell 4 _ rfl
                      have z4 := hVW.free 4
                      have k5 := hVW.cell 5 _ rfl
                      have z5 := hVW.free 5
                      have hW6 : Blk w.heap.size 28 [.int .i64 2, .int .i64 (x : Int), .int .u64 0, .string ⟨#[]⟩, .slice none 0 0, .slice none 0 0] (((((((w1.setCell ⟨g, 0, none⟩ (.string s2)).setCell ⟨w.heap.size, 0, none⟩ (.int .i64 2)).setCell ⟨w.heap.size, 1, none⟩ (.int .i64 (x : Int))).setCell ⟨w.heap.size, 2, none⟩ (.int .u64 0)).setCell ⟨w.heap.size, 3, none⟩ (.string ⟨#[]⟩)).setCell ⟨w.heap.size, 4, none⟩ (.slice none 0 0)).setCell ⟨w.heap.size, 5, none⟩ (.slice none 0 0)) := (((((hVW.set 0 _).set 1 _).set 2 _).set 3 _).set 4 _).set 5 _
                      have hg6 : w.grownBy (((((((w1.setCell ⟨g, 0, none⟩ (.string s2)).setCell ⟨w.heap.size, 0, none⟩ (.int .i64 2)).setCell ⟨w.heap.size, 1, none⟩ (.int .i64 (x : Int))).setCell ⟨w.heap.size, 2, none⟩ (.int .u64 0)).setCell ⟨w.heap.size, 3, none⟩ (.string ⟨#[]⟩)).setCell ⟨w.heap.size, 4, none⟩ (.slice none 0 0)).setCell ⟨w.heap.size, 5, none⟩ (.slice none 0 0)) (some g) := jgrown_put6 hgW (Nat.le_refl _) _ _ _ _ _ _
                      have hB6 : JRd g s2 (((((((w1.setCell ⟨g, 0, none⟩ (.string s2)).setCell ⟨w.heap.size, 0, none⟩ (.int .i64 2)).setCell ⟨w.heap.size, 1, none⟩ (.int .i64 (x : Int))).setCell ⟨w.heap.size, 2, none⟩ (.int .u64 0)).setCell ⟨w.heap.size, 3, none⟩ (.string ⟨#[]⟩)).setCell ⟨w.heap.size, 4, none⟩ (.slice none 0 0)).setCell ⟨w.heap.size, 5, none⟩ (.slice none 0 0)) := jblk_put6 hBW (by omega) _ _ _ _ _ _
                      go_wp2_with (first | (go_at_call 48; refine (Tryd.strings_IndexByte _ _ _).mono ?_; rintro e w3 ⟨rfl, rfl⟩; rw [HI.out]) | (go_at_call 33; refine (must_ok _).mono ?_; rintro e w9 ⟨rfl, rfl⟩))
                      clear k0 k1 k2 k3 k4 k5 z0 z1 z2 z3 z4 z5
                      generalize ((((((w1.setCell ⟨g, 0, none⟩ (.string s2)).setCell ⟨w.heap.size, 0, none⟩ (.int .i64 2)).setCell ⟨w.heap.size, 1, none⟩ (.int .i64 (x : Int))).setCell ⟨w.heap.size, 2, none⟩ (.int .u64 0)).setCell ⟨w.heap.size, 3, none⟩ (.string ⟨#[]⟩)).setCell ⟨w.heap.size, 4, none⟩ (.slice none 0 0)).setCell ⟨w.heap.size, 5, none⟩ (.slice none 0 0) = w40 at *
                      have d0 := hW6.cell 0 _ rfl
                      have d1 := hW6.cell 1 _ rfl
                      have d2 := hW6.cell 2 _ rfl
                      have d3 := hW6.cell 3 _ rfl
                      have d4 := hW6.cell 4 _ rfl
                      have d5 := hW6.cell 5 _ rfl
                      refine bodyPost_ret (v := .agg #[.int .i64 2, .int .i64 (x : Int), .int .u64 0, .string ⟨#[]⟩, .slice none 0 0, .slice none 0 0]) (by simp [results, Tryd.results38, go_sem, d0, d1, d2, d3, d4, d5]) rfl ?_
                      exact NumPost.ok (v := numV false x) HTT.out HX2.out hB6 hg6
                    | true =>
                      rcases hbz with hx0 | hx0
                      · have hxb0 : ((x : Int) == 0) = false := beq_eq_false_iff_ne.2 (by omega)
                        have hneg : IntKind.i64.wrap (-(x : Int)) = -(x : Int) := IntWalk.i64_in _ (by omega)
                        have k0 := hVW.cell 0 _ rfl
                        have z0 := hVW.free 0
                        have k1 := hVW.cell 1 _ rfl
                        have z1 := hVW.free 1
                        have k2 := hVW.cell 2 _ rfl
                        have z2 := hVW.free 2
                        have k3 := hVW.cell 3 _ rfl
                        have z3 := hVW.free 3
                        have k4 := hVW.cell 4 _ rfl
                        have z4 := hVW.free 4
                        have k5 := hVW.cell 5 _ rfl
                        have z5 := hVW.free 5
                        have hW6 : Blk w.heap.size 28 [.int .i64 2, .int .i64 (-(x : Int)), .int .u64 0, .string ⟨#[]⟩, .slice none 0 0, .slice none 0 0] (((((((w1.setCell ⟨g, 0, none⟩ (.string s2)).setCell ⟨w.heap.size, 0, none⟩ (.int .i64 2)).setCell ⟨w.heap.size, 1, none⟩ (.int .i64 (-(x : Int)))).setCell ⟨w.heap.size, 2, none⟩ (.int .u64 0)).setCell ⟨w.heap.size, 3, none⟩ (.string ⟨#[]⟩)).setCell ⟨w.heap.size, 4, none⟩ (.slice none 0 0)).setCell ⟨w.heap.size, 5, none⟩ (.slice none 0 0)) := (((((hVW.set 0 _).set 1 _).set 2 _).set 3 _).set 4 _).set 5 _
                        have hg6 : w.grownBy (((((((w1.setCell ⟨g, 0, none⟩ (.string s2)).setCell ⟨w.heap.size, 0, none⟩ (.int .i64 2)).setCell ⟨w.heap.size, 1, none⟩ (.int .i64 (-(x : Int)))).setCell ⟨w.heap.size, 2, none⟩ (.int .u64 0)).setCell ⟨w.heap.size, 3, none⟩ (.string ⟨#[]⟩)).setCell ⟨w.heap.size, 4, none⟩ (.slice none 0 0)).setCell ⟨w.heap.size, 5, none⟩ (.slice none 0 0)) (some g) := jgrown_put6 hgW (Nat.le_refl _) _ _ _ _ _ _
                        have hB6 : JRd g s2 (((((((w1.setCell ⟨g, 0, none⟩ (.string s2)).setCell ⟨w.heap.size, 0, none⟩ (.int .i64 2)).setCell ⟨w.heap.size, 1, none⟩ (.int .i64 (-(x : Int)))).setCell ⟨w.heap.size, 2, none⟩ (.int .u64 0)).setCell ⟨w.heap.size, 3, none⟩ (.string ⟨#[]⟩)).setCell ⟨w.heap.size, 4, none⟩ (.slice none 0 0)).setCell ⟨w.heap.size, 5, none⟩ (.slice none 0 0)) := jblk_put6 hBW (by omega) _ _ _ _ _ _
                        go_wp2_with (first | (go_at_call 48; refine (Tryd.strings_IndexByte _ _ _).mono ?_; rintro e w3 ⟨rfl, rfl⟩; rw [HI.out]) | (go_at_call 33; refine (must_ok _).mono ?_; rintro e w9 ⟨rfl, rfl⟩))
                        clear k0 k1 k2 k3 k4 k5 z0 z1 z2 z3 z4 z5
                        generalize ((((((w1.setCell ⟨g, 0, none⟩ (.string s2)).setCell ⟨w.heap.size, 0, none⟩ (.int .i64 2)).setCell ⟨w.heap.size, 1, none⟩ (.int .i64 (-(x : Int)))).setCell ⟨w.heap.size, 2, none⟩ (.int .u64 0)).setCell ⟨w.heap.size, 3, none⟩ (.string ⟨#[]⟩)).setCell ⟨w.heap.size, 4, none⟩ (.slice none 0 0)).setCell ⟨w.heap.size, 5, none⟩ (.slice none 0 0) = w40 at *
                        have d0 := hW6.cell 0 _ rfl
                        have d1 := hW6.cell 1 _ rfl
                        have d2 := hW6.cell 2 _ rfl
                        have d3 := hW6.cell 3 _ rfl
                        have d4 := hW6.cell 4 _ rfl
                        have d5 := hW6.cell 5 _ rfl
                        refine bodyPost_ret (v := .agg #[.int .i64 2, .int .i64 (-(x : Int)), .int .u64 0, .string ⟨#[]⟩, .slice none 0 0, .slice none 0 0]) (by simp [results, Tryd.results38, go_sem, d0, d1, d2, d3, d4, d5]) rfl ?_
                        have hv : numV true x = .mk 2 (-(x : Int)) 0 [] [] [] := by unfold numV; rw [if_pos rfl, if_neg (by omega)]
                        have HTT := HTT.out
                        rw [hv] at HTT
                        exact NumPost.ok (v := .mk 2 (-(x : Int)) 0 [] [] []) HTT HX2.out hB6 hg6
                      · obtain rfl := hx0
                        have k0 := hVW.cell 0 _ rfl
                        have z0 := hVW.free 0
                        have k1 := hVW.cell 1 _ rfl
                        have z1 := hVW.free 1
                        have k2 := hVW.cell 2 _ rfl
                        have z2 := hVW.free 2
                        have k3 := hVW.cell 3 _ rfl
                        have z3 := hVW.free 3
                        have k4 := hVW.cell 4 _ rfl
                        have z4 := hVW.free 4
                        have k5 := hVW.cell 5 _ rfl
                        have z5 := hVW.free 5
                        have hW6 : Blk w.heap.size 28 [.int .i64 3, .int .i64 0, .int .u64 9223372036854775808, .string ⟨#[]⟩, .slice none 0 0, .slice none 0 0] (((((((w1.setCell ⟨g, 0, none⟩ (.string s2)).setCell ⟨w.heap.size, 0, none⟩ (.int .i64 3)).setCell ⟨w.heap.size, 1, none⟩ (.int .i64 0)).setCell ⟨w.heap.size, 2, none⟩ (.int .u64 9223372036854775808)).setCell ⟨w.heap.size, 3, none⟩ (.string ⟨#[]⟩)).setCell ⟨w.heap.size, 4, none⟩ (.slice none 0 0)).setCell ⟨w.heap.size, 5, none⟩ (.slice none 0 0)) := (((((hVW.set 0 _).set 1 _).set 2 _).set 3 _).set 4 _).set 5 _
                        have hg6 : w.grownBy (((((((w1.setCell ⟨g, 0, none⟩ (.string s2)).setCell ⟨w.heap.size, 0, none⟩ (.int .i64 3)).setCell ⟨w.heap.size, 1, none⟩ (.int .i64 0)).setCell ⟨w.heap.size, 2, none⟩ (.int .u64 9223372036854775808)).setCell ⟨w.heap.size, 3, none⟩ (.string ⟨#[]⟩)).setCell ⟨w.heap.size, 4, none⟩ (.slice none 0 0)).setCell ⟨w.heap.size, 5, none⟩ (.slice none 0 0)) (some g) := jgrown_put6 hgW (Nat.le_refl _) _ _ _ _ _ _
                        have hB6 : JRd g s2 (((((((w1.setCell ⟨g, 0, none⟩ (.string s2)).setCell ⟨w.heap.size, 0, none⟩ (.int .i64 3)).setCell ⟨w.heap.size, 1, none⟩ (.int .i64 0)).setCell ⟨w.heap.size, 2, none⟩ (.int .u64 9223372036854775808)).setCell ⟨w.heap.size, 3, none⟩ (.string ⟨#[]⟩)).setCell ⟨w.heap.size, 4, none⟩ (.slice none 0 0)).setCell ⟨w.heap.size, 5, none⟩ (.slice none 0 0)) := jblk_put6 hBW (by omega) _ _ _ _ _ _
                        go_wp2_with (first | (go_at_call 48; refine (Tryd.strings_IndexByte _ _ _).mono ?_; rintro e w3 ⟨rfl, rfl⟩; rw [HI.out]) | (go_at_call 33; refine (must_ok _).mono ?_; rintro e w9 ⟨rfl, rfl⟩))
                        clear k0 k1 k2 k3 k4 k5 z0 z1 z2 z3 z4 z5
                        generalize ((((((w1.setCell ⟨g, 0, none⟩ (.string s2)).setCell ⟨w.heap.size, 0, none⟩ (.int .i64 3)).setCell ⟨w.heap.size, 1, none⟩ (.int .i64 0)).setCell ⟨w.heap.size, 2, none⟩ (.int .u64 9223372036854775808)).setCell ⟨w.heap.size, 3, none⟩ (.string ⟨#[]⟩)).setCell ⟨w.heap.size, 4, none⟩ (.slice none 0 0)).setCell ⟨w.heap.size, 5, none⟩ (.slice none 0 0) = w40 at *
                        have d0 := hW6.cell 0 _ rfl
                        have d1 := hW6.cell 1 _ rfl
                        have d2 := hW6.cell 2 _ rfl
                        have d3 := hW6.cell 3 _ rfl
                        have d4 := hW6.cell 4 _ rfl
                        have d5 := hW6.cell 5 _ rfl
                        refine bodyPost_ret (v := .agg #[.int .i64 3, .int .i64 0, .int .u64 9223372036854775808, .string ⟨#[]⟩, .slice none 0 0, .slice none 0 0]) (by simp [results, Tryd.results38, go_sem, d0, d1, d2, d3, d4, d5]) rfl ?_
                        exact NumPost.ok (v := numV true 0) HTT.out HX2.out hB6 hg6
                  | false =>
                    have HTT := Lib.hid (HTNO.out (by rw [hr, hnt, hJ]))
                    clear HTOK HTNO hx2 hz hr hta hnt hie
                    generalize b2.toNat = d2 at *
                    go_wp2_with (first | (go_at_call 48; refine (Tryd.strings_IndexByte _ _ _).mono ?_; rintro e w3 ⟨rfl, rfl⟩; rw [HI.out]) | (go_at_call 33; refine (must_no _).mono ?_; unfold panJ; rintro e w9 ⟨rfl, rfl⟩))
                    exact ⟨rfl, NumPost.no HTT.out hgW⟩
          · have hb4 : decide ((k : Int) ≤ 16) = false := decide_eq_false (by omega)
            have HT2 := Lib.hid (HT.out.trans (numAt_long (by rw [← HK.out]; omega)))
            clear hk0 HT hbd hk16
            generalize b.toNat = d at *
            rcases hor with ⟨hb2, -⟩ | ⟨hb2, hb3, hb3'⟩
            · go_wp2_with (go_at_call 33; refine (must_no _).mono ?_; unfold panJ; rintro e w9 ⟨rfl, rfl⟩)
              exact ⟨rfl, NumPost.no HT2.out hgA⟩
            · go_wp2_with (go_at_call 33; refine (must_no _).mono ?_; unfold panJ; rintro e w9 ⟨rfl, rfl⟩)
              exact ⟨rfl, NumPost.no HT2.out hgA⟩
end Go.Proofs.YthmcacgkhpigaaaDoor.S
