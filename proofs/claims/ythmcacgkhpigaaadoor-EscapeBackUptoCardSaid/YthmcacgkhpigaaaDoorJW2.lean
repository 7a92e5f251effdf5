/-
  THE WALKS of package json's sign, escape.
-/
import Derived.Test.YthmcacgkhpigaaaDoorJW1
set_option linter.unusedVariables false
set_option linter.unusedSimpArgs false
namespace Go.Proofs.YthmcacgkhpigaaaDoor.S
open Go.RowKit

theorem sixF_lt : ∀ (n x : Nat) (l : List UInt8) (y : Nat), sixF n x l = some y → y + 1 ≤ (x + 1) * 16 ^ n
  | 0, x, l, y, h => by rw [sixF] at h; cases h; simp
  | n + 1, x, [], y, h => by rw [sixF] at h; cases h
  | n + 1, x, b :: r, y, h => by
    cases hv : hexV b with
    | none => rw [sixF_none hv] at h; cases h
    | some d =>
      rw [sixF_some hv] at h
      have h1 := sixF_lt n _ r y h
      have hd := hexV_lt hv
      rw [Nat.pow_succ, Nat.mul_comm (16 ^ n), ← Nat.mul_assoc]
      exact Nat.le_trans h1 (Nat.mul_le_mul_right _ (by omega))
theorem sixL_lt {l : List UInt8} {x : Nat} {r : List UInt8} (h : sixL l = some (x, r)) : x < 65536 := by
  unfold sixL at h
  split at h
  · cases h
  · cases hs : sixF 4 0 l with
    | none => rw [hs] at h; cases h
    | some y =>
      rw [hs] at h
      simp at h
      have := sixF_lt _ _ _ _ hs
      simp at this
      omega
theorem signJL_lt {l : List UInt8} {x : Nat} {r : List UInt8} (h : signJL l = some (x, r)) : x < 1114112 ∧ (x < 55296 ∨ 57343 < x) := by
  unfold signJL at h
  split at h
  · cases h
  · rename_i x1 r1 h1
    have l1 := sixL_lt h1
    split at h
    · simp at h; omega
    · split at h
      · cases h
      · split at h
        · cases h
        · split at h
          · cases h
          · rename_i y r2 h2
            split at h
            · simp at h; omega
            · cases h
theorem shl4 (x : Nat) (h : x < 65536) : IntKind.i64.wrap ((x : Int) * 2 ^ 4) = ((x * 16 : Nat) : Int) := by
  rw [IntWalk.i64_in _ (by omega)]; omega
set_option maxRecDepth 100000 in
set_option maxHeartbeats 4000000 in
theorem jsign_calls (g : Nat) (s : ByteArray) (l : List UInt8) (w : World) (hB : JRd g s w) (hl : StrIs s l) (hs : s.size ≤ 4611686018427387900) :
    Calls Tryd.prog 62 #[.pointer (some ⟨g, 0, none⟩)] w fun e w' =>
      (∀ x r, signJL l = some (x, r) → ∃ s' : ByteArray, e = .returned (.int .i32 (x : Nat)) ∧ StrIs s' r ∧ JRd g s' w') ∧ (signJL l = none → e = panJ) ∧ w.grownBy w' (some g) := by
  obtain ⟨T, hT⟩ : ∃ T, T = signJL l := ⟨_, rfl⟩
  rw [← hT]
  unfold signJL at hT
  have hll : l.length = s.size := hl.size.symm
  go_enter Tryd.func62, Tryd.ntmps62
  go_wp2_with fail
  refine (jsix_calls g s l _ hB hl hs).mono ?_
  rintro e w1 ⟨hok, hno, hg1⟩
  cases h1 : sixL l with
  | none =>
    obtain rfl := hno h1
    rw [h1] at hT
    have HT := Lib.hid hT
    clear hT hok hno
    unfold panJ
    go_wp2
    refine ⟨rfl, fun x r h => ?_, fun _ => rfl, hg1⟩
    rw [HT.out] at h
    cases h
  | some y =>
    obtain ⟨x, r⟩ := y
    obtain ⟨s1, rfl, hs1, hB1⟩ := hok x r h1
    have hx := sixL_lt h1
    have hrl := sixL_len h1
    rw [h1] at hT
    dsimp only at hT
    clear hok hno h1
    by_cases hA : x < 55296
    · have hb1 : decide ((x : Int) < 55296) = true := decide_eq_true (by omega)
      have hw32 : IntKind.i32.wrap (x : Int) = (x : Int) := by rw [IntWalk.i32_in _ (by omega)]
      rw [if_pos (.inl hA)] at hT
      have HT := Lib.hid hT
      clear hT hA
      go_wp2
      go_ret
      refine ⟨fun x' r' h => ?_, fun h => ?_, hg1⟩
      · rw [HT.out] at h
        cases h
        exact ⟨s1, rfl, hs1, hB1⟩
      · rw [HT.out] at h
        cases h
    · have hb1 : decide ((x : Int) < 55296) = false := decide_eq_false (by omega)
      by_cases hA2 : 57343 < x
      · have hb2 : decide ((57343 : Int) < (x : Int)) = true := decide_eq_true (by omega)
        have hw32 : IntKind.i32.wrap (x : Int) = (x : Int) := by rw [IntWalk.i32_in _ (by omega)]
        rw [if_pos (.inr hA2)] at hT
        have HT := Lib.hid hT
        clear hT hA hA2
        go_wp2
        go_ret
        refine ⟨fun x' r' h => ?_, fun h => ?_, hg1⟩
        · rw [HT.out] at h
          cases h
          exact ⟨s1, rfl, hs1, hB1⟩
        · rw [HT.out] at h
          cases h
      · have hb2 : decide ((57343 : Int) < (x : Int)) = false := decide_eq_false (by omega)
        rw [if_neg (by omega)] at hT
        by_cases hC : 56320 ≤ x
        · have hb3 : decide ((x : Int) < 56320) = false := decide_eq_false (by omega)
          rw [if_pos hC] at hT
          have HT := Lib.hid hT
          clear hT hA hA2 hC
          go_wp2_with (go_at_call 33; refine (must_no _).mono ?_; unfold panJ; rintro e w3 ⟨rfl, rfl⟩)
          refine ⟨rfl, fun x r h => ?_, fun _ => rfl, hg1⟩
          rw [HT.out] at h
          cases h
        · have hb3 : decide ((x : Int) < 56320) = true := decide_eq_true (by omega)
          rw [if_neg hC] at hT
          cases hp : List.isPrefixOf [92, 117] r with
          | false =>
            rw [hp, if_pos rfl] at hT
            have HT := Lib.hid hT
            have HX := Lib.hid (And.intro hA hC)
            clear hT hA hA2 hC
            go_wp2_with (first | (go_at_call 34; refine (jhas_calls g s1 ⟨#[92, 117]⟩ r _ hB1 hs1).mono ?_; rw [show List.isPrefixOf (⟨#[92, 117]⟩ : ByteArray).data.toList r = false from hp]; rintro e w2 ⟨s2, rfl, hs2, hB2, hg2⟩) | (go_at_call 33; refine (must_no _).mono ?_; unfold panJ; rintro e w3 ⟨rfl, rfl⟩))
            refine ⟨rfl, fun x r h => ?_, fun _ => rfl, hg1.trans hg2⟩
            rw [HT.out] at h
            cases h
          | true =>
            rw [hp, if_neg (by simp)] at hT
            have HX := Lib.hid (And.intro hA hC)
            have HT := Lib.hid hT
            clear hT hA hA2 hC
            go_wp2_with (first | (go_at_call 34; refine (jhas_calls g s1 ⟨#[92, 117]⟩ r _ hB1 hs1).mono ?_; rw [show List.isPrefixOf (⟨#[92, 117]⟩ : ByteArray).data.toList r = true from hp]; rw [show cutJ (⟨#[92, 117]⟩ : ByteArray).data.toList r = r.drop 2 from cutJ_yes hp]; rintro e w2 ⟨s2, rfl, hs2, hB2, hg2⟩) | (go_at_call 33; refine (must_ok _).mono ?_; rintro e w3 ⟨rfl, rfl⟩) | fail)
            have hz2 : s2.size ≤ 4611686018427387900 := by rw [hs2.size, List.length_drop]; omega
            refine (jsix_calls g s2 (r.drop 2) _ hB2 hs2 hz2).mono ?_
            rintro e w3 ⟨hok, hno, hg3⟩
            have hg13 := (hg1.trans hg2).trans hg3
            have hT := HT.out
            cases h2 : sixL (r.drop 2) with
            | none =>
              obtain rfl := hno h2
              rw [h2] at hT
              have HT2 := Lib.hid hT
              clear hT hok hno
              unfold panJ
              go_wp2
              refine ⟨rfl, fun x r h => ?_, fun _ => rfl, hg13⟩
              rw [HT2.out] at h
              cases h
            | some z =>
              obtain ⟨y, r2⟩ := z
              obtain ⟨s3, rfl, hs3, hB3⟩ := hok y r2 h2
              have hy := sixL_lt h2
              rw [h2] at hT
              dsimp only at hT
              clear hok hno h2 HT
              by_cases hD : 56320 ≤ y
              · have hb5 : decide ((56320 : Int) ≤ (y : Int)) = true := decide_eq_true (by omega)
                by_cases hE : y ≤ 57343
                · have hb6 : decide ((y : Int) ≤ 57343) = true := decide_eq_true (by omega)
                  rw [if_pos ⟨hD, hE⟩] at hT
                  have HT := Lib.hid hT
                  obtain ⟨hA, hC⟩ := HX.out
                  obtain ⟨a, ha⟩ : ∃ a, x = 55296 + a := ⟨x - 55296, by omega⟩
                  obtain ⟨b, hb⟩ : ∃ b, y = 56320 + b := ⟨y - 56320, by omega⟩
                  have e1 : IntKind.i64.wrap ((x : Int) - 55296) = (a : Int) := by rw [IntWalk.i64_in _ (by omega)]; omega
                  have e0 : (x : Int) - 55296 = (a : Int) := by omega
                  have e2 : IntKind.i64.wrap ((a : Int) * 2 ^ 10) = ((a * 1024 : Nat) : Int) := by rw [IntWalk.i64_in _ (by omega)]; omega
                  have e2' : (a : Int) * 1024 = ((a * 1024 : Nat) : Int) := by omega
                  have e3 : IntKind.i64.wrap ((65536 : Int) + ((a * 1024 : Nat) : Int)) = ((65536 + a * 1024 : Nat) : Int) := by rw [IntWalk.i64_in _ (by omega)]; omega
                  have e4 : IntKind.i64.wrap (((65536 + a * 1024 : Nat) : Int) + (y : Int)) = ((65536 + a * 1024 + y : Nat) : Int) := by rw [IntWalk.i64_in _ (by omega)]; omega
                  have e5 : IntKind.i64.wrap (((65536 + a * 1024 + y : Nat) : Int) - 56320) = ((65536 + a * 1024 + b : Nat) : Int) := by rw [IntWalk.i64_in _ (by omega)]; omega
                  have e6 : IntKind.i32.wrap ((65536 + a * 1024 + b : Nat) : Int) = ((65536 + a * 1024 + b : Nat) : Int) := by rw [IntWalk.i32_in _ (by omega)]
                  have hfin : 65536 + (x - 55296) * 1024 + (y - 56320) = 65536 + a * 1024 + b := by omega
                  rw [hfin] at HT
                  have HAB := Lib.hid (show (a < 1024 ∧ b < 1024) ∧ x = 55296 + a ∧ y = 56320 + b by omega)
                  clear hT hD hE hA hC ha hb hfin hx hy
                  go_wp2_with (go_at_call 33; refine (must_ok _).mono ?_; rintro e w4 ⟨rfl, rfl⟩)
                  go_ret
                  refine ⟨fun x' r' h => ?_, fun h => ?_, hg13⟩
                  · rw [HT.out] at h
                    cases h
                    refine ⟨s3, ?_, hs3, hB3⟩
                    refine ret_int ?_
                    obtain ⟨⟨h1, h2⟩, h3, h4⟩ := HAB.out
                    clear HAB e1 e0 e2 e2' e3 e4 e5 e6
                    rw [IntWalk.wrap64_in (a : Int) (by omega), IntWalk.wrap64_in ((a : Int) * 1024) (by omega), IntWalk.wrap64_in (65536 + (a : Int) * 1024) (by omega), IntWalk.wrap64_in (65536 + (a : Int) * 1024 + (y : Int)) (by omega), IntWalk.wrap64_in (65536 + (a : Int) * 1024 + (y : Int) - 56320) (by omega), IntWalk.wrap32_in (65536 + (a : Int) * 1024 + (y : Int) - 56320) (by omega)]
                    omega
                  · rw [HT.out] at h
                    cases h
                · have hb6 : decide ((y : Int) ≤ 57343) = false := decide_eq_false (by omega)
                  rw [if_neg (fun h => hE h.2)] at hT
                  have HT := Lib.hid hT
                  clear hT hD hE
                  go_wp2_with (go_at_call 33; refine (must_no _).mono ?_; unfold panJ; rintro e w3 ⟨rfl, rfl⟩)
                  refine ⟨rfl, fun x r h => ?_, fun _ => rfl, hg13⟩
                  rw [HT.out] at h
                  cases h
              · have hb5 : decide ((56320 : Int) ≤ (y : Int)) = false := decide_eq_false (by omega)
                rw [if_neg (fun h => hD h.1)] at hT
                have HT := Lib.hid hT
                clear hT hD
                go_wp2_with (go_at_call 33; refine (must_no _).mono ?_; unfold panJ; rintro e w3 ⟨rfl, rfl⟩)
                refine ⟨rfl, fun x r h => ?_, fun _ => rfl, hg13⟩
                rw [HT.out] at h
                cases h
theorem enc_list (x : Nat) (h : x < 1114112 ∧ (x < 55296 ∨ 57343 < x)) : StrIs (Utf8.encode (x : Int)) (encU x) := by
  have hv : Utf8.valid (x : Int) = true := by rw [validRune_eq]; exact decide_eq_true (by omega)
  unfold Utf8.encode encU
  simp only [hv, if_true, Int.toNat_natCast]
  show _ = _
  split
  · rfl
  · split
    · rfl
    · split <;> rfl
def escI (c : UInt8) : Int := Lib.indexByte [34, 92, 47, 98, 102, 110, 114, 116] c
theorem esc_at (c : UInt8) : (escV c = none ∧ escI c = -1) ∨ ∃ k : Fin 8, escI c = (k.val : Int) ∧ escV c = some (([34, 92, 47, 8, 12, 10, 13, 9] : List UInt8).getD k.val 0) :=
  all_bytes (fun c => (escV c = none ∧ escI c = -1) ∨ ∃ k : Fin 8, escI c = (k.val : Int) ∧ escV c = some (([34, 92, 47, 8, 12, 10, 13, 9] : List UInt8).getD k.val 0)) (by decide +kernel) c
theorem byte_self (c : UInt8) : ((c.toNat : Int)).toNat.toUInt8 = c := by simp
theorem esc_slice (k : Fin 8) (W : World) :
    (Instr.slice 9 (.string ⟨#[34, 92, 47, 8, 12, 10, 13, 9]⟩) (some (.int .i64 (k.val : Int))) (some (.int .i64 ((k.val : Int) + 1))) none).run Tryd.prog W = .ok (.string ⟨#[([34, 92, 47, 8, 12, 10, 13, 9] : List UInt8).getD k.val 0]⟩) W := by
  match k with
  | 0 => show _ = _; kernel_rfl
  | 1 => show _ = _; kernel_rfl
  | 2 => show _ = _; kernel_rfl
  | 3 => show _ = _; kernel_rfl
  | 4 => show _ = _; kernel_rfl
  | 5 => show _ = _; kernel_rfl
  | 6 => show _ = _; kernel_rfl
  | 7 => show _ = _; kernel_rfl
set_option maxRecDepth 100000 in
set_option maxHeartbeats 4000000 in
theorem jesc_calls (g : Nat) (s : ByteArray) (l : List UInt8) (w : World) (hB : JRd g s w) (hl : StrIs s l) (hs : s.size ≤ 4611686018427387900) :
    Calls Tryd.prog 47 #[.pointer (some ⟨g, 0, none⟩)] w fun e w' =>
      (∀ t r, escJL l = some (t, r) → ∃ b s' : ByteArray, e = .returned (.string b) ∧ StrIs b t ∧ StrIs s' r ∧ JRd g s' w') ∧ (escJL l = none → e = panJ) ∧ w.grownBy w' (some g) := by
  have c0 := hB.cell 0 _ rfl
  have f0 := hB.free 0
  obtain rfl : s.data.toList = l := hl
  obtain ⟨T, hT⟩ : ∃ T, T = escJL s.data.toList := ⟨_, rfl⟩
  rw [← hT]
  go_enter Tryd.func47, Tryd.ntmps47
  by_cases h0 : s.size = 0
  · have h1 := empty_test h0
    rw [nil_of_size h0] at hT
    have HT := Lib.hid hT
    clear hT h0
    go_wp2_with (go_at_call 33; refine (must_no _).mono ?_; unfold panJ; rintro e w3 ⟨rfl, rfl⟩)
    refine ⟨rfl, fun x r h => ?_, fun _ => rfl, World.grownBy.refl _ _⟩
    rw [HT.out] at h
    cases h
  · have h1 := nonempty_test h0
    have hs0 : 0 < s.size := by omega
    have hd := jdrop_cons 0 hs0
    rw [List.drop_zero, Nat.zero_add] at hd
    rw [hd] at hT
    obtain ⟨c, hcc⟩ : ∃ c : UInt8, c = s[0]'hs0 := ⟨_, rfl⟩
    have hbt : ∀ h', ((s[0]'h').toNat : Nat) = c.toNat := fun h' => by rw [hcc]
    rw [← hcc] at hT
    have hsl1 := fun W => jslice_from s 1 1 rfl hs0 W
    have hx1 := jext_from s 1
    generalize s.extract 1 s.size = s1 at *
    have hz1 : s1.size ≤ 4611686018427387900 := by rw [hx1.size, List.length_drop]; show s.size - 1 ≤ _; omega
    have hB1 := hB.set 0 (.string s1)
    have hg1 := grownBy_set w g 0 (.string s1)
    have hlt := c.toNat_lt
    unfold escJL at hT
    dsimp only at hT
    by_cases hu : c = 117
    · have hub : ((c.toNat : Int) == 117) = true := by rw [hu]; rfl
      rw [if_pos hu] at hT
      have HT := Lib.hid hT
      clear hT hcc hd hu
      generalize c.toNat = cn at *
      go_wp2_with (first | (go_at_call 33; refine (must_ok _).mono ?_; rintro e w3 ⟨rfl, rfl⟩) | fail)
      change JRd g s1 (w.setCell ⟨g, 0, none⟩ (.string s1)) at hB1
      generalize w.setCell ⟨g, 0, none⟩ (.string s1) = w1 at *
      refine (jsign_calls g s1 _ _ hB1 hx1 hz1).mono ?_
      rintro e w2 ⟨hok, hno, hg2⟩
      have hg12 := hg1.trans hg2
      cases hS : signJL (s.data.toList.drop 1) with
      | none =>
        obtain rfl := hno hS
        have hT := HT.out
        rw [hS] at hT
        have HT2 := Lib.hid hT
        clear hT hok hno
        unfold panJ
        go_wp2
        refine ⟨rfl, fun x r h => ?_, fun _ => rfl, hg12⟩
        rw [HT2.out] at h
        cases h
      | some y =>
        obtain ⟨x, r⟩ := y
        obtain ⟨s2, rfl, hs2, hB2⟩ := hok x r hS
        have hxl := signJL_lt hS
        have henc := enc_list x hxl
        have hT := HT.out
        rw [hS] at hT
        have HT2 := Lib.hid hT
        have HE := Lib.hid henc
        have hcv : ∀ W, (convert 21 9 (.int .i32 (x : Int))).run Tryd.prog W = .ok (.string (Utf8.encode (x : Int))) W := fun W => run_convert_int_string W _ _ _ _ (by rw [Tryd.underlying21]; rfl) Tryd.underlying9
        generalize Utf8.encode (x : Int) = eb at *
        clear hT hok hno henc HT hxl
        go_wp2
        go_ret
        refine ⟨fun t r' h => ?_, fun h => ?_, hg12⟩
        · rw [HT2.out] at h
          cases h
          exact ⟨eb, s2, rfl, HE.out, hs2, hB2⟩
        · rw [HT2.out] at h
          cases h
    · have hub : ((c.toNat : Int) == 117) = false := beq_eq_false_iff_ne.2 (fun e => hu (by rw [← UInt8.toNat_inj]; show c.toNat = 117; omega))
      rw [if_neg hu] at hT
      have hi : Lib.indexByte [34, 92, 47, 98, 102, 110, 114, 116] ((c.toNat : Int)).toNat.toUInt8 = escI c := by rw [byte_self]; rfl
      rcases esc_at c with ⟨hv, he⟩ | ⟨k, he, hv⟩
      · rw [hv] at hT
        rw [he] at hi
        have HT := Lib.hid hT
        have HI := Lib.hid hi
        clear hT hcc hd hu hi he hv
        generalize c.toNat = cn at *
        go_wp2_with (first | (go_at_call 48; refine (Tryd.strings_IndexByte _ _ _).mono ?_; rintro e w3 ⟨rfl, rfl⟩; rw [HI.out]) | (go_at_call 33; refine (must_ok _).mono ?_; rintro e w3 ⟨rfl, rfl⟩) | (go_at_call 33; refine (must_no _).mono ?_; unfold panJ; rintro e w3 ⟨rfl, rfl⟩))
        refine ⟨rfl, fun x r h => ?_, fun _ => rfl, hg1⟩
        rw [HT.out] at h
        cases h
      · rw [hv] at hT
        rw [he] at hi
        have HT := Lib.hid hT
        have HI := Lib.hid hi
        have hsk := fun W => esc_slice k W
        have hge : decide ((0 : Int) ≤ (k.val : Int)) = true := decide_eq_true (by omega)
        have hkl := k.isLt
        clear hT hcc hd hu hi he hv
        generalize c.toNat = cn at *
        generalize ([34, 92, 47, 8, 12, 10, 13, 9] : List UInt8).getD k.val 0 = eb at *
        generalize k.val = kn at *
        go_wp2_with (first | (go_at_call 48; refine (Tryd.strings_IndexByte _ _ _).mono ?_; rintro e w3 ⟨rfl, rfl⟩; rw [HI.out]) | (go_at_call 33; refine (must_ok _).mono ?_; rintro e w3 ⟨rfl, rfl⟩))
        go_ret
        refine ⟨fun t r' h => ?_, fun h => ?_, hg1⟩
        · rw [HT.out] at h
          cases h
          exact ⟨⟨#[eb]⟩, s1, rfl, rfl, hx1, hB1⟩
        · rw [HT.out] at h
          cases h
end Go.Proofs.YthmcacgkhpigaaaDoor.S
