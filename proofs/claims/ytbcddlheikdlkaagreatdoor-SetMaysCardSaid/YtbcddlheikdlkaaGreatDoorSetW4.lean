/-
  THE WALK of package pipe's May: pipes whose arguments are as they were read.
-/
import Derived.Test.YtbcddlheikdlkaaGreatDoorSetW3
set_option linter.unusedVariables false
set_option linter.unusedSimpArgs false
namespace Go.Proofs.YtbcddlheikdlkaaGreatDoor.S
open Go.RowKit

theorem argMay_calls (g off base : Nat) (a : Ar) (pv : Value) (w : World) (hok : ArOk a) (c0 : w.cell? ⟨g, off, none⟩ = some (.int .i64 a.kind)) (c1 : w.cell? ⟨g, off + 1, none⟩ = some (.string ⟨a.name.toArray⟩))
    (c2 : w.cell? ⟨g, off + 2, none⟩ = some pv) (c3 : w.cell? ⟨g, off + 3, none⟩ = some (.int .i64 a.num)) (c4 : w.cell? ⟨g, off + 4, none⟩ = some (.string ⟨a.text.toArray⟩)) (hp : Txs base pv a.path w) :
    Calls Tryz.prog 125 #[.pointer (some ⟨g, off, none⟩)] w fun e w' => e = .returned (.bool true) ∧ Below w.heap.size w w' := by
  cases hok with
  | dot xs h hl => exact argMay_dot xs h hl g off base pv w c0 c1 c2 c3 c4 hp
  | var x xs h hs hl => exact argMay_var ⟨x.toArray⟩ (fun W => (wName_calls ⟨x.toArray⟩ x rfl W).mono fun e w' ⟨he, hw⟩ => ⟨by rw [he, h], hw⟩) xs hs hl g off base pv w c0 c1 c2 c3 c4 hp
  | num z h => exact argMay_num z h g off base pv w c0 c1 c2 c3 c4 hp
  | text t h => exact argMay_text ⟨t.toArray⟩ h g off base pv w c0 c1 c2 c3 c4 hp
  | yes => exact argMay_yes g off base pv w c0 c1 c2 c3 c4 hp
  | no => exact argMay_no g off base pv w c0 c1 c2 c3 c4 hp
  | null => exact argMay_null g off base pv w c0 c1 c2 c3 c4 hp
theorem mayP_len {ds : List Cm} (h : ds.length < 1 ∨ 8 < ds.length) : mayP ds = false := by
  cases ds with
  | nil => rfl
  | cons c r =>
    show (decide (r.length ≤ 7) && (cmOk c true && r.all fun c => cmOk c false)) = _
    rw [decide_eq_false (by simp at h; omega), Bool.false_and]
theorem mayP_at {ds : List Cm} (k : Nat) (hk : k < ds.length) (h : cmOk ds[k] (k == 0) = false) : mayP ds = false := by
  cases ds with
  | nil => rfl
  | cons c r =>
    show (decide (r.length ≤ 7) && (cmOk c true && r.all fun c => cmOk c false)) = _
    cases k with
    | zero =>
      have h : cmOk c true = false := h
      rw [h]; simp
    | succ k =>
      have h : cmOk (r[k]'(by simpa using hk)) false = false := h
      have : (r.all fun c => cmOk c false) = false := by
        rw [List.all_eq_false]
        exact ⟨r[k]'(by simpa using hk), List.getElem_mem _, by rw [h]; simp⟩
      rw [this]; simp
theorem mayP_all {ds : List Cm} (h1 : 1 ≤ ds.length) (h8 : ds.length ≤ 8) (h : ∀ k (hk : k < ds.length), cmOk ds[k] (k == 0) = true) : mayP ds = true := by
  cases ds with
  | nil => simp at h1
  | cons c r =>
    show (decide (r.length ≤ 7) && (cmOk c true && r.all fun c => cmOk c false)) = _
    have h0 : cmOk c true = true := h 0 (by simp)
    have hr : (r.all fun c => cmOk c false) = true := by
      rw [List.all_eq_true]
      intro x hx
      obtain ⟨j, hj, rfl⟩ := List.getElem_of_mem hx
      exact h (j + 1) (by simpa using hj)
    rw [h0, hr, decide_eq_true (by simp at h8; omega)]
    rfl
set_option maxRecDepth 100000 in
set_option maxHeartbeats 16000000 in
theorem pipeMay_calls (base : Nat) (v : Value) (ds : List Cm) (w : World) (hP : Cms base v ds w) (hok : ∀ c ∈ ds, ∀ a ∈ c.args, ArOk a) :
    Calls Tryz.prog 98 #[v] w fun e w' => e = .returned (.bool (mayP ds)) ∧ Below w.heap.size w w' := by
  obtain ⟨sa, sc, rfl⟩ := hP.slice
  have hlm := hP.len_le
  obtain ⟨B, hB⟩ : ∃ B, B = mayP ds := ⟨_, rfl⟩
  rw [← hB]
  have HB := Lib.hid hB
  have HP := Lib.hid hP
  have HOK := Lib.hid hok
  clear hB hP hok
  go_enter Tryz.func98, Tryz.ntmps98
  by_cases h1 : ds.length < 1
  · obtain rfl : B = false := HB.out.trans (mayP_len (.inl h1))
    have hb1 : decide ((ds.length : Int) < 1) = true := decide_eq_true (by omega)
    go_wp2
    go_ret
    exact ⟨rfl, Below.refl _ _⟩
  have hb1 : decide ((ds.length : Int) < 1) = false := decide_eq_false (by omega)
  by_cases h8 : 8 < ds.length
  · obtain rfl : B = false := HB.out.trans (mayP_len (.inr h8))
    have hb8 : decide ((8 : Int) < (ds.length : Int)) = true := decide_eq_true (by omega)
    go_wp2
    go_ret
    exact ⟨rfl, Below.refl _ _⟩
  have hb8 : decide ((8 : Int) < (ds.length : Int)) = false := decide_eq_false (by omega)
  go_wp2
  clear hb1 hb8
  go_loopg [17] ds.length (fun gk v17 wr => ∃ k : Nat, k + gk = ds.length ∧ v17 = .int .i64 k ∧ Below w.heap.size w wr ∧ ∀ j (hj : j < ds.length), j < k → cmOk ds[j] (j == 0) = true)
  case atStart => exact ⟨0, by omega, rfl, Below.refl _ _, fun j _ h => absurd h (Nat.not_lt_zero _)⟩
  case round =>
    obtain ⟨k, hkg, rfl, hbr, hall⟩ := hrel
    have HKG := Lib.hid hkg
    have HA := Lib.hid hall
    have hkl : k ≤ ds.length := by omega
    clear hkg hall
    by_cases hk : k < ds.length
    · have hb : decide ((k : Int) < (ds.length : Int)) = true := decide_eq_true (by omega)
      obtain ⟨b, cap, av, hv, hcc, e8, e9, hA⟩ := (HP.out.below hbr).at k hk
      obtain ⟨rfl, -, rfl⟩ := Value.slice.inj hv
      obtain ⟨c, hc⟩ : ∃ c, c = ds[k] := ⟨_, rfl⟩
      have HC := Lib.hid hc
      have HAOK := Lib.hid fun a (ha : a ∈ c.args) => HOK.out c (by rw [hc]; exact List.getElem_mem hk) a ha
      rw [← hc] at e8 hA
      obtain ⟨aa, ac, rfl⟩ := hA.slice
      have ham := hA.len_le
      have hfs : StrIs (⟨c.fn.toArray⟩ : ByteArray) c.fn := rfl
      have HAR := Lib.hid hA
      have HBR := Lib.hid hbr
      obtain ⟨t, ht⟩ : ∃ t : ByteArray, t = ⟨c.fn.toArray⟩ := ⟨_, rfl⟩
      have e0 : wr.cell? ⟨b, k * 2, none⟩ = some (Value.string t) := by rw [ht]; exact e8
      have e1 : wr.cell? ⟨b, k * 2 + 1, none⟩ = some (Value.slice aa c.args.length ac) := e9
      rw [← ht] at hfs
      have HT := Lib.hid ht
      clear hv hc hA hbr ht e8 e9
      have hF := fun W => fn_calls t c.fn hfs W
      go_upto_region 7 with (fail)
      go_cut [5] (fun v5 wx => v5 = .bool (c.fn.isEmpty && (k == 0) && (c.args.length == 1)) ∧ wx = wr)
      case first =>
        cases hfe : (c.fn == []) with
        | false =>
          have t0 := str_test hfs [] false hfe
          have hie : c.fn.isEmpty = false := by cases hq : c.fn with | nil => rw [hq] at hfe; cases hfe | cons => rfl
          go_wp2_with fail
          go_meet
          exact ⟨by rw [hie]; rfl, rfl⟩
        | true =>
          have t0 := str_test hfs [] true hfe
          have hie : c.fn.isEmpty = true := by rw [beq_iff_eq.1 hfe]; rfl
          by_cases hk0 : k = 0
          · have k0 : ((k : Int) == 0) = true := beq_iff_eq.2 (by omega)
            have HK0 := Lib.hid hk0
            clear hk0
            by_cases ha1 : c.args.length = 1
            · have a1 : ((c.args.length : Int) == 1) = true := beq_iff_eq.2 (by omega)
              have HA1 := Lib.hid ha1
              clear ha1
              go_wp2_with fail
              go_meet
              exact ⟨by rw [hie, show (k == 0) = true from beq_iff_eq.2 HK0.out, show (c.args.length == 1) = true from beq_iff_eq.2 HA1.out]; rfl, rfl⟩
            · have a1 : ((c.args.length : Int) == 1) = false := beq_eq_false_iff_ne.2 (by omega)
              go_wp2_with fail
              go_meet
              exact ⟨by rw [show (c.args.length == 1) = false from beq_eq_false_iff_ne.2 ha1, Bool.and_false], rfl⟩
          · have k0 : ((k : Int) == 0) = false := beq_eq_false_iff_ne.2 (by omega)
            go_wp2_with fail
            go_meet
            exact ⟨by rw [show (k == 0) = false from beq_eq_false_iff_ne.2 hk0, Bool.and_false, Bool.false_and], rfl⟩
      case rest =>
      obtain ⟨rfl, rfl⟩ := hcut
      have hcm : cmOk c (k == 0) = (((c.fn.isEmpty && (k == 0) && (c.args.length == 1)) || isFn c.fn) && decide (c.args.length ≤ 8)) := rfl
      have hba : (c.fn.isEmpty && (k == 0) && (c.args.length == 1)) = true → c.args.length = 1 := fun h => by simp only [Bool.and_eq_true] at h; exact beq_iff_eq.1 h.2
      generalize (c.fn.isEmpty && (k == 0) && (c.args.length == 1)) = bare at *
      cases hcv : cmOk c (k == 0) with
      | false =>
        obtain rfl : B = false := HB.out.trans (mayP_at k hk (by rw [← HC.out]; exact hcv))
        rw [hcv] at hcm
        have h2 := hcm.symm
        rw [Bool.and_eq_false_iff, Bool.or_eq_false_iff] at h2
        cases bare with
        | true =>
          rcases h2 with ⟨h, -⟩ | h
          · cases h
          · exact absurd (of_decide_eq_false h) (by have := hba rfl; omega)
        | false =>
          cases hf : isFn c.fn with
          | false =>
            rw [hf] at hF
            clear hcm h2 hba
            go_wp2_with (go_at_call 124; refine (hF _).mono ?_; rintro e w' ⟨rfl, hw⟩; subst hw)
            go_ret
            exact ⟨rfl, HBR.out⟩
          | true =>
            have hl8 : decide ((8 : Int) < (c.args.length : Int)) = true := by
              rcases h2 with ⟨-, h⟩ | h
              · rw [hf] at h; cases h
              · have := of_decide_eq_false h
                exact decide_eq_true (by omega)
            rw [hf] at hF
            clear hcm h2 hba
            go_wp2_with (go_at_call 124; refine (hF _).mono ?_; rintro e w' ⟨rfl, hw⟩; subst hw)
            go_ret
            exact ⟨rfl, HBR.out⟩
      | true =>
        rw [hcv] at hcm
        have h2 := hcm.symm
        rw [Bool.and_eq_true, Bool.or_eq_true] at h2
        have hl8 : decide ((8 : Int) < (c.args.length : Int)) = false := decide_eq_false (by have := of_decide_eq_true h2.2; omega)
        have HCV := Lib.hid hcv
        clear hcm hcv
        have hbf : bare = true ∨ (bare = false ∧ isFn c.fn = true) := by
          cases bare with
          | true => exact .inl rfl
          | false => exact .inr ⟨rfl, by rcases h2.1 with h | h; cases h; exact h⟩
        clear h2 hba
        rcases hbf with rfl | ⟨rfl, hf⟩
        case' inr => rw [hf] at hF
        all_goals
          go_wp2_with (go_at_call 124; refine (hF _).mono ?_; rintro e w' ⟨rfl, hw⟩; subst hw)
          go_loopg [63] c.args.length (fun gi v63 ws => ∃ j : Nat, j + gi = c.args.length ∧ v63 = .int .i64 j ∧ Below wc.heap.size wc ws)
          case atStart => exact ⟨0, by omega, rfl, Below.refl _ _⟩
          case round =>
            obtain ⟨j, hjg, rfl, hbs⟩ := hrel
            have HJG := Lib.hid hjg
            have hjl : j ≤ c.args.length := by omega
            clear hjg
            by_cases hj : j < c.args.length
            · have hjb : decide ((j : Int) < (c.args.length : Int)) = true := decide_eq_true (by omega)
              obtain ⟨q, qc, pv, hv, hqc, y0, y1, y2, y3, y4, hT⟩ := (HAR.out.below hbs).at j hj
              obtain ⟨rfl, -, rfl⟩ := Value.slice.inj hv
              have g1 := cell_keep hbs e1
              have HM := Lib.hid (argMay_calls q (j * 5) _ c.args[j] pv _ (HAOK.out _ (List.getElem_mem hj)) y0 y1 y2 y3 y4 hT)
              have HBS := Lib.hid hbs
              clear y0 y1 y2 y3 y4 hT hbs hv
              go_wp2_with (go_at_call 125; refine HM.out.mono ?_; rintro e w' ⟨rfl, hb9⟩)
              go_roundg (gk - 1)
              case measure => have := HJG.out; omega
              case rel => exact ⟨j + 1, by have := HJG.out; omega, by go_num, HBS.out.trans (hb9.mono HBS.out.size)⟩
            · have hjb : decide ((j : Int) < (c.args.length : Int)) = false := decide_eq_false (by omega)
              have HBS := Lib.hid hbs
              clear hbs
              go_wp2
              go_roundg (ds.length - (k + 1))
              case measure => have := HKG.out; omega
              case rel => exact ⟨k + 1, by have := HKG.out; omega, by go_num, HBR.out.trans (HBS.out.mono HBR.out.size), fun i hi h => if e : i = k then by subst e; rw [← HC.out]; exact HCV.out else HA.out i hi (by omega)⟩
    · have hb : decide ((k : Int) < (ds.length : Int)) = false := decide_eq_false (by omega)
      obtain rfl : B = true := HB.out.trans (mayP_all (by omega) (by omega) fun j hj => HA.out j hj (by omega))
      go_wp2
      go_ret
      exact ⟨rfl, hbr⟩
end Go.Proofs.YtbcddlheikdlkaaGreatDoor.S
