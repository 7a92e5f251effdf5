/-
  PLAIN: chapter 20's laws over contexts: within a script's quotes; in an address; behind a hole at an address' begin; contexts that are none; holes by hand.
-/
import Derived.Test.YtafkfamfhagokaaGreatDoorPlainC2
import Derived.WalkKit
set_option linter.unusedVariables false
set_option linter.unusedSimpArgs false
namespace Go.Proofs.YtafkfamfhagokaaGreatDoor.S

theorem exact_step {c : Cx} {b : Nat} {s : Sx} (hs : stepX c.st b = s) (hz : zoneX s ≠ 0) (hzz : zoneX s = zoneX c.st) : stepC c b =
    (let ref := referredX s && (b == 38 || (c.ref && wordB b)); if c.kd = 1 then match addressX c.url b with
      | none => .error 2003
      | some u => .ok ⟨s, ref, c.kd, u, c.lang⟩
    else if c.kd = 2 ∨ c.kd = 3 then .ok ⟨s, ref, c.kd, c.url, if zoneX s = 1 ∧ b = 38 then 9 else langX c.lang (c.kd == 2) b⟩
    else .ok ⟨s, ref, c.kd, c.url, c.lang⟩) := by
  unfold stepC
  dsimp only
  have hno : ¬ (zoneX s = 0 ∨ zoneX s ≠ zoneX c.st) := fun h => h.elim hz fun h => h hzz
  rw [hs, if_neg hno]
  rfl
/-- within a script -/
def scrP : List UInt8 := [60, 115, 99, 114, 105, 112, 116, 62]
def scrS : Sx := ⟨19, [], false, [], [115, 99, 114, 105, 112, 116], 0⟩
def scrC (j : Int) : Cx := ⟨scrS, false, 2, 0, j⟩
theorem scr_zone : zoneX scrS = 2 := by decide +kernel
theorem scr_ref : referredX scrS = false := by decide +kernel
theorem scr_step {j : Int} {b : Nat} (h : b ≠ 60) : stepC (scrC j) b = .ok (scrC (langX j true b)) := by
  have e : stepX (scrC j).st b = scrS := by simp [scrC, scrS, stepX, holdsX, heldX, h]
  rw [exact_step e (by rw [scr_zone]; decide) rfl, scr_ref, scr_zone]
  simp [scrC]
def quoteL (q : Nat) : Int := if q = 39 then 2 else 1
theorem quote_stay {q b : Nat} (hq : q = 34 ∨ q = 39) (h1 : b ≠ q) (h2 : b ≠ 92) (h3 : b ≠ 10) : langX (quoteL q) true b = quoteL q := by
  rcases hq with rfl | rfl <;> simp [langX, quoteL, textLX, h1, h2, h3]
theorem scr_steps {q : Nat} (hq : q = 34 ∨ q = 39) : ∀ (t : List UInt8), (∀ b ∈ t, b.toNat ≠ q ∧ b.toNat ≠ 92 ∧ b.toNat ≠ 10 ∧ b.toNat ≠ 60) → stepsC (scrC (quoteL q)) t = .ok (scrC (quoteL q))
  | [], _ => rfl
  | b :: r, h => by
    obtain ⟨h1, h2, h3, h4⟩ := h b (by simp)
    rw [stepsC, scr_step h4, quote_stay hq h1 h2 h3]
    exact scr_steps hq r fun x hx => h x (by simp [hx])
theorem texts_plain {q : UInt8} (hq : q.toNat = 34 ∨ q.toNat = 39) {t : List UInt8} (ht : ∀ b ∈ t, b.toNat ≠ q.toNat ∧ b.toNat ≠ 92 ∧ b.toNat ≠ 10 ∧ b.toNat ≠ 60) {k : UInt8} (hk : k.toNat ≠ 60) :
    textC cx0 (scrP ++ [q]) = .ok (scrC (quoteL q.toNat)) ∧ textC cx0 (scrP ++ [q] ++ t) = .ok (scrC (quoteL q.toNat)) ∧ textC cx0 (scrP ++ [q] ++ t ++ [92] ++ [k]) = .ok (scrC (quoteL q.toNat)) ∧
    textC cx0 (scrP ++ [120, 61] ++ [q] ++ t ++ [q]) = .ok (scrC 0) ∧ textC cx0 (scrP ++ [120, 61]) = .ok (scrC 0) ∧ holeC (scrC (quoteL q.toNat)) = .ok (4, scrC (quoteL q.toNat)) := by
  have h0 : stepsC cx0 scrP = .ok (scrC 0) := by kernel_rfl
  have hx : stepsC cx0 (scrP ++ [120, 61]) = .ok (scrC 0) := by kernel_rfl
  have hq1 : stepsC (scrC 0) [q] = .ok (scrC (quoteL q.toNat)) := by
    rw [stepsC, scr_step (by omega)]
    rcases hq with h | h <;> rw [h] <;> rfl
  have e1 : stepsC cx0 (scrP ++ [q]) = .ok (scrC (quoteL q.toNat)) := by rw [stepsC_cat h0, hq1]
  have e2 : stepsC cx0 (scrP ++ [q] ++ t) = .ok (scrC (quoteL q.toNat)) := by rw [stepsC_cat e1, scr_steps hq t ht]
  have e3 : stepsC cx0 (scrP ++ [q] ++ t ++ [92]) = .ok (scrC (if q.toNat = 39 then 4 else 3)) := by
    rw [stepsC_cat e2, stepsC, scr_step (by decide)]
    rcases hq with h | h <;> rw [h] <;> rfl
  have e4 : stepsC cx0 (scrP ++ [q] ++ t ++ [92] ++ [k]) = .ok (scrC (quoteL q.toNat)) := by
    rw [stepsC_cat e3, stepsC, scr_step hk]
    rcases hq with h | h <;> rw [h] <;> rfl
  have f1 : stepsC cx0 (scrP ++ [120, 61] ++ [q]) = .ok (scrC (quoteL q.toNat)) := by rw [stepsC_cat hx, hq1]
  have f2 : stepsC cx0 (scrP ++ [120, 61] ++ [q] ++ t) = .ok (scrC (quoteL q.toNat)) := by rw [stepsC_cat f1, scr_steps hq t ht]
  have f3 : stepsC cx0 (scrP ++ [120, 61] ++ [q] ++ t ++ [q]) = .ok (scrC 0) := by
    rw [stepsC_cat f2, stepsC, scr_step (by omega)]
    rcases hq with h | h <;> rw [h] <;> rfl
  simp only [textC_0]
  exact ⟨e1, e2, e4, f3, hx, by rcases hq with h | h <;> rw [h] <;> kernel_rfl⟩

/-- in an address -/
def hrS (q : Nat) : Sx := ⟨if q = 39 then 9 else 8, [97], false, [104, 114, 101, 102], [], 0⟩
def hrC (q : Nat) (u : Int) : Cx := ⟨hrS q, false, 1, u, 0⟩
theorem hr_zone {q : Nat} (hq : q = 34 ∨ q = 39) : zoneX (hrS q) = 1 := by rcases hq with rfl | rfl <;> decide +kernel
theorem hr_at {q b : Nat} (hq : q = 34 ∨ q = 39) (u : Int) (ref : Bool) (h : b ≠ q) : stepC ⟨hrS q, ref, 1, u, 0⟩ b = match addressX u b with
    | none => .error 2003
    | some v => .ok ⟨hrS q, b == 38 || (ref && wordB b), 1, v, 0⟩ := by
  have e : stepX (hrS q) b = hrS q := by
    rcases hq with rfl | rfl <;> simp [hrS, stepX, quotedX, attrX, h]
  have hr : referredX (hrS q) = true := by rcases hq with rfl | rfl <;> decide +kernel
  rw [exact_step (c := ⟨hrS q, ref, 1, u, 0⟩) e (by rw [hr_zone hq]; decide) rfl, hr]
  simp
theorem hr_step {q b : Nat} (hq : q = 34 ∨ q = 39) (u : Int) (h : b ≠ q) (h2 : b ≠ 38) : stepC (hrC q u) b = match addressX u b with
    | none => .error 2003
    | some v => .ok (hrC q v) := by
  have := hr_at hq u false h
  rw [show hrC q u = ⟨hrS q, false, 1, u, 0⟩ from rfl, this]
  have e : (b == 38) = false := beq_eq_false_iff_ne.2 h2
  simp [e, hrC]
theorem open_steps {q : Nat} (hq : q = 34 ∨ q = 39) : ∀ (t : List UInt8) (u : Int), (u = 3 ∨ u = 4) → (∀ b ∈ t, b.toNat ≠ q ∧ b.toNat ≠ 38) → ∃ v : Int, (v = 3 ∨ v = 4) ∧ stepsC (hrC q u) t = .ok (hrC q v)
  | [], u, hu, _ => ⟨u, hu, rfl⟩
  | b :: r, u, hu, h => by
    obtain ⟨h1, h2⟩ := h b (by simp)
    have ha : ∃ v : Int, (v = 3 ∨ v = 4) ∧ addressX u b.toNat = some v := by
      by_cases h3 : b.toNat = 63 ∨ b.toNat = 35
      · refine ⟨4, .inr rfl, ?_⟩
        rcases hu with rfl | rfl <;> simp [addressX, h3]
      · refine ⟨u, hu, ?_⟩
        rcases hu with rfl | rfl <;> simp [addressX, h3]
    obtain ⟨v, hv, hav⟩ := ha
    obtain ⟨x, hx, hs⟩ := open_steps hq r v hv fun y hy => h y (by simp [hy])
    exact ⟨x, hx, by rw [stepsC, hr_step hq u h1 h2, hav]; exact hs⟩
/-- behind such a place any text may come -/
theorem open_any {q : Nat} (hq : q = 34 ∨ q = 39) : ∀ (t : List UInt8) (u : Int) (ref : Bool), (u = 3 ∨ u = 4) → (∀ b ∈ t, b.toNat ≠ q) → ∃ d, stepsC ⟨hrS q, ref, 1, u, 0⟩ t = .ok d
  | [], u, ref, hu, _ => ⟨_, rfl⟩
  | b :: r, u, ref, hu, h => by
    have h1 := h b (by simp)
    have ha : ∃ v : Int, (v = 3 ∨ v = 4) ∧ addressX u b.toNat = some v := by
      by_cases h3 : b.toNat = 63 ∨ b.toNat = 35
      · refine ⟨4, .inr rfl, ?_⟩
        rcases hu with rfl | rfl <;> simp [addressX, h3]
      · refine ⟨u, hu, ?_⟩
        rcases hu with rfl | rfl <;> simp [addressX, h3]
    obtain ⟨v, hv, hav⟩ := ha
    obtain ⟨d, hd⟩ := open_any hq r v (b.toNat == 38 || (ref && wordB b.toNat)) hv fun y hy => h y (by simp [hy])
    exact ⟨d, by rw [stepsC, hr_at hq u ref h1, hav]; exact hd⟩
def headsL : List (List UInt8) := [[47], [120, 47], [120, 58], [63], [35], [120, 63], [32, 47], [58], [106, 97, 118, 97, 115, 99, 114, 105, 112, 116, 58]]
def headL (n : Nat) : List UInt8 := headsL.getD n []
def hrP : List UInt8 := [60, 97, 32, 104, 114, 101, 102, 61]
theorem open_hole {u : Int} (hu : u = 3 ∨ u = 4) : holeC (hrC 39 u) = .ok (2, hrC 39 u) := by rcases hu with rfl | rfl <;> kernel_rfl
theorem paths_plain (n : Nat) (hn : n ≤ 8) (t : List UInt8) (ht : ∀ b ∈ t, b.toNat ≠ 39 ∧ b.toNat ≠ 38) : ∃ u : Int, (u = 3 ∨ u = 4) ∧ textC cx0 (hrP ++ [39] ++ headL n ++ t) = .ok (hrC 39 u) ∧ holeC (hrC 39 u) = .ok (2, hrC 39 u) := by
  have hh : ∃ u : Int, (u = 3 ∨ u = 4) ∧ stepsC cx0 (hrP ++ [39] ++ headL n) = .ok (hrC 39 u) := by
    rcases (show n = 0 ∨ n = 1 ∨ n = 2 ∨ n = 3 ∨ n = 4 ∨ n = 5 ∨ n = 6 ∨ n = 7 ∨ n = 8 by omega) with rfl | rfl | rfl | rfl | rfl | rfl | rfl | rfl | rfl
    · exact ⟨3, by decide, by kernel_rfl⟩
    · exact ⟨3, by decide, by kernel_rfl⟩
    · exact ⟨3, by decide, by kernel_rfl⟩
    · exact ⟨4, by decide, by kernel_rfl⟩
    · exact ⟨4, by decide, by kernel_rfl⟩
    · exact ⟨4, by decide, by kernel_rfl⟩
    · exact ⟨3, by decide, by kernel_rfl⟩
    · exact ⟨3, by decide, by kernel_rfl⟩
    · exact ⟨3, by decide, by kernel_rfl⟩
  obtain ⟨u, hu, h1⟩ := hh
  obtain ⟨v, hv, h2⟩ := open_steps (.inr rfl) t u hu ht
  exact ⟨v, hv, by rw [textC_0, stepsC_cat h1, h2], open_hole hv⟩
/-- what comes first: a : or a &; a / ? or #; none of them -/
def heldR : List UInt8 → Option Bool
  | [] => none
  | b :: r => if b.toNat = 58 ∨ b.toNat = 38 then some true else if b.toNat = 47 ∨ b.toNat = 63 ∨ b.toNat = 35 then some false else heldR r
theorem held_plain {q : Nat} (hq : q = 34 ∨ q = 39) : ∀ (t : List UInt8), (∀ b ∈ t, b.toNat ≠ q) → (heldR t = some true → stepsC (hrC q 2) t = .error 2003) ∧ (heldR t = some false → ∃ d, stepsC (hrC q 2) t = .ok d) ∧ (heldR t = none → stepsC (hrC q 2) t = .ok (hrC q 2))
  | [], _ => ⟨(fun h => by cases h), (fun h => by cases h), fun _ => rfl⟩
  | b :: r, h => by
    have h1 := h b (by simp)
    have hr : ∀ y ∈ r, y.toNat ≠ q := fun y hy => h y (by simp [hy])
    have ih := held_plain hq r hr
    rw [heldR, stepsC, show hrC q 2 = ⟨hrS q, false, 1, 2, 0⟩ from rfl, hr_at hq 2 false h1]
    by_cases h2 : b.toNat = 58 ∨ b.toNat = 38
    · have ha : addressX 2 b.toNat = none := by rcases h2 with h2 | h2 <;> simp [addressX, h2]
      rw [if_pos h2, ha]
      exact ⟨fun _ => rfl, (fun h => by cases h), (fun h => by cases h)⟩
    · rw [if_neg h2]
      by_cases h3 : b.toNat = 47 ∨ b.toNat = 63 ∨ b.toNat = 35
      · have ha : ∃ v : Int, (v = 3 ∨ v = 4) ∧ addressX 2 b.toNat = some v := by
          rcases h3 with h3 | h3 | h3
          · exact ⟨3, .inl rfl, by simp [addressX, h3]⟩
          · exact ⟨4, .inr rfl, by simp [addressX, h3]⟩
          · exact ⟨4, .inr rfl, by simp [addressX, h3]⟩
        obtain ⟨v, hv, hav⟩ := ha
        rw [if_pos h3, hav]
        exact ⟨(fun h => by cases h), fun _ => open_any hq r v _ hv hr, (fun h => by cases h)⟩
      · have ha : addressX 2 b.toNat = some 2 := by
          have e1 : (b.toNat == 38) = false := beq_eq_false_iff_ne.2 (by omega)
          have e2 : (b.toNat == 58) = false := beq_eq_false_iff_ne.2 (by omega)
          have e3 : (b.toNat == 47) = false := beq_eq_false_iff_ne.2 (by omega)
          have e4 : ¬ (b.toNat = 63 ∨ b.toNat = 35) := by omega
          simp [addressX, e1, e2, e3, e4]
        have e1 : (b.toNat == 38) = false := beq_eq_false_iff_ne.2 (by omega)
        rw [if_neg h3, ha, e1]
        exact ih
theorem held_begin {q : UInt8} (hq : q.toNat = 34 ∨ q.toNat = 39) : textC cx0 (hrP ++ [q]) = .ok (hrC q.toNat 0) ∧ holeC (hrC q.toNat 0) = .ok (1, hrC q.toNat 2) ∧ holeC (hrC q.toNat 2) = .ok (2, hrC q.toNat 2) ∧ mayX (hrC q.toNat 2) = true := by
  have hqq : q = 34 ∨ q = 39 := by
    rcases hq with h | h
    · exact .inl (UInt8.toNat_inj.1 h)
    · exact .inr (UInt8.toNat_inj.1 h)
  rcases hqq with rfl | rfl <;> exact ⟨by kernel_rfl, by kernel_rfl, by kernel_rfl, by kernel_rfl⟩
/-- contexts that are none -/
def formC (n : Nat) (d : Nat) : Cx :=
  let s := hrS 39
  match n with
  | 0 => ⟨{ s with pl := 22 + d }, false, 1, 1, 0⟩
  | 1 => ⟨{ s with pl := -d }, false, 1, 1, 0⟩
  | 2 => ⟨{ s with held := [115, 99, 114, 105, 112, 116] }, false, 1, 1, 0⟩
  | 3 => ⟨{ s with rd := d }, false, 1, 1, 0⟩
  | 4 => ⟨{ s with nm := List.replicate (32 + d) 0 }, false, 1, 1, 0⟩
  | 5 => ⟨s, false, 0, 1, 0⟩
  | 6 => ⟨s, false, 1, 4 + d, 0⟩
  | 7 => ⟨s, false, 1, 1, 1⟩
  | 8 => ⟨{ s with attr := [116, 105, 116, 108, 101] }, false, 1, 1, 0⟩
  | 9 => ⟨{ s with fin := true }, false, 1, 1, 0⟩
  | 10 => ⟨atX 0, false, 2, 0, 0⟩
  | 11 => ⟨⟨19, [], false, [], [112], 0⟩, false, 0, 0, 0⟩
  | 12 => ⟨⟨19, [], false, [], [115, 99, 114, 105, 112, 116], 0⟩, false, 0, 0, 0⟩
  | _ => ⟨atX 1, true, 0, 0, 0⟩
theorem form_no (n d : Nat) (hn : n ≤ 13) (h1 : 1 ≤ d) (h2 : d ≤ 32) : mayX (formC n d) = false := by
  have key : ∀ n : Fin 14, ∀ d : Fin 32, mayX (formC n.val (1 + d.val)) = false := by decide +kernel
  have := key ⟨n, by omega⟩ ⟨d - 1, by omega⟩
  simpa [show 1 + (d - 1) = d by omega] using this
theorem form_at : textC cx0 (hrP ++ [39, 120]) = .ok (hrC 39 1) := by kernel_rfl
/-- holes by hand -/
def pagesL : List (List UInt8) := [[], [120], [60, 98, 62], [97, 38, 108, 116, 59], [60, 116, 105, 116, 108, 101, 62], [60, 116, 101, 120, 116, 97, 114, 101, 97, 62, 120], [60, 112, 32, 116, 105, 116, 108, 101, 61, 34], [60, 112, 32, 116, 105, 116, 108, 101, 61, 39, 97], [60, 47, 112, 32, 116, 105, 116, 108, 101, 61, 39], [60, 97, 32, 104, 114, 101, 102, 61, 39, 47], [60, 97, 32, 104, 114, 101, 102, 61, 39, 120, 58], [60, 97, 32, 104, 114, 101, 102, 61, 39, 63], [60, 97, 32, 104, 114, 101, 102, 61, 39, 32], [60, 98, 32, 111, 110, 120, 61, 34], [60, 98, 32, 111, 110, 120, 61, 34, 39], [60, 98, 32, 111, 110, 120, 61, 39, 34, 97, 92, 34], [60, 98, 32, 115, 116, 121, 108, 101, 61, 39], [60, 115, 99, 114, 105, 112, 116, 62], [60, 115, 99, 114, 105, 112, 116, 62, 39], [60, 115, 99, 114, 105, 112, 116, 62, 47, 47, 10], [60, 115, 99, 114, 105, 112, 116, 62, 47, 42, 42, 47], [60, 115, 116, 121, 108, 101, 62], [60, 115, 116, 121, 108, 101, 62, 47, 42, 32, 42, 47], [60, 115, 99, 114, 105, 112, 116, 62, 120, 60, 98], [38, 97, 109, 112], [97, 38, 35, 49], [60, 116, 105, 116, 108, 101, 62, 38], [60, 112, 32, 116, 105, 116, 108, 101, 61, 39, 38], [60], [60, 47], [60, 112], [60, 112, 32], [60, 112, 32, 97], [60, 112, 32, 97, 32], [60, 112, 32, 97, 61], [60, 112, 32, 97, 61, 120], [60, 112, 32, 97, 61, 39, 120, 39], [60, 112, 47], [60, 33], [60, 33, 45], [60, 33, 45, 45], [60, 33, 45, 45, 32, 45], [60, 33, 45, 45, 32, 45, 45], [60, 33, 120], [60, 115, 99, 114, 105, 112, 116, 62, 60], [60, 115, 99, 114, 105, 112, 116, 62, 60, 47], [60, 115, 99, 114, 105, 112, 116, 62, 60, 47, 115], [60, 116, 105, 116, 108, 101, 62, 60, 47, 116, 105, 116, 108, 101], [60, 97, 32, 104, 114, 101, 102, 61, 39, 120], [60, 97, 32, 104, 114, 101, 102, 61, 39, 38], [60, 115, 99, 114, 105, 112, 116, 62, 47], [60, 115, 99, 114, 105, 112, 116, 62, 47, 47], [60, 115, 99, 114, 105, 112, 116, 62, 47, 42], [60, 115, 99, 114, 105, 112, 116, 62, 47, 97, 47], [60, 115, 99, 114, 105, 112, 116, 62, 96], [60, 115, 99, 114, 105, 112, 116, 62, 39, 92], [60, 115, 99, 114, 105, 112, 116, 62, 39, 10], [60, 115, 116, 121, 108, 101, 62, 39], [60, 115, 116, 121, 108, 101, 62, 92], [60, 98, 32, 111, 110, 120, 61, 39, 38, 59], [60, 98, 32, 115, 116, 121, 108, 101, 61, 39, 34]]
def pageL (n : Nat) : List UInt8 := pagesL.getD n []
def holeOfL (l : List UInt8) : Int × Nat := match textC cx0 l with
  | .error e => (-1, e)
  | .ok c => match holeC c with
    | .error e => (0, e)
    | .ok p => (p.1, 0)
def escsL : List Int := [0, 0, 0, 0, 0, 0, 0, 0, 0, 2, 2, 2, 1, 6, 7, 7, 8, 3, 4, 3, 3, 5, 5, 3]
def wantH (n : Nat) : Int × Nat := if n < 24 then (escsL.getD n 0, 0) else if n < 28 then (0, 2002) else if n < 48 then (0, 2001) else if n = 48 then (0, 2003) else if n = 49 then (-1, 2003) else (0, 2004)
theorem holes_plain (n : Nat) (hn : n ≤ 60) : holeOfL (pageL n) = wantH n := by
  have key : ∀ n : Fin 61, holeOfL (pageL n.val) = wantH n.val := by decide +kernel
  exact key ⟨n, by omega⟩
end Go.Proofs.YtafkfamfhagokaaGreatDoor.S
