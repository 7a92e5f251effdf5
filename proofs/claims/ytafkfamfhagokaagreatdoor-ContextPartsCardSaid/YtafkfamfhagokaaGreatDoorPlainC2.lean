/-
  PLAIN: a context that may be stays one that may be.
-/
import Derived.Test.YtafkfamfhagokaaGreatDoorPlainC
set_option linter.unusedVariables false
set_option linter.unusedSimpArgs false
namespace Go.Proofs.YtafkfamfhagokaaGreatDoor.S

theorem moreX_len (n : List UInt8) (c : Nat) (h : n.length ≤ 32) : (moreX n c).length ≤ 32 := by
  unfold moreX
  split
  · exact h
  · simp; omega
theorem sameX_refl (s : Sx) : sameX s s = true := by simp [sameX]
theorem elemK_le (n : List UInt8) : elemK n ≤ 4 := by
  unfold elemK
  repeat' split
  all_goals omega
/-- what 'stateMayX' says -/
theorem stateMay_iff (s : Sx) : stateMayX s = true ↔ 0 ≤ s.pl ∧ s.pl ≤ 22 ∧ sameX s (cleanX s) = true ∧ s.nm.length ≤ 32 ∧ s.attr.length ≤ 32 ∧ (s.pl < 19 ∨ (2 ≤ elemK s.held ∧ 0 ≤ s.rd ∧ s.rd ≤ s.held.length)) := by
  have hk := elemK_le s.held
  unfold stateMayX codedX holdsK
  generalize sameX s (cleanX s) = q
  cases q with
  | false => simp
  | true =>
  by_cases h19 : s.pl < 19
  · simp [h19]
    omega
  · by_cases h22 : 22 < s.pl
    · simp [h22]; omega
    · have h2 : ¬ (s.pl < 19 ∨ 22 < s.pl) := by omega
      simp only [if_neg h2]
      have h3 : (elemK s.held == 3 || elemK s.held == 4 || elemK s.held == 2) = decide (2 ≤ elemK s.held) := by
        rw [Bool.eq_iff_iff]; simp; omega
      simp [h19, h22, h3]
      omega
theorem okS_at (x : Int) (h0 : 0 ≤ x) (h1 : x < 19) : stateMayX (atX x) = true := by
  have hc : cleanX (atX x) = atX x := by
    unfold cleanX atX attrX inX
    dsimp only
    split
    · rfl
    · split
      · rfl
      · split
        · omega
        · rfl
  rw [stateMay_iff, hc, sameX_refl]
  simp [atX]
  omega
theorem okS_in (s : Sx) (x : Int) (h0 : 3 ≤ x) (h1 : x ≤ 12) (hn : s.nm.length ≤ 32) : stateMayX (inX s x) = true := by
  have hc : cleanX (inX s x) = inX s x := by
    unfold cleanX inX attrX
    dsimp only
    split
    · rfl
    · rw [if_pos ⟨h0, h1⟩]
  rw [stateMay_iff, hc, sameX_refl]
  simp [inX]
  omega
theorem okS_attr (s : Sx) (x : Int) (n : List UInt8) (h0 : 5 ≤ x) (h1 : x ≤ 10) (hn : s.nm.length ≤ 32) (ha : n.length ≤ 32) : stateMayX (attrX s x n) = true := by
  have hc : cleanX (attrX s x n) = attrX s x n := by
    unfold cleanX attrX
    dsimp only
    rw [if_pos ⟨h0, h1⟩]
  rw [stateMay_iff, hc, sameX_refl]
  simp [attrX]
  omega
theorem okS_tag (n : List UInt8) (f : Bool) (hn : n.length ≤ 32) : stateMayX ⟨3, n, f, [], [], 0⟩ = true := okS_in ⟨0, n, f, [], [], 0⟩ 3 (by omega) (by omega) hn
theorem okS_held (x r : Int) (hd : List UInt8) (h0 : 19 ≤ x) (h1 : x ≤ 22) (hr : x ≠ 22 → r = 0) (hk : 2 ≤ elemK hd) (r0 : 0 ≤ r) (r1 : r ≤ hd.length) : stateMayX ⟨x, [], false, [], hd, r⟩ = true := by
  have hc : cleanX ⟨x, [], false, [], hd, r⟩ = ⟨x, [], false, [], hd, r⟩ := by
    unfold cleanX
    dsimp only
    rw [if_neg (by omega), if_neg (by omega), if_pos ⟨h0, h1⟩]
    by_cases hx : x = 22
    · rw [if_pos hx]
    · rw [if_neg hx, hr hx]
  rw [stateMay_iff, hc, sameX_refl]
  simp
  omega
theorem okS_closes (s : Sx) (hn : s.nm.length ≤ 32) : stateMayX (closesX s) = true := by
  unfold closesX
  split
  · exact okS_at 0 (by omega) (by omega)
  · rename_i h
    exact okS_held 19 0 s.nm (by omega) (by omega) (fun _ => rfl) (by omega) (by omega) (by omega)
theorem okS_between {s o : Sx} {c : Nat} {x : Int} (h : betweenX s c x = some o) (hn : s.nm.length ≤ 32) (hx : blankB c = false ∨ (3 ≤ x ∧ x ≤ 12)) : stateMayX o = true := by
  unfold betweenX at h
  split at h
  · rename_i hb
    obtain rfl := Option.some.inj h
    rcases hx with hx | hx
    · rw [hb] at hx; cases hx
    · exact okS_in s x hx.1 hx.2 hn
  · split at h
    · obtain rfl := Option.some.inj h
      exact okS_in s 12 (by omega) (by omega) hn
    · split at h
      · obtain rfl := Option.some.inj h
        exact okS_closes s hn
      · cases h
theorem okS_data (c : Nat) : stateMayX (dataX c) = true := by
  unfold dataX
  split
  · exact okS_at 1 (by omega) (by omega)
  · exact okS_at 0 (by omega) (by omega)
theorem okS_either (b : Bool) (x y : Int) (h0 : 0 ≤ x) (h1 : x < 19) (h2 : 0 ≤ y) (h3 : y < 19) : stateMayX (eitherX b x y) = true := by
  unfold eitherX
  split
  · exact okS_at x h0 h1
  · exact okS_at y h2 h3
theorem okS_bangs (c : Nat) (x : Int) (h0 : 0 ≤ x) (h1 : x < 19) : stateMayX (bangsX c x) = true := by
  unfold bangsX
  split
  · exact okS_at x h0 h1
  · split
    · exact okS_at 0 (by omega) (by omega)
    · exact okS_at 18 (by omega) (by omega)
theorem okS_begins (s : Sx) (c : Nat) (hn : s.nm.length ≤ 32) : stateMayX (beginsX s c) = true := by
  unfold beginsX
  split
  · rename_i o ho
    exact okS_between ho hn (.inr ⟨by omega, by omega⟩)
  · exact okS_attr s 5 _ (by omega) (by omega) hn (moreX_len _ _ (by simp))
theorem okS_names (s : Sx) (c : Nat) (n : List UInt8) (hn : s.nm.length ≤ 32) (ha : s.attr.length ≤ 32) (hm : n.length ≤ 32) : stateMayX (namesX s c n) = true := by
  unfold namesX
  split
  · exact okS_attr s 6 _ (by omega) (by omega) hn ha
  · rename_i hb
    split
    · exact okS_attr s 7 _ (by omega) (by omega) hn ha
    · split
      · rename_i o ho
        exact okS_between ho hn (.inl (by simpa using hb))
      · exact okS_attr s 5 _ (by omega) (by omega) hn (moreX_len _ _ hm)
theorem okS_quoted (s : Sx) (c q : Nat) (h8 : s.pl = 8 ∨ s.pl = 9) (hn : s.nm.length ≤ 32) (ha : s.attr.length ≤ 32) : stateMayX (quotedX s c q) = true := by
  unfold quotedX
  split
  · exact okS_in s 11 (by omega) (by omega) hn
  · exact okS_attr s _ _ (by omega) (by omega) hn ha
theorem okS_holds (s : Sx) (c : Nat) (hk : 2 ≤ elemK s.held) : stateMayX (holdsX s c) = true := by
  unfold holdsX
  split
  · exact okS_held 20 0 s.held (by omega) (by omega) (fun _ => rfl) hk (by omega) (by omega)
  · exact okS_held 19 0 s.held (by omega) (by omega) (fun _ => rfl) hk (by omega) (by omega)
theorem okS_reads (s : Sx) (c : Nat) (r : Int) (hk : 2 ≤ elemK s.held) : stateMayX (readsX s c r) = true := by
  unfold readsX
  split
  · rename_i h
    exact okS_held 22 (r + 1) s.held (by omega) (by omega) (fun h => absurd rfl h) hk (by omega) (by omega)
  · exact okS_holds s c hk
theorem elem_len (n : List UInt8) (h : 2 ≤ elemK n) : n.length ≤ 32 := by
  unfold elemK at h
  split at h
  · omega
  split at h
  · rename_i h1
    rcases h1 with rfl | rfl <;> decide
  split at h
  · rename_i h1
    subst h1; decide
  split at h
  · rename_i h1
    subst h1; decide
  · omega
theorem step_0 {s : Sx} (h : s.pl = 0) (c : Nat) : stepX s c = dataX c := by simp [stepX, h]
theorem step_1 {s : Sx} (h : s.pl = 1) (c : Nat) : stepX s c = tagOpenX c := by simp [stepX, h]
theorem step_2 {s : Sx} (h : s.pl = 2) (c : Nat) : stepX s c = endOpenX c := by simp [stepX, h]
theorem step_3 {s : Sx} (h : s.pl = 3) (c : Nat) : stepX s c = tagNameX s c := by simp [stepX, h]
theorem step_4 {s : Sx} (h : s.pl = 4) (c : Nat) : stepX s c = beginsX s c := by simp [stepX, h]
theorem step_5 {s : Sx} (h : s.pl = 5) (c : Nat) : stepX s c = namesX s c s.attr := by simp [stepX, h]
theorem step_6 {s : Sx} (h : s.pl = 6) (c : Nat) : stepX s c = namesX s c [] := by simp [stepX, h]
theorem step_7 {s : Sx} (h : s.pl = 7) (c : Nat) : stepX s c = beforeValueX s c := by simp [stepX, h]
theorem step_8 {s : Sx} (h : s.pl = 8) (c : Nat) : stepX s c = quotedX s c 34 := by simp [stepX, h]
theorem step_9 {s : Sx} (h : s.pl = 9) (c : Nat) : stepX s c = quotedX s c 39 := by simp [stepX, h]
theorem step_10 {s : Sx} (h : s.pl = 10) (c : Nat) : stepX s c = bareX s c := by simp [stepX, h]
theorem step_11 {s : Sx} (h : s.pl = 11) (c : Nat) : stepX s c = beginsX s c := by simp [stepX, h]
theorem step_12 {s : Sx} (h : s.pl = 12) (c : Nat) : stepX s c = beginsX s c := by simp [stepX, h]
theorem step_13 {s : Sx} (h : s.pl = 13) (c : Nat) : stepX s c = bangsX c 14 := by simp [stepX, h]
theorem step_14 {s : Sx} (h : s.pl = 14) (c : Nat) : stepX s c = bangsX c 15 := by simp [stepX, h]
theorem step_15 {s : Sx} (h : s.pl = 15) (c : Nat) : stepX s c = eitherX (c == 45) 16 15 := by simp [stepX, h]
theorem step_16 {s : Sx} (h : s.pl = 16) (c : Nat) : stepX s c = eitherX (c == 45) 17 15 := by simp [stepX, h]
theorem step_17 {s : Sx} (h : s.pl = 17) (c : Nat) : stepX s c = commentEndX c := by simp [stepX, h]
theorem step_18 {s : Sx} (h : s.pl = 18) (c : Nat) : stepX s c = eitherX (c == 62) 0 18 := by simp [stepX, h]
theorem step_19 {s : Sx} (h : s.pl = 19) (c : Nat) : stepX s c = holdsX s c := by simp [stepX, h]
theorem step_20 {s : Sx} (h : s.pl = 20) (c : Nat) : stepX s c = heldLtX s c := by simp [stepX, h]
theorem step_21 {s : Sx} (h : s.pl = 21) (c : Nat) : stepX s c = readsX s c 0 := by simp [stepX, h]
theorem step_22 {s : Sx} (h : s.pl = 22) (c : Nat) : stepX s c = heldNameX s c := by simp [stepX, h]
theorem okS_step (s : Sx) (c : Nat) (h : stateMayX s = true) : stateMayX (stepX s c) = true := by
  have h' := (stateMay_iff s).1 h
  obtain ⟨p0, p22, -, hn, ha, hh⟩ := h'
  rcases (show s.pl = 0 ∨ s.pl = 1 ∨ s.pl = 2 ∨ s.pl = 3 ∨ s.pl = 4 ∨ s.pl = 5 ∨ s.pl = 6 ∨ s.pl = 7 ∨ s.pl = 8 ∨ s.pl = 9 ∨ s.pl = 10 ∨ s.pl = 11 ∨ s.pl = 12 ∨ s.pl = 13 ∨ s.pl = 14 ∨ s.pl = 15 ∨ s.pl = 16 ∨ s.pl = 17 ∨ s.pl = 18 ∨ s.pl = 19 ∨ s.pl = 20 ∨ s.pl = 21 ∨ s.pl = 22 by omega) with hp | hp | hp | hp | hp | hp | hp | hp | hp | hp | hp | hp | hp | hp | hp | hp | hp | hp | hp | hp | hp | hp | hp
  · rw [step_0 hp]
    exact okS_data c
  · rw [step_1 hp]
    unfold tagOpenX
    split
    · exact okS_tag _ _ (moreX_len _ _ (by simp))
    split
    · exact okS_at 2 (by omega) (by omega)
    split
    · exact okS_at 13 (by omega) (by omega)
    · exact okS_data c
  · rw [step_2 hp]
    unfold endOpenX
    split
    · exact okS_tag _ _ (moreX_len _ _ (by simp))
    · exact okS_data c
  · rw [step_3 hp]
    unfold tagNameX
    split
    · rename_i o ho
      exact okS_between ho hn (.inr ⟨by omega, by omega⟩)
    · exact okS_tag _ _ (moreX_len _ _ hn)
  · rw [step_4 hp]
    exact okS_begins s c hn
  · rw [step_5 hp]
    exact okS_names s c _ hn ha ha
  · rw [step_6 hp]
    exact okS_names s c _ hn ha (by simp)
  · rw [step_7 hp]
    unfold beforeValueX
    split
    · exact okS_attr s 7 _ (by omega) (by omega) hn ha
    split
    · exact okS_attr s 8 _ (by omega) (by omega) hn ha
    split
    · exact okS_attr s 9 _ (by omega) (by omega) hn ha
    split
    · exact okS_closes s hn
    · exact okS_attr s 10 _ (by omega) (by omega) hn ha
  · rw [step_8 hp]
    exact okS_quoted s c 34 (by omega) hn ha
  · rw [step_9 hp]
    exact okS_quoted s c 39 (by omega) hn ha
  · rw [step_10 hp]
    unfold bareX
    split
    · exact okS_in s 4 (by omega) (by omega) hn
    split
    · exact okS_closes s hn
    · exact okS_attr s 10 _ (by omega) (by omega) hn ha
  · rw [step_11 hp]
    exact okS_begins s c hn
  · rw [step_12 hp]
    exact okS_begins s c hn
  · rw [step_13 hp]
    exact okS_bangs c 14 (by omega) (by omega)
  · rw [step_14 hp]
    exact okS_bangs c 15 (by omega) (by omega)
  · rw [step_15 hp]
    exact okS_either _ _ _ (by omega) (by omega) (by omega) (by omega)
  · rw [step_16 hp]
    exact okS_either _ _ _ (by omega) (by omega) (by omega) (by omega)
  · rw [step_17 hp]
    unfold commentEndX
    split
    · exact okS_at 0 (by omega) (by omega)
    · exact okS_either _ _ _ (by omega) (by omega) (by omega) (by omega)
  · rw [step_18 hp]
    exact okS_either _ _ _ (by omega) (by omega) (by omega) (by omega)
  · rw [step_19 hp]
    exact okS_holds s c (by omega)
  · rw [step_20 hp]
    unfold heldLtX
    split
    · exact okS_held 21 0 s.held (by omega) (by omega) (fun _ => rfl) (by omega) (by omega) (by omega)
    · exact okS_holds s c (by omega)
  · rw [step_21 hp]
    exact okS_reads s c 0 (by omega)
  · rw [step_22 hp]
    unfold heldNameX
    split
    · exact okS_reads s c _ (by omega)
    · split
      · rename_i o ho
        exact okS_between ho (elem_len s.held (by omega)) (.inr ⟨by omega, by omega⟩)
      · exact okS_holds s c (by omega)
theorem between_pl {s o : Sx} {c : Nat} (h : betweenX s c 4 = some o) (hf : s.fin = true) : o.pl = 4 ∨ o.pl = 12 ∨ o.pl = 0 := by
  unfold betweenX at h
  split at h
  · obtain rfl := Option.some.inj h; exact .inl rfl
  · split at h
    · obtain rfl := Option.some.inj h; exact .inr (.inl rfl)
    · split at h
      · obtain rfl := Option.some.inj h
        unfold closesX
        rw [if_pos (.inl hf)]
        exact .inr (.inr rfl)
      · cases h
theorem holds_pl (s : Sx) (c : Nat) : 19 ≤ (holdsX s c).pl ∧ (holdsX s c).pl ≤ 22 ∧ (holdsX s c).held = s.held := by
  unfold holdsX heldX
  split <;> exact ⟨by dsimp only; omega, by dsimp only; omega, rfl⟩
theorem reads_pl (s : Sx) (c : Nat) (r : Int) : 19 ≤ (readsX s c r).pl ∧ (readsX s c r).pl ≤ 22 ∧ (readsX s c r).held = s.held := by
  unfold readsX
  split
  · exact ⟨by dsimp only; omega, by dsimp only; omega, rfl⟩
  · exact holds_pl s c
theorem held_step (s : Sx) (c : Nat) (h0 : 19 ≤ s.pl) (h1 : s.pl ≤ 22) : (19 ≤ (stepX s c).pl ∧ (stepX s c).pl ≤ 22 ∧ (stepX s c).held = s.held) ∨ ((stepX s c).pl = 4 ∨ (stepX s c).pl = 12 ∨ (stepX s c).pl = 0) := by
  have hp : s.pl = 19 ∨ s.pl = 20 ∨ s.pl = 21 ∨ s.pl = 22 := by omega
  rcases hp with h | h | h | h
  · have e : stepX s c = holdsX s c := by simp [stepX, h]
    rw [e]; exact .inl (holds_pl s c)
  · have e : stepX s c = heldLtX s c := by simp [stepX, h]
    rw [e]
    unfold heldLtX
    split
    · exact .inl ⟨by simp [heldX], by simp [heldX], rfl⟩
    · exact .inl (holds_pl s c)
  · have e : stepX s c = readsX s c 0 := by simp [stepX, h]
    rw [e]; exact .inl (reads_pl s c 0)
  · have e : stepX s c = heldNameX s c := by simp [stepX, h]
    rw [e]
    unfold heldNameX
    split
    · exact .inl (reads_pl s c _)
    · split
      · rename_i o ho
        exact .inr (between_pl ho rfl)
      · exact .inl (holds_pl s c)
theorem zone_1 {s : Sx} (h : zoneX s = 1) : s.pl = 8 ∨ s.pl = 9 := by
  unfold zoneX at h
  split at h
  · rename_i h1
    simpa [inQuotes] using h1
  · split at h <;> cases h
theorem zone_2 {s : Sx} (h : zoneX s = 2) : (19 ≤ s.pl ∧ s.pl ≤ 22) ∧ inQuotes s = false := by
  unfold zoneX at h
  split at h
  · cases h
  · rename_i h1
    refine ⟨?_, by simpa using h1⟩
    split at h
    · rename_i h2
      unfold codedX holdsK at h2
      by_cases h3 : s.pl < 19 ∨ 22 < s.pl
      · rw [if_pos h3] at h2; cases h2
      · omega
    · cases h
theorem zone_le (s : Sx) : zoneX s ≤ 2 := by
  unfold zoneX
  repeat' split
  all_goals omega
theorem kind_held {s t : Sx} (hs : 19 ≤ s.pl ∧ s.pl ≤ 22) (ht : 19 ≤ t.pl ∧ t.pl ≤ 22) (h : t.held = s.held) : kindX t = kindX s := by
  have q1 : inQuotes s = false := by unfold inQuotes; simp; omega
  have q2 : inQuotes t = false := by unfold inQuotes; simp; omega
  unfold kindX holdsK
  rw [q1, q2, if_neg (show ¬ (s.pl < 19 ∨ 22 < s.pl) by omega), if_neg (show ¬ (t.pl < 19 ∨ 22 < t.pl) by omega), h]
  rfl
theorem kind_keep (s : Sx) (c : Nat) (h0 : zoneX (stepX s c) ≠ 0) (h : zoneX (stepX s c) = zoneX s) : kindX (stepX s c) = kindX s := by
  have hz := zone_le s
  rcases (show zoneX s = 1 ∨ zoneX s = 2 by omega) with h1 | h1
  · rcases zone_1 h1 with hp | hp
    · have e : stepX s c = quotedX s c 34 := by simp [stepX, hp]
      rw [e] at h h0 ⊢
      unfold quotedX at h h0 ⊢
      split
      · rename_i hc
        rw [if_pos hc] at h0
        exact absurd (by simp [zoneX, inQuotes, inX, codedX, holdsK]) h0
      · simp [kindX, attrX, inQuotes, holdsK, hp]
    · have e : stepX s c = quotedX s c 39 := by simp [stepX, hp]
      rw [e] at h h0 ⊢
      unfold quotedX at h h0 ⊢
      split
      · rename_i hc
        rw [if_pos hc] at h0
        exact absurd (by simp [zoneX, inQuotes, inX, codedX, holdsK]) h0
      · simp [kindX, attrX, inQuotes, holdsK, hp]
  · obtain ⟨⟨a, b⟩, -⟩ := zone_2 h1
    rcases held_step s c a b with ⟨c0, c1, c2⟩ | hq
    · exact kind_held ⟨a, b⟩ ⟨c0, c1⟩ c2
    · exfalso
      have h2 := zone_2 (h.trans h1)
      omega
theorem addressX_range {u : Int} {b : Nat} {v : Int} (h : addressX u b = some v) (h0 : 0 ≤ u) (h1 : u ≤ 4) : 0 ≤ v ∧ v ≤ 4 := by
  unfold addressX at h
  dsimp only at h
  repeat' split at h
  all_goals first | (cases h; done) | (obtain rfl := Option.some.inj h; omega)
theorem langX_range (l : Int) (js : Bool) (b : Nat) : 0 ≤ langX l js b ∧ langX l js b ≤ 9 := by
  unfold langX codeX textLX blockX
  repeat' split
  all_goals omega
/-- what 'mayX' says -/
theorem mayX_iff (c : Cx) : mayX c = true ↔ stateMayX c.st = true ∧ c.kd = (kindX c.st : Int) ∧ (c.ref = true → referredX c.st = true) ∧ (c.kd = 1 ∨ c.url = 0) ∧ ((c.kd = 2 ∨ c.kd = 3) ∨ c.lang = 0) ∧ (0 ≤ c.url ∧ c.url ≤ 4) ∧ (0 ≤ c.lang ∧ c.lang ≤ 9) := by
  unfold mayX
  cases c.ref <;> simp [and_assoc]
theorem mayX_step {c d : Cx} {b : Nat} (h : mayX c = true) (hs : stepC c b = .ok d) : mayX d = true := by
  rw [mayX_iff] at h ⊢
  obtain ⟨h1, h2, h3, h4, h5, h6, h7⟩ := h
  have ho := okS_step c.st b h1
  unfold stepC at hs
  dsimp only at hs
  have hr : ∀ x : Bool, (referredX (stepX c.st b) && x) = true → referredX (stepX c.st b) = true := fun x hx => by
    rw [Bool.and_eq_true] at hx; exact hx.1
  split at hs
  · obtain rfl := Except.ok.inj hs
    exact ⟨ho, rfl, hr _, .inr rfl, .inr rfl, ⟨by dsimp only; omega, by dsimp only; omega⟩, ⟨by dsimp only; omega, by dsimp only; omega⟩⟩
  · rename_i hz
    have hk := kind_keep c.st b (fun e => hz (.inl e)) (Classical.byContradiction fun e => hz (.inr e))
    split at hs
    · rename_i hkd
      split at hs
      · cases hs
      · rename_i u hu
        obtain rfl := Except.ok.inj hs
        exact ⟨ho, by rw [hk]; exact h2, hr _, .inl hkd, h5, addressX_range hu h6.1 h6.2, h7⟩
    · split at hs
      · rename_i hn1 hkd
        obtain rfl := Except.ok.inj hs
        refine ⟨ho, by rw [hk]; exact h2, hr _, h4, .inl hkd, h6, ?_⟩
        dsimp only
        split
        · omega
        · exact langX_range _ _ _
      · obtain rfl := Except.ok.inj hs
        exact ⟨ho, by rw [hk]; exact h2, hr _, h4, h5, h6, h7⟩
theorem mayX_steps {l : List UInt8} : ∀ {c d : Cx}, mayX c = true → stepsC c l = .ok d → mayX d = true := by
  induction l with
  | nil => intro c d h hs; obtain rfl := Except.ok.inj hs; exact h
  | cons b r ih =>
    intro c d h hs
    rw [stepsC] at hs
    split at hs
    · cases hs
    · rename_i x hx
      exact ih (mayX_step h hx) hs
theorem mayX_0 : mayX cx0 = true := by decide +kernel
theorem textC_0 (l : List UInt8) : textC cx0 l = stepsC cx0 l := by unfold textC; rw [if_pos mayX_0]
theorem stepsC_append (l m : List UInt8) : ∀ c, stepsC c (l ++ m) = match stepsC c l with | .error e => .error e | .ok d => stepsC d m := by
  induction l with
  | nil => intro c; rfl
  | cons b r ih =>
    intro c
    rw [List.cons_append, stepsC, stepsC]
    cases stepC c b.toNat with
    | error e => rfl
    | ok d => exact ih d
theorem stepsC_cat {l m : List UInt8} {c d : Cx} (h : stepsC c l = .ok d) : stepsC c (l ++ m) = stepsC d m := by rw [stepsC_append, h]
end Go.Proofs.YtafkfamfhagokaaGreatDoor.S
