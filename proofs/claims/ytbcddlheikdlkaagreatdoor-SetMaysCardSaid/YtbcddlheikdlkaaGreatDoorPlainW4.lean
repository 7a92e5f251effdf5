/-
  PLAIN: words that are written are read again (chapter 14).
-/
import Derived.Test.YtbcddlheikdlkaaGreatDoorPlainW3
set_option linter.unusedVariables false
set_option linter.unusedSimpArgs false
namespace Go.Proofs.YtbcddlheikdlkaaGreatDoor.S

/-- a sign within a written text -/
def escB (b : UInt8) : List UInt8 := if b = 34 ∨ b = 92 then [92, b] else if b = 10 then [92, 110] else if b = 9 then [92, 116] else [b]
def escsL (t : List UInt8) : List UInt8 := t.flatMap escB
def dotsL (xs : List (List UInt8)) : List UInt8 := xs.flatMap (46 :: ·)
def numW (z : Int) : List UInt8 := (if z < 0 then [45] else []) ++ decL z.natAbs
/-- a path as it is written, behind what stands -/
def refW (s : List UInt8) (xs : List (List UInt8)) : List UInt8 := if s ++ dotsL xs = [] then [46] else s ++ dotsL xs
/-- a word as it is written -/
def wrL (d : Wd) : List UInt8 :=
  if d.kind = 5 then [124] else if d.kind = 6 then [58, 61] else if d.kind = 3 then numW d.num
  else if d.kind = 4 then 34 :: (escsL d.text ++ [34]) else if d.kind = 2 then refW (36 :: d.text) d.path
  else if d.kind = 0 then d.text else refW [] d.path
/-- words that are read -/
inductive WdOk : Wd → Prop
  | name (x : List UInt8) (h : nameOk x = true) : WdOk ⟨0, x, [], 0⟩
  | field (xs : List (List UInt8)) (h : ∀ x ∈ xs, nameOk x = true) (hl : xs.length ≤ 8) : WdOk ⟨1, [], xs, 0⟩
  | var (x : List UInt8) (xs : List (List UInt8)) (h : nameOk x = true) (hs : ∀ x ∈ xs, nameOk x = true) (hl : xs.length ≤ 8) : WdOk ⟨2, x, xs, 0⟩
  | num (z : Int) (h : z.natAbs ≤ 9007199254740991) : WdOk ⟨3, [], [], z⟩
  | text (t : List UInt8) : WdOk ⟨4, t, [], 0⟩
  | pipe : WdOk ⟨5, [], [], 0⟩
  | set : WdOk ⟨6, [], [], 0⟩

/-! names, paths -/
theorem nmN_all : ∀ (x r : List UInt8), x.all (fun b => wlater b.toNat) = true → nmN r = 0 → nmN (x ++ r) = x.length
  | [], r, _, hr => hr
  | b :: x, r, h, hr => by
    rw [List.all_cons, Bool.and_eq_true] at h
    rw [List.cons_append]
    show (if wlater b.toNat = true then nmN (x ++ r) + 1 else 0) = _
    rw [if_pos h.1, nmN_all x r h.2 hr]
    rfl
theorem nameOk_all {x : List UInt8} (h : nameOk x = true) : x.all (fun b => wlater b.toNat) = true := by
  unfold nameOk at h
  simp only [Bool.and_eq_true] at h
  exact h.2
theorem nameOk_first {x : List UInt8} (h : nameOk x = true) : ∃ b t, x = b :: t ∧ wfirst b.toNat = true := by
  cases x with
  | nil => cases h
  | cons b t =>
    unfold nameOk at h
    simp only [Bool.and_eq_true] at h
    exact ⟨b, t, rfl, h.1.2⟩
theorem nameL_read {x r : List UInt8} (h : nameOk x = true) (hr : nmN r = 0) : nameL (x ++ r) = .ok (x, r) := by
  have hn := nmN_all x r (nameOk_all h) hr
  unfold nameL
  rw [hn, List.take_left, List.drop_left, if_pos h]
theorem nameL_ok {l x r : List UInt8} (h : nameL l = .ok (x, r)) : nameOk x = true ∧ x ++ r = l := by
  unfold nameL at h
  split at h
  · rename_i hok
    injection h with h
    injection h with h1 h2
    subst h1 h2
    exact ⟨hok, List.take_append_drop _ _⟩
  · cases h
theorem pathF_read : ∀ (xs : List (List UInt8)) (n k : Nat) (r : List UInt8), (∀ x ∈ xs, nameOk x = true) → k + xs.length ≤ 8 → xs.length + 1 ≤ n → nmN r = 0 → List.isPrefixOf [46] r = false → pathF n k (dotsL xs ++ r) = .ok (xs, r)
  | [], 0, k, r, _, _, hn, _, _ => by simp at hn
  | [], n + 1, k, r, _, _, _, _, hp => by
    show pathF (n + 1) k r = _
    rw [pathF, hp]
    rfl
  | x :: xs, 0, k, r, _, _, hn, _, _ => by simp at hn
  | x :: xs, n + 1, k, r, h, hk, hn, hr, hp => by
    have e : dotsL (x :: xs) ++ r = 46 :: (x ++ (dotsL xs ++ r)) := by simp [dotsL]
    have h0 : nmN (dotsL xs ++ r) = 0 := by
      cases xs with
      | nil => exact hr
      | cons y ys => rfl
    simp only [List.length_cons] at hk hn
    rw [e, pathF, if_pos (by rfl)]
    show (match nameL (x ++ (dotsL xs ++ r)) with
        | .error e => .error e
        | .ok (x, r) => if k + 1 ≤ 8 then match pathF n (k + 1) r with
            | .error e => .error e
            | .ok (xs, r') => .ok (x :: xs, r')
          else .error 1400) = (.ok (x :: xs, r) : Except Nat (List (List UInt8) × List UInt8))
    rw [nameL_read (h x (by simp)) h0]
    dsimp only
    rw [if_pos (by omega), pathF_read xs n (k + 1) r (fun y hy => h y (by simp [hy])) (by omega) (by omega) hr hp]
theorem pathF_ok : ∀ (n k : Nat) (l : List UInt8) (xs : List (List UInt8)) (r : List UInt8), k ≤ 8 → pathF n k l = .ok (xs, r) → (∀ x ∈ xs, nameOk x = true) ∧ k + xs.length ≤ 8 ∧ dotsL xs ++ r = l
  | 0, k, l, xs, r, hk, h => by cases h; exact ⟨fun x hx => (by cases hx), (by simpa using hk), rfl⟩
  | n + 1, k, l, xs, r, hk, h => by
    rw [pathF] at h
    split at h
    · rename_i hp
      cases hn : nameL (l.drop 1) with
      | error e => rw [hn] at h; cases h
      | ok y =>
        obtain ⟨x, r1⟩ := y
        rw [hn] at h
        dsimp only at h
        split at h
        · rename_i hk1
          cases hpp : pathF n (k + 1) r1 with
          | error e => rw [hpp] at h; cases h
          | ok z =>
            obtain ⟨ys, r2⟩ := z
            rw [hpp] at h
            cases h
            obtain ⟨h1, h2, h3⟩ := pathF_ok n (k + 1) r1 _ _ hk1 hpp
            obtain ⟨g1, g2⟩ := nameL_ok hn
            refine ⟨fun y hy => ?_, by simp only [List.length_cons]; omega, ?_⟩
            · rcases List.mem_cons.1 hy with rfl | hy
              · exact g1
              · exact h1 y hy
            · cases l with
              | nil => cases hp
              | cons b t =>
                have hb : b = 46 := (by simp [List.isPrefixOf] at hp; exact hp.symm)
                subst hb
                rw [show t = x ++ r1 from g2.symm, ← h3]
                simp [dotsL]
        · cases h
    · cases h
      exact ⟨fun x hx => (by cases hx), (by simpa using hk), rfl⟩

/-! texts, numbers -/
theorem textL_read : ∀ (t r : List UInt8), textL (escsL t ++ (34 :: r)) = .ok (t, r)
  | [], r => textL_quote r
  | b :: t, r => by
    have ih := textL_read t r
    have e : escsL (b :: t) ++ (34 :: r) = escB b ++ (escsL t ++ (34 :: r)) := by simp [escsL]
    rw [e]
    generalize escsL t ++ (34 :: r) = q at *
    unfold escB
    split
    · rename_i h
      show textL (92 :: b :: q) = _
      rw [textL_esc]
      rcases h with rfl | rfl <;> rw [ih] <;> rfl
    · rename_i h
      split
      · rename_i h10; subst h10
        show textL (92 :: 110 :: q) = _
        rw [textL_esc, ih]; rfl
      · split
        · rename_i h9; subst h9
          show textL (92 :: 116 :: q) = _
          rw [textL_esc, ih]; rfl
        · show textL (b :: q) = _
          rw [textL_plain b q (fun e => h (.inl e)) (fun e => h (.inr e)), ih]
          rfl
theorem textL_len2 : ∀ (m : Nat) (l x r : List UInt8), l.length ≤ m → textL l = .ok (x, r) → x.length + r.length + 1 ≤ l.length
  | m, [], x, r, _, h => by rw [textL.eq_def] at h; cases h
  | 0, b :: t, x, r, hm, h => by simp at hm
  | m + 1, b :: t, x, r, hm, h => by
    simp only [List.length_cons] at hm ⊢
    by_cases h1 : b = 34
    · subst h1
      rw [textL_quote] at h
      cases h
      simp
    · by_cases h2 : b = 92
      · subst h2
        cases t with
        | nil => rw [textL_esc0] at h; cases h
        | cons c t =>
          rw [textL_esc] at h
          cases he : escW c.toNat with
          | none => rw [he] at h; cases h
          | some z =>
            rw [he] at h
            cases ht : textL t with
            | error e => rw [ht] at h; cases h
            | ok y =>
              obtain ⟨x1, r1⟩ := y
              rw [ht] at h
              cases h
              have := textL_len2 m t _ _ (by simp only [List.length_cons] at hm; omega) ht
              simp only [List.length_cons]
              first | omega | (dsimp only at *; omega)
      · rw [textL_plain b t h1 h2] at h
        cases ht : textL t with
        | error e => rw [ht] at h; cases h
        | ok y =>
          obtain ⟨x1, r1⟩ := y
          rw [ht] at h
          cases h
          have := textL_len2 m t _ _ (by omega) ht
          simp only [List.length_cons]
          first | omega | (dsimp only at *; omega)
theorem escB_len (b : UInt8) : 1 ≤ (escB b).length ∧ (escB b).length ≤ 2 := by
  unfold escB
  split
  · simp
  · split
    · simp
    · split <;> simp
theorem escsL_len : ∀ t : List UInt8, (escsL t).length ≤ 2 * t.length
  | [] => Nat.le_refl _
  | b :: t => by
    have := escsL_len t
    have := (escB_len b).2
    show (escB b ++ escsL t).length ≤ _
    rw [List.length_append, List.length_cons]
    omega
theorem decL_ne (k : Nat) (hk : k ≤ 9007199254740991) : decL k ≠ [] := by
  unfold decL
  by_cases h : k = 0
  · subst h; rw [decR_zero]; simp
  · intro e
    have := digV_decL k hk
    unfold decL at this
    rw [e] at this
    exact h this.symm
theorem decL_digits (k : Nat) : ∀ b ∈ decL k, digitI b.toNat = true := by
  intro b hb
  have := decR_digits k [] (by intro b hb; cases hb) b hb
  rw [digitI_true]
  omega
theorem numW_read {z : Int} {r : List UInt8} (h : z.natAbs ≤ 9007199254740991) (hr : digN r = 0) : numL (numW z ++ r) = .ok (z, r) := by
  have h0 := numL_read (decide (z < 0)) (decL z.natAbs) r z.natAbs (decL_digits _) (decL_ne _ h) (digV_decL _ h) h hr
  unfold numW
  by_cases hz : z < 0
  · rw [decide_eq_true hz] at h0
    rw [if_pos hz]
    simp only [if_true] at h0
    rw [h0]
    congr 2
    omega
  · rw [decide_eq_false hz] at h0
    rw [if_neg hz]
    simp only [Bool.false_eq_true, if_false] at h0
    rw [h0]
    congr 2
    omega
theorem numW_len {z : Int} (h : z.natAbs ≤ 9007199254740991) : (numW z).length ≤ 18 := by
  have := decR_len 16 z.natAbs [] (Nat.lt_of_le_of_lt h (by decide))
  unfold numW decL
  rw [List.length_append]
  simp only [List.length_nil, Nat.zero_add] at this
  split <;> simp <;> omega
theorem numL_bound {l r : List UInt8} {x : Int} (h : numL l = .ok (x, r)) : x.natAbs ≤ 9007199254740991 := by
  obtain ⟨q, hq⟩ : ∃ q, q = (if List.isPrefixOf [45] l = true then l.drop 1 else l) := ⟨_, rfl⟩
  have h' : (if 0 < digN q ∧ digV 0 (q.take (digN q)) ≤ 9007199254740991 then (Except.ok ((if List.isPrefixOf [45] l = true then -(digV 0 (q.take (digN q)) : Int) else digV 0 (q.take (digN q))), q.drop (digN q)) : Except Nat (Int × List UInt8)) else .error 1402) = .ok (x, r) := by rw [hq]; exact h
  by_cases hc : 0 < digN q ∧ digV 0 (q.take (digN q)) ≤ 9007199254740991
  · rw [if_pos hc] at h'
    injection h' with h'
    injection h' with h1 h2
    rw [← h1]
    split <;> omega
  · rw [if_neg hc] at h'
    cases h'

/-! words -/
theorem wlater_of_digit {c : Nat} (h : wlater c = false) : digitI c = false := by
  unfold wlater at h
  rw [Bool.or_eq_false_iff] at h
  exact h.2
theorem ends_stop {r : List UInt8} (h : ends r = true) : nmN r = 0 ∧ List.isPrefixOf [46] r = false ∧ digN r = 0 ∧ (∀ b t, r = b :: t → wfirst b.toNat = false) := by
  cases r with
  | nil => exact ⟨rfl, rfl, rfl, fun b t e => (by cases e)⟩
  | cons b t =>
    have e := (by decide +kernel : ∀ c : Fin 256, (c.val == 124 || blk c.val) = true → wlater c.val = false ∧ c.val ≠ 46)
    have hb : (b.toNat == 124 || blk b.toNat) = true := by simpa [ends] using h
    obtain ⟨h1, h2⟩ := e ⟨b.toNat, b.toNat_lt⟩ hb
    dsimp only at h1 h2
    refine ⟨?_, ?_, ?_, ?_⟩
    · show (if wlater b.toNat = true then nmN t + 1 else 0) = 0
      rw [h1]; rfl
    · have : b ≠ 46 := fun e => h2 (by rw [e]; rfl)
      simp [List.isPrefixOf, Ne.symm this]
    · show (if digitI b.toNat = true then digN t + 1 else 0) = 0
      rw [wlater_of_digit h1]; rfl
    · intro b' t' e
      cases e
      unfold wlater at h1
      rw [Bool.or_eq_false_iff] at h1
      exact h1.1
theorem first_facts (b : UInt8) (h : wfirst b.toNat = true) : b ≠ 58 ∧ b ≠ 34 ∧ b ≠ 124 ∧ b ≠ 36 ∧ (b.toNat == 45 || digitI b.toNat) = false ∧ (b.toNat == 46) = false ∧ blk b.toNat = false := by
  have e := (by decide +kernel : ∀ c : Fin 256, wfirst c.val = true → c.val ≠ 58 ∧ c.val ≠ 34 ∧ c.val ≠ 124 ∧ c.val ≠ 36 ∧ (c.val == 45 || digitI c.val) = false ∧ (c.val == 46) = false ∧ blk c.val = false)
  obtain ⟨h1, h2, h3, h4, h5, h6, h7⟩ := e ⟨b.toNat, b.toNat_lt⟩ h
  exact ⟨fun e => h1 (by show b.toNat = 58; rw [e]; rfl), fun e => h2 (by show b.toNat = 34; rw [e]; rfl), fun e => h3 (by show b.toNat = 124; rw [e]; rfl), fun e => h4 (by show b.toNat = 36; rw [e]; rfl), h5, h6, h7⟩
theorem dotsL_cons (x : List UInt8) (xs : List (List UInt8)) : dotsL (x :: xs) = 46 :: (x ++ dotsL xs) := by simp [dotsL]
theorem second_false {r : List UInt8} (h : ∀ b t, r = b :: t → wfirst b.toNat = false) : second (46 :: r) = false := by
  unfold second
  cases r with
  | nil => rfl
  | cons b t =>
    have := h b t rfl
    show (decide _ && wfirst b.toNat) = false
    rw [this, Bool.and_false]
theorem fieldL_read {xs : List (List UInt8)} {r : List UInt8} (h : ∀ x ∈ xs, nameOk x = true) (hl : xs.length ≤ 8) (he : ends r = true) : fieldL (refW [] xs ++ r) = .ok (⟨1, [], xs, 0⟩, r) := by
  obtain ⟨h1, h2, h3, h4⟩ := ends_stop he
  cases xs with
  | nil =>
    show fieldL (46 :: r) = _
    unfold fieldL
    rw [second_false h4]
    rfl
  | cons x xs =>
    have e : refW [] (x :: xs) = dotsL (x :: xs) := by
      unfold refW
      rw [List.nil_append, if_neg (by rw [dotsL_cons]; simp)]
    have hs : second (dotsL (x :: xs) ++ r) = true := by
      obtain ⟨b, t, hx, hb⟩ := nameOk_first (h x (by simp))
      rw [dotsL_cons, hx]
      unfold second
      show (decide (1 < (46 :: b :: ((t ++ dotsL xs) ++ r)).length) && wfirst b.toNat) = true
      rw [hb]
      simp
    rw [e]
    unfold fieldL
    rw [hs, if_pos rfl]
    unfold pathL
    rw [pathF_read (x :: xs) 9 0 r h (by omega) (by omega) h1 h2]
    rfl
theorem wordL_read {d : Wd} {r : List UInt8} (hd : WdOk d) (hp : d.kind ≠ 5) (he : ends r = true) : wordL (wrL d ++ r) = .ok (d, r) := by
  obtain ⟨h1, h2, h3, h4⟩ := ends_stop he
  cases hd with
  | name x h =>
    obtain ⟨b, t, hx, hb⟩ := nameOk_first h
    obtain ⟨g1, g2, g3, g4, g5, g6, g7⟩ := first_facts b hb
    show wordL (x ++ r) = _
    have hn := nameL_read h h1
    rw [hx, List.cons_append] at hn ⊢
    unfold wordL
    rw [if_neg (by simp [List.isPrefixOf, Ne.symm g1]), if_neg (by simp [List.isPrefixOf, Ne.symm g2])]
    show (if (b.toNat == 45 || digitI b.toNat) = true then _ else if (b.toNat == 46) = true then _ else _) = _
    rw [g5, g6, if_neg (by simp), if_neg (by simp), if_neg (by simp [List.isPrefixOf, Ne.symm g4])]
    show (if wfirst b.toNat = true then _ else _) = _
    rw [if_pos hb, hn]
    rfl
  | field xs h hl =>
    show wordL (refW [] xs ++ r) = _
    have hf := fieldL_read h hl he
    obtain ⟨t, ht⟩ : ∃ t, refW [] xs ++ r = 46 :: t := by
      cases xs with
      | nil => exact ⟨r, rfl⟩
      | cons x xs =>
        refine ⟨x ++ dotsL xs ++ r, ?_⟩
        unfold refW
        rw [List.nil_append, if_neg (by rw [dotsL_cons]; simp), dotsL_cons]
        simp
    rw [ht] at hf ⊢
    exact hf
  | var x xs h hs hl =>
    have e : wrL ⟨2, x, xs, 0⟩ ++ r = 36 :: (x ++ (dotsL xs ++ r)) := by
      show refW (36 :: x) xs ++ r = _
      unfold refW
      rw [if_neg (by simp)]
      simp
    have h0 : nmN (dotsL xs ++ r) = 0 := by
      cases xs with
      | nil => exact h1
      | cons y ys => rfl
    rw [e]
    show (match nameL (x ++ (dotsL xs ++ r)) with
        | .error e => (.error e : Except Nat (Wd × List UInt8))
        | .ok (x, r) => (pathL r).map fun (y : List (List UInt8) × List UInt8) => ((⟨2, x, y.1, 0⟩ : Wd), y.2)) = _
    rw [nameL_read h h0]
    dsimp only
    unfold pathL
    rw [pathF_read xs 9 0 r hs (by omega) (by omega) h1 h2]
    rfl
  | num z h =>
    have hn := numW_read h h3
    show wordL (numW z ++ r) = _
    obtain ⟨c, t, hct, hc⟩ : ∃ c t, numW z = c :: t ∧ (c.toNat == 45 || digitI c.toNat) = true := by
      unfold numW
      split
      · exact ⟨45, _, rfl, rfl⟩
      · cases hd : decL z.natAbs with
        | nil => exact absurd hd (decL_ne _ h)
        | cons b t => exact ⟨b, t, rfl, by rw [decL_digits z.natAbs b (by rw [hd]; simp), Bool.or_true]⟩
    rw [hct, List.cons_append] at hn ⊢
    exact wordL_num hc hn
  | text t =>
    have ht := textL_read t r
    have e : wrL ⟨4, t, [], 0⟩ ++ r = 34 :: (escsL t ++ (34 :: r)) := by
      show (34 :: (escsL t ++ [34])) ++ r = _
      simp
    rw [e]
    show (textL (escsL t ++ (34 :: r))).map _ = _
    rw [ht]
    rfl
  | pipe => exact absurd rfl hp
  | set => rfl
theorem wrL_first {d : Wd} (hd : WdOk d) : ∃ b t, wrL d = b :: t ∧ blk b.toNat = false ∧ (d.kind ≠ 5 → b ≠ 124) := by
  cases hd with
  | name x h =>
    obtain ⟨b, t, hx, hb⟩ := nameOk_first h
    obtain ⟨g1, g2, g3, g4, g5, g6, g7⟩ := first_facts b hb
    exact ⟨b, t, hx, g7, fun _ => g3⟩
  | field xs h hl =>
    cases xs with
    | nil => exact ⟨46, [], rfl, rfl, fun _ => (by decide)⟩
    | cons x xs =>
      refine ⟨46, x ++ dotsL xs, ?_, rfl, fun _ => (by decide)⟩
      show refW [] (x :: xs) = _
      unfold refW
      rw [List.nil_append, if_neg (by rw [dotsL_cons]; simp), dotsL_cons]
  | var x xs h hs hl =>
    refine ⟨36, x ++ dotsL xs, ?_, rfl, fun _ => (by decide)⟩
    show refW (36 :: x) xs = _
    unfold refW
    rw [if_neg (by simp)]
    rfl
  | num z h =>
    obtain ⟨c, t, hct, hc⟩ : ∃ c t, numW z = c :: t ∧ (c.toNat == 45 || digitI c.toNat) = true := by
      unfold numW
      split
      · exact ⟨45, _, rfl, rfl⟩
      · cases hd : decL z.natAbs with
        | nil => exact absurd hd (decL_ne _ h)
        | cons b t => exact ⟨b, t, rfl, by rw [decL_digits z.natAbs b (by rw [hd]; simp), Bool.or_true]⟩
    obtain ⟨h1, h2, h3, h4⟩ := num_first c hc
    exact ⟨c, t, hct, h4, fun _ => h3⟩
  | text t => exact ⟨34, escsL t ++ [34], rfl, rfl, fun _ => (by decide)⟩
  | pipe => exact ⟨124, [], rfl, rfl, fun h => absurd rfl h⟩
  | set => exact ⟨58, [61], rfl, rfl, fun _ => (by decide)⟩
/-- what may stand between -/
def Gap (g : List UInt8) : Prop := 0 < g.length ∧ g.length ≤ 2 ∧ ∀ b ∈ g, blk b.toNat = true
theorem trimL_gap : ∀ (g l : List UInt8), (∀ b ∈ g, blk b.toNat = true) → trimL (g ++ l) = trimL l
  | [], l, _ => rfl
  | b :: g, l, h => by
    rw [List.cons_append, trimL_cons, if_pos (h b (by simp))]
    exact trimL_gap g l fun c hc => h c (by simp [hc])
/-- words, written one behind the other -/
inductive Wrt : List Wd → List UInt8 → Prop
  | nil : Wrt [] []
  | snoc (ds : List Wd) (l : List UInt8) (d : Wd) (g : List UInt8) (h : Wrt ds l) (hg : Gap g) : Wrt (ds ++ [d]) (l ++ g ++ wrL d)
theorem allF_step {m : Nat} {d : Wd} {g tail : List UInt8} (hd : WdOk d) (hg : Gap g) (he : ends tail = true) : allF (m + 1) (g ++ (wrL d ++ tail)) = (allF m tail).map (d :: ·) := by
  obtain ⟨b, t, hb, hbl, hbp⟩ := wrL_first hd
  have ht : trimL (g ++ (wrL d ++ tail)) = wrL d ++ tail := by
    rw [trimL_gap g _ hg.2.2, hb, List.cons_append, trimL_first hbl]
  rw [allF, ht]
  by_cases hk : d.kind = 5
  · have e : d = ⟨5, [], [], 0⟩ := by cases hd <;> first | rfl | cases hk
    subst e
    show (if 124 :: tail = [] then _ else if List.isPrefixOf [124] (124 :: tail) = true then (allF m tail).map _ else _) = _
    rw [if_neg (by simp), if_pos (by rfl)]
  · have hr := wordL_read hd hk he
    have hbp := hbp hk
    rw [if_neg (by rw [hb]; simp), if_neg (by rw [hb]; simp [List.isPrefixOf, Ne.symm hbp]), hr]
    dsimp only
    rw [if_pos he]
theorem ends_gap {g l : List UInt8} (hg : Gap g) : ends (g ++ l) = true := by
  cases g with
  | nil => exact absurd hg.1 (by simp)
  | cons b t =>
    have := hg.2.2 b (by simp)
    show (false || (b.toNat == 124) || blk b.toNat) = true
    rw [this, Bool.or_true]
theorem wrt_read {ds : List Wd} {l : List UInt8} (h : Wrt ds l) (hd : ∀ d ∈ ds, WdOk d) : ∀ (m : Nat) (tail : List UInt8), ends tail = true → allF (ds.length + m) (l ++ tail) = (allF m tail).map (ds ++ ·) := by
  induction h with
  | nil =>
    intro m tail _
    show allF (0 + m) tail = _
    rw [Nat.zero_add]
    cases allF m tail <;> rfl
  | snoc ds l d g h hg ih =>
    intro m tail he
    have h1 := ih (fun d hd' => hd d (by simp [hd'])) (m + 1) (g ++ (wrL d ++ tail)) (ends_gap hg)
    rw [allF_step (hd d (by simp)) hg he] at h1
    rw [show (ds ++ [d]).length + m = ds.length + (m + 1) by simp; omega, show l ++ g ++ wrL d ++ tail = l ++ (g ++ (wrL d ++ tail)) by simp, h1]
    cases allF m tail <;> simp [Except.map]
theorem wrt_len {ds : List Wd} {l : List UInt8} (h : Wrt ds l) : ds.length ≤ l.length := by
  induction h with
  | nil => exact Nat.le_refl _
  | snoc ds l d g h hg ih =>
    have := hg.1
    simp only [List.length_append, List.length_cons, List.length_nil]
    omega
theorem wrt_again {ds : List Wd} {l : List UInt8} (h : Wrt ds l) (hd : ∀ d ∈ ds, WdOk d) : wordsL (l ++ [32]) = (ds, 0) := by
  have h1 := wrt_len h
  have h2 := wrt_read h hd ((l ++ [32]).length + 1 - ds.length) [32] rfl
  rw [show ds.length + ((l ++ [32] : List UInt8).length + 1 - ds.length) = (l ++ [32] : List UInt8).length + 1 by rw [List.length_append]; omega] at h2
  have h3 : ∀ m, allF m [32] = .ok [] := fun m => by cases m <;> rfl
  rw [h3] at h2
  unfold wordsL
  rw [h2]
  simp [Except.map]

/-! what is read: sizes -/
def costL (ds : List Wd) : Nat := (ds.map fun d => 2 + (wrL d).length).sum
theorem wordL_good {l r : List UInt8} {d : Wd} (hn : l ≠ []) (h : wordL l = .ok (d, r)) : WdOk d ∧ 2 + (wrL d).length + 28 * r.length ≤ 28 * l.length := by
  have hlen := wordL_len hn h
  have hl : 0 < l.length := List.length_pos_iff.2 hn
  unfold wordL at h
  split at h
  · cases h
    refine ⟨.set, ?_⟩
    show 2 + 2 + _ ≤ _
    first | omega | (dsimp only at *; omega)
  · split at h
    · obtain ⟨⟨x, r1⟩, hz, hy⟩ := map_ok h
      cases hy
      have := textL_len2 _ _ _ _ (Nat.le_refl _) hz
      rw [List.length_drop] at this
      have h2 := escsL_len x
      refine ⟨.text x, ?_⟩
      show 2 + (34 :: (escsL x ++ [34])).length + _ ≤ _
      rw [List.length_cons, List.length_append, List.length_singleton]
      first | omega | (dsimp only at *; omega)
    · split at h
      · obtain ⟨⟨x, r1⟩, hz, hy⟩ := map_ok h
        cases hy
        have h1 := numL_bound hz
        have h2 := numW_len h1
        refine ⟨.num x h1, ?_⟩
        show 2 + (numW x).length + _ ≤ _
        first | omega | (dsimp only at *; omega)
      · split at h
        · rename_i h46
          have hp := prefix_one hn (c := 46) (beq_iff_eq.1 h46)
          unfold fieldL at h
          split at h
          · obtain ⟨⟨xs, r1⟩, hz, hy⟩ := map_ok h
            cases hy
            obtain ⟨g1, g2, g3⟩ := pathF_ok 9 0 _ _ _ (by omega) hz
            refine ⟨.field xs g1 (by omega), ?_⟩
            show 2 + (refW [] xs).length + _ ≤ _
            have h3 := congrArg List.length g3
            rw [List.length_append] at h3
            have h4 : (refW [] xs).length ≤ 1 + (dotsL xs).length := by
              unfold refW
              rw [List.nil_append]
              split <;> simp
            first | omega | (dsimp only at *; omega)
          · cases h
            refine ⟨.field [] (fun x hx => (by cases hx)) (by simp), ?_⟩
            show 2 + 1 + _ ≤ _
            first | omega | (dsimp only at *; omega)
        · split at h
          · cases hnm : nameL (l.drop 1) with
            | error e => rw [hnm] at h; cases h
            | ok y =>
              obtain ⟨x, r2⟩ := y
              rw [hnm] at h
              obtain ⟨⟨xs, r1⟩, hz, hy⟩ := map_ok h
              cases hy
              obtain ⟨g1, g2, g3⟩ := pathF_ok 9 0 _ _ _ (by omega) hz
              obtain ⟨f1, f2⟩ := nameL_ok hnm
              have h3 : (dotsL xs).length + r1.length = r2.length := by rw [← List.length_append]; exact congrArg List.length g3
              have h4 := congrArg List.length f2
              rw [List.length_append] at h4
              rw [List.length_drop] at h4
              refine ⟨.var x xs f1 g1 (by omega), ?_⟩
              show 2 + (refW (36 :: x) xs).length + _ ≤ _
              have h5 : (refW (36 :: x) xs).length = 1 + x.length + (dotsL xs).length := by
                simp only [refW, List.cons_append, reduceCtorEq, if_false, List.length_cons, List.length_append]
                omega
              dsimp only at *
              omega
          · split at h
            · obtain ⟨⟨x, r1⟩, hz, hy⟩ := map_ok h
              cases hy
              obtain ⟨f1, f2⟩ := nameL_ok hz
              have h4 := congrArg List.length f2
              rw [List.length_append] at h4
              refine ⟨.name x f1, ?_⟩
              show 2 + x.length + _ ≤ _
              first | omega | (dsimp only at *; omega)
            · cases h
theorem allF_good : ∀ (n : Nat) (l : List UInt8) (ds : List Wd), allF n l = .ok ds → (∀ d ∈ ds, WdOk d) ∧ costL ds ≤ 28 * l.length
  | 0, l, ds, h => by cases h; exact ⟨fun d hd => (by cases hd), Nat.zero_le _⟩
  | n + 1, l, ds, h => by
    have htl := trimL_len l
    rw [allF] at h
    split at h
    · cases h; exact ⟨fun d hd => (by cases hd), Nat.zero_le _⟩
    · rename_i hne
      have hpos : 0 < (trimL l).length := List.length_pos_iff.2 hne
      split at h
      · obtain ⟨es, hz, hy⟩ := map_ok h
        subst hy
        obtain ⟨h1, h2⟩ := allF_good n _ _ hz
        rw [List.length_drop] at h2
        refine ⟨fun d hd => ?_, ?_⟩
        · rcases List.mem_cons.1 hd with rfl | hd
          · exact .pipe
          · exact h1 d hd
        · show (2 + 1) + costL es ≤ _
          omega
      · cases hw : wordL (trimL l) with
        | error e => rw [hw] at h; cases h
        | ok y =>
          obtain ⟨d, r⟩ := y
          rw [hw] at h
          dsimp only at h
          split at h
          · obtain ⟨es, hz, hy⟩ := map_ok h
            subst hy
            obtain ⟨h1, h2⟩ := allF_good n _ _ hz
            obtain ⟨h3, h4⟩ := wordL_good hne hw
            refine ⟨fun d' hd => ?_, ?_⟩
            · rcases List.mem_cons.1 hd with rfl | hd
              · exact h3
              · exact h1 d' hd
            · show (2 + (wrL d).length) + costL es ≤ _
              omega
          · cases h
theorem wordsL_good {l : List UInt8} {ds : List Wd} (h : wordsL l = (ds, 0)) : (∀ d ∈ ds, WdOk d) ∧ costL ds ≤ 28 * l.length := by
  unfold wordsL at h
  cases ha : allF (l.length + 1) l with
  | error e =>
    rw [ha] at h
    dsimp only at h
    obtain ⟨rfl, -⟩ := Prod.mk.inj h
    exact ⟨fun d hd => (by cases hd), Nat.zero_le _⟩
  | ok es =>
    rw [ha] at h
    obtain ⟨rfl, -⟩ := Prod.mk.inj h
    exact allF_good _ _ _ ha
theorem costL_take : ∀ (ds : List Wd) (k : Nat), costL (ds.take k) ≤ costL ds
  | [], k => by simp
  | d :: ds, 0 => Nat.zero_le _
  | d :: ds, k + 1 => by
    show (2 + (wrL d).length) + costL (ds.take k) ≤ (2 + (wrL d).length) + costL ds
    have := costL_take ds k
    omega
theorem costL_snoc (ds : List Wd) (d : Wd) : costL (ds ++ [d]) = costL ds + (2 + (wrL d).length) := by
  unfold costL
  simp
theorem wordsL_no {l : List UInt8} {ds : List Wd} {n : Nat} (h : wordsL l = (ds, n)) (hn : n ≠ 0) : ds = [] := by
  unfold wordsL at h
  cases ha : allF (l.length + 1) l with
  | error e =>
    rw [ha] at h
    obtain ⟨rfl, -⟩ := Prod.mk.inj h
    rfl
  | ok es =>
    rw [ha] at h
    obtain ⟨-, h2⟩ := Prod.mk.inj h
    exact absurd h2.symm hn
end Go.Proofs.YtbcddlheikdlkaaGreatDoor.S
