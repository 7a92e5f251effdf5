/-
  PLAIN: what a word takes.
-/
import Derived.Test.YtdaffedbboofjaaGreatDoorWordPath
import Derived.Test.YtdaffedbboofjaaGreatDoorWordText
set_option linter.unusedVariables false
set_option linter.unusedSimpArgs false
namespace Go.Proofs.YtdaffedbboofjaaGreatDoor.S

theorem nameL_len2 {l x r : List UInt8} (h : nameL l = .ok (x, r)) : r.length + 1 ≤ l.length := by
  unfold nameL at h
  split at h
  · rename_i hok
    injection h with h
    injection h with h1 h2
    have hx : 0 < (l.take (nmN l)).length := by
      refine Nat.pos_of_ne_zero fun h0 => ?_
      rw [List.eq_nil_of_length_eq_zero h0] at hok
      cases hok
    rw [List.length_take] at hx
    rw [← h2, List.length_drop]
    omega
  · cases h
theorem pathF_len : ∀ (n k : Nat) (l : List UInt8) (xs : List (List UInt8)) (r : List UInt8), pathF n k l = .ok (xs, r) → r.length ≤ l.length
  | 0, k, l, xs, r, h => by cases h; exact Nat.le_refl _
  | n + 1, k, l, xs, r, h => by
    rw [pathF] at h
    split at h
    · cases hn : nameL (l.drop 1) with
      | error e => rw [hn] at h; cases h
      | ok y =>
        obtain ⟨x, r1⟩ := y
        rw [hn] at h
        dsimp only at h
        split at h
        · cases hp : pathF n (k + 1) r1 with
          | error e => rw [hp] at h; cases h
          | ok z =>
            obtain ⟨ys, r2⟩ := z
            rw [hp] at h
            cases h
            have h1 := pathF_len n (k + 1) r1 _ _ hp
            have h2 := nameL_len2 hn
            rw [List.length_drop] at h2
            omega
        · cases h
    · cases h; exact Nat.le_refl _
theorem textL_len : ∀ (m : Nat) (l x r : List UInt8), l.length ≤ m → textL l = .ok (x, r) → r.length + 1 ≤ l.length
  | m, [], x, r, _, h => by rw [textL.eq_def] at h; cases h
  | 0, b :: t, x, r, hm, h => by simp at hm
  | m + 1, b :: t, x, r, hm, h => by
    simp only [List.length_cons] at hm ⊢
    by_cases h1 : b = 34
    · subst h1
      rw [textL_quote] at h
      cases h
      exact Nat.le_refl _
    · by_cases h2 : b = 92
      · subst h2
        cases t with
        | nil => rw [textL_esc0] at h; cases h
        | cons c t =>
          rw [textL_esc] at h
          cases he : escW c.toNat with
          | none => rw [he] at h; cases h
          | some z =>
            rw [he] at h
            cases ht : textL t with
            | error e => rw [ht] at h; cases h
            | ok y =>
              obtain ⟨x1, r1⟩ := y
              rw [ht] at h
              cases h
              have := textL_len m t _ _ (by simp only [List.length_cons] at hm; omega) ht
              simp only [List.length_cons]
              first | omega | (dsimp only at *; omega)
      · rw [textL_plain b t h1 h2] at h
        cases ht : textL t with
        | error e => rw [ht] at h; cases h
        | ok y =>
          obtain ⟨x1, r1⟩ := y
          rw [ht] at h
          cases h
          have := textL_len m t _ _ (by omega) ht
          first | omega | (dsimp only at *; omega)
theorem numL_len {l r : List UInt8} {x : Int} (h : numL l = .ok (x, r)) : r.length + 1 ≤ l.length := by
  obtain ⟨q, hq⟩ : ∃ q, q = (if List.isPrefixOf [45] l = true then l.drop 1 else l) := ⟨_, rfl⟩
  have h3 : q.length ≤ l.length := by rw [hq]; split <;> simp
  have h' : (if 0 < digN q ∧ digV 0 (q.take (digN q)) ≤ 9007199254740991 then (Except.ok ((if List.isPrefixOf [45] l = true then -(digV 0 (q.take (digN q)) : Int) else digV 0 (q.take (digN q))), q.drop (digN q)) : Except Nat (Int × List UInt8)) else .error 1402) = .ok (x, r) := by rw [hq]; exact h
  have h1 := digN_le q
  by_cases hc : 0 < digN q ∧ digV 0 (q.take (digN q)) ≤ 9007199254740991
  · rw [if_pos hc] at h'
    injection h' with h'
    injection h' with _ h2
    rw [← h2, List.length_drop]
    first | omega | (dsimp only at *; omega)
  · rw [if_neg hc] at h'
    cases h'
theorem map_ok {α β : Type} {f : α → β} {x : Except Nat α} {y : β} (h : x.map f = .ok y) : ∃ z, x = .ok z ∧ y = f z := by
  cases x with
  | error e => cases h
  | ok z => cases h; exact ⟨z, rfl, rfl⟩
theorem fieldL_len {l r : List UInt8} {d : Wd} (hn : l ≠ []) (hp : List.isPrefixOf [46] l = true) (h : fieldL l = .ok (d, r)) : r.length + 1 ≤ l.length := by
  have hl : 0 < l.length := List.length_pos_iff.2 hn
  unfold fieldL at h
  split at h
  · obtain ⟨z, hz, hy⟩ := map_ok h
    obtain ⟨xs, r1⟩ := z
    cases hy
    unfold pathL at hz
    rw [pathF, hp, if_pos rfl] at hz
    cases hnm : nameL (l.drop 1) with
    | error e => rw [hnm] at hz; cases hz
    | ok y =>
      obtain ⟨x, r2⟩ := y
      rw [hnm] at hz
      dsimp only at hz
      split at hz
      · cases hpp : pathF 8 (0 + 1) r2 with
        | error e => rw [hpp] at hz; cases hz
        | ok z =>
          obtain ⟨ys, r3⟩ := z
          rw [hpp] at hz
          cases hz
          have h1 := pathF_len _ _ _ _ _ hpp
          have h2 := nameL_len2 hnm
          rw [List.length_drop] at h2
          first | omega | (dsimp only at *; omega)
      · cases hz
  · cases h
    rw [List.length_drop]
    first | omega | (dsimp only at *; omega)
theorem prefix_one {c : UInt8} {l : List UInt8} (hn : l ≠ []) (h : (l.getD 0 0).toNat = c.toNat) : List.isPrefixOf [c] l = true := by
  cases l with
  | nil => exact absurd rfl hn
  | cons b r =>
    have : b = c := UInt8.toNat_inj.1 h
    rw [this]
    simp [List.isPrefixOf]
theorem wordL_len {l r : List UInt8} {d : Wd} (hn : l ≠ []) (h : wordL l = .ok (d, r)) : r.length + 1 ≤ l.length := by
  have hl : 0 < l.length := List.length_pos_iff.2 hn
  unfold wordL at h
  split at h
  · cases h
    rw [List.length_drop]
    first | omega | (dsimp only at *; omega)
  · split at h
    · obtain ⟨⟨x, r1⟩, hz, hy⟩ := map_ok h
      cases hy
      have := textL_len _ _ _ _ (Nat.le_refl _) hz
      rw [List.length_drop] at this
      first | omega | (dsimp only at *; omega)
    · split at h
      · obtain ⟨⟨x, r1⟩, hz, hy⟩ := map_ok h
        cases hy
        exact numL_len hz
      · split at h
        · rename_i h46
          exact fieldL_len hn (prefix_one hn (beq_iff_eq.1 h46)) h
        · split at h
          · cases hnm : nameL (l.drop 1) with
            | error e => rw [hnm] at h; cases h
            | ok y =>
              obtain ⟨x, r2⟩ := y
              rw [hnm] at h
              obtain ⟨⟨xs, r1⟩, hz, hy⟩ := map_ok h
              cases hy
              have h1 := pathF_len _ _ _ _ _ hz
              have h2 := nameL_len2 hnm
              rw [List.length_drop] at h2
              first | omega | (dsimp only at *; omega)
          · split at h
            · obtain ⟨⟨x, r1⟩, hz, hy⟩ := map_ok h
              cases hy
              exact nameL_len2 hz
            · cases h
def AllAt (T : Except Nat (List Wd)) (acc : List Wd) (n : Nat) (l : List UInt8) : Prop := T = (allF n l).map (acc ++ ·)
theorem all_end {T : Except Nat (List Wd)} {acc : List Wd} {n : Nat} {l : List UInt8} (h : AllAt T acc (n + 1) l) (ht : trimL l = []) : T = .ok acc := by
  rw [h, allF, if_pos ht]
  simp [Except.map]
theorem all_pipe {T : Except Nat (List Wd)} {acc : List Wd} {n : Nat} {l : List UInt8} (h : AllAt T acc (n + 1) l) (ht : trimL l ≠ []) (hp : List.isPrefixOf [124] (trimL l) = true) : AllAt T (acc ++ [⟨5, [], [], 0⟩]) n ((trimL l).drop 1) := by
  unfold AllAt at *
  rw [h, allF, if_neg ht, if_pos hp]
  cases allF n ((trimL l).drop 1) <;> simp [Except.map]
theorem all_err {T : Except Nat (List Wd)} {acc : List Wd} {n : Nat} {l : List UInt8} {e : Nat} (h : AllAt T acc (n + 1) l) (ht : trimL l ≠ []) (hp : List.isPrefixOf [124] (trimL l) = false) (hw : wordL (trimL l) = .error e) : T = .error e := by
  rw [h, allF, if_neg ht, if_neg (by rw [hp]; simp), hw]
  rfl
theorem all_ends {T : Except Nat (List Wd)} {acc : List Wd} {n : Nat} {l r : List UInt8} {d : Wd} (h : AllAt T acc (n + 1) l) (ht : trimL l ≠ []) (hp : List.isPrefixOf [124] (trimL l) = false) (hw : wordL (trimL l) = .ok (d, r)) (he : ends r = false) : T = .error 1400 := by
  rw [h, allF, if_neg ht, if_neg (by rw [hp]; simp), hw]
  dsimp only
  rw [if_neg (by rw [he]; simp)]
  rfl
theorem all_go {T : Except Nat (List Wd)} {acc : List Wd} {n : Nat} {l r : List UInt8} {d : Wd} (h : AllAt T acc (n + 1) l) (ht : trimL l ≠ []) (hp : List.isPrefixOf [124] (trimL l) = false) (hw : wordL (trimL l) = .ok (d, r)) (he : ends r = true) : AllAt T (acc ++ [d]) n r := by
  unfold AllAt at *
  rw [h, allF, if_neg ht, if_neg (by rw [hp]; simp), hw]
  dsimp only
  rw [if_pos he]
  cases allF n r <;> simp [Except.map]
end Go.Proofs.YtdaffedbboofjaaGreatDoor.S
