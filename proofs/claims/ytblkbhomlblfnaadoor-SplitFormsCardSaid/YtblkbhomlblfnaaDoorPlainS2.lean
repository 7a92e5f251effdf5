/-
  THE PLAIN LAWS of chapter 13's actions put together.
-/
import Derived.Test.YtblkbhomlblfnaaDoorPlainS
set_option linter.unusedVariables false
set_option linter.unusedSimpArgs false
namespace Go.Proofs.YtblkbhomlblfnaaDoor.S
open Go.RowKit

theorem trimR_blanks : ∀ a : List UInt8, (∀ x ∈ a, blk x.toNat = true) → trimR a = []
  | [], _ => rfl
  | b :: r, h => by
    rw [trimR_cons, trimR_blanks r fun x hx => h x (by simp [hx])]
    simp [h b (by simp)]
theorem trimR_stop (b : UInt8) (r : List UInt8) (hb : blk b.toNat = false) : trimR (b :: r) = b :: trimR r := by
  rw [trimR_cons]
  simp [hb]
theorem trimR_free : ∀ a : List UInt8, (∀ x ∈ a, blk x.toNat = false) → trimR a = a
  | [], _ => rfl
  | b :: r, h => by rw [trimR_stop b r (h b (by simp)), trimR_free r fun x hx => h x (by simp [hx])]
theorem trimR_tail (z : UInt8) (hz : blk z.toNat = true) : ∀ a : List UInt8, (∀ x ∈ a, blk x.toNat = false) → trimR (a ++ [z]) = a
  | [], _ => by show trimR [z] = []; rw [trimR_cons]; simp [trimR, hz]
  | b :: r, h => by rw [List.cons_append, trimR_stop _ _ (h b (by simp)), trimR_tail z hz r fun x hx => h x (by simp [hx])]
theorem trimL_stop (b : UInt8) (r : List UInt8) (hb : blk b.toNat = false) : trimL (b :: r) = b :: r := by
  rw [trimL_cons]
  simp [hb]
theorem trimL_blanks (b : UInt8) (r : List UInt8) (hb : blk b.toNat = false) : ∀ a : List UInt8, (∀ x ∈ a, blk x.toNat = true) → trimL (a ++ b :: r) = b :: r
  | [], _ => trimL_stop b r hb
  | c :: a, h => by
    rw [List.cons_append, trimL_cons, trimL_blanks b r hb a fun x hx => h x (by simp [hx])]
    simp [h c (by simp)]
theorem actTrims_free (t : List UInt8) (h : ∀ b ∈ t, b ≠ 45) : actTrims t = false := by
  unfold actTrims
  by_cases hl : 2 ≤ t.length
  · have hm : t.getD (t.length - 1) 0 ∈ t := by
      rw [List.getD_eq_getElem?_getD, List.getElem?_eq_getElem (by omega)]
      exact List.getElem_mem _
    have := h _ hm
    have h2 : ((t.getD (t.length - 1) 0).toNat == 45) = false := by
      rw [beq_eq_false_iff_ne]
      intro e
      exact this (UInt8.toNat_inj.1 e)
    rw [h2, Bool.and_false, Bool.false_and]
  · rw [decide_eq_false hl, Bool.false_and, Bool.false_and]
theorem actText_free (t : List UInt8) (h : ∀ b ∈ t, b ≠ 45) : actText t = trimR (trimL t) := by
  unfold actText
  rw [actTrims_free t h]
  simp
theorem endL_free (z : List UInt8) : ∀ a : List UInt8, (∀ x ∈ a, x ≠ 125 ∧ x ≠ 34) → endL false (a ++ 125 :: 125 :: z) = some a.length
  | [], _ => rfl
  | b :: r, h => by
    obtain ⟨h1, h2⟩ := h b (by simp)
    rw [List.cons_append]
    show (if List.isPrefixOf [125, 125] (b :: (r ++ 125 :: 125 :: z)) = true then some 0 else if b = 34 then _ else (endL false (r ++ 125 :: 125 :: z)).map (· + 1)) = _
    rw [if_neg (by simp [List.isPrefixOf, Ne.symm h1]), if_neg h2, endL_free z r fun x hx => h x (by simp [hx])]
    rfl
/-- one text and one action of a source -/
theorem split_step (t r : List UInt8) (n i : Nat) (tr : Bool) (ht : ∀ b ∈ t, b ≠ 123) (m q e : Nat) (hm : markN r = m) (hq : blkN (r.drop m) = q)
    (hp : List.isPrefixOf [47, 42] ((r.drop m).drop q) = false) (he : endL false ((r.drop m).drop q) = some e) :
    splitF (n + 1) (t ++ 123 :: 123 :: r) i tr = (splitF n (((r.drop m).drop q).drop (e + 2)) (i + (t.length + 2 + m + q + e + 2)) (actTrims (((r.drop m).drop q).take e))).map
      (txtP (if markL r = true then trimR (if tr = true then trimL t else t) else (if tr = true then trimL t else t)) i ++ [⟨true, actText (((r.drop m).drop q).take e), i + t.length⟩] ++ ·) := by
  obtain ⟨h1, h2⟩ := hasI_behind [123] 123 (123 :: 123 :: r) t ht (by rfl) (by simp)
  have hd : (t ++ 123 :: 123 :: r).drop (t.length + 2) = r := by simp [List.drop_append]
  have hk : (t ++ 123 :: 123 :: r).take t.length = t := by simp
  have hop : openN (t ++ 123 :: 123 :: r) = t.length + 2 + m + q := by
    rw [openN_text h1, textN_some h1, h2, hd, hm, ← List.drop_drop, hd, hq]
  have hdo : (t ++ 123 :: 123 :: r).drop (t.length + 2 + m + q) = (r.drop m).drop q := by
    rw [← List.drop_drop, ← List.drop_drop, hd]
  have hdo2 : (t ++ 123 :: 123 :: r).drop (t.length + 2 + m + q + e + 2) = ((r.drop m).drop q).drop (e + 2) := by
    rw [← hdo, List.drop_drop]; congr 1
  have htx : textT (t ++ 123 :: 123 :: r) tr = if markL r = true then trimR (if tr = true then trimL t else t) else (if tr = true then trimL t else t) := by
    rw [textT_cut _ _ h1, headT_cut, h2, hd, hk]
  rw [splitF_some i tr h1, hop, hdo, hp, if_neg (by simp), he, htx, h2]
  dsimp only
  rw [hdo2]
theorem splitF_end (n i : Nat) (tr : Bool) (l : List UInt8) (h : ∀ b ∈ l, b ≠ 123) : splitF (n + 1) l i tr = some (txtP (if tr = true then trimL l else l) i) := by
  cases l with
  | nil => rw [splitF_nil]; cases tr <;> rfl
  | cons b r =>
    have hh := hasI_free [123] 123 (b :: r) h
    rw [splitF_none i tr (by simp) hh, textT_none _ _ hh, headT_cut, cutI_none _ _ hh]
    simp
theorem txtP_of {t : List UInt8} (h : t ≠ []) (i : Nat) : txtP t i = [⟨false, t, i⟩] := if_neg h
theorem blk_of (x : UInt8) (h : blk x.toNat = true) : x ≠ 123 ∧ x ≠ 13 := by
  constructor <;> (rintro rfl; revert h; decide)
/-- trim marks -/
theorem splitR_trims (a b : List UInt8) (ha : ∀ x ∈ a, blk x.toNat = true) (hb : ∀ x ∈ b, blk x.toNat = true) (hal : a.length ≤ 1000) (hbl : b.length ≤ 1000) (left right : Bool) :
    ∃ p, splitR ((117 :: a) ++ (if left = true then [123, 123, 45, 32] else [123, 123]) ++ [46, 122] ++ (if right = true then [32, 45, 125, 125] else [125, 125]) ++ b ++ [118])
      = ([⟨false, if left = true then [117] else 117 :: a, 0⟩, ⟨true, [46, 122], 1 + a.length⟩, ⟨false, if right = true then [118] else b ++ [118], p⟩], 0) := by
  obtain ⟨l, hl⟩ : ∃ l, l = (117 :: a) ++ (if left = true then [123, 123, 45, 32] else [123, 123]) ++ [46, 122] ++ (if right = true then [32, 45, 125, 125] else [125, 125]) ++ b ++ [118] := ⟨_, rfl⟩
  have hid : linesL l = l := by
    apply linesL_id
    rw [hl]
    intro x hx
    simp only [List.mem_append, List.mem_cons, List.not_mem_nil, or_false] at hx
    rcases hx with ((((hx | hx) | hx) | hx) | hx) | hx
    · rcases hx with rfl | hx
      · decide
      · exact (blk_of x (ha x hx)).2
    · cases left <;> simp at hx <;> rcases hx with rfl | rfl | rfl | rfl <;> decide
    · rcases hx with rfl | rfl <;> decide
    · cases right <;> simp at hx <;> rcases hx with rfl | rfl | rfl | rfl <;> decide
    · exact (blk_of x (hb x hx)).2
    · rw [hx]; decide
  have hlen : l.length ≤ 3000 ∧ 3 ≤ l.length := by
    rw [hl]
    cases left <;> cases right <;> simp <;> omega
  have hta : ∀ x ∈ (117 :: a), x ≠ 123 := by
    intro x hx
    rcases List.mem_cons.1 hx with rfl | hx
    · decide
    · exact (blk_of x (ha x hx)).1
  have htb : ∀ x ∈ b ++ [118], x ≠ 123 := by
    intro x hx
    rcases List.mem_append.1 hx with hx | hx
    · exact (blk_of x (hb x hx)).1
    · rw [List.mem_singleton.1 hx]; decide
  have hrb : trimL (b ++ [118]) = [118] := trimL_blanks 118 [] (by decide) b hb
  have hra : trimR (117 :: a) = [117] := by rw [trimR_stop _ _ (by decide), trimR_blanks a ha]
  obtain ⟨n, hn⟩ : ∃ n, l.length = n + 1 + 1 := ⟨l.length - 2, by omega⟩
  have hsp : ∃ p, splitL l = some [⟨false, if left = true then [117] else 117 :: a, 0⟩, ⟨true, [46, 122], 1 + a.length⟩, ⟨false, if right = true then [118] else b ++ [118], p⟩] := by
    unfold splitL
    rw [hid, hn]
    have e1 : ∀ z : List UInt8, endL false (46 :: 122 :: 125 :: 125 :: z) = some 2 := fun z => endL_free z [46, 122] (by decide)
    have e2 : ∀ z : List UInt8, endL false (46 :: 122 :: 32 :: 45 :: 125 :: 125 :: z) = some 4 := fun z => endL_free z [46, 122, 32, 45] (by decide)
    have q1 : ∀ z : List UInt8, blkN (32 :: 46 :: z) = 1 := fun z => rfl
    have q0 : ∀ z : List UInt8, blkN (46 :: z) = 0 := fun z => rfl
    have m1 : ∀ z : List UInt8, markL (45 :: 32 :: z) = true := fun z => rfl
    have m0 : ∀ z : List UInt8, markL (46 :: 122 :: z) = false := fun z => rfl
    have t1 : actText [46, 122] = [46, 122] := by decide
    have t2 : actText [46, 122, 32, 45] = [46, 122] := by decide
    have s1 : actTrims [46, 122] = false := by decide
    have s2 : actTrims [46, 122, 32, 45] = true := by decide
    cases left <;> cases right
    · have hl' : l = (117 :: a) ++ 123 :: 123 :: (46 :: 122 :: 125 :: 125 :: (b ++ [118])) := by rw [hl]; simp
      rw [hl', split_step (117 :: a) (46 :: 122 :: 125 :: 125 :: (b ++ [118])) (n + 1) 0 false hta 0 0 2 (by rw [markN_eq (m0 _)]; rfl) (q0 _) rfl (e1 _)]
      simp only [List.drop_zero, List.drop_succ_cons, List.take_succ_cons, List.take_zero, t1, s1, m0, splitF_end _ _ _ _ htb]
      exact ⟨a.length + 7, by simp [txtP]; omega⟩
    · have hl' : l = (117 :: a) ++ 123 :: 123 :: (46 :: 122 :: 32 :: 45 :: 125 :: 125 :: (b ++ [118])) := by rw [hl]; simp
      rw [hl', split_step (117 :: a) (46 :: 122 :: 32 :: 45 :: 125 :: 125 :: (b ++ [118])) (n + 1) 0 false hta 0 0 4 (by rw [markN_eq (m0 _)]; rfl) (q0 _) rfl (e2 _)]
      simp only [List.drop_zero, List.drop_succ_cons, List.take_succ_cons, List.take_zero, t2, s2, m0, splitF_end _ _ _ _ htb]
      exact ⟨a.length + 9, by simp [txtP, hrb]; omega⟩
    · have hl' : l = (117 :: a) ++ 123 :: 123 :: (45 :: 32 :: 46 :: 122 :: 125 :: 125 :: (b ++ [118])) := by rw [hl]; simp
      rw [hl', split_step (117 :: a) (45 :: 32 :: 46 :: 122 :: 125 :: 125 :: (b ++ [118])) (n + 1) 0 false hta 1 1 2 (by rw [markN_eq (m1 _)]; rfl) (q1 _) rfl (e1 _)]
      simp only [List.drop_zero, List.drop_succ_cons, List.take_succ_cons, List.take_zero, t1, s1, m1, splitF_end _ _ _ _ htb]
      exact ⟨a.length + 9, by simp [txtP, hra]; omega⟩
    · have hl' : l = (117 :: a) ++ 123 :: 123 :: (45 :: 32 :: 46 :: 122 :: 32 :: 45 :: 125 :: 125 :: (b ++ [118])) := by rw [hl]; simp
      rw [hl', split_step (117 :: a) (45 :: 32 :: 46 :: 122 :: 32 :: 45 :: 125 :: 125 :: (b ++ [118])) (n + 1) 0 false hta 1 1 4 (by rw [markN_eq (m1 _)]; rfl) (q1 _) rfl (e2 _)]
      simp only [List.drop_zero, List.drop_succ_cons, List.take_succ_cons, List.take_zero, t2, s2, m1, splitF_end _ _ _ _ htb]
      exact ⟨a.length + 11, by simp [txtP, hra, hrb]; omega⟩
  obtain ⟨p, hp⟩ := hsp
  refine ⟨p, ?_⟩
  rw [← hl]
  unfold splitR
  rw [if_neg (by omega), hp]
  rfl
end Go.Proofs.YtblkbhomlblfnaaDoor.S
