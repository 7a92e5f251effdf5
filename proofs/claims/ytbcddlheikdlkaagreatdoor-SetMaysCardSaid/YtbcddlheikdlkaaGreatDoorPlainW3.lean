/-
  PLAIN: numbers are read as they are written (chapter 14).
-/
import Derived.Test.YtbcddlheikdlkaaGreatDoorWordG
import Derived.Test.YtbcddlheikdlkaaGreatDoorDecimal
set_option linter.unusedVariables false
set_option linter.unusedSimpArgs false
namespace Go.Proofs.YtbcddlheikdlkaaGreatDoor.S

theorem digV_decR : ∀ (n : Nat) (l : List UInt8), 0 < n → n ≤ 9007199254740991 → digV 0 (decR n l) = digV n l := by
  intro n
  induction n using Nat.strongRecOn with
  | _ n ih =>
    intro l h0 hm
    rw [decR_step n l (.inl h0)]
    have hd : (UInt8.ofNat (48 + n % 10)).toNat = 48 + n % 10 := by show (48 + n % 10) % 256 = _; omega
    by_cases h : 0 < n / 10
    · rw [ih (n / 10) (by omega) _ h (by omega)]
      show digV (min (10 * (n / 10) + ((UInt8.ofNat (48 + n % 10)).toNat - 48)) 9007199254740992) l = _
      rw [hd]
      congr 1
      omega
    · rw [show n / 10 = 0 by omega, decR_zero, if_neg (by simp)]
      show digV (min (10 * 0 + ((UInt8.ofNat (48 + n % 10)).toNat - 48)) 9007199254740992) l = _
      rw [hd]
      congr 1
      omega
theorem digV_decL (n : Nat) (hm : n ≤ 9007199254740991) : digV 0 (decL n) = n := by
  by_cases h : 0 < n
  · unfold decL
    rw [digV_decR n [] h hm]
    rfl
  · obtain rfl : n = 0 := by omega
    unfold decL
    rw [decR_zero]
    rfl
theorem digV_zeros (l : List UInt8) : ∀ z : Nat, digV 0 (List.replicate z 48 ++ l) = digV 0 l
  | 0 => rfl
  | z + 1 => by
    rw [List.replicate_succ, List.cons_append]
    show digV (min (10 * 0 + ((48 : UInt8).toNat - 48)) 9007199254740992) (List.replicate z 48 ++ l) = _
    rw [show min (10 * 0 + ((48 : UInt8).toNat - 48)) 9007199254740992 = 0 from by decide]
    exact digV_zeros l z
theorem digN_all : ∀ (d r : List UInt8), (∀ b ∈ d, digitI b.toNat = true) → digN r = 0 → digN (d ++ r) = d.length
  | [], r, _, hr => hr
  | b :: d, r, h, hr => by
    rw [List.cons_append]
    show (if digitI b.toNat = true then digN (d ++ r) + 1 else 0) = _
    rw [if_pos (h b (by simp)), digN_all d r (fun c hc => h c (by simp [hc])) hr]
    rfl
theorem numL_read (neg : Bool) (d r : List UInt8) (k : Nat) (hd : ∀ b ∈ d, digitI b.toNat = true) (hn : d ≠ []) (hv : digV 0 d = k) (hk : k ≤ 9007199254740991) (hr : digN r = 0) :
    numL ((if neg = true then [45] else []) ++ d ++ r) = .ok (if neg = true then -(k : Int) else k, r) := by
  have hl : 0 < d.length := List.length_pos_iff.2 hn
  have h1 := digN_all d r hd hr
  have ht : (d ++ r).take d.length = d := by simp
  have hdr : (d ++ r).drop d.length = r := by simp
  cases neg with
  | true =>
    show numL (45 :: (d ++ r)) = _
    unfold numL
    have hp : List.isPrefixOf [45] (45 :: (d ++ r)) = true := rfl
    simp only [hp, if_true, List.drop_succ_cons, List.drop_zero, h1, ht, hdr, hv]
    rw [if_pos ⟨hl, hk⟩]
  | false =>
    show numL (d ++ r) = _
    have hp : List.isPrefixOf [45] (d ++ r) = false := by
      cases d with
      | nil => exact absurd rfl hn
      | cons b t =>
        have hb := hd b (by simp)
        have : b ≠ 45 := fun e => by rw [e] at hb; revert hb; decide
        simp [List.isPrefixOf, Ne.symm this]
    unfold numL
    simp only [hp, Bool.false_eq_true, if_false, h1, ht, hdr, hv]
    rw [if_pos ⟨hl, hk⟩]
/-- a number's first byte -/
theorem num_first (c : UInt8) (h : (c.toNat == 45 || digitI c.toNat) = true) : c ≠ 58 ∧ c ≠ 34 ∧ c ≠ 124 ∧ blk c.toNat = false := by
  have e := (by decide +kernel : ∀ c : Fin 256, (c.val == 45 || digitI c.val) = true → c.val ≠ 58 ∧ c.val ≠ 34 ∧ c.val ≠ 124 ∧ blk c.val = false)
  obtain ⟨h1, h2, h3, h4⟩ := e ⟨c.toNat, c.toNat_lt⟩ h
  exact ⟨fun e => h1 (by show c.toNat = 58; rw [e]; rfl), fun e => h2 (by show c.toNat = 34; rw [e]; rfl), fun e => h3 (by show c.toNat = 124; rw [e]; rfl), h4⟩
theorem wordL_num {c : UInt8} {t : List UInt8} {x : Int} {r : List UInt8} (hc : (c.toNat == 45 || digitI c.toNat) = true) (h : numL (c :: t) = .ok (x, r)) : wordL (c :: t) = .ok (⟨3, [], [], x⟩, r) := by
  obtain ⟨h1, h2, _, _⟩ := num_first c hc
  unfold wordL
  rw [if_neg (by simp [List.isPrefixOf, Ne.symm h1]), if_neg (by simp [List.isPrefixOf, Ne.symm h2])]
  show (if (c.toNat == 45 || digitI c.toNat) = true then _ else _) = _
  rw [if_pos hc, h]
  rfl
theorem trimL_first {c : UInt8} {t : List UInt8} (h : blk c.toNat = false) : trimL (c :: t) = c :: t := by
  rw [trimL_cons]
  simp [h]
theorem allF_num {n : Nat} {c : UInt8} {t r : List UInt8} {x : Int} (hc : (c.toNat == 45 || digitI c.toNat) = true) (h : numL (c :: t) = .ok (x, r)) (he : ends r = true) : allF (n + 1) (c :: t) = (allF n r).map (⟨3, [], [], x⟩ :: ·) := by
  obtain ⟨_, _, h3, h4⟩ := num_first c hc
  rw [allF, trimL_first h4, if_neg (by simp), if_neg (by simp [List.isPrefixOf, Ne.symm h3]), wordL_num hc h]
  dsimp only
  rw [if_pos he]
theorem allF_pipe {n : Nat} {t : List UInt8} : allF (n + 1) (124 :: t) = (allF n t).map (⟨5, [], [], 0⟩ :: ·) := by
  rw [allF, trimL_first (by decide), if_neg (by simp), if_pos (by rfl)]
  rfl
theorem allF_nil (n : Nat) : allF n [] = .ok [] := by cases n <;> rfl
theorem wordsL_ints (neg : Bool) (z k : Nat) (hk : k ≤ 9007199254740991) :
    wordsL (((if neg = true then [45] else []) ++ (List.replicate z 48 ++ decL k)) ++ [124] ++ ((if neg = true then [45] else []) ++ (List.replicate z 48 ++ decL k)))
      = ([⟨3, [], [], if neg = true then -(k : Int) else k⟩, ⟨5, [], [], 0⟩, ⟨3, [], [], if neg = true then -(k : Int) else k⟩], 0) := by
  obtain ⟨d, hd0⟩ : ∃ d, d = List.replicate z 48 ++ decL k := ⟨_, rfl⟩
  have hd : ∀ b ∈ d, digitI b.toNat = true := by
    intro b hb
    rw [hd0] at hb
    rcases List.mem_append.1 hb with hb | hb
    · rw [(List.mem_replicate.1 hb).2]; decide
    · have := decR_digits k [] (by intro b hb; cases hb) b hb
      rw [digitI_true]
      omega
  have hv : digV 0 d = k := by rw [hd0, digV_zeros, digV_decL k hk]
  have hn : d ≠ [] := by
    intro e
    rw [e] at hd0
    have h1 := congrArg List.length hd0
    rw [List.length_append] at h1
    have h2 : decL k ≠ [] := by
      unfold decL
      by_cases h : k = 0
      · subst h; rw [decR_zero]; simp
      · intro e
        have := digV_decL k hk
        unfold decL at this
        rw [e] at this
        exact h this.symm
    have := List.length_pos_iff.2 h2
    simp only [List.length_nil] at h1
    omega
  rw [← hd0]
  obtain ⟨N, hN⟩ : ∃ N, N = (if neg = true then [45] else []) ++ d := ⟨_, rfl⟩
  rw [← hN]
  have h1 := numL_read neg d (124 :: N) k hd hn hv hk (by rfl)
  have h2 := numL_read neg d [] k hd hn hv hk rfl
  rw [← hN] at h1 h2
  rw [List.append_nil] at h2
  obtain ⟨c, t, hct, hc⟩ : ∃ c t, N = c :: t ∧ (c.toNat == 45 || digitI c.toNat) = true := by
    cases neg with
    | true => exact ⟨45, d, hN, rfl⟩
    | false =>
      cases d with
      | nil => exact absurd rfl hn
      | cons b t => exact ⟨b, t, hN, by rw [hd b (by simp), Bool.or_true]⟩
  have hf : allF ((N ++ [124] ++ N).length + 1) (N ++ [124] ++ N) = .ok [⟨3, [], [], if neg = true then -(k : Int) else k⟩, ⟨5, [], [], 0⟩, ⟨3, [], [], if neg = true then -(k : Int) else k⟩] := by
    obtain ⟨m, hm⟩ : ∃ m, (N ++ [124] ++ N).length + 1 = m + 1 + 1 + 1 := ⟨(N ++ [124] ++ N).length - 2, by rw [hct]; simp; omega⟩
    rw [hm, show N ++ [124] ++ N = N ++ (124 :: N) by simp]
    rw [hct] at h1 h2 ⊢
    rw [List.cons_append, allF_num hc (by rw [← List.cons_append]; exact h1) rfl, allF_pipe, allF_num hc h2 rfl, allF_nil]
    rfl
  unfold wordsL
  rw [hf]
end Go.Proofs.YtbcddlheikdlkaaGreatDoor.S
