/-
  PLAIN: what was escaped reads again as its norm (P11.1, P10.2).
-/
import Derived.Test.YthmcacgkhpigaaaDoorPlainJ
import Derived.Test.YthmcacgkhpigaaaDoorPlainE
set_option linter.unusedVariables false
set_option linter.unusedSimpArgs false
namespace Go.Proofs.YthmcacgkhpigaaaDoor.S

/-- a sign's bytes -/
inductive Ck : List UInt8 → Prop
  | one (b : UInt8) (h0 : b ≠ 0) (h : b.toNat < 128) : Ck [b]
  | two (b c : UInt8) (h0 : 194 ≤ b.toNat) (h1 : b.toNat ≤ 223) (h2 : 128 ≤ c.toNat) (h3 : c.toNat ≤ 191) : Ck [b, c]
  | three (b c d : UInt8) (h0 : 224 ≤ b.toNat) (h1 : b.toNat ≤ 239) (h2 : 128 ≤ c.toNat) (h3 : c.toNat ≤ 191) (h4 : 128 ≤ d.toNat) (h5 : d.toNat ≤ 191) (h6 : ¬ (b.toNat = 224 ∧ c.toNat < 160)) (h7 : ¬ (b.toNat = 237 ∧ 159 < c.toNat)) : Ck [b, c, d]
  | four (b c d e : UInt8) (h0 : 240 ≤ b.toNat) (h1 : b.toNat ≤ 244) (h2 : 128 ≤ c.toNat) (h3 : c.toNat ≤ 191) (h4 : 128 ≤ d.toNat) (h5 : d.toNat ≤ 191) (h8 : 128 ≤ e.toNat) (h9 : e.toNat ≤ 191) (h6 : ¬ (b.toNat = 240 ∧ c.toNat < 144)) (h7 : ¬ (b.toNat = 244 ∧ 143 < c.toNat)) : Ck [b, c, d, e]
theorem sign_sizeN (b : UInt8) (r : List UInt8) : sign (b :: r) = if b.toNat = 0 then 0 else sizeN (r.length + 1) b.toNat (r.getD 0 0).toNat (r.getD 1 0).toNat (r.getD 2 0).toNat :=
  sign_size _ _ _ _ _ (by omega) (UInt8.toNat_lt _) (UInt8.toNat_lt _) (UInt8.toNat_lt _) (UInt8.toNat_lt _)
theorem ck_of_sign (l : List UInt8) (h : sign l ≠ 0) : Ck (l.take (sign l)) := by
  cases l with
  | nil => exact absurd rfl h
  | cons b r =>
    rw [sign_sizeN] at h ⊢
    by_cases h0 : b.toNat = 0
    · rw [if_pos h0] at h; exact absurd rfl h
    · rw [if_neg h0] at h ⊢
      unfold sizeN at h ⊢
      by_cases hA : b.toNat < 128
      · rw [if_pos hA]
        exact .one b (fun e => h0 (by rw [e]; rfl)) hA
      · rw [if_neg hA] at h ⊢
        by_cases hB : 194 ≤ b.toNat ∧ b.toNat ≤ 223
        · rw [if_pos hB] at h ⊢
          split at h
          · exact absurd rfl h
          · rename_i hn
            rw [if_neg hn]
            rcases r with _ | ⟨c, r⟩
            · exact absurd (.inl (by simp)) hn
            · simp at hn
              exact .two b c hB.1 hB.2 (by omega) (by omega)
        · rw [if_neg hB] at h ⊢
          by_cases hC : 224 ≤ b.toNat ∧ b.toNat ≤ 239
          · rw [if_pos hC] at h ⊢
            split at h
            · exact absurd rfl h
            · rename_i hn
              rw [if_neg hn]
              rcases r with _ | ⟨c, _ | ⟨d, r⟩⟩
              · exact absurd (.inl (by simp)) hn
              · exact absurd (.inl (by simp)) hn
              · simp at hn
                exact .three b c d hC.1 hC.2 (by omega) (by omega) (by omega) (by omega) (by omega) (by omega)
          · rw [if_neg hC] at h ⊢
            by_cases hD : 240 ≤ b.toNat ∧ b.toNat ≤ 244
            · rw [if_pos hD] at h ⊢
              split at h
              · exact absurd rfl h
              · rename_i hn
                rw [if_neg hn]
                rcases r with _ | ⟨c, _ | ⟨d, _ | ⟨e, r⟩⟩⟩
                · exact absurd (.inl (by simp)) hn
                · exact absurd (.inl (by simp)) hn
                · exact absurd (.inl (by simp)) hn
                · simp at hn
                  exact .four b c d e hD.1 hD.2 (by omega) (by omega) (by omega) (by omega) (by omega) (by omega) (by omega) (by omega)
            · rw [if_neg hD] at h
              exact absurd rfl h
theorem Ck.sign {c : List UInt8} (h : Ck c) (r : List UInt8) : sign (c ++ r) = c.length := by
  cases h with
  | one b h0 h =>
    rw [List.cons_append, sign_sizeN, if_neg (fun e => h0 (by rw [← UInt8.toNat_inj]; exact e))]
    unfold sizeN
    rw [if_pos h]
    rfl
  | two b c h0 h1 h2 h3 =>
    rw [List.cons_append, sign_sizeN, if_neg (by omega)]
    unfold sizeN
    rw [if_neg (by omega), if_pos ⟨h0, h1⟩, if_neg (by simp; omega)]
    rfl
  | three b c d h0 h1 h2 h3 h4 h5 h6 h7 =>
    rw [List.cons_append, sign_sizeN, if_neg (by omega)]
    unfold sizeN
    rw [if_neg (by omega), if_neg (by omega), if_pos ⟨h0, h1⟩, if_neg (by simp; omega)]
    rfl
  | four b c d e h0 h1 h2 h3 h4 h5 h8 h9 h6 h7 =>
    rw [List.cons_append, sign_sizeN, if_neg (by omega)]
    unfold sizeN
    rw [if_neg (by omega), if_neg (by omega), if_neg (by omega), if_pos ⟨h0, h1⟩, if_neg (by simp; omega)]
    rfl
/-- a text that is its own norm -/
inductive Nm : List UInt8 → Prop
  | nil : Nm []
  | cons (c r : List UInt8) (hc : Ck c) (hr : Nm r) : Nm (c ++ r)
theorem Ck.ne {c : List UInt8} (h : Ck c) : ∃ b r, c = b :: r := by cases h <;> exact ⟨_, _, rfl⟩
theorem norm_ck {c : List UInt8} (h : Ck c) (r : List UInt8) : norm (c ++ r) = c ++ norm r := by
  have hs := h.sign r
  obtain ⟨b, t, e⟩ := h.ne
  have hl : 0 < c.length := by rw [e]; simp
  have hc : c ++ r = b :: (t ++ r) := by rw [e]; rfl
  rw [hc, norm_cons, ← hc, hs, if_neg (by omega), List.take_left, List.drop_left]
theorem nm_normF : ∀ (n : Nat) (l : List UInt8), l.length ≤ n → Nm (norm l)
  | 0, l, h => by obtain rfl := List.eq_nil_of_length_eq_zero (Nat.le_zero.1 h); rw [norm_nil]; exact .nil
  | n + 1, l, h => by
    cases l with
    | nil => rw [norm_nil]; exact .nil
    | cons b r =>
      rw [norm_cons]
      have hs := sign_le (b :: r)
      split
      · exact .cons bad _ (.three 239 191 189 (by decide) (by decide) (by decide) (by decide) (by decide) (by decide) (by decide) (by decide)) (nm_normF n r (by simpa using h))
      · rename_i hn
        exact .cons _ _ (ck_of_sign _ hn) (nm_normF n _ (by rw [List.length_drop]; simp at *; omega))
theorem nm_norm (l : List UInt8) : Nm (norm l) := nm_normF _ l (Nat.le_refl _)
theorem Nm.norm_app {u : List UInt8} (h : Nm u) (t : List UInt8) : norm (u ++ t) = u ++ norm t := by
  induction h with
  | nil => rfl
  | cons c r hc hr ih => rw [List.append_assoc, norm_ck hc, ih, List.append_assoc]
theorem Nm.norm {u : List UInt8} (h : Nm u) : S.norm u = u := by
  have := h.norm_app []
  rw [List.append_nil, norm_nil, List.append_nil] at this
  exact this
/-- a sign as it is escaped -/
def escC (c : List UInt8) : List UInt8 := if c = [226, 128, 168] then N8 else if c = [226, 128, 169] then N9 else c.flatMap escJ
theorem escR_one (b : UInt8) (r : List UInt8) (h : b ≠ 226) : escR (b :: r) = escJ b ++ escR r := by
  rw [escR]
  · intro r' e _; exact h e
  · intro r' e _; exact h e
theorem ne226 {b : UInt8} (h : b.toNat ≠ 226) : b ≠ 226 := fun e => h (by rw [e]; rfl)
theorem escJ_hi {b : UInt8} (h : 128 ≤ b.toNat) : escJ b = [b] := escJ_high b h
theorem escR_ck {c : List UInt8} (h : Ck c) (r : List UInt8) : escR (c ++ r) = escC c ++ escR r := by
  cases h with
  | one b h0 h =>
    rw [List.cons_append, List.nil_append, escR_one b r (ne226 (by omega))]
    unfold escC
    rw [if_neg (by simp), if_neg (by simp)]
    simp
  | two b c h0 h1 h2 h3 =>
    rw [List.cons_append, List.cons_append, List.nil_append, escR_one b _ (ne226 (by omega)), escR_one c r (ne226 (by omega))]
    unfold escC
    rw [if_neg (by simp), if_neg (by simp)]
    simp
  | three b c d h0 h1 h2 h3 h4 h5 h6 h7 =>
    simp only [List.cons_append, List.nil_append]
    by_cases hb : b = 226
    · by_cases hc : c = 128
      · by_cases hd : d = 168
        · subst hb hc hd; rfl
        · by_cases hd2 : d = 169
          · subst hb hc hd2; rfl
          · subst hb hc
            rw [escR, escR_one 128 _ (by decide), escR_one d r (ne226 (by omega))]
            · unfold escC
              rw [if_neg (by simp [hd]), if_neg (by simp [hd2])]
              simp
            · intro r' _ e; simp at e; exact hd e.1
            · intro r' _ e; simp at e; exact hd2 e.1
      · subst hb
        rw [escR, escR_one c _ (ne226 (by omega)), escR_one d r (ne226 (by omega))]
        · unfold escC
          rw [if_neg (by simp [hc]), if_neg (by simp [hc])]
          simp
        · intro r' _ e; simp at e; exact hc e.1
        · intro r' _ e; simp at e; exact hc e.1
    · rw [escR_one b _ hb, escR_one c _ (ne226 (by omega)), escR_one d r (ne226 (by omega))]
      unfold escC
      rw [if_neg (by simp [hb]), if_neg (by simp [hb])]
      simp
  | four b c d e h0 h1 h2 h3 h4 h5 h8 h9 h6 h7 =>
    simp only [List.cons_append, List.nil_append]
    rw [escR_one b _ (ne226 (by omega)), escR_one c _ (ne226 (by omega)), escR_one d _ (ne226 (by omega)), escR_one e r (ne226 (by omega))]
    unfold escC
    rw [if_neg (by simp), if_neg (by simp)]
    simp
theorem Nm.escR_app {u : List UInt8} (h : Nm u) (t : List UInt8) : escR (u ++ t) = escR u ++ escR t := by
  induction h with
  | nil => rw [escR]; rfl
  | cons c r hc hr ih => rw [List.append_assoc, escR_ck hc, ih, escR_ck hc, List.append_assoc]
/-- no sign in it that could end a text or a script -/
def okE (b : UInt8) : Bool := !(b == 34 || b == 39 || b == 96 || b == 60 || b == 62 || b == 38 || decide (b.toNat < 32))
theorem escJ_ok (c : UInt8) : ∀ b ∈ escJ c, okE b = true := all_bytes (fun c => ∀ b ∈ escJ c, okE b = true) (by decide +kernel) c
theorem escR_ok (l : List UInt8) : ∀ b ∈ escR l, okE b = true := by
  fun_induction escR l with
  | case1 => intro b hb; cases hb
  | case2 r ih =>
    intro b hb
    rcases List.mem_append.1 hb with hb | hb
    · exact (show ∀ b ∈ ([92, 117, 50, 48, 50, 56] : List UInt8), okE b = true by decide) b hb
    · exact ih b hb
  | case3 r ih =>
    intro b hb
    rcases List.mem_append.1 hb with hb | hb
    · exact (show ∀ b ∈ ([92, 117, 50, 48, 50, 57] : List UInt8), okE b = true by decide) b hb
    · exact ih b hb
  | case4 c r _ _ ih =>
    intro b hb
    rcases List.mem_append.1 hb with hb | hb
    · exact escJ_ok c b hb
    · exact ih b hb
/-! texts are read again -/
theorem sixL_len {l : List UInt8} {x : Nat} {r : List UInt8} (h : sixL l = some (x, r)) : r.length + 4 = l.length := by
  unfold sixL at h
  split at h
  · cases h
  · rename_i hn
    cases hs : sixF 4 0 l with
    | none => rw [hs] at h; cases h
    | some y =>
      rw [hs] at h
      simp at h
      rw [← h.2, List.length_drop]; omega
theorem signJL_len {l : List UInt8} {x : Nat} {r : List UInt8} (h : signJL l = some (x, r)) : r.length < l.length := by
  unfold signJL at h
  split at h
  · cases h
  · rename_i x1 r1 h1
    have l1 := sixL_len h1
    split at h
    · simp at h; rw [← h.2]; omega
    · split at h
      · cases h
      · split at h
        · cases h
        · split at h
          · cases h
          · rename_i y r2 h2
            have l2 := sixL_len h2
            rw [List.length_drop] at l2
            split at h
            · simp at h; rw [← h.2]; omega
            · cases h
theorem escJL_len {l t r : List UInt8} (h : escJL l = some (t, r)) : r.length < l.length := by
  unfold escJL at h
  split at h
  · cases h
  · rename_i c r1
    split at h
    · cases hs : signJL r1 with
      | none => rw [hs] at h; cases h
      | some y =>
        obtain ⟨y, r2⟩ := y
        rw [hs] at h
        have := signJL_len hs
        simp at h
        rw [← h.2]
        simp
        omega
    · cases hs : escV c with
      | none => rw [hs] at h; cases h
      | some y =>
        rw [hs] at h
        simp at h
        rw [← h.2]
        simp
theorem txF_any : ∀ (n m : Nat) (l : List UInt8), l.length < n → l.length < m → txF n l = txF m l
  | 0, m, l, h, _ => by omega
  | n + 1, 0, l, _, h => by omega
  | n + 1, m + 1, [], _, _ => rfl
  | n + 1, m + 1, c :: r, hn, hm => by
    simp only [List.length_cons] at hn hm
    unfold txF
    split
    · rfl
    · split
      · cases he : escJL r with
        | none => rfl
        | some y =>
          obtain ⟨t, r2⟩ := y
          have := escJL_len he
          dsimp only
          rw [txF_any n m r2 (by omega) (by omega)]
      · split
        · rfl
        · split
          · rfl
          · have hs := sign_le (c :: r)
            rw [txF_any n m _ (by rw [List.length_drop, List.length_cons]; omega) (by rw [List.length_drop, List.length_cons]; omega)]
theorem txJ_end (r : List UInt8) : txJ (34 :: r) = some ([], r) := by unfold txJ; rw [List.length_cons, txF, if_pos rfl]
theorem txJ_esc {r t r2 : List UInt8} (h : escJL r = some (t, r2)) : txJ (92 :: r) = (txJ r2).map fun x => (t ++ x.1, x.2) := by
  have hl := escJL_len h
  unfold txJ
  rw [List.length_cons, txF, if_neg (by decide), if_pos rfl, h]
  dsimp only
  rw [txF_any (r.length + 1) (r2.length + 1) r2 (by omega) (by omega)]
theorem txJ_sign {c : List UInt8} (h : Ck c) (r : List UInt8) (hq : c ≠ [34]) (hb : c ≠ [92]) (hc : ∀ b, c = [b] → 32 ≤ b.toNat) : txJ (c ++ r) = (txJ r).map fun x => (c ++ x.1, x.2) := by
  have hs := h.sign r
  obtain ⟨b, t, e⟩ := h.ne
  have hl : 0 < c.length := by rw [e]; simp
  have hcr : c ++ r = b :: (t ++ r) := by rw [e]; rfl
  have hbq : b ≠ 34 ∧ b ≠ 92 ∧ 32 ≤ b.toNat := by
    have ne : ∀ z : UInt8, b.toNat ≠ z.toNat → b ≠ z := fun z hz e => hz (by rw [e])
    cases h with
    | one b' h0 h => obtain ⟨rfl, rfl⟩ := List.cons.inj e; exact ⟨fun e => hq (by rw [e]), fun e => hb (by rw [e]), hc _ rfl⟩
    | two b' c' h0 h1 h2 h3 => obtain ⟨rfl, -⟩ := List.cons.inj e; exact ⟨ne 34 (by show _ ≠ 34; omega), ne 92 (by show _ ≠ 92; omega), by omega⟩
    | three b' c' d' h0 => obtain ⟨rfl, -⟩ := List.cons.inj e; exact ⟨ne 34 (by show _ ≠ 34; omega), ne 92 (by show _ ≠ 92; omega), by omega⟩
    | four b' c' d' e' h0 => obtain ⟨rfl, -⟩ := List.cons.inj e; exact ⟨ne 34 (by show _ ≠ 34; omega), ne 92 (by show _ ≠ 92; omega), by omega⟩
  unfold txJ
  rw [hcr, List.length_cons, txF, if_neg hbq.1, if_neg hbq.2.1, if_neg (by omega), ← hcr, hs, if_neg (by omega), List.take_left, List.drop_left]
  rw [txF_any ((t ++ r).length + 1) (r.length + 1) r (by simp; omega) (by omega)]
theorem sixL_four (a b c d : UInt8) (r : List UInt8) : sixL (a :: b :: c :: d :: r) = (sixF 4 0 [a, b, c, d]).map fun x => (x, r) := by
  unfold sixL
  rw [if_neg (by simp)]
  have : sixF 4 0 (a :: b :: c :: d :: r) = sixF 4 0 [a, b, c, d] := by
    simp only [sixF]
  rw [this]
  rfl
def plainE (a b c d : UInt8) (t : List UInt8) : Bool := match sixF 4 0 [a, b, c, d] with
  | none => false
  | some x => (decide (x < 55296) || decide (57343 < x)) && (encU x == t)
theorem escJL_u {a b c d : UInt8} {t : List UInt8} (h : plainE a b c d t = true) (r : List UInt8) : escJL (117 :: a :: b :: c :: d :: r) = some (t, r) := by
  unfold plainE at h
  cases hs : sixF 4 0 [a, b, c, d] with
  | none => rw [hs] at h; cases h
  | some x =>
    rw [hs] at h
    simp at h
    unfold escJL
    dsimp only
    rw [if_pos rfl]
    unfold signJL
    rw [sixL_four, hs]
    dsimp only [Option.map]
    rw [if_pos h.1]
    dsimp only
    rw [h.2]
theorem one_cases (b : UInt8) : b ≠ 0 → b.toNat < 128 → (escJ b = [b] ∧ b ≠ 34 ∧ b ≠ 92 ∧ 32 ≤ b.toNat) ∨ (∃ x y, escJ b = [92, 117, 48, 48, x, y] ∧ plainE 48 48 x y [b] = true) :=
  all_bytes (fun b => b ≠ 0 → b.toNat < 128 → (escJ b = [b] ∧ b ≠ 34 ∧ b ≠ 92 ∧ 32 ≤ b.toNat) ∨ (∃ x y, escJ b = [92, 117, 48, 48, x, y] ∧ plainE 48 48 x y [b] = true)) (fun n h0 h => by
    have hh : (escJ (UInt8.ofNat n.val) = [UInt8.ofNat n.val] ∧ UInt8.ofNat n.val ≠ 34 ∧ UInt8.ofNat n.val ≠ 92 ∧ 32 ≤ (UInt8.ofNat n.val).toNat) ∨ (escJ (UInt8.ofNat n.val) = [92, 117, 48, 48, hexd ((UInt8.ofNat n.val).toNat / 16), hexd ((UInt8.ofNat n.val).toNat % 16)] ∧ plainE 48 48 (hexd ((UInt8.ofNat n.val).toNat / 16)) (hexd ((UInt8.ofNat n.val).toNat % 16)) [UInt8.ofNat n.val] = true) := by
      revert h0 h
      revert n
      decide +kernel
    rcases hh with hh | hh
    · exact .inl hh
    · exact .inr ⟨_, _, hh⟩) b
theorem txJ_ck {c : List UInt8} (h : Ck c) (r : List UInt8) : txJ (escC c ++ r) = (txJ r).map fun x => (c ++ x.1, x.2) := by
  have hi : ∀ l : List UInt8, (∀ b ∈ l, 128 ≤ b.toNat) → l.flatMap escJ = l := by
    intro l
    induction l with
    | nil => intro _; rfl
    | cons b l ih =>
      intro hb
      rw [List.flatMap_cons, escJ_hi (hb b (by simp)), ih fun x hx => hb x (by simp [hx])]
      rfl
  have hm : (∀ b ∈ c, 128 ≤ b.toNat) → txJ (escC c ++ r) = (txJ r).map fun x => (c ++ x.1, x.2) := by
    intro hb
    unfold escC
    split
    · rename_i e
      subst e
      exact txJ_esc (escJL_u (t := [226, 128, 168]) (by decide +kernel) r)
    · split
      · rename_i e
        subst e
        exact txJ_esc (escJL_u (t := [226, 128, 169]) (by decide +kernel) r)
      · rw [hi c hb]
        exact txJ_sign h r (fun e => absurd (hb 34 (by rw [e]; simp)) (by decide)) (fun e => absurd (hb 92 (by rw [e]; simp)) (by decide)) (fun b e => by have := hb b (by rw [e]; simp); omega)
  cases h with
  | one b h0 h =>
    have hc := one_cases b h0 h
    unfold escC
    rw [if_neg (by simp), if_neg (by simp), List.flatMap_cons, List.flatMap_nil, List.append_nil]
    rcases hc with ⟨he, h1, h2, h3⟩ | ⟨x, y, he, hp⟩
    · rw [he]
      exact txJ_sign (.one b h0 h) r (by simp [h1]) (by simp [h2]) (fun b' e => by simp at e; rw [← e]; exact h3)
    · rw [he]
      exact txJ_esc (escJL_u hp r)
  | two b c h0 h1 h2 h3 => exact hm (by simp; omega)
  | three b c d h0 h1 h2 h3 h4 h5 h6 h7 => exact hm (by simp; omega)
  | four b c d e h0 h1 h2 h3 h4 h5 h8 h9 h6 h7 => exact hm (by simp; omega)
theorem Nm.tx {u : List UInt8} (h : Nm u) (r : List UInt8) : txJ (escR u ++ 34 :: r) = some (u, r) := by
  induction h with
  | nil => rw [escR]; exact txJ_end r
  | cons c u hc hu ih =>
    rw [escR_ck hc, List.append_assoc, txJ_ck hc, ih]
    rfl
theorem escR_len (l : List UInt8) : l.length ≤ (escR l).length := by
  have h1 : ∀ c : UInt8, 1 ≤ (escJ c).length := fun c => by unfold escJ; split <;> simp
  fun_induction escR l with
  | case1 => exact Nat.le_refl _
  | case2 r ih => simp; omega
  | case3 r ih => simp; omega
  | case4 c r _ _ ih => have := h1 c; simp; omega
/-- between quotes it reads as its norm -/
theorem getJ_text {u : List UInt8} (h : Nm u) (hx : (escR u).length ≤ 65534) : getJ (34 :: (escR u ++ [34])) = some (.mk 4 0 0 u [] []) := by
  have hl := escR_len u
  have ht := h.tx []
  have hv : valJ 8 (34 :: (escR u ++ [34])) = some (.mk 4 0 0 u [] [], []) := by
    rw [valJ]
    have hb : blJ (34 :: (escR u ++ [34])) = 34 :: (escR u ++ [34]) := by unfold blJ; rw [List.dropWhile_cons, if_neg (by decide)]
    rw [hb]
    rw [if_neg (by simp [List.isPrefixOf]), if_neg (by simp [List.isPrefixOf]), if_neg (by simp [List.isPrefixOf]), if_pos (by simp [List.isPrefixOf]), List.drop_succ_cons, List.drop_zero, ht]
    rfl
  unfold getJ
  rw [if_neg (by simp only [List.length_cons, List.length_append, List.length_nil]; omega)]
  unfold readJ
  rw [hv]
  have hm : mayV (.mk 4 0 0 u [] []) = true := by
    have ho : ownV (.mk 4 0 0 u [] []) = true := by
      have hd : decide (u.length ≤ 65536) = true := decide_eq_true (by omega)
      show decide (u.length ≤ 65536) = true
      exact hd
    unfold mayV mayJ
    rw [if_neg (by decide), ho, if_neg (by decide)]
    rfl
  simp [blJ, hm]
end Go.Proofs.YthmcacgkhpigaaaDoor.S
