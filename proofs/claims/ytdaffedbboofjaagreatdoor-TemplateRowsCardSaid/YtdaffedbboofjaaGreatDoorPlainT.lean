/-
  PLAIN: texts and actions side by side are read in their row (the law TemplateRows).
-/
import Derived.Test.YtdaffedbboofjaaGreatDoorTmplAll
import Derived.Test.YtdaffedbboofjaaGreatDoorDecimal
set_option linter.unusedVariables false
set_option linter.unusedSimpArgs false
namespace Go.Proofs.YtdaffedbboofjaaGreatDoor.S
open Go.RowKit

theorem pick_range {α : Type} {f g : Nat → α} {n k : Nat} (h : (List.range n).map f = (List.range n).map g) (hk : k < n) : f k = g k := List.map_inj_left.1 h k (List.mem_range.2 hk)
/-- the digits of a number below 100 -/
def dL (i : Nat) : List UInt8 := if i < 10 then [UInt8.ofNat (48 + i)] else [UInt8.ofNat (48 + i / 10), UInt8.ofNat (48 + i % 10)]
theorem dec_dL (i : Nat) (h : i < 100) : decL i = dL i := by
  unfold decL dL
  by_cases h1 : i < 10
  · rw [if_pos h1, decR_step i [] (.inr rfl), show i / 10 = 0 by omega, decR_zero, if_neg (by simp), show i % 10 = i by omega]
  · rw [if_neg h1, decR_step i [] (.inr rfl), decR_step (i / 10) _ (.inl (by omega)), show i / 10 / 10 = 0 by omega, decR_zero, if_neg (by simp), show i / 10 % 10 = i / 10 by omega]
def body1 (i : Nat) : List UInt8 := [36, 118] ++ dL i ++ [32, 58, 61, 32] ++ dL i
def body2 (i : Nat) : List UInt8 := [116, 101, 109, 112, 108, 97, 116, 101, 32, 34, 110] ++ dL i ++ [34]
def body4 (i : Nat) : List UInt8 := [34, 113] ++ dL i ++ [34]
def seg (k i : Nat) (tx : Bool) : List UInt8 :=
  if k = 0 then (if tx = true then [123, 123, 47, 42, 32] ++ dL i ++ [32, 42, 47, 125, 125] else []) ++ ([116] ++ dL i)
  else if k = 1 then [123, 123] ++ body1 i ++ [125, 125]
  else if k = 2 then [123, 123] ++ body2 i ++ [125, 125]
  else if k = 3 then [123, 123, 105, 102, 32, 46, 125, 125, 123, 123, 101, 110, 100, 125, 125]
  else [123, 123] ++ body4 i ++ [125, 125]
def itm (k i : Nat) : It :=
  if k = 0 then .mk 0 ([116] ++ dL i) [] [] []
  else if k = 1 then .mk 2 ([118] ++ dL i) [⟨[], [⟨2, [], [], i, []⟩]⟩] [] []
  else if k = 2 then .mk 6 ([110] ++ dL i) [] [] []
  else if k = 3 then .mk 3 [] dotP [] []
  else .mk 1 [] [⟨[], [⟨3, [], [], 0, [113] ++ dL i⟩]⟩] [] []
def srcR : Nat → Bool → List Nat → List UInt8
  | _, _, [] => []
  | i, tx, k :: r => seg k i tx ++ srcR (i + 1) (k == 0) r
def itmR : Nat → List Nat → List It
  | _, [] => []
  | i, k :: r => itm k i :: itmR (i + 1) r
def acsR : Nat → List Nat → List Ac
  | _, [] => []
  | i, k :: r => (if k = 3 then [.block 3 dotP, .fin] else [.item (itm k i)]) ++ acsR (i + 1) r
def lastR : Bool → List Nat → Bool
  | tx, [] => tx
  | _, k :: r => lastR (k == 0) r
theorem srcR_snoc : ∀ (r : List Nat) (i : Nat) (tx : Bool) (k : Nat), srcR i tx (r ++ [k]) = srcR i tx r ++ seg k (i + r.length) (lastR tx r)
  | [], i, tx, k => by simp [srcR, lastR]
  | q :: r, i, tx, k => by
    show seg q i tx ++ srcR (i + 1) (q == 0) (r ++ [k]) = (seg q i tx ++ srcR (i + 1) (q == 0) r) ++ _
    rw [srcR_snoc r, List.append_assoc, List.length_cons, show i + 1 + r.length = i + (r.length + 1) by omega]
    rfl
theorem itmR_snoc : ∀ (r : List Nat) (i k : Nat), itmR i (r ++ [k]) = itmR i r ++ [itm k (i + r.length)]
  | [], i, k => by simp [itmR]
  | q :: r, i, k => by
    show itm q i :: itmR (i + 1) (r ++ [k]) = (itm q i :: itmR (i + 1) r) ++ _
    rw [itmR_snoc r, List.length_cons, show i + 1 + r.length = i + (r.length + 1) by omega]
    rfl
theorem lastR_snoc : ∀ (r : List Nat) (tx : Bool) (k : Nat), lastR tx (r ++ [k]) = (k == 0)
  | [], tx, k => rfl
  | q :: r, tx, k => lastR_snoc r _ k
theorem itmR_len : ∀ (r : List Nat) (i : Nat), (itmR i r).length = r.length
  | [], _ => rfl
  | k :: r, i => congrArg (· + 1) (itmR_len r (i + 1))
/-- an action whose signs stand for themselves -/
structure Okb (b : List UInt8) (a : Ac) : Prop where
  q : ∀ z, (markL (b ++ 125 :: 125 :: z), blkN (b ++ 125 :: 125 :: z), List.isPrefixOf [47, 42] (b ++ 125 :: 125 :: z), endL false (b ++ 125 :: 125 :: z)) = (false, 0, false, some b.length)
  p : (actTrims b, actText b, decide (b.length ≤ 256)) = (false, b, true)
  a : actL b = .ok a
theorem Okb.step {b : List UInt8} {a : Ac} (h : Okb b a) (t z : List UInt8) (n i : Nat) (ht : ∀ x ∈ t, x ≠ 123) :
    splitF (n + 1) (t ++ 123 :: 123 :: (b ++ 125 :: 125 :: z)) i false = (splitF n z (i + (t.length + 2 + b.length + 2)) false).map (txtP t i ++ [⟨true, b, i + t.length⟩] ++ ·) := by
  obtain ⟨q1, q2, q3, q4⟩ : _ ∧ _ ∧ _ ∧ _ := by
    have := h.q z
    simp only [Prod.mk.injEq] at this
    exact this
  obtain ⟨p1, p2, -⟩ : _ ∧ _ ∧ _ := by
    have := h.p
    simp only [Prod.mk.injEq] at this
    exact this
  rw [split_step t (b ++ 125 :: 125 :: z) n i false ht 0 0 b.length (by unfold markN; rw [q1]; rfl) q2 q3 q4, q1]
  simp only [List.drop_zero, Bool.false_eq_true, if_false, List.take_left, p1, p2, Nat.add_zero]
  rw [show (b ++ 125 :: 125 :: z).drop (b.length + 2) = z by simp [List.drop_append]]
set_option maxRecDepth 1000000 in
theorem okb1 (i : Nat) (h : i < 40) : Okb (body1 i) (.item (itm 1 i)) where
  q := fun z => congrFun (pick_range (f := fun i z => (markL (body1 i ++ 125 :: 125 :: z), blkN (body1 i ++ 125 :: 125 :: z), List.isPrefixOf [47, 42] (body1 i ++ 125 :: 125 :: z), endL false (body1 i ++ 125 :: 125 :: z))) (g := fun i z => (false, 0, false, some (body1 i).length)) (n := 40) (by kernel_rfl) h) z
  p := pick_range (f := fun i => (actTrims (body1 i), actText (body1 i), decide ((body1 i).length ≤ 256))) (g := fun i => (false, body1 i, true)) (n := 40) (by kernel_rfl) h
  a := pick_range (f := fun i => actL (body1 i)) (g := fun i => .ok (.item (itm 1 i))) (n := 40) (by kernel_rfl) h
set_option maxRecDepth 1000000 in
theorem okb2 (i : Nat) (h : i < 40) : Okb (body2 i) (.item (itm 2 i)) where
  q := fun z => congrFun (pick_range (f := fun i z => (markL (body2 i ++ 125 :: 125 :: z), blkN (body2 i ++ 125 :: 125 :: z), List.isPrefixOf [47, 42] (body2 i ++ 125 :: 125 :: z), endL false (body2 i ++ 125 :: 125 :: z))) (g := fun i z => (false, 0, false, some (body2 i).length)) (n := 40) (by kernel_rfl) h) z
  p := pick_range (f := fun i => (actTrims (body2 i), actText (body2 i), decide ((body2 i).length ≤ 256))) (g := fun i => (false, body2 i, true)) (n := 40) (by kernel_rfl) h
  a := pick_range (f := fun i => actL (body2 i)) (g := fun i => .ok (.item (itm 2 i))) (n := 40) (by kernel_rfl) h
set_option maxRecDepth 1000000 in
theorem okb4 (k i : Nat) (hk : 4 ≤ k) (h : i < 40) : Okb (body4 i) (.item (itm k i)) where
  q := fun z => congrFun (pick_range (f := fun i z => (markL (body4 i ++ 125 :: 125 :: z), blkN (body4 i ++ 125 :: 125 :: z), List.isPrefixOf [47, 42] (body4 i ++ 125 :: 125 :: z), endL false (body4 i ++ 125 :: 125 :: z))) (g := fun i z => (false, 0, false, some (body4 i).length)) (n := 40) (by kernel_rfl) h) z
  p := pick_range (f := fun i => (actTrims (body4 i), actText (body4 i), decide ((body4 i).length ≤ 256))) (g := fun i => (false, body4 i, true)) (n := 40) (by kernel_rfl) h
  a := by
    have e : itm k i = itm 4 i := by unfold itm; rw [if_neg (by omega), if_neg (by omega), if_neg (by omega), if_neg (by omega)]; rfl
    rw [e]
    exact pick_range (f := fun i => actL (body4 i)) (g := fun i => .ok (.item (itm 4 i))) (n := 40) (by kernel_rfl) h
theorem okb3 : Okb [105, 102, 32, 46] (.block 3 dotP) := ⟨fun z => rfl, by kernel_rfl, by kernel_rfl⟩
theorem okb5 : Okb [101, 110, 100] .fin := ⟨fun z => rfl, by kernel_rfl, by kernel_rfl⟩
/-- a comment between two texts -/
theorem com_step (t b z : List UInt8) (n i m : Nat) (ht : ∀ x ∈ t, x ≠ 123) (hb : comL (b ++ z) = some (m, false)) (hm : m = b.length) :
    splitF (n + 1) (t ++ 123 :: 123 :: 47 :: 42 :: (b ++ z)) i false = (splitF n z (i + (t.length + 4 + m)) false).map (txtP t i ++ ·) := by
  obtain ⟨h1, h2⟩ := hasI_behind [123] 123 (123 :: 123 :: 47 :: 42 :: (b ++ z)) t ht (by rfl) (by simp)
  have hd : (t ++ 123 :: 123 :: 47 :: 42 :: (b ++ z)).drop (t.length + 2) = 47 :: 42 :: (b ++ z) := by simp [List.drop_append]
  have hk : (t ++ 123 :: 123 :: 47 :: 42 :: (b ++ z)).take t.length = t := by simp
  have hmk : markL (47 :: 42 :: (b ++ z)) = false := rfl
  have hop : openN (t ++ 123 :: 123 :: 47 :: 42 :: (b ++ z)) = t.length + 2 := by
    rw [openN_text h1, textN_some h1, h2, hd]
    unfold markN
    rw [hmk, if_neg (by decide), Nat.add_zero, hd]
    show t.length + 2 + blkN (47 :: 42 :: _) = _
    rw [blkN_cons]
    rfl
  have htx : textT (t ++ 123 :: 123 :: 47 :: 42 :: (b ++ z)) false = t := by
    rw [textT_cut _ _ h1, headT_cut, h2, hd, hk, hmk]
    rfl
  have hd2 : (t ++ 123 :: 123 :: 47 :: 42 :: (b ++ z)).drop (t.length + 2 + 2) = b ++ z := by rw [← List.drop_drop, hd]; rfl
  have hd3 : (t ++ 123 :: 123 :: 47 :: 42 :: (b ++ z)).drop (t.length + 2 + 2 + m) = z := by rw [← List.drop_drop, hd2, hm]; simp
  rw [splitF_some i false h1, hop, htx, hd, if_pos (by rfl), hd2, hb]
  dsimp only
  rw [hd3]
set_option maxRecDepth 1000000 in
theorem com_dL (i : Nat) (h : i < 40) (z : List UInt8) : comL (([32] ++ dL i ++ [32, 42, 47, 125, 125]) ++ z) = some (([32] ++ dL i ++ [32, 42, 47, 125, 125]).length, false) :=
  congrFun (pick_range (f := fun i z => comL (([32] ++ dL i ++ [32, 42, 47, 125, 125]) ++ z)) (g := fun i z => some (([32] ++ dL i ++ [32, 42, 47, 125, 125]).length, false)) (n := 40) (by kernel_rfl) h) z
set_option maxRecDepth 1000000 in
theorem dL_free (i : Nat) (h : i < 40) : ∀ x ∈ ([116] ++ dL i), x ≠ 123 := by
  have h1 : (([116] ++ dL i).all fun x => x != 123) = true := pick_range (f := fun i => (([116] ++ dL i).all fun x => x != 123)) (g := fun _ => true) (n := 40) (by kernel_rfl) h
  intro x hx
  have := List.all_eq_true.1 h1 x hx
  simpa using this
theorem map_some {α β : Type} {o : Option α} {a : α} {f : α → β} (h : o = some a) : o.map f = some (f a) := by rw [h]; rfl
theorem split_rows : ∀ (ks : List Nat) (i n at_ : Nat) (t : List UInt8) (tx : Bool), i + ks.length ≤ 40 → (t ++ srcR i tx ks).length ≤ n → (∀ x ∈ t, x ≠ 123) → (tx = true ↔ t ≠ []) →
    ∃ ps, splitF n (t ++ srcR i tx ks) at_ false = some (txtP t at_ ++ ps) ∧ ps.map acOf = (acsR i ks).map .ok ∧ longP ps = false ∧ ps.length ≤ 2 * ks.length
  | [], i, n, at_, t, tx, hi, hn, ht, htx => by
    refine ⟨[], ?_, rfl, rfl, Nat.le_refl _⟩
    rw [show srcR i tx [] = [] from rfl, List.append_nil] at *
    rw [List.append_nil]
    cases t with
    | nil => rw [splitF_nil]; rfl
    | cons b t =>
      obtain ⟨m, rfl⟩ : ∃ m, n = m + 1 := ⟨n - 1, by simp at hn; omega⟩
      rw [splitF_end m at_ false _ ht]
      rfl
  | k :: r, i, n, at_, t, tx, hi, hn, ht, htx => by
    have hi1 : i < 40 := by simp at hi; omega
    have hi2 : i + 1 + r.length ≤ 40 := by simp at hi; omega
    have hs : srcR i tx (k :: r) = seg k i tx ++ srcR (i + 1) (k == 0) r := rfl
    rw [hs] at hn ⊢
    have hact : ∀ (b : List UInt8) (a : Ac), Okb b a → (k == 0) = false → seg k i tx = [123, 123] ++ b ++ [125, 125] → acsR i (k :: r) = a :: acsR (i + 1) r →
        ∃ ps, splitF n (t ++ (seg k i tx ++ srcR (i + 1) (k == 0) r)) at_ false = some (txtP t at_ ++ ps) ∧ ps.map acOf = (acsR i (k :: r)).map .ok ∧ longP ps = false ∧ ps.length ≤ 2 * (k :: r).length := by
      intro b a hb hk hsg hac
      rw [hsg, hk] at hn ⊢
      rw [hac]
      obtain ⟨m, rfl⟩ : ∃ m, n = m + 1 := ⟨n - 1, by simp at hn; omega⟩
      obtain ⟨ps, h1, h2, h3, h4⟩ := split_rows r (i + 1) m (at_ + (t.length + 2 + b.length + 2)) [] false hi2 (by simp at hn ⊢; omega) (by simp) (by simp)
      rw [List.nil_append] at h1
      have hx := hb.step t (srcR (i + 1) false r) m at_ ht
      rw [map_some h1] at hx
      refine ⟨⟨true, b, at_ + t.length⟩ :: ps, ?_, ?_, ?_, by simp; omega⟩
      · simpa [txtP] using hx
      · rw [List.map_cons, List.map_cons, h2]
        congr 1
        show (if true = true then actL b else _) = _
        rw [if_pos rfl, hb.a]
      · have hl : b.length ≤ 256 := by have := hb.p; simp only [Prod.mk.injEq, decide_eq_true_eq] at this; exact this.2.2
        unfold longP at *
        rw [List.any_cons, h3]
        simp; omega
    by_cases h0 : k = 0
    · subst h0
      have hsg : seg 0 i tx = (if tx = true then [123, 123, 47, 42, 32] ++ dL i ++ [32, 42, 47, 125, 125] else []) ++ ([116] ++ dL i) := rfl
      have hac : acsR i (0 :: r) = .item (.mk 0 ([116] ++ dL i) [] [] []) :: acsR (i + 1) r := rfl
      rw [hsg] at hn ⊢
      rw [hac]
      have hfin : ∀ m at2, ((([116] ++ dL i) ++ srcR (i + 1) true r).length ≤ m) → ∃ ps, splitF m (([116] ++ dL i) ++ srcR (i + 1) true r) at2 false = some ps ∧ ps.map acOf = (Ac.item (.mk 0 ([116] ++ dL i) [] [] []) :: acsR (i + 1) r).map .ok ∧ longP ps = false ∧ ps.length ≤ 2 * (0 :: r).length := by
        intro m at2 hm
        obtain ⟨ps, h1, h2, h3, h4⟩ := split_rows r (i + 1) m at2 ([116] ++ dL i) true hi2 hm (dL_free i hi1) (by simp)
        rw [txtP_of (by simp)] at h1
        refine ⟨_, h1, ?_, ?_, by simp; omega⟩
        · rw [List.map_append, h2]; rfl
        · rw [longP_append, h3]; rfl
      cases tx with
      | false =>
        obtain rfl : t = [] := by
          by_cases h : t = []
          · exact h
          · exact absurd (htx.2 h) (by simp)
        obtain ⟨ps, h1, h2, h3, h4⟩ := hfin n at_ (by simpa using hn)
        exact ⟨ps, by simpa [txtP] using h1, h2, h3, h4⟩
      | true =>
        obtain ⟨m, rfl⟩ : ∃ m, n = m + 1 := ⟨n - 1, by simp at hn; omega⟩
        obtain ⟨ps, h1, h2, h3, h4⟩ := hfin m (at_ + (t.length + 4 + ([32] ++ dL i ++ [32, 42, 47, 125, 125]).length)) (by simp at hn ⊢; omega)
        have hx := com_step t ([32] ++ dL i ++ [32, 42, 47, 125, 125]) (([116] ++ dL i) ++ srcR (i + 1) true r) m at_ _ ht (com_dL i hi1 _) rfl
        rw [map_some h1] at hx
        refine ⟨ps, ?_, h2, h3, h4⟩
        simpa using hx
    · have hk0 : (k == 0) = false := by simpa using h0
      by_cases h1 : k = 1
      · subst h1
        exact hact _ _ (okb1 i hi1) rfl rfl rfl
      · by_cases h2 : k = 2
        · subst h2
          exact hact _ _ (okb2 i hi1) rfl rfl rfl
        · by_cases h3 : k = 3
          · subst h3
            clear hact
            have hsg : seg 3 i tx = [123, 123] ++ [105, 102, 32, 46] ++ [125, 125] ++ ([123, 123] ++ [101, 110, 100] ++ [125, 125]) := rfl
            have hac : acsR i (3 :: r) = .block 3 dotP :: .fin :: acsR (i + 1) r := rfl
            rw [hsg] at hn ⊢
            rw [hac]
            obtain ⟨m, rfl⟩ : ∃ m, n = m + 1 + 1 := ⟨n - 2, by simp at hn; omega⟩
            obtain ⟨ps, g1, g2, g3, g4⟩ := split_rows r (i + 1) m (at_ + (t.length + 2 + 4 + 2) + (0 + 2 + 3 + 2)) [] false hi2 (by simp at hn ⊢; omega) (by simp) (by simp)
            rw [List.nil_append] at g1
            have hx2 := okb5.step [] (srcR (i + 1) false r) m (at_ + (t.length + 2 + 4 + 2)) (by simp)
            simp only [List.length_nil, List.length_cons] at hx2
            rw [map_some g1] at hx2
            have hx := okb3.step t ([] ++ 123 :: 123 :: ([101, 110, 100] ++ 125 :: 125 :: srcR (i + 1) false r)) (m + 1) at_ ht
            simp only [List.length_nil, List.length_cons] at hx
            rw [map_some hx2] at hx
            refine ⟨⟨true, [105, 102, 32, 46], at_ + t.length⟩ :: ⟨true, [101, 110, 100], at_ + (t.length + 2 + 4 + 2)⟩ :: ps, ?_, ?_, ?_, by simp; omega⟩
            · simpa [txtP] using hx
            · rw [List.map_cons, List.map_cons, List.map_cons, List.map_cons, g2]
              exact List.cons_eq_cons.2 ⟨okb3.a, List.cons_eq_cons.2 ⟨okb5.a, rfl⟩⟩
            · unfold longP at *
              rw [List.any_cons, List.any_cons, g3]
              rfl
          · exact hact _ _ (okb4 k i (by omega) hi1) hk0 (by unfold seg; rw [if_neg h0, if_neg h1, if_neg h2, if_neg h3]) (by show (if k = 3 then _ else _) ++ _ = _; rw [if_neg h3]; rfl)
/-- the rows' actions leave the stack as it is -/
theorem run_acs : ∀ (ks : List Nat) (i : Nat) (ps : List Pc) (row : List It), ps.map acOf = (acsR i ks).map .ok → runS [⟨0, [], [], row, false⟩] ps = .ok [⟨0, [], [], row ++ itmR i ks, false⟩]
  | [], i, ps, row, h => by
    cases ps with
    | nil => simp [runS, itmR]
    | cons p ps => cases h
  | k :: r, i, ps, row, h => by
    by_cases h3 : k = 3
    · subst h3
      have hac : acsR i (3 :: r) = .block 3 dotP :: .fin :: acsR (i + 1) r := rfl
      rw [hac] at h
      match ps, h with
      | [_], h => simp at h
      | p :: q :: ps, h =>
        simp only [List.map_cons, List.cons.injEq] at h
        obtain ⟨e1, e2, e3⟩ := h
        have ih := run_acs r (i + 1) ps (row ++ [itm 3 i]) e3
        rw [runS, e1]
        simp only [stepL]
        rw [if_neg (by decide)]
        dsimp only
        rw [runS, e2]
        simp only [stepL, Lv.add, Lv.item]
        rw [show row ++ itmR i (3 :: r) = (row ++ [itm 3 i]) ++ itmR (i + 1) r by simp [itmR], ← ih]
        rfl
    · have hac : acsR i (k :: r) = .item (itm k i) :: acsR (i + 1) r := by show (if k = 3 then _ else _) ++ _ = _; rw [if_neg h3]; rfl
      rw [hac] at h
      match ps, h with
      | p :: ps, h =>
        simp only [List.map_cons, List.cons.injEq] at h
        obtain ⟨e1, e3⟩ := h
        have ih := run_acs r (i + 1) ps (row ++ [itm k i]) e3
        rw [runS, e1]
        simp only [stepL, Lv.add]
        rw [show row ++ itmR i (k :: r) = (row ++ [itm k i]) ++ itmR (i + 1) r by simp [itmR], ← ih]
theorem dL_len (i : Nat) : (dL i).length ≤ 2 := by unfold dL; split <;> simp
theorem seg_len (k i : Nat) (tx : Bool) : (seg k i tx).length ≤ 30 := by
  have := dL_len i
  unfold seg body1 body2 body4
  split
  · split <;> simp <;> omega
  · repeat' split
    all_goals simp
    all_goals omega
theorem srcR_len : ∀ (ks : List Nat) (i : Nat) (tx : Bool), (srcR i tx ks).length ≤ 30 * ks.length
  | [], _, _ => Nat.zero_le _
  | k :: r, i, tx => by
    have h1 := seg_len k i tx
    have h2 := srcR_len r (i + 1) (k == 0)
    show (seg k i tx ++ srcR (i + 1) (k == 0) r).length ≤ _
    rw [List.length_append, List.length_cons]
    omega
set_option maxRecDepth 1000000 in
theorem seg_no (k i : Nat) (tx : Bool) (hk : k ≤ 7) (h : i < 40) : ∀ x ∈ seg k i tx, x ≠ 13 := by
  have h1 : ((seg k i tx).all fun x => x != 13) = true := by
    have h2 := pick_range (f := fun k => (List.range 40).map fun i => ((seg k i true).all fun x => x != 13, (seg k i false).all fun x => x != 13)) (g := fun _ => (List.range 40).map fun _ => (true, true)) (n := 8) (by kernel_rfl) (show k < 8 by omega)
    have h3 := pick_range (f := fun i => ((seg k i true).all fun x => x != 13, (seg k i false).all fun x => x != 13)) (g := fun _ => (true, true)) (n := 40) h2 h
    simp only [Prod.mk.injEq] at h3
    cases tx with
    | true => exact h3.1
    | false => exact h3.2
  intro x hx
  have := List.all_eq_true.1 h1 x hx
  simpa using this
theorem srcR_no : ∀ (ks : List Nat) (i : Nat) (tx : Bool), i + ks.length ≤ 40 → (∀ k ∈ ks, k ≤ 7) → ∀ x ∈ srcR i tx ks, x ≠ 13
  | [], _, _, _, _ => by simp [srcR]
  | k :: r, i, tx, hi, hk => by
    intro x hx
    rcases List.mem_append.1 (show x ∈ seg k i tx ++ srcR (i + 1) (k == 0) r from hx) with hx | hx
    · exact seg_no k i tx (hk k (by simp)) (by simp at hi; omega) x hx
    · exact srcR_no r (i + 1) _ (by simp at hi; omega) (fun q hq => hk q (by simp [hq])) x hx
theorem tmpl_rows (ks : List Nat) (hl : ks.length ≤ 40) (hk : ∀ k ∈ ks, k ≤ 7) : tmplL (srcR 0 false ks) = .ok (itmR 0 ks) := by
  have hlen := srcR_len ks 0 false
  obtain ⟨ps, h1, h2, h3, h4⟩ := split_rows ks 0 (srcR 0 false ks).length 0 [] false (by omega) (by simp) (by simp) (by simp)
  rw [List.nil_append] at h1
  have hid := linesL_id _ (srcR_no ks 0 false (by omega) hk)
  have hs : splitL (srcR 0 false ks) = some ps := by unfold splitL; rw [hid]; exact h1
  have hr : splitR (srcR 0 false ks) = (ps, 0) := limits_ok (by omega) hs h3 (by omega)
  unfold tmplL
  rw [hr, if_neg (by simp), ← run_parse]
  have := run_acs ks 0 ps [] h2
  rw [List.nil_append] at this
  show endS (runS [⟨0, [], [], [], false⟩] ps) = _
  rw [this]
  rfl
end Go.Proofs.YtdaffedbboofjaaGreatDoor.S
