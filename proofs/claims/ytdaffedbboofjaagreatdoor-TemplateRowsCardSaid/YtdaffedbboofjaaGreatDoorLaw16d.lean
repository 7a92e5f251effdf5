/-
  THE WALK of the law TemplateRows (chapter 16).
-/
import Derived.Test.YtdaffedbboofjaaGreatDoorPlainT
import Derived.ChangeSlices
import Derived.OpenShut
import Derived.Carry
set_option linter.unusedVariables false
set_option linter.unusedSimpArgs false
namespace Go.Proofs.YtdaffedbboofjaaGreatDoor.S
open Go.RowKit

/-- a row of ints as it is read, nil or not, in one word -/
theorem ints_fn {H : Type} {enc : TypeId × Value → H} {W : World} {t e : TypeId} {a0 : Option Addr} {n c : Nat} {d : DataW H} {p : List MemPlace} (ht : Tryz.prog.underlying t = some (.slice e)) (he : Tryz.prog.underlying e = some (.int .i64)) (hc : Tryz.prog.cellsOf e = 1)
    (h0 : DataW.Trod enc Tryz.prog W 0 (fun _ => true) true t (.slice a0 n c) d p) : ∃ f : Nat → Int, n ≤ 9223372036854775807 ∧ ∀ i, i < n → ∃ b o, a0 = some ⟨b, o, none⟩ ∧ W.cell? ⟨b, o + i, none⟩ = some (.int .i64 (f i)) := by
  obtain ⟨fuel, hf⟩ := h0
  rcases Go.ChangeShapes.open_ints ht he hc hf with ⟨hcs, -⟩ | ⟨a, len', cap', zs, hcs, -, hl, hm, hz, -, hcell, -⟩
  · simp [Value.cells] at hcs
    obtain ⟨rfl, rfl, rfl⟩ := hcs
    exact ⟨fun _ => 0, by omega, fun i hi => absurd hi (Nat.not_lt_zero _)⟩
  · simp [Value.cells] at hcs
    obtain ⟨rfl, rfl, rfl⟩ := hcs
    simp only [if_true] at hz
    refine ⟨fun i => zs.getD i 0, by simp only [maxLen] at hm; omega, fun i hi => ?_⟩
    obtain ⟨b, o, spot⟩ := a
    have h := hcell i (by omega)
    have hs : spot = none := by simpa [Addr.add] using World.cell?_spot (hcell 0 (by omega))
    subst hs
    exact ⟨b, o, rfl, by rw [← Go.WideShapes.add_plain]; exact h⟩
theorem cat2 {a b : ByteArray} {l r : List UInt8} (h1 : StrIs a l) (h2 : StrIs b r) : StrIs (a ++ b) (l ++ r) := by
  unfold StrIs at *
  rw [← h1, ← h2]
  simp [ByteArray.data_append]
theorem mask7w (x : Int) : ∃ n : Nat, n ≤ 7 ∧ bits .and .i64 x 7 = (n : Int) :=
  ⟨(x % 8).toNat, by omega, (i64_mask 3 (by decide) x).trans (by show x % 8 = _; omega)⟩
theorem join2 (x y : ByteArray) (h : x.size + y.size ≤ 9223372036854775807) : ∀ W, (Op.stringOp .add x y).run Tryz.prog W = .ok (.string (x ++ y)) W := fun W => run_string_add_sum W x y h
theorem join3 (x y : ByteArray) (A B : Nat) (hx : x.size ≤ A) (hy : y.size ≤ B) (h : A + B ≤ 100000) : (∀ W, (Op.stringOp .add x y).run Tryz.prog W = .ok (.string (x ++ y)) W) ∧ (x ++ y).size ≤ A + B :=
  ⟨join2 x y (by omega), by rw [ByteArray.size_append]; omega⟩
theorem str_is {b : ByteArray} {l : List UInt8} (h : StrIs b l) : b = ⟨l.toArray⟩ := by
  unfold StrIs at h
  subst h
  simp
theorem take_step (ks : List Nat) (i : Nat) (h : i < ks.length) :
    srcR 0 false (ks.take (i + 1)) = srcR 0 false (ks.take i) ++ seg ks[i] i (lastR false (ks.take i)) ∧ itmR 0 (ks.take (i + 1)) = itmR 0 (ks.take i) ++ [itm ks[i] i] ∧ lastR false (ks.take (i + 1)) = (ks[i] == 0) := by
  have e : ks.take (i + 1) = ks.take i ++ [ks[i]] := by rw [List.take_add_one]; simp [h]
  have hl : (ks.take i).length = i := by simp; omega
  rw [e, srcR_snoc, itmR_snoc, lastR_snoc, hl, Nat.zero_add]
  exact ⟨rfl, rfl, rfl⟩
theorem rows_spec (kk : Nat → Nat) (hk : ∀ i, kk i ≤ 7) (N : Nat) (hN : N ≤ 40) : ∃ (S : Nat → List UInt8) (T : Nat → Bool) (I : Nat → List It), S 0 = [] ∧ I 0 = [] ∧ T 0 = false ∧
    (∀ i, i < N → S (i + 1) = S i ++ seg (kk i) i (T i) ∧ I (i + 1) = I i ++ [itm (kk i) i] ∧ T (i + 1) = (kk i == 0)) ∧ tmplL (S N) = .ok (I N) ∧ ∀ i, i ≤ N → (S i).length ≤ 1200 ∧ (I i).length ≤ 40 := by
  have hlen : ((List.range N).map kk).length = N := by simp
  refine ⟨fun i => srcR 0 false (((List.range N).map kk).take i), fun i => lastR false (((List.range N).map kk).take i), fun i => itmR 0 (((List.range N).map kk).take i), rfl, rfl, rfl, fun i hi => ?_, ?_, fun i hi => ?_⟩
  · have := take_step ((List.range N).map kk) i (by rw [hlen]; exact hi)
    simpa using this
  · dsimp only
    rw [List.take_of_length_le (by omega)]
    refine tmpl_rows _ (by omega) ?_
    intro k hk'
    obtain ⟨j, -, rfl⟩ := List.mem_map.1 hk'
    exact hk j
  · have h1 := srcR_len (((List.range N).map kk).take i) 0 false
    have h2 : (((List.range N).map kk).take i).length ≤ 40 := by simp; omega
    dsimp only
    rw [itmR_len]
    omega
/-- append(want, one item) -/
theorem wp_appIt {a : Act} {o : Oper} {ops : Array Oper} {rest : List Oper} {Q : Exit → Act → World → Prop} {W : World} (base : Nat) (hgd : o.guard = none) (s x : Operand) (ho : o.op = .call { callee := .builtin .append, args := #[s, x], argTypes := #[22, 22] })
    (v : Value) (is : List It) (i : It) (tx : ByteArray) (pv : Value) (c : Nat) (hs : a.eval s = v) (hx : a.eval x = .slice (some ⟨W.heap.size, 0, none⟩) 1 c)
    (HR : Rw base (fun _ => False) v is W) (ht : StrIs tx i.text) (hp : Cms base pv i.pipe W) (hth : i.th = []) (hel : i.el = []) (hbase : base ≤ W.heap.size) (hn : is.length ≤ 100000)
    (h : ∀ v1 w1, Rw base (fun _ => False) v1 (is ++ [i]) w1 → (∀ w0, Below base w0 W → Below base w0 w1) → wpList Tryz.prog ops Q rest (a.put o.dst v1) w1) :
    wpList Tryz.prog ops Q (o :: rest) a (W.alloc (.cells #[.int .i64 i.kind, .string tx, pv, .slice none 0 0, .slice none 0 0] 37)) := by
  obtain ⟨zs, rfl, hr, hz⟩ := HR
  obtain ⟨pa, pc, hpv⟩ := hp.slice
  rw [List.length_map] at hn
  obtain rfl := str_is ht
  refine wp_app1 itInfo Tryz.underlying22 rfl (by decide) base hgd s x ho v zs.length (icsCells zs) _ c hs hx rfl (by intro u hu; simp at hu; rcases hu with rfl | rfl | rfl | rfl <;> first | rfl | (rw [hpv]; rfl)) hr hbase (by simp only [maxLen]; omega) (by omega) ?_
  intro v1 w1 hown hg
  have hk : Kp base (fun _ => False) W w1 := Kp.of hg (fun k _ => .inl id) (fun k hk => by
    obtain ⟨cs, hc⟩ := own_type hr k hk
    exact .inr ⟨cs, _, _, hc, by decide, by decide, by decide⟩)
  refine h v1 w1 (its_snoc hk hz hp (by rw [hth]; exact its_nil _ _ _) (by rw [hel]; exact its_nil _ _ _) hown) fun w0 hb => hb.grown hg hbase fun k hk => own_base hr k hk
set_option maxRecDepth 100000 in
set_option maxHeartbeats 16000000 in
theorem templateRows_calls (a0 : Option Addr) (n c : Nat) (f : Nat → Int) (w : World) (hE : Env w) (hn : n ≤ 9223372036854775807) (hcl : ∀ i, i < n → ∃ b o, a0 = some ⟨b, o, none⟩ ∧ w.cell? ⟨b, o + i, none⟩ = some (.int .i64 (f i))) :
    Calls Tryz.prog 6 #[.slice a0 n c] w fun e w' => e = .returned (.bool true) ∧ Below w.heap.size w w' := by
  obtain ⟨kk, hkk⟩ : ∃ kk : Nat → Nat, ∀ i, kk i ≤ 7 ∧ bits .and .i64 (f i) 7 = (kk i : Int) := ⟨fun i => (mask7w (f i)).choose, fun i => (mask7w (f i)).choose_spec⟩
  obtain ⟨N, hN⟩ : ∃ N, N = min n 40 := ⟨_, rfl⟩
  obtain ⟨S, T, I, hS0, hI0, hT0, hstep, hfin, hlen⟩ := rows_spec kk (fun i => (hkk i).1) N (by omega)
  have HS := Lib.hid hstep
  have HL := Lib.hid hlen
  have HKK := Lib.hid hkk
  have HF := Lib.hid hfin
  have HC := Lib.hid hcl
  have HN := Lib.hid hN
  have hN40 : N ≤ 40 := by omega
  clear hstep hlen hkk hfin hcl hN
  go_enter Tryz.func6, Tryz.ntmps6
  go_wp2_with fail
  refine (awake16_calls _ hE).mono ?_
  rintro e w1 ⟨rfl, hb1⟩
  go_wp2
  go_loopg [3, 4, 5, 6] N (fun gk v3 v4 v5 v6 wr => ∃ (i : Nat) (x : ByteArray) (v : Value) (t : Bool), v3 = .string x ∧ v4 = v ∧ v5 = .bool t ∧ v6 = .int .i64 i ∧ i + gk = N ∧ StrIs x (S i) ∧ t = T i ∧ Rw w.heap.size (fun _ => False) v (I i) wr ∧ Below w.heap.size w wr)
  case atStart => exact ⟨0, ⟨#[]⟩, .slice none 0 0, false, rfl, rfl, rfl, rfl, by omega, hS0.symm, hT0.symm, by rw [hI0]; exact rw_nil _ _ _, hb1⟩
  case round =>
    obtain ⟨i, x, v, t, rfl, hvv, rfl, rfl, hig, hx, ht, hR, hbr⟩ := hrel
    have HIG := Lib.hid hig
    have hiz : i ≤ N := by omega
    clear hig
    obtain ⟨hsl, hil⟩ := HL.out i hiz
    have hxs : x.size ≤ 1200 := by rw [hx.size]; exact hsl
    obtain ⟨va, vc, rfl⟩ := hR.slice
    subst hvv
    by_cases h1 : i < N
    · obtain ⟨eS, eI, eT⟩ := HS.out i h1
      have h1n : i < n := by have := HN.out; omega
      have h1b : decide ((i : Int) < (n : Int)) = true := decide_eq_true (by omega)
      have h2b : decide ((i : Int) < 40) = true := decide_eq_true (by omega)
      obtain ⟨pb, po, rfl, hp⟩ := HC.out i h1n
      obtain ⟨hk7, hkb⟩ := HKK.out i
      have hp := cell_keep (hbr.mono (by have := cell_lt hp; omega)) hp
      go_wp2_with fail
      refine (decimal_calls i _ (by omega)).mono ?_
      rintro e w2 ⟨d, rfl, hd, hb2⟩
      rw [dec_dL i (by omega)] at hd
      have hds : d.size ≤ 2 := by rw [hd.size]; exact dL_len i
      have hR := hR.below hb2
      have hp := cell_keep hb2 hp
      have hbr := hbr.trans (hb2.mono hbr.size)
      have HD := Lib.hid hn
      obtain ⟨k, hk⟩ : ∃ k, k = kk i := ⟨_, rfl⟩
      rw [← hk] at hk7 hkb eS eI eT
      clear hk hb2 HS HL HKK HF HC
      rcases (show k = 0 ∨ k = 1 ∨ k = 2 ∨ k = 3 ∨ 4 ≤ k by omega) with rfl | rfl | rfl | rfl | h4
      · cases t with
        | true =>
          obtain ⟨xj0, xs0⟩ := join3 (x) ⟨#[123, 123, 47, 42, 32]⟩ (1200) 5 hxs (Nat.le_refl _) (by omega)
          obtain ⟨xj1, xs1⟩ := join3 (x ++ ⟨#[123, 123, 47, 42, 32]⟩) d (1200 + 5) 2 xs0 (hds) (by omega)
          obtain ⟨xj2, xs2⟩ := join3 (x ++ ⟨#[123, 123, 47, 42, 32]⟩ ++ d) ⟨#[32, 42, 47, 125, 125]⟩ (1200 + 5 + 2) 5 xs1 (Nat.le_refl _) (by omega)
          obtain ⟨xj3, xs3⟩ := join3 (x ++ ⟨#[123, 123, 47, 42, 32]⟩ ++ d ++ ⟨#[32, 42, 47, 125, 125]⟩) ⟨#[116]⟩ (1200 + 5 + 2 + 5) 1 xs2 (Nat.le_refl _) (by omega)
          obtain ⟨xj4, xs4⟩ := join3 (x ++ ⟨#[123, 123, 47, 42, 32]⟩ ++ d ++ ⟨#[32, 42, 47, 125, 125]⟩ ++ ⟨#[116]⟩) d (1200 + 5 + 2 + 5 + 1) 2 xs3 (hds) (by omega)
          obtain ⟨tj, ts⟩ := join3 ⟨#[116]⟩ d 1 2 (Nat.le_refl _) hds (by omega)
          have hst : StrIs (x ++ ⟨#[123, 123, 47, 42, 32]⟩ ++ d ++ ⟨#[32, 42, 47, 125, 125]⟩ ++ ⟨#[116]⟩ ++ d) (S (i + 1)) := by
            rw [eS]
            exact by rw [← ht, show seg 0 i true = [123, 123, 47, 42, 32] ++ (dL i ++ ([32, 42, 47, 125, 125] ++ ([116] ++ dL i))) by simp [seg]]; simp only [← List.append_assoc]; exact cat2 (cat2 (cat2 (cat2 (cat2 hx rfl) hd) rfl) rfl) hd
          have HST := Lib.hid hst
          have HEI := Lib.hid eI
          have HET := Lib.hid eT
          clear hst eS eI eT
          clear ht
          go_wp2_with (at_builtin; refine wp_appIt w.heap.size ?_ (.tmp 56) (.tmp 60) ?_ (.slice va (I i).length vc) (I i) (.mk 0 ([116] ++ dL i) [] [] []) (⟨#[116]⟩ ++ d) (.slice none 0 0) 1 ?_ ?_ ?_ ?_ ?_ ?_ ?_ ?_ ?_ ?_; rfl; rfl; rfl; (rfl); exact hR; exact (cat2 (show StrIs ⟨#[116]⟩ [116] from rfl) hd); exact (cms_nil _ _); rfl; rfl; exact hbr.size; omega; intro v5 w5 hR5 hb5; have HR2 := Lib.hid (show Rw w.heap.size (fun _ => False) v5 (I (i + 1)) w5 by rw [HEI.out]; exact hR5); have HB2 := Lib.hid (hb5 _ hbr); clear hR5 hb5)
          go_roundg (gk - 1)
          case measure => have := HIG.out; omega
          case rel => exact ⟨i + 1, _, _, _, rfl, rfl, rfl, by go_num, by have := HIG.out; omega, HST.out, HET.out.symm, HR2.out, HB2.out⟩
        | false =>
          obtain ⟨xj0, xs0⟩ := join3 (x) ⟨#[116]⟩ (1200) 1 hxs (Nat.le_refl _) (by omega)
          obtain ⟨xj1, xs1⟩ := join3 (x ++ ⟨#[116]⟩) d (1200 + 1) 2 xs0 (hds) (by omega)
          obtain ⟨tj, ts⟩ := join3 ⟨#[116]⟩ d 1 2 (Nat.le_refl _) hds (by omega)
          have hst : StrIs (x ++ ⟨#[116]⟩ ++ d) (S (i + 1)) := by
            rw [eS]
            exact by rw [← ht, show seg 0 i false = [116] ++ dL i by simp [seg]]; simp only [← List.append_assoc]; exact cat2 (cat2 hx rfl) hd
          have HST := Lib.hid hst
          have HEI := Lib.hid eI
          have HET := Lib.hid eT
          clear hst eS eI eT
          clear ht
          go_wp2_with (at_builtin; refine wp_appIt w.heap.size ?_ (.tmp 56) (.tmp 60) ?_ (.slice va (I i).length vc) (I i) (.mk 0 ([116] ++ dL i) [] [] []) (⟨#[116]⟩ ++ d) (.slice none 0 0) 1 ?_ ?_ ?_ ?_ ?_ ?_ ?_ ?_ ?_ ?_; rfl; rfl; rfl; (rfl); exact hR; exact (cat2 (show StrIs ⟨#[116]⟩ [116] from rfl) hd); exact (cms_nil _ _); rfl; rfl; exact hbr.size; omega; intro v5 w5 hR5 hb5; have HR2 := Lib.hid (show Rw w.heap.size (fun _ => False) v5 (I (i + 1)) w5 by rw [HEI.out]; exact hR5); have HB2 := Lib.hid (hb5 _ hbr); clear hR5 hb5)
          go_roundg (gk - 1)
          case measure => have := HIG.out; omega
          case rel => exact ⟨i + 1, _, _, _, rfl, rfl, rfl, by go_num, by have := HIG.out; omega, HST.out, HET.out.symm, HR2.out, HB2.out⟩
      · clear ht
        obtain ⟨xj0, xs0⟩ := join3 (x) ⟨#[123, 123, 36, 118]⟩ (1200) 4 hxs (Nat.le_refl _) (by omega)
        obtain ⟨xj1, xs1⟩ := join3 (x ++ ⟨#[123, 123, 36, 118]⟩) d (1200 + 4) 2 xs0 (hds) (by omega)
        obtain ⟨xj2, xs2⟩ := join3 (x ++ ⟨#[123, 123, 36, 118]⟩ ++ d) ⟨#[32, 58, 61, 32]⟩ (1200 + 4 + 2) 4 xs1 (Nat.le_refl _) (by omega)
        obtain ⟨xj3, xs3⟩ := join3 (x ++ ⟨#[123, 123, 36, 118]⟩ ++ d ++ ⟨#[32, 58, 61, 32]⟩) d (1200 + 4 + 2 + 4) 2 xs2 (hds) (by omega)
        obtain ⟨xj4, xs4⟩ := join3 (x ++ ⟨#[123, 123, 36, 118]⟩ ++ d ++ ⟨#[32, 58, 61, 32]⟩ ++ d) ⟨#[125, 125]⟩ (1200 + 4 + 2 + 4 + 2) 2 xs3 (Nat.le_refl _) (by omega)
        obtain ⟨tj, ts⟩ := join3 ⟨#[118]⟩ d 1 2 (Nat.le_refl _) hds (by omega)
        have hst : StrIs (x ++ ⟨#[123, 123, 36, 118]⟩ ++ d ++ ⟨#[32, 58, 61, 32]⟩ ++ d ++ ⟨#[125, 125]⟩) (S (i + 1)) := by
          rw [eS]
          exact by rw [show seg 1 i (T i) = [123, 123, 36, 118] ++ (dL i ++ ([32, 58, 61, 32] ++ (dL i ++ [125, 125]))) by simp [seg, body1]]; simp only [← List.append_assoc]; exact cat2 (cat2 (cat2 (cat2 (cat2 hx rfl) hd) rfl) hd) rfl
        have HST := Lib.hid hst
        have HEI := Lib.hid eI
        have HET := Lib.hid eT
        clear hst eS eI eT
        have hA := ars_lit w2 #[.int .i64 2, .string ⟨#[]⟩, .slice none 0 0, .int .i64 i, .string ⟨#[]⟩] [⟨2, [], [], i, []⟩] 1 w.heap.size (rfl) rfl (by omega) hbr.size (by intro d hd; simp at hd; subst hd; rfl)
        have b3 := (Below.refl w2.heap.size w2).alloc (Nat.le_refl _) (.cells #[.int .i64 2, .string ⟨#[]⟩, .slice none 0 0, .int .i64 i, .string ⟨#[]⟩] 43)
        have z3 : (w2.alloc (.cells #[.int .i64 2, .string ⟨#[]⟩, .slice none 0 0, .int .i64 i, .string ⟨#[]⟩] 43)).heap.size = w2.heap.size + 1 := by simp
        have hC := cms_lit (w2.alloc (.cells #[.int .i64 2, .string ⟨#[]⟩, .slice none 0 0, .int .i64 i, .string ⟨#[]⟩] 43)) #[.string ⟨#[]⟩, .slice (some ⟨w2.heap.size, 0, none⟩) 1 1] [(⟨[], [⟨2, [], [], i, []⟩]⟩, .slice (some ⟨w2.heap.size, 0, none⟩) 1 1)] 1 w.heap.size rfl rfl (by omega) (by have := hbr.size; omega) (by intro z hz; simp at hz; subst hz; exact hA)
        have b4 := (Below.refl _ (w2.alloc (.cells #[.int .i64 2, .string ⟨#[]⟩, .slice none 0 0, .int .i64 i, .string ⟨#[]⟩] 43))).alloc (Nat.le_refl _) (.cells #[.string ⟨#[]⟩, .slice (some ⟨w2.heap.size, 0, none⟩) 1 1] 46)
        have z4 : ((w2.alloc (.cells #[.int .i64 2, .string ⟨#[]⟩, .slice none 0 0, .int .i64 i, .string ⟨#[]⟩] 43)).alloc (.cells #[.string ⟨#[]⟩, .slice (some ⟨w2.heap.size, 0, none⟩) 1 1] 46)).heap.size = w2.heap.size + 1 + 1 := by simp
        rw [z3] at hC
        have hR4 := (hR.below b3).below b4
        have hb4 := (hbr.trans (b3.mono hbr.size)).trans (b4.mono (by have := hbr.size; omega))
        have HC4 := Lib.hid hC
        have HR4 := Lib.hid hR4
        have HB4 := Lib.hid hb4
        clear hA hC hR4 hb4 b3 b4
        go_wp2_with (at_builtin; refine wp_appIt w.heap.size ?_ (.tmp 72) (.tmp 81) ?_ (.slice va (I i).length vc) (I i) (.mk 2 ([118] ++ dL i) [⟨[], [⟨2, [], [], i, []⟩]⟩] [] []) (⟨#[118]⟩ ++ d) (.slice (some ⟨w2.heap.size + 1, 0, none⟩) 1 1) 1 ?_ ?_ ?_ ?_ ?_ ?_ ?_ ?_ ?_ ?_; rfl; rfl; rfl; (rw [z4]; rfl); exact HR4.out; exact (cat2 (show StrIs ⟨#[118]⟩ [118] from rfl) hd); exact HC4.out; rfl; rfl; exact HB4.out.size; omega; intro v5 w5 hR5 hb5; have HR2 := Lib.hid (show Rw w.heap.size (fun _ => False) v5 (I (i + 1)) w5 by rw [HEI.out]; exact hR5); have HB2 := Lib.hid (hb5 _ HB4.out); clear hR5 hb5)
        go_roundg (gk - 1)
        case measure => have := HIG.out; omega
        case rel => exact ⟨i + 1, _, _, _, rfl, rfl, rfl, by go_num, by have := HIG.out; omega, HST.out, HET.out.symm, HR2.out, HB2.out⟩
      · clear ht
        obtain ⟨xj0, xs0⟩ := join3 (x) ⟨#[123, 123, 116, 101, 109, 112, 108, 97, 116, 101, 32, 34, 110]⟩ (1200) 13 hxs (Nat.le_refl _) (by omega)
        obtain ⟨xj1, xs1⟩ := join3 (x ++ ⟨#[123, 123, 116, 101, 109, 112, 108, 97, 116, 101, 32, 34, 110]⟩) d (1200 + 13) 2 xs0 (hds) (by omega)
        obtain ⟨xj2, xs2⟩ := join3 (x ++ ⟨#[123, 123, 116, 101, 109, 112, 108, 97, 116, 101, 32, 34, 110]⟩ ++ d) ⟨#[34, 125, 125]⟩ (1200 + 13 + 2) 3 xs1 (Nat.le_refl _) (by omega)
        obtain ⟨tj, ts⟩ := join3 ⟨#[110]⟩ d 1 2 (Nat.le_refl _) hds (by omega)
        have hst : StrIs (x ++ ⟨#[123, 123, 116, 101, 109, 112, 108, 97, 116, 101, 32, 34, 110]⟩ ++ d ++ ⟨#[34, 125, 125]⟩) (S (i + 1)) := by
          rw [eS]
          exact by rw [show seg 2 i (T i) = [123, 123, 116, 101, 109, 112, 108, 97, 116, 101, 32, 34, 110] ++ (dL i ++ [34, 125, 125]) by simp [seg, body2]]; simp only [← List.append_assoc]; exact cat2 (cat2 (cat2 hx rfl) hd) rfl
        have HST := Lib.hid hst
        have HEI := Lib.hid eI
        have HET := Lib.hid eT
        clear hst eS eI eT
        go_wp2_with (at_builtin; refine wp_appIt w.heap.size ?_ (.tmp 90) (.tmp 94) ?_ (.slice va (I i).length vc) (I i) (.mk 6 ([110] ++ dL i) [] [] []) (⟨#[110]⟩ ++ d) (.slice none 0 0) 1 ?_ ?_ ?_ ?_ ?_ ?_ ?_ ?_ ?_ ?_; rfl; rfl; rfl; (rfl); exact hR; exact (cat2 (show StrIs ⟨#[110]⟩ [110] from rfl) hd); exact (cms_nil _ _); rfl; rfl; exact hbr.size; omega; intro v5 w5 hR5 hb5; have HR2 := Lib.hid (show Rw w.heap.size (fun _ => False) v5 (I (i + 1)) w5 by rw [HEI.out]; exact hR5); have HB2 := Lib.hid (hb5 _ hbr); clear hR5 hb5)
        go_roundg (gk - 1)
        case measure => have := HIG.out; omega
        case rel => exact ⟨i + 1, _, _, _, rfl, rfl, rfl, by go_num, by have := HIG.out; omega, HST.out, HET.out.symm, HR2.out, HB2.out⟩
      · clear ht
        obtain ⟨xj0, xs0⟩ := join3 (x) ⟨#[123, 123, 105, 102, 32, 46, 125, 125, 123, 123, 101, 110, 100, 125, 125]⟩ (1200) 15 hxs (Nat.le_refl _) (by omega)
        have hst : StrIs (x ++ ⟨#[123, 123, 105, 102, 32, 46, 125, 125, 123, 123, 101, 110, 100, 125, 125]⟩) (S (i + 1)) := by
          rw [eS]
          exact cat2 hx rfl
        have HST := Lib.hid hst
        have HEI := Lib.hid eI
        have HET := Lib.hid eT
        clear hst eS eI eT
        go_wp2_with fail
        refine (hole_calls w.heap.size w2 hbr.size).mono ?_
        rintro e w4 ⟨g, rfl, hC, hb4⟩
        have hfl : ∀ W, (Instr.field 37 (.agg #[.int .i64 1, .string ⟨#[]⟩, .slice (some ⟨g, 0, none⟩) 1 1, .slice none 0 0, .slice none 0 0]) 2).run Tryz.prog W = .ok (.slice (some ⟨g, 0, none⟩) 1 1) W := fun W => by rfl
        have hR4 := hR.below hb4
        have hb4 := hbr.trans (hb4.mono hbr.size)
        go_wp2_with (at_builtin; refine wp_appIt w.heap.size ?_ (.tmp 100) (.tmp 104) ?_ (.slice va (I i).length vc) (I i) (.mk 3 [] dotP [] []) ⟨#[]⟩ (.slice (some ⟨g, 0, none⟩) 1 1) 1 ?_ ?_ ?_ ?_ ?_ ?_ ?_ ?_ ?_ ?_; rfl; rfl; rfl; (rfl); exact hR4; exact rfl; exact hC; rfl; rfl; exact hb4.size; omega; intro v5 w5 hR5 hb5; have HR2 := Lib.hid (show Rw w.heap.size (fun _ => False) v5 (I (i + 1)) w5 by rw [HEI.out]; exact hR5); have HB2 := Lib.hid (hb5 _ hb4); clear hR5 hb5)
        go_roundg (gk - 1)
        case measure => have := HIG.out; omega
        case rel => exact ⟨i + 1, _, _, _, rfl, rfl, rfl, by go_num, by have := HIG.out; omega, HST.out, HET.out.symm, HR2.out, HB2.out⟩
      · clear ht
        obtain ⟨xj0, xs0⟩ := join3 (x) ⟨#[123, 123, 34, 113]⟩ (1200) 4 hxs (Nat.le_refl _) (by omega)
        obtain ⟨xj1, xs1⟩ := join3 (x ++ ⟨#[123, 123, 34, 113]⟩) d (1200 + 4) 2 xs0 (hds) (by omega)
        obtain ⟨xj2, xs2⟩ := join3 (x ++ ⟨#[123, 123, 34, 113]⟩ ++ d) ⟨#[34, 125, 125]⟩ (1200 + 4 + 2) 3 xs1 (Nat.le_refl _) (by omega)
        obtain ⟨tj, ts⟩ := join3 ⟨#[113]⟩ d 1 2 (Nat.le_refl _) hds (by omega)
        have hst : StrIs (x ++ ⟨#[123, 123, 34, 113]⟩ ++ d ++ ⟨#[34, 125, 125]⟩) (S (i + 1)) := by
          rw [eS]
          exact by rw [show seg k i (T i) = [123, 123, 34, 113] ++ (dL i ++ [34, 125, 125]) by simp [seg, body4, show k ≠ 0 by omega, show k ≠ 1 by omega, show k ≠ 2 by omega, show k ≠ 3 by omega]]; simp only [← List.append_assoc]; exact cat2 (cat2 (cat2 hx rfl) hd) rfl
        have HST := Lib.hid hst
        have HEI := Lib.hid eI
        have HET := Lib.hid eT
        clear hst eS eI eT
        have e4 : itm k i = .mk 1 [] [⟨[], [⟨3, [], [], 0, [113] ++ dL i⟩]⟩] [] [] := by unfold itm; rw [if_neg (by omega), if_neg (by omega), if_neg (by omega), if_neg (by omega)]
        rw [e4] at HEI
        rw [show (k == 0) = false by simp; omega] at HET
        clear e4
        have k0 : decide ((k : Int) = 0) = false := decide_eq_false (by omega)
        have k1 : decide ((k : Int) = 1) = false := decide_eq_false (by omega)
        have k2 : decide ((k : Int) = 2) = false := decide_eq_false (by omega)
        have k3 : decide ((k : Int) = 3) = false := decide_eq_false (by omega)
        have hA := ars_lit w2 #[.int .i64 3, .string ⟨#[]⟩, .slice none 0 0, .int .i64 0, .string (⟨#[113]⟩ ++ d)] [⟨3, [], [], 0, [113] ++ dL i⟩] 1 w.heap.size (by rw [str_is (cat2 (show StrIs ⟨#[113]⟩ [113] from rfl) hd)]; rfl) rfl (by omega) hbr.size (by intro d hd; simp at hd; subst hd; rfl)
        have b3 := (Below.refl w2.heap.size w2).alloc (Nat.le_refl _) (.cells #[.int .i64 3, .string ⟨#[]⟩, .slice none 0 0, .int .i64 0, .string (⟨#[113]⟩ ++ d)] 43)
        have z3 : (w2.alloc (.cells #[.int .i64 3, .string ⟨#[]⟩, .slice none 0 0, .int .i64 0, .string (⟨#[113]⟩ ++ d)] 43)).heap.size = w2.heap.size + 1 := by simp
        have hC := cms_lit (w2.alloc (.cells #[.int .i64 3, .string ⟨#[]⟩, .slice none 0 0, .int .i64 0, .string (⟨#[113]⟩ ++ d)] 43)) #[.string ⟨#[]⟩, .slice (some ⟨w2.heap.size, 0, none⟩) 1 1] [(⟨[], [⟨3, [], [], 0, [113] ++ dL i⟩]⟩, .slice (some ⟨w2.heap.size, 0, none⟩) 1 1)] 1 w.heap.size rfl rfl (by omega) (by have := hbr.size; omega) (by intro z hz; simp at hz; subst hz; exact hA)
        have b4 := (Below.refl _ (w2.alloc (.cells #[.int .i64 3, .string ⟨#[]⟩, .slice none 0 0, .int .i64 0, .string (⟨#[113]⟩ ++ d)] 43))).alloc (Nat.le_refl _) (.cells #[.string ⟨#[]⟩, .slice (some ⟨w2.heap.size, 0, none⟩) 1 1] 46)
        have z4 : ((w2.alloc (.cells #[.int .i64 3, .string ⟨#[]⟩, .slice none 0 0, .int .i64 0, .string (⟨#[113]⟩ ++ d)] 43)).alloc (.cells #[.string ⟨#[]⟩, .slice (some ⟨w2.heap.size, 0, none⟩) 1 1] 46)).heap.size = w2.heap.size + 1 + 1 := by simp
        rw [z3] at hC
        have hR4 := (hR.below b3).below b4
        have hb4 := (hbr.trans (b3.mono hbr.size)).trans (b4.mono (by have := hbr.size; omega))
        have HC4 := Lib.hid hC
        have HR4 := Lib.hid hR4
        have HB4 := Lib.hid hb4
        clear hA hC hR4 hb4 b3 b4
        go_wp2_with (at_builtin; refine wp_appIt w.heap.size ?_ (.tmp 34) (.tmp 42) ?_ (.slice va (I i).length vc) (I i) (.mk 1 [] [⟨[], [⟨3, [], [], 0, [113] ++ dL i⟩]⟩] [] []) ⟨#[]⟩ (.slice (some ⟨w2.heap.size + 1, 0, none⟩) 1 1) 1 ?_ ?_ ?_ ?_ ?_ ?_ ?_ ?_ ?_ ?_; rfl; rfl; rfl; (rw [z4]; rfl); exact HR4.out; exact rfl; exact HC4.out; rfl; rfl; exact HB4.out.size; omega; intro v5 w5 hR5 hb5; have HR2 := Lib.hid (show Rw w.heap.size (fun _ => False) v5 (I (i + 1)) w5 by rw [HEI.out]; exact hR5); have HB2 := Lib.hid (hb5 _ HB4.out); clear hR5 hb5)
        go_roundg (gk - 1)
        case measure => have := HIG.out; omega
        case rel => exact ⟨i + 1, _, _, _, rfl, rfl, rfl, by go_num, by have := HIG.out; omega, HST.out, HET.out.symm, HR2.out, HB2.out⟩
    · obtain rfl : N = i := by omega
      have hC := fun W (h : Env W) => tmplParse_calls x W h
      rw [show x.data.toList = S N from hx, HF.out] at hC
      have hRi := (hR.mono (F' := fun _ => True) (fun g _ h => h.elim)).its (fun _ _ => trivial)
      have HB := Lib.hid hbr
      have HRI := Lib.hid hRi
      have HNN := HN.out
      clear hRi hR hx hsl hil hxs HS HL HKK HF HC HN HIG ht
      by_cases hn40 : n ≤ 40
      · obtain rfl : n = N := by omega
        have h1b : decide ((n : Int) < (n : Int)) = false := decide_eq_false (by omega)
        clear HNN
        go_wp2_with fail
        refine (hC _ (hE.below HB.out)).mono ?_
        rintro e w3 ⟨hok, -, hb3⟩
        obtain ⟨v3, rfl, hI⟩ := hok _ rfl
        obtain ⟨sa, sc, rfl⟩ := hI.slice
        have hRj := HRI.out.blw hb3
        have hbw := HB.out.trans (hb3.mono HB.out.size)
        clear hok hC hb3
        go_wp2_with (first | (go_at_call 15; go_in) | (go_at_call 14; refine (sameItems_n _ (I n) (Nat.le_refl _) _ _ _ _ _ _ _ hI hRj).mono ?_; rintro e w4 ⟨rfl, hb4⟩))
        go_ret
        exact ⟨rfl, hbw.trans (hb4.mono hbw.size)⟩
      · obtain rfl : N = 40 := by omega
        have h1b : decide ((40 : Int) < (n : Int)) = true := decide_eq_true (by omega)
        clear HNN
        go_wp2_with fail
        refine (hC _ (hE.below HB.out)).mono ?_
        rintro e w3 ⟨hok, -, hb3⟩
        obtain ⟨v3, rfl, hI⟩ := hok _ rfl
        obtain ⟨sa, sc, rfl⟩ := hI.slice
        have hRj := HRI.out.blw hb3
        have hbw := HB.out.trans (hb3.mono HB.out.size)
        clear hok hC hb3
        go_wp2_with (first | (go_at_call 15; go_in) | (go_at_call 14; refine (sameItems_n _ (I 40) (Nat.le_refl _) _ _ _ _ _ _ _ hI hRj).mono ?_; rintro e w4 ⟨rfl, hb4⟩))
        go_ret
        exact ⟨rfl, hbw.trans (hb4.mono hbw.size)⟩
end Go.Proofs.YtdaffedbboofjaaGreatDoor.S
