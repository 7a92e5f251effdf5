/-
  THE WALK of the reference's Decimal (numbers that are not below zero).
-/
import Derived.Test.YtbcddlheikdlkaaGreatDoorOwn
import Derived.Test.YtbcddlheikdlkaaGreatDoorPlainM
import Derived.Deep.DeepCutAuto
import Derived.Deep.Onto
import Derived.Lib.Hide
set_option linter.unusedVariables false
set_option linter.unusedSimpArgs false
namespace Go.Proofs.YtbcddlheikdlkaaGreatDoor.S
open Go.RowKit

/-- the digits of n ahead of those that stand -/
def decR (n : Nat) (l : List UInt8) : List UInt8 :=
  if h : n = 0 then (if l = [] then [48] else l) else decR (n / 10) (UInt8.ofNat (48 + n % 10) :: l)
termination_by n
decreasing_by omega
theorem decR_zero (l : List UInt8) : decR 0 l = if l = [] then [48] else l := by rw [decR]; simp
theorem decR_step (n : Nat) (l : List UInt8) (h : 0 < n ∨ l = []) : decR n l = decR (n / 10) (UInt8.ofNat (48 + n % 10) :: l) := by
  by_cases hn : n = 0
  · subst hn
    rcases h with h | rfl
    · omega
    · rw [decR_zero, show (0 : Nat) / 10 = 0 from rfl, decR_zero]; rfl
  · rw [decR, dif_neg hn]
def decL (n : Nat) : List UInt8 := decR n []
theorem decR_digits : ∀ (n : Nat) (l : List UInt8), (∀ b ∈ l, 48 ≤ b.toNat ∧ b.toNat ≤ 57) → ∀ b ∈ decR n l, 48 ≤ b.toNat ∧ b.toNat ≤ 57 := by
  intro n
  induction n using Nat.strongRecOn with
  | _ n ih =>
    intro l h b hb
    by_cases hn : n = 0
    · subst hn
      rw [decR_zero] at hb
      split at hb
      · rw [List.mem_singleton.1 hb]; decide
      · exact h b hb
    · rw [decR, dif_neg hn] at hb
      refine ih (n / 10) (by omega) _ ?_ b hb
      intro c hc
      rcases List.mem_cons.1 hc with rfl | hc
      · have : n % 10 < 10 := Nat.mod_lt _ (by decide)
        have e : (UInt8.ofNat (48 + n % 10)).toNat = 48 + n % 10 := by show (48 + n % 10) % 256 = _; omega
        rw [e]; omega
      · exact h c hc
theorem decR_len : ∀ (k n : Nat) (l : List UInt8), n < 10 ^ k → (decR n l).length ≤ l.length + k + 1
  | 0, n, l, h => by
    obtain rfl : n = 0 := by simpa using h
    rw [decR_zero]
    split <;> simp
  | k + 1, n, l, h => by
    by_cases hn : n = 0
    · subst hn
      rw [decR_zero]
      split
      · simp
      · omega
    · rw [decR, dif_neg hn]
      have := decR_len k (n / 10) (UInt8.ofNat (48 + n % 10) :: l) (by rw [Nat.pow_succ] at h; omega)
      simp only [List.length_cons] at this
      omega
theorem Bytes.slice {base : Nat} {v : Value} {l : List UInt8} {w : World} (h : Bytes base v l w) : ∃ a c, v = .slice a l.length c ∧ l.length ≤ c := by
  rcases h.2 with ⟨rfl, h0⟩ | ⟨g, cap, cur, rfl, _, _, h1, _⟩
  · exact ⟨none, 0, by rw [h0], by omega⟩
  · exact ⟨_, cap, rfl, h1⟩
section
variable {ops : Array Oper} {rest : List Oper} {o : Oper} {a : Act} {Q : Exit → Act → World → Prop}
/-- append([]byte{d}, out...) -/
theorem wp_consBytes {w0 W : World} (base : Nat) (hgd : o.guard = none) (s x : Operand)
    (ho : o.op = .call { callee := .builtin .append, args := #[s, x], argTypes := #[52, 52] })
    (d : UInt8) (v : Value) (l : List UInt8) (n : Int) (hn : n = d.toNat) (hs : a.eval s = .slice (some ⟨W.heap.size, 0, none⟩) 1 1) (hx : a.eval x = v) (hl0 : l ≠ [])
    (HO : Bytes base v l W) (HB : Below base w0 W) (hbase : base ≤ W.heap.size) (hl : l.length ≤ 140737488355327)
    (h : ∀ v1 w1, Bytes base v1 (d :: l) w1 → Below base w0 w1 → wpList Tryz.prog ops Q rest (a.put o.dst v1) w1) :
    wpList Tryz.prog ops Q (o :: rest) a (W.alloc (.cells #[.int .u8 n] 5)) := by
  obtain ⟨i0, hi, hz0, hz1, hz2⟩ := info_parts byteInfo
  subst hn
  have HO' := HO.below ((Below.refl _ W).alloc (Nat.le_refl _) (.cells #[.int .u8 d.toNat] 5))
  rcases HO'.2 with ⟨_, h0⟩ | ⟨g, cap, cur, hv, hbg, hh, hc, hm, hcs, htk⟩
  · exact absurd (List.eq_nil_of_length_eq_zero h0) hl0
  have HL : (W.alloc (.cells #[.int .u8 d.toNat] 5)).ownsRow base 5 1 (.slice (some ⟨W.heap.size, 0, none⟩) 1 1) 1 (Lib.byteCells [d]) :=
    World.ownsRow.mono (World.ownsRow_lit W #[.int .u8 d.toNat] 1 (Nat.le_refl _) (by decide) rfl) hbase
  refine wpList_append_own (W.alloc (.cells #[.int .u8 d.toNat] 5)) hgd s x 52 ho base 5 i0 (.int .u8 0) 1 1 Tryz.underlying52 hi hz0 hz1 hz2 rfl (by decide) (.slice (some ⟨W.heap.size, 0, none⟩) 1 1) 1 (Lib.byteCells [d]) hs HL
    ⟨g, 0, none⟩ l.length cap (Lib.byteCells l) (hx.trans hv) (by rw [Lib.byteCells_length, Nat.mul_one]) ?_ ?_ (by simp only [maxLen]; omega) (by omega) (by simp; omega) ?_
  · exact World.ownsRow.cells HO' (by rw [hv]; rfl)
  · intro u hu
    simp only [Lib.byteCells, List.mem_map] at hu
    obtain ⟨b, _, rfl⟩ := hu
    rfl
  · intro v1 w1 hown hg _
    refine h v1 w1 ?_ ((HB.alloc hbase _).grown hg (by simp; omega) fun k hk => by simp [Value.ownBlock] at hk; omega)
    unfold Bytes
    have e : Lib.byteCells (d :: l) = Lib.byteCells [d] ++ Lib.byteCells l := by rw [← Lib.byteCells_append]; rfl
    rw [e, List.length_cons, Nat.add_comm]
    exact hown
end

theorem bytes_one {base : Nat} {W : World} (hb : base ≤ W.heap.size) (b : UInt8) (z : Int) (hz : z = b.toNat) : Bytes base (.slice (some ⟨W.heap.size, 0, none⟩) 1 1) [b] (W.alloc (.cells #[.int .u8 z] 5)) := by
  subst hz
  exact World.ownsRow.mono (World.ownsRow_lit W #[.int .u8 b.toNat] 1 (Nat.le_refl _) (by decide) rfl) hb
set_option maxRecDepth 100000 in
set_option maxHeartbeats 4000000 in
theorem decimal_calls (n : Nat) (w : World) (hn : n < 9223372036854775808) :
    Calls Tryz.prog 24 #[.int .i64 n] w fun e w' => ∃ r : ByteArray, e = .returned (.string r) ∧ StrIs r (decL n) ∧ Below w.heap.size w w' := by
  go_enter Tryz.func24, Tryz.ntmps24
  have h0 : decide ((n : Int) < 0) = false := decide_eq_false (by omega)
  go_wp2
  go_loopg [3, 4] (n + 1) (fun gk v3 v4 wr => ∃ (u : Nat) (l : List UInt8), v3 = .int .u64 u ∧ u ≤ n ∧ Bytes w.heap.size v4 l wr ∧ Below w.heap.size w wr ∧ Hid (decR u l = decL n) ∧ (u = 0 → l = [] → 1 ≤ gk) ∧ (0 < u → u + 1 ≤ gk) ∧ Hid (∃ j, u < 10 ^ j ∧ l.length + j ≤ 20) ∧ (l = [] → v4 = .slice none 0 0))
  case atStart => exact ⟨n, [], rfl, Nat.le_refl _, bytes_nil _ _, Below.refl _ _, rfl, by omega, by omega, ⟨19, by have : n < 10 ^ 19 := Nat.lt_of_lt_of_le hn (by decide); exact this, by simp⟩, fun _ => rfl⟩
  case round =>
    obtain ⟨u, l, rfl, hun, hO, hbr, hd, hg0, hg1, hlg, hnil⟩ := hrel
    have HG := Lib.hid hg0
    have HG1 := Lib.hid hg1
    clear hg0 hg1
    have hud : 48 + u % 10 = (UInt8.ofNat (48 + u % 10)).toNat := by show _ = (48 + u % 10) % 256; omega
    have hui : ((48 + u % 10 : Nat) : Int) = 48 + (u : Int) % 10 := by omega
    have hw : (48 + (u : Int) % 10) % 256 = 48 + (u : Int) % 10 := by omega
    cases l with
    | nil =>
      obtain rfl := hnil rfl
      have hst := decR_step u [] (.inr rfl)
      have HST := Lib.hid (hst.symm.trans hd.out)
      have HUD := Lib.hid hud
      clear hst hud hd
      by_cases hu : 0 < u
      · have hub : decide (0 < (u : Int)) = true := decide_eq_true (by omega)
        go_wp2
        go_roundg (gk - 1)
        case measure => have := HG1.out hu; omega
        case rel =>
          refine ⟨u / 10, [UInt8.ofNat (48 + u % 10)], by go_num, by omega, bytes_one hbr.size _ _ (by have := HUD.out; omega), hbr.alloc hbr.size _, HST.out, by simp, ?_, ?_, by simp⟩
          · intro h; have := HG1.out hu; omega
          · obtain ⟨j, h1, h2⟩ := hlg.out
            cases j with
            | zero => simp at h1; omega
            | succ j => exact ⟨j, by rw [Nat.pow_succ] at h1; omega, by simp only [List.length_cons, List.length_nil] at h2 ⊢; omega⟩
      · have hub : decide (0 < (u : Int)) = false := decide_eq_false (by omega)
        go_wp2
        go_roundg (gk - 1)
        case measure => have := HG.out (by omega) trivial; omega
        case rel =>
          refine ⟨u / 10, [UInt8.ofNat (48 + u % 10)], by go_num, by omega, bytes_one hbr.size _ _ (by have := HUD.out; omega), hbr.alloc hbr.size _, HST.out, by simp, ?_, ?_, by simp⟩
          · intro h; have := HG.out (by omega) trivial; omega
          · exact ⟨0, by simp; omega, by simp⟩
    | cons c r =>
      obtain ⟨sa, sc, rfl, hcap⟩ := hO.slice
      have hlb : (((c :: r).length : Int) == 0) = false := beq_eq_false_iff_ne.2 (by simp only [List.length_cons]; omega)
      by_cases hu : 0 < u
      · have hst := decR_step u (c :: r) (.inl hu)
        have HST := Lib.hid (hst.symm.trans hd.out)
        have hub : decide (0 < (u : Int)) = true := decide_eq_true (by omega)
        have hll := hlg.out
        clear hst hd hlg
        have HUD := Lib.hid hud
        obtain ⟨j, hj, hjl⟩ := hll
        have hj1 : 1 ≤ j := by
          cases j with
          | zero => simp at hj; omega
          | succ j => omega
        have hj2 : u / 10 < 10 ^ (j - 1) := by
          obtain ⟨k, rfl⟩ : ∃ k, j = k + 1 := ⟨j - 1, by omega⟩
          rw [Nat.pow_succ] at hj
          simp only [Nat.add_sub_cancel]
          omega
        have hl0 : (c :: r) ≠ [] := by simp
        generalize (c :: r) = l at *
        have HJ := Lib.hid hj2
        have HJL := Lib.hid (show (u / 10 : Nat) < 10 ^ (j - 1) ∧ l.length + j ≤ 20 ∧ 1 ≤ j from ⟨hj2, hjl, hj1⟩)
        clear hud hj hjl hj1 hj2
        go_wp2_with (at_builtin; refine wp_consBytes w.heap.size rfl (.tmp 25) (.tmp 26) rfl (UInt8.ofNat (48 + u % 10)) _ l _ (by have := HUD.out; omega) rfl rfl hl0 hO hbr hbr.size (by have := HJL.out.2.1; omega) ?_; intro v1 w2 hO2 hb2)
        go_roundg (gk - 1)
        case measure => have := HG1.out hu; omega
        case rel =>
          refine ⟨u / 10, UInt8.ofNat (48 + u % 10) :: l, by go_num, by omega, hO2, hb2, HST.out, by simp, ?_, ⟨j - 1, HJL.out.1, ?_⟩, by simp⟩
          · intro h; have := HG1.out hu; omega
          · have := HJL.out; simp only [List.length_cons]; omega
      · obtain rfl : u = 0 := by omega
        have hdd := hd.out
        rw [decR_zero, if_neg (by simp)] at hdd
        have hub : decide ((0 : Int) < ((0 : Nat) : Int)) = false := rfl
        have hbs := bytes_string hO
        generalize (c :: r) = l at *
        have HDD := Lib.hid hdd
        clear hd hdd hud hui hw hlg
        go_wp2
        go_ret
        exact ⟨_, rfl, HDD.out, hbr⟩
end Go.Proofs.YtbcddlheikdlkaaGreatDoor.S
