/-
  THE WALK of the reference's words: text.
-/
import Derived.Test.YtblkbhomlblfnaaDoorRefW2
set_option linter.unusedVariables false
set_option linter.unusedSimpArgs false
namespace Go.Proofs.YtblkbhomlblfnaaDoor.S
open Go.RowKit

theorem escW_none {c : UInt8} (e0 : ¬ c = 34) (e1 : ¬ c = 92) (e2 : ¬ c = 110) (e3 : ¬ c = 116) : escW c.toNat = none := by
  have n0 : ¬ c.toNat = 34 := fun e => e0 (UInt8.toNat_inj.1 e)
  have n1 : ¬ c.toNat = 92 := fun e => e1 (UInt8.toNat_inj.1 e)
  have n2 : ¬ c.toNat = 110 := fun e => e2 (UInt8.toNat_inj.1 e)
  have n3 : ¬ c.toNat = 116 := fun e => e3 (UInt8.toNat_inj.1 e)
  unfold escW
  rw [if_neg n0, if_neg n1, if_neg n2, if_neg n3]
theorem Bytes.grown {base g : Nat} {v : Value} {l : List UInt8} {w w' : World} (h : Bytes base v l w) (hg : w.grownBy w' (some g)) (hb : g < base) : Bytes base v l w' :=
  World.ownsRow.kept h hg (.inr fun e => by have := h.ownBase g e; omega)
theorem Bytes.drewN {base : Nat} {v : Value} {l : List UInt8} {w : World} (h : Bytes base v l w) (n : Nat) : Bytes base v l (w.drewN n) := h.below (Below.drewN (Below.refl _ _) n)
theorem NmPost.err {T : Except Nat (List UInt8 × List UInt8)} {w w' : World} {g : Nat} {s : ByteArray} {p p' c : Nat} {r : ByteArray} (hT : T = .error c) (hB : Cr g s p' c w') (h1 : p ≤ p') (h2 : p' ≤ s.size) (hg : w.grownBy w' (some g)) : NmPost T w g s p (.returned (.string r)) w' :=
  ⟨r, p', c, rfl, hB, h1, h2, hg, fun x r' h => (by rw [hT] at h; cases h), fun c' h => (by rw [hT] at h; cases h; rfl)⟩
theorem NmPost.ok {T : Except Nat (List UInt8 × List UInt8)} {w w' : World} {g : Nat} {s : ByteArray} {p p' : Nat} {r : ByteArray} {x r' : List UInt8} (hT : T = .ok (x, r')) (hB : Cr g s p' 0 w') (h1 : p ≤ p') (h2 : p' ≤ s.size) (hg : w.grownBy w' (some g)) (hr : StrIs r x) (hd : s.data.toList.drop p' = r') : NmPost T w g s p (.returned (.string r)) w' :=
  ⟨r, p', 0, rfl, hB, h1, h2, hg, fun x r' h => (by rw [hT] at h; cases h; exact ⟨rfl, hr, hd⟩), fun c' h => (by rw [hT] at h; cases h)⟩

set_option maxRecDepth 100000 in
set_option maxHeartbeats 8000000 in
theorem rtext_calls (g : Nat) (s : ByteArray) (p : Nat) (w : World) (hB : Cr g s p 0 w) (hp : p ≤ s.size) (hs : s.size ≤ 1073741824) :
    Calls Tryd.prog 73 #[.pointer (some ⟨g, 0, none⟩)] w fun e w' => NmPost (textL (s.data.toList.drop p)) w g s p e w' := by
  have hgl := hB.lt
  have hll := size_list s
  obtain ⟨T, hT⟩ : ∃ T, T = textL (s.data.toList.drop p) := ⟨_, rfl⟩
  have hT0 : TextAt T [] (s.data.toList.drop p) := by
    unfold TextAt
    rw [hT]
    cases textL (s.data.toList.drop p) <;> rfl
  rw [← hT]
  clear hT
  go_enter Tryd.func73, Tryd.ntmps73
  go_wp2
  go_loopg [3, 4, 5] (s.size - p) (fun gk v3 _ _ wr => ∃ (acc : List UInt8) (q : Nat), Bytes w.heap.size v3 acc wr ∧ Cr g s q 0 wr ∧ p ≤ q ∧ gk + q = s.size ∧ w.grownBy wr (some g) ∧ acc.length + p ≤ q ∧ Hid (TextAt T acc (s.data.toList.drop q)))
  case atStart => exact ⟨[], p, bytes_nil _ _, hB, Nat.le_refl _, by omega, World.grownBy.refl _ _, by simp, hT0⟩
  case round =>
    obtain ⟨acc, q, hO, hBk, hpq, hgk, hg, hal, hA⟩ := hrel
    have HGK := Lib.hid hgk
    have hks : q ≤ s.size := by omega
    clear hgk hT0
    have c0 := hBk.cell 0 _ rfl
    have c1 := hBk.cell 1 _ rfl
    go_upto_region 2 with (fail)
    go_cut [15] (fun v15 wx => v15 = .bool (decide (q < s.size)) ∧ Bytes w.heap.size u3 acc wx ∧ Cr g s q 0 wx ∧ w.grownBy wx (some g))
    case first =>
      go_quiet (fail)
      go_wp2_with fail
      go_meet
      exact ⟨rfl, hO.drewN _, hBk.drewN _, hg.trans (grownBy_drewN wr _ _)⟩
    case rest =>
    obtain ⟨rfl, hO, hBk, hg⟩ := hcut
    clear c0 c1
    have c0 := hBk.cell 0 _ rfl
    have c1 := hBk.cell 1 _ rfl
    have f1 := hBk.free 1
    by_cases h : q < s.size
    · have hjb : decide ((q : Int) < (s.size : Int)) = true := decide_eq_true (by omega)
      have hdc := drop_cons s q h
      obtain ⟨b, hb⟩ : ∃ b : UInt8, b = s[q]'h := ⟨_, rfl⟩
      have hbt : ∀ h', ((s[q]'h').toNat : Nat) = b.toNat := fun h' => by rw [hb]
      rw [← hb] at hdc
      have hlt := b.toNat_lt
      have hdc' := Lib.hid hdc
      clear hdc hb
      rw [decide_eq_true h]
      go_upto_region 3 with (fail)
      go_cut [4] (fun v4 wx => v4 = .int .u8 b.toNat ∧ Bytes w.heap.size u3 acc wx ∧ Cr g s q 0 wx ∧ w.grownBy wx (some g))
      case first =>
        go_quiet (fail)
        go_wp2_with fail
        go_meet
        exact ⟨rfl, hO.drewN _, hBk.drewN _, hg.trans (grownBy_drewN _ _ _)⟩
      case rest =>
      obtain ⟨rfl, hO, hBk, hg⟩ := hcut
      clear c0 c1 f1
      have c1 := hBk.cell 1 _ rfl
      have f1 := hBk.free 1
      have hB4 := hBk.at0 (q + 1) ((q : Int) + 1) (by omega)
      have hO4 := hO.grown (grownBy_set _ g 1 (.int .i64 ((q : Int) + 1))) hgl
      have hg4 := hg.trans (grownBy_set _ g 1 (.int .i64 ((q : Int) + 1)))
      go_upto_region 5 with (fail)
      clear c1 f1 hBk hO hg
      generalize World.setCell _ _ _ = w4 at *
      have hz4 := hg4.size
      by_cases h34 : b = 34
      · have hb34 : ((b.toNat : Int) == 34) = true := by rw [h34]; rfl
        have hcv := bytes_string hO4
        have hT := text_end (show TextAt T acc (34 :: s.data.toList.drop (q + 1)) by rw [← h34, ← hdc'.out]; exact hA.out)
        have HT := Lib.hid hT
        clear hT h34 hA
        go_wp2
        go_ret
        exact NmPost.ok HT.out hB4 (by omega) (by omega) hg4 rfl rfl
      · have hb34 : ((b.toNat : Int) == 34) = false := beq_eq_false_iff_ne.2 fun e => h34 (UInt8.toNat_inj.1 (by show _ = 34; omega))
        by_cases h92 : b = 92
        · subst h92
          have hb92 : (((92 : UInt8).toNat : Int) == 92) = true := rfl
          have hb92n : (((92 : UInt8).toNat : Int) != 92) = false := rfl
          obtain ⟨q1, hq1⟩ : ∃ q1, q1 = q + 1 := ⟨_, rfl⟩
          have hdq := hdc'.out
          rw [← hq1] at hB4 hdq
          have hgq : gk + q1 = s.size + 1 := by have := HGK.out; omega
          have hpq1 : p ≤ q1 := by omega
          have hq1s : q1 ≤ s.size := by omega
          have hal1 : acc.length + 1 + p ≤ q1 := by omega
          have HGQ := Lib.hid hgq
          have HDQ := Lib.hid hdq
          clear hq1 hdq hgq h34 hjb h hpq hks hal hlt hbt
          have c0 := hB4.cell 0 _ rfl
          have c1 := hB4.cell 1 _ rfl
          go_upto_region 9 with (fail)
          go_cut [51] (fun v51 wx => v51 = .bool (decide (s.size ≤ q1)) ∧ Bytes w.heap.size u3 acc wx ∧ Cr g s q1 0 wx ∧ w.grownBy wx (some g))
          case first =>
            go_quiet (fail)
            go_wp2_with fail
            go_meet
            exact ⟨rfl, hO4.drewN _, hB4.drewN _, hg4.trans (grownBy_drewN _ _ _)⟩
          case rest =>
          obtain ⟨rfl, hO, hBk, hg⟩ := hcut
          clear c0 c1 hO4 hB4 hg4 hz4
          by_cases h2 : s.size ≤ q1
          · have hT := text_err hA.out (show textL (s.data.toList.drop q) = .error 1401 by rw [HDQ.out, List.drop_eq_nil_of_le (by rw [hll]; omega)]; exact textL_esc0)
            have HT := Lib.hid hT
            clear hT hA
            rw [decide_eq_true h2]
            go_wp2_with (go_at_call 50; refine (rfail_calls g s q1 1401 _ hBk).mono ?_; rintro e w9 ⟨rfl, hB9, hg9⟩)
            go_ret
            exact NmPost.err HT.out hB9 hpq1 hq1s (hg.trans hg9)
          · rw [decide_eq_false h2]
            have h3 : q1 < s.size := by omega
            have hdc2 := drop_cons s q1 h3
            obtain ⟨c, hc⟩ : ∃ c : UInt8, c = s[q1]'h3 := ⟨_, rfl⟩
            have hct : ∀ h', ((s[q1]'h').toNat : Nat) = c.toNat := fun h' => by rw [hc]
            rw [← hc] at hdc2
            have hlc := c.toNat_lt
            have htx : textL (s.data.toList.drop q) = match escW c.toNat with
                | none => .error 1401
                | some z => (textL (s.data.toList.drop (q1 + 1))).map fun x => (z :: x.1, x.2) := by rw [HDQ.out, hdc2, textL_esc]; cases escW c.toNat <;> rfl
            have HTX := Lib.hid htx
            clear hc hdc2 htx h2
            have hjb2 : decide ((q1 : Int) < (s.size : Int)) = true := decide_eq_true (by omega)
            have c0 := hBk.cell 0 _ rfl
            have c1 := hBk.cell 1 _ rfl
            go_upto_region 10 with (fail)
            go_cut [5] (fun v5 wx => v5 = .int .u8 c.toNat ∧ Bytes w.heap.size u3 acc wx ∧ Cr g s q1 0 wx ∧ w.grownBy wx (some g))
            case first =>
              go_quiet (fail)
              go_wp2_with fail
              go_meet
              exact ⟨rfl, hO.drewN _, hBk.drewN _, hg.trans (grownBy_drewN _ _ _)⟩
            case rest =>
            obtain ⟨rfl, hO, hBk, hg⟩ := hcut
            clear c0 c1 hct
            have c1 := hBk.cell 1 _ rfl
            have f1 := hBk.free 1
            have hB4 := hBk.at0 (q1 + 1) ((q1 : Int) + 1) (by omega)
            have hO4 := hO.grown (grownBy_set _ g 1 (.int .i64 ((q1 : Int) + 1))) hgl
            have hg4 := hg.trans (grownBy_set _ g 1 (.int .i64 ((q1 : Int) + 1)))
            go_upto_region 12 with (fail)
            clear c1 f1 hBk hO hg
            generalize World.setCell _ _ _ = w4 at *
            have hz4 := hg4.size
            by_cases e0 : c = 34
            · have x0 : ((c.toNat : Int) == 34) = true := by rw [e0]; rfl
              have hc0 : c.toNat = 34 := by rw [e0]; rfl
              have hes : escW c.toNat = some c := by rw [e0]; rfl
              have hA2 : TextAt T (acc ++ [c]) (s.data.toList.drop (q1 + 1)) := text_go hA.out (by rw [HTX.out, hes])
              have HA2 := Lib.hid hA2
              clear hA2 hA HTX hes hc0 e0
              go_wp2_with (at_builtin; refine wp_appBytes w.heap.size rfl (.tmp 74) (.tmp 76) rfl _ acc [c] _ 1 1 ?hcs rfl rfl rfl hO4 (Below.refl _ _) hz4 (by simp; omega) ?_; (case hcs => rfl); intro v1 w5 hO5 hb5 hsz5; have hB5 := Blk.belowB hB4 hb5 hgl; have hg5 := grown_below hg4 hb5 (Nat.le_refl _))
              go_roundg (s.size - (q1 + 1))
              case measure => have := HGQ.out; omega
              case rel => exact ⟨acc ++ [c], q1 + 1, hO5, hB5, by omega, by omega, hg5, by simp; omega, HA2.out⟩
            · have x0 : ((c.toNat : Int) == 34) = false := beq_eq_false_iff_ne.2 fun e => e0 (UInt8.toNat_inj.1 (by show _ = 34; omega))
              by_cases e1 : c = 92
              · have x1 : ((c.toNat : Int) == 92) = true := by rw [e1]; rfl
                have hc0 : c.toNat = 92 := by rw [e1]; rfl
                have hes : escW c.toNat = some c := by rw [e1]; rfl
                have hA2 : TextAt T (acc ++ [c]) (s.data.toList.drop (q1 + 1)) := text_go hA.out (by rw [HTX.out, hes])
                have HA2 := Lib.hid hA2
                clear hA2 hA HTX hes hc0 e1 e0
                go_wp2_with (at_builtin; refine wp_appBytes w.heap.size rfl (.tmp 74) (.tmp 76) rfl _ acc [c] _ 1 1 ?hcs rfl rfl rfl hO4 (Below.refl _ _) hz4 (by simp; omega) ?_; (case hcs => rfl); intro v1 w5 hO5 hb5 hsz5; have hB5 := Blk.belowB hB4 hb5 hgl; have hg5 := grown_below hg4 hb5 (Nat.le_refl _))
                go_roundg (s.size - (q1 + 1))
                case measure => have := HGQ.out; omega
                case rel => exact ⟨acc ++ [c], q1 + 1, hO5, hB5, by omega, by omega, hg5, by simp; omega, HA2.out⟩
              · have x1 : ((c.toNat : Int) == 92) = false := beq_eq_false_iff_ne.2 fun e => e1 (UInt8.toNat_inj.1 (by show _ = 92; omega))
                by_cases e2 : c = 110
                · have x2 : ((c.toNat : Int) == 110) = true := by rw [e2]; rfl
                  have hc0 : c.toNat = 110 := by rw [e2]; rfl
                  have hes : escW c.toNat = some 10 := by rw [e2]; rfl
                  have hA2 : TextAt T (acc ++ [10]) (s.data.toList.drop (q1 + 1)) := text_go hA.out (by rw [HTX.out, hes])
                  have HA2 := Lib.hid hA2
                  clear hA2 hA HTX hes hc0 e2 e0 e1
                  go_wp2_with (at_builtin; refine wp_appBytes w.heap.size rfl (.tmp 80) (.tmp 81) rfl _ acc [10] _ 1 1 ?hcs rfl rfl rfl hO4 (Below.refl _ _) hz4 (by simp; omega) ?_; (case hcs => rfl); intro v1 w5 hO5 hb5 hsz5; have hB5 := Blk.belowB hB4 hb5 hgl; have hg5 := grown_below hg4 hb5 (Nat.le_refl _))
                  go_roundg (s.size - (q1 + 1))
                  case measure => have := HGQ.out; omega
                  case rel => exact ⟨acc ++ [10], q1 + 1, hO5, hB5, by omega, by omega, hg5, by simp; omega, HA2.out⟩
                · have x2 : ((c.toNat : Int) == 110) = false := beq_eq_false_iff_ne.2 fun e => e2 (UInt8.toNat_inj.1 (by show _ = 110; omega))
                  by_cases e3 : c = 116
                  · have x3 : ((c.toNat : Int) == 116) = true := by rw [e3]; rfl
                    have hc0 : c.toNat = 116 := by rw [e3]; rfl
                    have hes : escW c.toNat = some 9 := by rw [e3]; rfl
                    have hA2 : TextAt T (acc ++ [9]) (s.data.toList.drop (q1 + 1)) := text_go hA.out (by rw [HTX.out, hes])
                    have HA2 := Lib.hid hA2
                    clear hA2 hA HTX hes hc0 e3 e0 e1 e2
                    go_wp2_with (at_builtin; refine wp_appBytes w.heap.size rfl (.tmp 85) (.tmp 86) rfl _ acc [9] _ 1 1 ?hcs rfl rfl rfl hO4 (Below.refl _ _) hz4 (by simp; omega) ?_; (case hcs => rfl); intro v1 w5 hO5 hb5 hsz5; have hB5 := Blk.belowB hB4 hb5 hgl; have hg5 := grown_below hg4 hb5 (Nat.le_refl _))
                    go_roundg (s.size - (q1 + 1))
                    case measure => have := HGQ.out; omega
                    case rel => exact ⟨acc ++ [9], q1 + 1, hO5, hB5, by omega, by omega, hg5, by simp; omega, HA2.out⟩
                  · have x3 : ((c.toNat : Int) == 116) = false := beq_eq_false_iff_ne.2 fun e => e3 (UInt8.toNat_inj.1 (by show _ = 116; omega))
                    have hes : escW c.toNat = none := escW_none e0 e1 e2 e3
                    have hT := text_err hA.out (by rw [HTX.out, hes])
                    have HT := Lib.hid hT
                    clear hT hA HTX hes e0 e1 e2 e3
                    go_wp2_with (go_at_call 50; refine (rfail_calls g s (q1 + 1) 1401 _ hB4).mono ?_; rintro e w9 ⟨rfl, hB9, hg9⟩)
                    go_ret
                    exact NmPost.err HT.out hB9 (by omega) (by omega) (hg4.trans hg9)
        · have hb92 : ((b.toNat : Int) == 92) = false := beq_eq_false_iff_ne.2 fun e => h92 (UInt8.toNat_inj.1 (by show _ = 92; omega))
          have hb92n : ((b.toNat : Int) != 92) = true := by rw [bne, hb92]; rfl
          have hA2 : TextAt T (acc ++ [b]) (s.data.toList.drop (q + 1)) := text_go hA.out (by rw [hdc'.out]; exact textL_plain b _ h34 h92)
          have HA2 := Lib.hid hA2
          have hbv : ∃ z : Int, z = b.toNat := ⟨_, rfl⟩
          clear hA2 hA h34 h92
          go_wp2_with (at_builtin; refine wp_appBytes w.heap.size rfl (.tmp 38) (.tmp 40) rfl _ acc [b] _ 1 1 ?hcs rfl rfl rfl hO4 (Below.refl _ _) hz4 (by simp; omega) ?_; (case hcs => rfl); intro v1 w5 hO5 hb5 hsz5; have hB5 := Blk.belowB hB4 hb5 hgl; have hg5 := grown_below hg4 hb5 (Nat.le_refl _))
          go_roundg (gk - 1)
          case measure => have := HGK.out; omega
          case rel => exact ⟨acc ++ [b], q + 1, hO5, hB5, by omega, by have := HGK.out; omega, hg5, by simp; omega, HA2.out⟩
    · have hT := text_err hA.out (show textL (s.data.toList.drop q) = .error 1401 by rw [List.drop_eq_nil_of_le (by rw [hll]; omega), textL.eq_def])
      have HT := Lib.hid hT
      clear hT hA
      rw [decide_eq_false h]
      go_wp2_with (go_at_call 50; refine (rfail_calls g s q 1401 _ hBk).mono ?_; rintro e w9 ⟨rfl, hB9, hg9⟩)
      go_ret
      exact NmPost.err HT.out hB9 hpq hks (hg.trans hg9)
end Go.Proofs.YtblkbhomlblfnaaDoor.S
