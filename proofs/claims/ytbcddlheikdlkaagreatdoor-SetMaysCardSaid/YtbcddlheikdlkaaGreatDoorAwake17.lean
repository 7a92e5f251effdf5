/-
  THE WALK of awake (chapter 17).
-/
import Derived.Test.YtbcddlheikdlkaaGreatDoorReadG
import Derived.Test.YtbcddlheikdlkaaGreatDoorMayG
set_option linter.unusedVariables false
set_option linter.unusedSimpArgs false
namespace Go.Proofs.YtbcddlheikdlkaaGreatDoor.S
open Go.RowKit

def tpCells (t : Tp) : List Value := [.string ⟨t.1.toArray⟩, .string ⟨t.2.toArray⟩]
def tpsCells (ts : List Tp) : List Value := ts.flatMap tpCells
/-- a literal row of sources -/
theorem tps_lit (W : World) (cs : Array Value) (ts : List Tp) (n : Nat) (hc : cs.toList = tpsCells ts) (hn : ts.length = n) (hm : n ≤ 9223372036854775807) (hl : ∀ t ∈ ts, t.1.length ≤ 9223372036854775807) :
    TpV (.slice (some ⟨W.heap.size, 0, none⟩) n n) ts (W.alloc (.cells cs 49)) := by
  subst hn
  have hB := Blk.new W cs.toList 49
  refine ⟨_, _, rfl, Nat.le_refl _, hm, fun k hk => ⟨W.heap.size, 0, rfl, hl _ (List.getElem_mem hk), ?_, ?_⟩⟩
  · rw [Nat.zero_add]
    exact hB.cell (k * 2 + 0) _ (by rw [hc]; exact flatn_get tpCells 2 (fun _ => rfl) ts k hk 0 (by omega))
  · rw [Nat.zero_add]
    exact hB.cell (k * 2 + 1) _ (by rw [hc]; exact flatn_get tpCells 2 (fun _ => rfl) ts k hk 1 (by omega))
theorem tpV_nil (w : World) : TpV (.slice none 0 0) [] w := ⟨none, 0, rfl, Nat.le_refl _, by decide, fun k hk => absurd hk (Nat.not_lt_zero _)⟩
theorem nmV_nil (w : World) : NmV (.slice none 0 0) [] w := ⟨none, 0, rfl, Nat.le_refl _, by decide, fun k hk => absurd hk (Nat.not_lt_zero _)⟩
def srcA : List UInt8 := [120, 123, 123, 116, 101, 109, 112, 108, 97, 116, 101, 32, 34, 98, 34, 125, 125]
def srcB : List UInt8 := [123, 123, 116, 101, 109, 112, 108, 97, 116, 101, 32, 34, 98, 34, 125, 125]
def ns17 : List Nm := [([97], [.mk 0 [120] [] [] [], .mk 6 [98] [] [] []]), ([98], [.mk 0 [121] [] [] []])]
theorem rd17_1 : readL [([97], srcA), ([98], [121])] = .ok ns17 := by kernel_rfl
theorem rd17_2 : readL [([97], srcB)] = .error 1702 := by kernel_rfl
theorem rd17_3 : readL [([97], []), ([97], [])] = .error 1701 := by kernel_rfl
theorem rd17_4 : readL [] = .error 1700 := by kernel_rfl
theorem rd17_5 : readL [([97, 32, 98], [])] = .error 1700 := by kernel_rfl
theorem may17_1 : mayL ns17 = true := by kernel_rfl
theorem may17_0 : mayL [] = false := by kernel_rfl
theorem leafOk (k : Nat) (t : List UInt8) (ht : t.length ≤ 9223372036854775807) : ItOk (.mk k t [] [] []) :=
  .mk _ _ _ _ _ (fun c hc => by cases hc) (by decide) ht (fun i hi => by cases hi) (fun i hi => by cases hi)
theorem ns17_ok : ∀ n ∈ ns17, ∀ i ∈ n.2, ItOk i := by
  intro n hn i hi
  simp only [ns17, List.mem_cons, List.not_mem_nil, or_false] at hn
  rcases hn with rfl | rfl
  · simp only [List.mem_cons, List.not_mem_nil, or_false] at hi
    rcases hi with rfl | rfl <;> exact leafOk _ _ (by decide)
  · simp only [List.mem_cons, List.not_mem_nil, or_false] at hi
    subst hi
    exact leafOk _ _ (by decide)
theorem ns17_names : ∀ n ∈ ns17, n.1.length ≤ 9223372036854775807 := by decide
theorem small_names {ts : List Tp} (h : ∀ t ∈ ts, t.1.length ≤ 64) : ∀ t ∈ ts, t.1.length ≤ 9223372036854775807 := fun t ht => Nat.le_trans (h t ht) (by decide)
set_option maxRecDepth 100000 in
set_option maxHeartbeats 8000000 in
theorem awake17_calls (w : World) (hE : Env w) :
    Calls Tryz.prog 23 #[] w fun e w' => e = .returned (.bool true) ∧ Below w.heap.size w w' := by
  have HE := Lib.hid hE
  clear hE
  go_enter Tryz.func23, Tryz.ntmps23
  have hbx := (Below.refl w.heap.size w).alloc (Nat.le_refl _) (.cells #[.string ⟨#[97]⟩, .string ⟨srcA.toArray⟩, .string ⟨#[98]⟩, .string ⟨#[121]⟩] 49)
  have HX := Lib.hid hbx
  clear hbx
  go_wp2_with fail
  refine (setRead_calls _ [([97], srcA), ([98], [121])] _ (HE.out.below HX.out) (tps_lit w _ _ 2 rfl rfl (by decide) (small_names (by decide)))).mono ?_
  rintro e w1 ⟨hok, -, hb1⟩
  obtain ⟨nv, rfl, hN⟩ := hok ns17 rd17_1
  have hV := hN.v
  have hbw := HX.out.trans (hb1.mono HX.out.size)
  clear hok hN hb1 HX
  have hbx := hbw.alloc hbw.size (.cells #[.string ⟨#[97]⟩, .string ⟨srcB.toArray⟩] 49)
  have HX := Lib.hid hbx
  replace hV := hV.below ((Below.refl _ w1).alloc (Nat.le_refl _) (.cells #[.string ⟨#[97]⟩, .string ⟨srcB.toArray⟩] 49))
  clear hbx hbw
  obtain ⟨na, nc, hnv⟩ := hV.slice
  have hnv : nv = .slice na 2 nc := hnv
  subst hnv
  go_wp2_with fail
  refine (setRead_calls _ [([97], srcB)] _ (HE.out.below HX.out) (tps_lit w1 _ _ 1 rfl rfl (by decide) (small_names (by decide)))).mono ?_
  rintro e w2 ⟨-, hno, hb2⟩
  obtain rfl := hno 1702 rd17_2
  replace hV := hV.below hb2
  have hbw := HX.out.trans (hb2.mono HX.out.size)
  clear hno hb2 HX
  have hbx := hbw.alloc hbw.size (.cells #[.string ⟨#[97]⟩, .string ⟨#[]⟩, .string ⟨#[97]⟩, .string ⟨#[]⟩] 49)
  have HX := Lib.hid hbx
  replace hV := hV.below ((Below.refl _ w2).alloc (Nat.le_refl _) (.cells #[.string ⟨#[97]⟩, .string ⟨#[]⟩, .string ⟨#[97]⟩, .string ⟨#[]⟩] 49))
  clear hbx hbw
  go_wp2_with fail
  refine (setRead_calls _ [([97], []), ([97], [])] _ (HE.out.below HX.out) (tps_lit w2 _ _ 2 rfl rfl (by decide) (small_names (by decide)))).mono ?_
  rintro e w3 ⟨-, hno, hb3⟩
  obtain rfl := hno 1701 rd17_3
  replace hV := hV.below hb3
  have hbw := HX.out.trans (hb3.mono HX.out.size)
  clear hno hb3 HX
  have HX := Lib.hid hbw
  clear hbw
  go_wp2_with fail
  refine (setRead_calls _ [] _ (HE.out.below HX.out) (tpV_nil _)).mono ?_
  rintro e w4 ⟨-, hno, hb4⟩
  obtain rfl := hno 1700 rd17_4
  replace hV := hV.below hb4
  have hbw := HX.out.trans (hb4.mono HX.out.size)
  clear hno hb4 HX
  have hbx := hbw.alloc hbw.size (.cells #[.string ⟨#[97, 32, 98]⟩, .string ⟨#[]⟩] 49)
  have HX := Lib.hid hbx
  replace hV := hV.below ((Below.refl _ w4).alloc (Nat.le_refl _) (.cells #[.string ⟨#[97, 32, 98]⟩, .string ⟨#[]⟩] 49))
  clear hbx hbw
  go_wp2_with fail
  refine (setRead_calls _ [([97, 32, 98], [])] _ (HE.out.below HX.out) (tps_lit w4 _ _ 1 rfl rfl (by decide) (small_names (by decide)))).mono ?_
  rintro e w5 ⟨-, hno, hb5⟩
  obtain rfl := hno 1700 rd17_5
  replace hV := hV.below hb5
  have hbw := HX.out.trans (hb5.mono HX.out.size)
  clear hno hb5 HX
  have hV' := hV
  obtain ⟨a', c', hv, -, -, hc⟩ := hV'
  obtain ⟨rfl, -, rfl⟩ := Value.slice.inj hv
  obtain ⟨g, off, iv, hg, e0, -, -⟩ := hc 0 (by decide)
  obtain ⟨g', off', iv', hg', -, e1, hI⟩ := hc 1 (by decide)
  subst hg
  obtain ⟨rfl, rfl⟩ : g = g' ∧ off = off' := by injection hg' with hg'; injection hg' with h1 h2; exact ⟨h1, h2⟩
  obtain ⟨ia, ic, hiv⟩ := hI.slice
  have hiv : iv' = .slice ia 1 ic := hiv
  subst hiv
  replace e0 : w5.cell? ⟨g, off, none⟩ = some (.string ⟨#[97]⟩) := e0
  replace e1 : w5.cell? ⟨g, off + 3, none⟩ = some (.slice ia 1 ic) := e1
  replace hI : Its 0 (fun _ => True) w5 (.slice ia 1 ic) [.mk 0 [121] [] [] []] := hI
  have hQ := its_lit w5 #[.int .i64 0, .string ⟨#[121]⟩, .slice none 0 0, .slice none 0 0, .slice none 0 0] [⟨.mk 0 [121] [] [] [], .slice none 0 0, .slice none 0 0, .slice none 0 0⟩] 1 0 rfl rfl (by decide) (Nat.zero_le _) (by
    intro z hz
    simp only [List.mem_cons, List.not_mem_nil, or_false] at hz
    subst hz
    exact ⟨cms_nil _ _, its_nil _ _ _, its_nil _ _ _⟩)
  have b5 := (Below.refl w5.heap.size w5).alloc (Nat.le_refl _) (.cells #[.int .i64 0, .string ⟨#[121]⟩, .slice none 0 0, .slice none 0 0, .slice none 0 0] 58)
  have HS := Lib.hid (sameItems_n _ [.mk 0 [121] [] [] []] (Nat.le_refl _) _ _ _ _ _ _ _ (hI.blw b5) hQ)
  have HV5 := Lib.hid (hV.below b5)
  have HBX := Lib.hid (hbw.trans (b5.mono hbw.size))
  have HM := Lib.hid (fun W (h : NmV (.slice (some ⟨g, off, none⟩) 2 nc) ns17 W) => setMay_calls _ ns17 W h ns17_ok ns17_names)
  rw [may17_1] at HM
  have HM0 := Lib.hid (fun W => setMay_calls _ [] W (nmV_nil W) (fun n hn => by cases hn) (fun n hn => by cases hn))
  rw [may17_0] at HM0
  clear hV hv hc hg' hI hQ b5 hbw
  go_wp2_with (first | (go_at_call 11; go_in) | (go_at_call 10; refine HS.out.mono ?_; rintro e w6 ⟨rfl, hb6⟩; have HB6 := Lib.hid hb6; clear hb6) | (go_at_call 20; first | ((with_reducible refine (HM.out _ (HV5.out.below HB6.out)).mono ?_); rintro e w7 ⟨rfl, hb7⟩; have HB7 := Lib.hid hb7; clear hb7) | ((with_reducible refine (HM0.out _).mono ?_); rintro e w8 ⟨rfl, hb8⟩; have HB8 := Lib.hid hb8; clear hb8)))
  go_ret
  have h6 := HBX.out.trans (HB6.out.mono HBX.out.size)
  have h7 := h6.trans (HB7.out.mono h6.size)
  exact ⟨rfl, h7.trans (HB8.out.mono h7.size)⟩
end Go.Proofs.YtbcddlheikdlkaaGreatDoor.S
