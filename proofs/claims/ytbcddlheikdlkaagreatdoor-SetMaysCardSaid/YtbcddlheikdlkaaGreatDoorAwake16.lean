/-
  THE WALK of awake (chapter 16).
-/
import Derived.Test.YtbcddlheikdlkaaGreatDoorSameG
import Derived.Test.YtbcddlheikdlkaaGreatDoorTmpl10
set_option linter.unusedVariables false
set_option linter.unusedSimpArgs false
namespace Go.Proofs.YtbcddlheikdlkaaGreatDoor.S
open Go.RowKit

theorem ars_lit (W : World) (cs : Array Value) (ds : List Ar) (n base : Nat) (hc : cs.toList = arsCells (ds.map fun d => (d, .slice none 0 0))) (hn : ds.length = n) (hm : n ≤ 9223372036854775807) (hb : base ≤ W.heap.size) (hp : ∀ d ∈ ds, d.path = []) :
    Ars base (.slice (some ⟨W.heap.size, 0, none⟩) n n) ds (W.alloc (.cells cs 87)) := by
  subst hn
  refine ⟨ds.map fun d => (d, .slice none 0 0), (List.map_map ..).trans (List.map_id ds), ?_, ?_⟩
  · rw [← hc, List.length_map]
    refine World.ownsRow.mono (World.ownsRow_lit W cs ds.length (Nat.le_refl _) (by simp only [maxLen]; omega) ?_) hb
    have := congrArg List.length hc
    rw [Array.length_toList] at this
    rw [this]
    clear this hc hm hp
    induction ds with
    | nil => rfl
    | cons p ps ih => unfold arsCells at *; rw [List.map_cons, List.flatMap_cons, List.length_append, ih]; simp [arCells]; omega
  · intro z hz
    obtain ⟨d, hd, rfl⟩ := List.mem_map.1 hz
    exact .inl ⟨hp d hd, none, 0, rfl⟩
theorem cms_lit (W : World) (cs : Array Value) (zs : List (Cm × Value)) (n base : Nat) (hc : cs.toList = cmsCells zs) (hn : zs.length = n) (hm : n ≤ 9223372036854775807) (hb : base ≤ W.heap.size) (hp : ∀ z ∈ zs, Ars base z.2 z.1.args W) :
    Cms base (.slice (some ⟨W.heap.size, 0, none⟩) n n) (zs.map Prod.fst) (W.alloc (.cells cs 61)) := by
  subst hn
  refine ⟨zs, rfl, ?_, fun z hz => (hp z hz).below ((Below.refl _ W).alloc (Nat.le_refl _) _)⟩
  rw [← hc]
  refine World.ownsRow.mono (World.ownsRow_lit W cs zs.length (Nat.le_refl _) (by simp only [maxLen]; omega) ?_) hb
  have := congrArg List.length hc
  rw [Array.length_toList] at this
  rw [this]
  clear this hc hm hp
  induction zs with
  | nil => rfl
  | cons p ps ih => unfold cmsCells at *; rw [List.flatMap_cons, List.length_append, ih]; simp [cmCells]; omega
theorem its_lit (W : World) (cs : Array Value) (zs : List Ic) (n base : Nat) (hc : cs.toList = icsCells zs) (hn : zs.length = n) (hm : n ≤ 9223372036854775807) (hb : base ≤ W.heap.size) (hp : ∀ z ∈ zs, Cms base z.pv z.it.pipe W ∧ Its base (fun _ => True) W z.tv z.it.th ∧ Its base (fun _ => True) W z.ev z.it.el) :
    Its base (fun _ => True) (W.alloc (.cells cs 58)) (.slice (some ⟨W.heap.size, 0, none⟩) n n) (zs.map Ic.it) := by
  subst hn
  have hba : Below W.heap.size W (W.alloc (.cells cs 58)) := (Below.refl _ W).alloc (Nat.le_refl _) _
  refine .mk _ zs ?_ (fun _ _ => trivial) (fun z hz => (hp z hz).1.below hba) (fun z hz => (hp z hz).2.1.blw hba) (fun z hz => (hp z hz).2.2.blw hba)
  rw [← hc]
  refine World.ownsRow.mono (World.ownsRow_lit W cs zs.length (Nat.le_refl _) (by simp only [maxLen]; omega) ?_) hb
  have := congrArg List.length hc
  rw [Array.length_toList] at this
  rw [this]
  exact icsCells_len zs
def dotP : List Cm := [⟨[], [⟨0, [], [], 0, []⟩]⟩]
def want16 : List It := [.mk 0 [97] [] [] [], .mk 5 [] dotP [.mk 1 [] dotP [] [], .mk 7 [] [] [] []] [.mk 0 [98] [] [] []], .mk 2 [120] [⟨[], [⟨2, [], [], 1, []⟩]⟩] [] [], .mk 6 [116] dotP [] []]
set_option maxRecDepth 100000 in
set_option maxHeartbeats 8000000 in
theorem hole_calls (base : Nat) (w : World) (hbw : base ≤ w.heap.size) :
    Calls Tryz.prog 32 #[] w fun e w' => ∃ g : Nat, e = .returned (.agg #[.int .i64 1, .string ⟨#[]⟩, .slice (some ⟨g, 0, none⟩) 1 1, .slice none 0 0, .slice none 0 0]) ∧ Cms base (.slice (some ⟨g, 0, none⟩) 1 1) dotP w' ∧ Below w.heap.size w w' := by
  go_enter Tryz.func32, Tryz.ntmps32
  go_wp2
  have h1 : Blk w.heap.size 58 [.int .i64 1, .string ⟨#[]⟩, .slice (some ⟨w.heap.size + 1 + 1, 0, none⟩) 1 1, .slice none 0 0, .slice none 0 0] (w.alloc (.cells #[.int .i64 1, .string ⟨#[]⟩, .slice (some ⟨w.heap.size + 1 + 1, 0, none⟩) 1 1, .slice none 0 0, .slice none 0 0] 58)) := Blk.new w _ _
  have b1 := (Below.refl w.heap.size w).alloc (Nat.le_refl _) (.cells #[.int .i64 1, .string ⟨#[]⟩, .slice (some ⟨w.heap.size + 1 + 1, 0, none⟩) 1 1, .slice none 0 0, .slice none 0 0] 58)
  have z1 : (w.alloc (.cells #[.int .i64 1, .string ⟨#[]⟩, .slice (some ⟨w.heap.size + 1 + 1, 0, none⟩) 1 1, .slice none 0 0, .slice none 0 0] 58)).heap.size = w.heap.size + 1 := by simp
  generalize w.alloc (.cells #[.int .i64 1, .string ⟨#[]⟩, .slice (some ⟨w.heap.size + 1 + 1, 0, none⟩) 1 1, .slice none 0 0, .slice none 0 0] 58) = w1 at *
  have hA := ars_lit w1 #[.int .i64 0, .string ⟨#[]⟩, .slice none 0 0, .int .i64 0, .string ⟨#[]⟩] [⟨0, [], [], 0, []⟩] 1 base rfl rfl (by omega) (by omega) (by intro d hd; simp at hd; subst hd; rfl)
  have b2 := (Below.refl w1.heap.size w1).alloc (Nat.le_refl _) (.cells #[.int .i64 0, .string ⟨#[]⟩, .slice none 0 0, .int .i64 0, .string ⟨#[]⟩] 87)
  have z2 : (w1.alloc (.cells #[.int .i64 0, .string ⟨#[]⟩, .slice none 0 0, .int .i64 0, .string ⟨#[]⟩] 87)).heap.size = w.heap.size + 1 + 1 := by simp [z1]
  have h1 := h1.below b2
  generalize w1.alloc (.cells #[.int .i64 0, .string ⟨#[]⟩, .slice none 0 0, .int .i64 0, .string ⟨#[]⟩] 87) = w2 at *
  rw [z1] at hA
  have hC := cms_lit w2 #[.string ⟨#[]⟩, .slice (some ⟨w.heap.size + 1, 0, none⟩) 1 1] [(⟨[], [⟨0, [], [], 0, []⟩]⟩, .slice (some ⟨w.heap.size + 1, 0, none⟩) 1 1)] 1 base rfl rfl (by omega) (by omega) (by intro d hd; simp at hd; subst hd; exact hA)
  have b3 := (Below.refl w2.heap.size w2).alloc (Nat.le_refl _) (.cells #[.string ⟨#[]⟩, .slice (some ⟨w.heap.size + 1, 0, none⟩) 1 1] 61)
  have h1 := h1.below b3
  generalize w2.alloc (.cells #[.string ⟨#[]⟩, .slice (some ⟨w.heap.size + 1, 0, none⟩) 1 1] 61) = w3 at *
  rw [z2] at hC
  have hb := b1.trans ((b2.mono (by omega)).trans (b3.mono (by omega)))
  have k0 := h1.cell 0 _ rfl
  have k1 := h1.cell 1 _ rfl
  have k2 := h1.cell 2 _ rfl
  have k3 := h1.cell 3 _ rfl
  have k4 := h1.cell 4 _ rfl
  refine bodyPost_ret (v := .agg #[.int .i64 1, .string ⟨#[]⟩, .slice (some ⟨w.heap.size + 1 + 1, 0, none⟩) 1 1, .slice none 0 0, .slice none 0 0]) (by simp [results, Tryz.results32, go_sem, k0, k1, k2, k3, k4]) rfl ?_
  exact ⟨_, rfl, hC, hb⟩
theorem want_lit (W : World) (g6 g7 base : Nat) (hD6 : Cms base (.slice (some ⟨g6, 0, none⟩) 1 1) dotP W) (hD7 : Cms base (.slice (some ⟨g7, 0, none⟩) 1 1) dotP W) (hb : base ≤ W.heap.size) :
    Its base (fun _ => True) (((((W.alloc (.cells #[.int .i64 1, .string ⟨#[]⟩, .slice (some ⟨g7, 0, none⟩) 1 1, .slice none 0 0, .slice none 0 0, .int .i64 7, .string ⟨#[]⟩, .slice none 0 0, .slice none 0 0, .slice none 0 0] 58)).alloc (.cells #[.int .i64 0, .string ⟨#[98]⟩, .slice none 0 0, .slice none 0 0, .slice none 0 0] 58)).alloc (.cells #[.int .i64 2, .string ⟨#[]⟩, .slice none 0 0, .int .i64 1, .string ⟨#[]⟩] 87)).alloc (.cells #[.string ⟨#[]⟩, .slice (some ⟨W.heap.size + 1 + 1, 0, none⟩) 1 1] 61)).alloc (.cells #[.int .i64 0, .string ⟨#[97]⟩, .slice none 0 0, .slice none 0 0, .slice none 0 0, .int .i64 5, .string ⟨#[]⟩, .slice (some ⟨g6, 0, none⟩) 1 1, .slice (some ⟨W.heap.size, 0, none⟩) 2 2, .slice (some ⟨W.heap.size + 1, 0, none⟩) 1 1, .int .i64 2, .string ⟨#[120]⟩, .slice (some ⟨W.heap.size + 1 + 1 + 1, 0, none⟩) 1 1, .slice none 0 0, .slice none 0 0, .int .i64 6, .string ⟨#[116]⟩, .slice (some ⟨g6, 0, none⟩) 1 1, .slice none 0 0, .slice none 0 0] 58)) (.slice (some ⟨W.heap.size + 1 + 1 + 1 + 1, 0, none⟩) 4 4) want16 ∧ Below W.heap.size W (((((W.alloc (.cells #[.int .i64 1, .string ⟨#[]⟩, .slice (some ⟨g7, 0, none⟩) 1 1, .slice none 0 0, .slice none 0 0, .int .i64 7, .string ⟨#[]⟩, .slice none 0 0, .slice none 0 0, .slice none 0 0] 58)).alloc (.cells #[.int .i64 0, .string ⟨#[98]⟩, .slice none 0 0, .slice none 0 0, .slice none 0 0] 58)).alloc (.cells #[.int .i64 2, .string ⟨#[]⟩, .slice none 0 0, .int .i64 1, .string ⟨#[]⟩] 87)).alloc (.cells #[.string ⟨#[]⟩, .slice (some ⟨W.heap.size + 1 + 1, 0, none⟩) 1 1] 61)).alloc (.cells #[.int .i64 0, .string ⟨#[97]⟩, .slice none 0 0, .slice none 0 0, .slice none 0 0, .int .i64 5, .string ⟨#[]⟩, .slice (some ⟨g6, 0, none⟩) 1 1, .slice (some ⟨W.heap.size, 0, none⟩) 2 2, .slice (some ⟨W.heap.size + 1, 0, none⟩) 1 1, .int .i64 2, .string ⟨#[120]⟩, .slice (some ⟨W.heap.size + 1 + 1 + 1, 0, none⟩) 1 1, .slice none 0 0, .slice none 0 0, .int .i64 6, .string ⟨#[116]⟩, .slice (some ⟨g6, 0, none⟩) 1 1, .slice none 0 0, .slice none 0 0] 58)) := by
  have hA := its_lit W #[.int .i64 1, .string ⟨#[]⟩, .slice (some ⟨g7, 0, none⟩) 1 1, .slice none 0 0, .slice none 0 0, .int .i64 7, .string ⟨#[]⟩, .slice none 0 0, .slice none 0 0, .slice none 0 0] [⟨.mk 1 [] dotP [] [], .slice (some ⟨g7, 0, none⟩) 1 1, .slice none 0 0, .slice none 0 0⟩, ⟨.mk 7 [] [] [] [], .slice none 0 0, .slice none 0 0, .slice none 0 0⟩] 2 base rfl rfl (by omega) hb (by
    intro z hz
    simp only [List.mem_cons, List.not_mem_nil, or_false] at hz
    rcases hz with rfl | rfl
    · exact ⟨hD7, its_nil _ _ _, its_nil _ _ _⟩
    · exact ⟨cms_nil _ _, its_nil _ _ _, its_nil _ _ _⟩)
  have b1 := (Below.refl W.heap.size W).alloc (Nat.le_refl _) (.cells #[.int .i64 1, .string ⟨#[]⟩, .slice (some ⟨g7, 0, none⟩) 1 1, .slice none 0 0, .slice none 0 0, .int .i64 7, .string ⟨#[]⟩, .slice none 0 0, .slice none 0 0, .slice none 0 0] 58)
  have z1 : (W.alloc (.cells #[.int .i64 1, .string ⟨#[]⟩, .slice (some ⟨g7, 0, none⟩) 1 1, .slice none 0 0, .slice none 0 0, .int .i64 7, .string ⟨#[]⟩, .slice none 0 0, .slice none 0 0, .slice none 0 0] 58)).heap.size = W.heap.size + 1 := by simp
  have hD6 := hD6.below b1
  generalize W.alloc (.cells #[.int .i64 1, .string ⟨#[]⟩, .slice (some ⟨g7, 0, none⟩) 1 1, .slice none 0 0, .slice none 0 0, .int .i64 7, .string ⟨#[]⟩, .slice none 0 0, .slice none 0 0, .slice none 0 0] 58) = w1 at *
  have hB := its_lit w1 #[.int .i64 0, .string ⟨#[98]⟩, .slice none 0 0, .slice none 0 0, .slice none 0 0] [⟨.mk 0 [98] [] [] [], .slice none 0 0, .slice none 0 0, .slice none 0 0⟩] 1 base rfl rfl (by omega) (by omega) (by
    intro z hz
    simp only [List.mem_cons, List.not_mem_nil, or_false] at hz
    subst hz
    exact ⟨cms_nil _ _, its_nil _ _ _, its_nil _ _ _⟩)
  have b2 := (Below.refl w1.heap.size w1).alloc (Nat.le_refl _) (.cells #[.int .i64 0, .string ⟨#[98]⟩, .slice none 0 0, .slice none 0 0, .slice none 0 0] 58)
  have z2 : (w1.alloc (.cells #[.int .i64 0, .string ⟨#[98]⟩, .slice none 0 0, .slice none 0 0, .slice none 0 0] 58)).heap.size = W.heap.size + 1 + 1 := by simp [z1]
  have hD6 := hD6.below b2
  have hA := hA.blw b2
  generalize w1.alloc (.cells #[.int .i64 0, .string ⟨#[98]⟩, .slice none 0 0, .slice none 0 0, .slice none 0 0] 58) = w2 at *
  rw [z1] at hB
  have hC := ars_lit w2 #[.int .i64 2, .string ⟨#[]⟩, .slice none 0 0, .int .i64 1, .string ⟨#[]⟩] [⟨2, [], [], 1, []⟩] 1 base rfl rfl (by omega) (by omega) (by intro d hd; simp at hd; subst hd; rfl)
  have b3 := (Below.refl w2.heap.size w2).alloc (Nat.le_refl _) (.cells #[.int .i64 2, .string ⟨#[]⟩, .slice none 0 0, .int .i64 1, .string ⟨#[]⟩] 87)
  have z3 : (w2.alloc (.cells #[.int .i64 2, .string ⟨#[]⟩, .slice none 0 0, .int .i64 1, .string ⟨#[]⟩] 87)).heap.size = W.heap.size + 1 + 1 + 1 := by simp [z2]
  have hD6 := hD6.below b3
  have hA := hA.blw b3
  have hB := hB.blw b3
  generalize w2.alloc (.cells #[.int .i64 2, .string ⟨#[]⟩, .slice none 0 0, .int .i64 1, .string ⟨#[]⟩] 87) = w3 at *
  rw [z2] at hC
  have hD := cms_lit w3 #[.string ⟨#[]⟩, .slice (some ⟨W.heap.size + 1 + 1, 0, none⟩) 1 1] [(⟨[], [⟨2, [], [], 1, []⟩]⟩, .slice (some ⟨W.heap.size + 1 + 1, 0, none⟩) 1 1)] 1 base rfl rfl (by omega) (by omega) (by intro d hd; simp at hd; subst hd; exact hC)
  have b4 := (Below.refl w3.heap.size w3).alloc (Nat.le_refl _) (.cells #[.string ⟨#[]⟩, .slice (some ⟨W.heap.size + 1 + 1, 0, none⟩) 1 1] 61)
  have z4 : (w3.alloc (.cells #[.string ⟨#[]⟩, .slice (some ⟨W.heap.size + 1 + 1, 0, none⟩) 1 1] 61)).heap.size = W.heap.size + 1 + 1 + 1 + 1 := by simp [z3]
  have hD6 := hD6.below b4
  have hA := hA.blw b4
  have hB := hB.blw b4
  generalize w3.alloc (.cells #[.string ⟨#[]⟩, .slice (some ⟨W.heap.size + 1 + 1, 0, none⟩) 1 1] 61) = w4 at *
  rw [z3] at hD
  have hE := its_lit w4 #[.int .i64 0, .string ⟨#[97]⟩, .slice none 0 0, .slice none 0 0, .slice none 0 0, .int .i64 5, .string ⟨#[]⟩, .slice (some ⟨g6, 0, none⟩) 1 1, .slice (some ⟨W.heap.size, 0, none⟩) 2 2, .slice (some ⟨W.heap.size + 1, 0, none⟩) 1 1, .int .i64 2, .string ⟨#[120]⟩, .slice (some ⟨W.heap.size + 1 + 1 + 1, 0, none⟩) 1 1, .slice none 0 0, .slice none 0 0, .int .i64 6, .string ⟨#[116]⟩, .slice (some ⟨g6, 0, none⟩) 1 1, .slice none 0 0, .slice none 0 0] [⟨.mk 0 [97] [] [] [], .slice none 0 0, .slice none 0 0, .slice none 0 0⟩, ⟨.mk 5 [] dotP [.mk 1 [] dotP [] [], .mk 7 [] [] [] []] [.mk 0 [98] [] [] []], .slice (some ⟨g6, 0, none⟩) 1 1, .slice (some ⟨W.heap.size, 0, none⟩) 2 2, .slice (some ⟨W.heap.size + 1, 0, none⟩) 1 1⟩, ⟨.mk 2 [120] [⟨[], [⟨2, [], [], 1, []⟩]⟩] [] [], .slice (some ⟨W.heap.size + 1 + 1 + 1, 0, none⟩) 1 1, .slice none 0 0, .slice none 0 0⟩, ⟨.mk 6 [116] dotP [] [], .slice (some ⟨g6, 0, none⟩) 1 1, .slice none 0 0, .slice none 0 0⟩] 4 base rfl rfl (by omega) (by omega) (by
    intro z hz
    simp only [List.mem_cons, List.not_mem_nil, or_false] at hz
    rcases hz with rfl | rfl | rfl | rfl
    · exact ⟨cms_nil _ _, its_nil _ _ _, its_nil _ _ _⟩
    · exact ⟨hD6, hA, hB⟩
    · exact ⟨hD, its_nil _ _ _, its_nil _ _ _⟩
    · exact ⟨hD6, its_nil _ _ _, its_nil _ _ _⟩)
  have b5 := (Below.refl w4.heap.size w4).alloc (Nat.le_refl _) (.cells #[.int .i64 0, .string ⟨#[97]⟩, .slice none 0 0, .slice none 0 0, .slice none 0 0, .int .i64 5, .string ⟨#[]⟩, .slice (some ⟨g6, 0, none⟩) 1 1, .slice (some ⟨W.heap.size, 0, none⟩) 2 2, .slice (some ⟨W.heap.size + 1, 0, none⟩) 1 1, .int .i64 2, .string ⟨#[120]⟩, .slice (some ⟨W.heap.size + 1 + 1 + 1, 0, none⟩) 1 1, .slice none 0 0, .slice none 0 0, .int .i64 6, .string ⟨#[116]⟩, .slice (some ⟨g6, 0, none⟩) 1 1, .slice none 0 0, .slice none 0 0] 58)
  rw [z4] at hE
  exact ⟨hE, b1.trans ((b2.mono (by omega)).trans ((b3.mono (by omega)).trans ((b4.mono (by omega)).trans (b5.mono (by omega)))))⟩
set_option maxRecDepth 100000 in
set_option maxHeartbeats 8000000 in
theorem awake16_calls (w : World) (hE : Env w) :
    Calls Tryz.prog 13 #[] w fun e w' => e = .returned (.bool true) ∧ Below w.heap.size w w' := by
  go_enter Tryz.func13, Tryz.ntmps13
  go_wp2_with fail
  refine (tmplParse_calls _ _ hE).mono ?_
  rintro e w1 ⟨hok, -, hb1⟩
  obtain ⟨v1, rfl, hI1⟩ := hok want16 (by kernel_rfl)
  clear hok
  obtain ⟨va, vc, rfl⟩ := hI1.slice
  go_wp2_with fail
  refine (tmplParse_calls _ _ (hE.below hb1)).mono ?_
  rintro e w2 ⟨-, hno, hb2⟩
  obtain rfl := hno 1600 (by kernel_rfl)
  clear hno
  have hI1 := hI1.blw hb2
  have hb2 := hb1.trans (hb2.mono hb1.size)
  go_wp2_with fail
  refine (tmplParse_calls _ _ (hE.below hb2)).mono ?_
  rintro e w3 ⟨-, hno, hb3⟩
  obtain rfl := hno 1601 (by kernel_rfl)
  clear hno
  have hI1 := hI1.blw hb3
  have hb3 := hb2.trans (hb3.mono hb2.size)
  go_wp2_with fail
  refine (tmplParse_calls _ _ (hE.below hb3)).mono ?_
  rintro e w4 ⟨-, hno, hb4⟩
  obtain rfl := hno 1602 (by kernel_rfl)
  clear hno
  have hI1 := hI1.blw hb4
  have hb4 := hb3.trans (hb4.mono hb3.size)
  go_wp2_with fail
  refine (tmplParse_calls _ _ (hE.below hb4)).mono ?_
  rintro e w5 ⟨-, hno, hb5⟩
  obtain rfl := hno 1604 (by kernel_rfl)
  clear hno
  have hI1 := hI1.blw hb5
  have hb5 := hb4.trans (hb5.mono hb4.size)
  have hbz := hb5.size
  go_wp2_with fail
  refine (hole_calls w.heap.size w5 hbz).mono ?_
  rintro e w6 ⟨g6, rfl, hD6, hb6⟩
  have hI1 := hI1.blw hb6
  have hb6 := hb5.trans (hb6.mono hb5.size)
  have hbz := hb6.size
  have hfl : ∀ W, (Instr.field 58 (.agg #[.int .i64 1, .string ⟨#[]⟩, .slice (some ⟨g6, 0, none⟩) 1 1, .slice none 0 0, .slice none 0 0]) 2).run Tryz.prog W = .ok (.slice (some ⟨g6, 0, none⟩) 1 1) W := fun W => by rfl
  go_wp2_with fail
  refine (hole_calls w.heap.size w6 hbz).mono ?_
  rintro e w7 ⟨g7, rfl, hD7b, hb7⟩
  have hI1 := hI1.blw hb7
  have hD6 := hD6.below hb7
  have hb7 := hb6.trans (hb7.mono hb6.size)
  have hbz := hb7.size
  go_upto_region 8 with (fail)
  have hW := want_lit w7 g6 g7 w.heap.size hD6 hD7b hbz
  generalize (((((w7.alloc (.cells #[.int .i64 1, .string ⟨#[]⟩, .slice (some ⟨g7, 0, none⟩) 1 1, .slice none 0 0, .slice none 0 0, .int .i64 7, .string ⟨#[]⟩, .slice none 0 0, .slice none 0 0, .slice none 0 0] 58)).alloc (.cells #[.int .i64 0, .string ⟨#[98]⟩, .slice none 0 0, .slice none 0 0, .slice none 0 0] 58)).alloc (.cells #[.int .i64 2, .string ⟨#[]⟩, .slice none 0 0, .int .i64 1, .string ⟨#[]⟩] 87)).alloc (.cells #[.string ⟨#[]⟩, .slice (some ⟨w7.heap.size + 1 + 1, 0, none⟩) 1 1] 61)).alloc (.cells #[.int .i64 0, .string ⟨#[97]⟩, .slice none 0 0, .slice none 0 0, .slice none 0 0, .int .i64 5, .string ⟨#[]⟩, .slice (some ⟨g6, 0, none⟩) 1 1, .slice (some ⟨w7.heap.size, 0, none⟩) 2 2, .slice (some ⟨w7.heap.size + 1, 0, none⟩) 1 1, .int .i64 2, .string ⟨#[120]⟩, .slice (some ⟨w7.heap.size + 1 + 1 + 1, 0, none⟩) 1 1, .slice none 0 0, .slice none 0 0, .int .i64 6, .string ⟨#[116]⟩, .slice (some ⟨g6, 0, none⟩) 1 1, .slice none 0 0, .slice none 0 0] 58)) = w8 at *
  obtain ⟨hQ, hb8⟩ := hW
  have hI1 := hI1.blw hb8
  have hbw := hb7.trans (hb8.mono hbz)
  go_wp2_with fail
  refine (sameItems_n _ want16 (Nat.le_refl _) _ _ _ _ _ _ _ hI1 hQ).mono ?_
  rintro e w9 ⟨rfl, hb9⟩
  have hbw := hbw.trans (hb9.mono hbw.size)
  go_wp2_with (go_at_call 11; go_in)
  go_ret
  exact ⟨rfl, hbw⟩
end Go.Proofs.YtbcddlheikdlkaaGreatDoor.S
