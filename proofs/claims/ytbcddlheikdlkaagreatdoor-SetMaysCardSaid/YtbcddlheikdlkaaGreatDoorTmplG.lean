import Derived.Test.YtbcddlheikdlkaaGreatDoorPipeG
import Derived.WalkSmall
import Derived.Test.YtbcddlheikdlkaaGreatDoorPlainW4
import Derived.Laws.Pointers
import Derived.Deep.RegionLaw
import Derived.StillTailTactics
/-
  ITEMS in memory: a tree of rows.
-/
set_option linter.unusedVariables false
set_option linter.unusedSimpArgs false
namespace Go.Proofs.YtbcddlheikdlkaaGreatDoor.S
open Go.RowKit

/-- an item with its rows' values -/
structure Ic where
  it : It
  pv : Value
  tv : Value
  ev : Value
def Ic.cells (z : Ic) : List Value := [.int .i64 z.it.kind, .string ⟨z.it.text.toArray⟩, z.pv, z.tv, z.ev]
def icsCells (zs : List Ic) : List Value := zs.flatMap Ic.cells
/-- a row of items whose own rows of items lie in blocks of F's -/
inductive Its (base : Nat) (F : Nat → Prop) (W : World) : Value → List It → Prop
  | mk (v : Value) (zs : List Ic) (hr : W.ownsRow base 58 5 v zs.length (icsCells zs)) (hF : ∀ g, v.ownBlock = some g → F g) (hp : ∀ z ∈ zs, Cms base z.pv z.it.pipe W)
      (ht : ∀ z ∈ zs, Its base F W z.tv z.it.th) (he : ∀ z ∈ zs, Its base F W z.ev z.it.el) : Its base F W v (zs.map Ic.it)
/-- a row that may grow: its own block may be any -/
def Rw (base : Nat) (F : Nat → Prop) (v : Value) (is : List It) (W : World) : Prop :=
  ∃ zs : List Ic, zs.map Ic.it = is ∧ W.ownsRow base 58 5 v zs.length (icsCells zs) ∧ ∀ z ∈ zs, Cms base z.pv z.it.pipe W ∧ Its base F W z.tv z.it.th ∧ Its base F W z.ev z.it.el
theorem itInfo : (Tryz.prog.info? 58).map (fun i => (i.zero, i.size, i.bytes)) = some (some (.agg #[.int .i64 0, .string ⟨#[]⟩, .slice none 0 0, .slice none 0 0, .slice none 0 0]), 5, 96) := by kernel_rfl
variable {base : Nat} {F F' : Nat → Prop} {v : Value} {is : List It} {W W' : World}
theorem icsCells_len (zs : List Ic) : (icsCells zs).length = zs.length * 5 := by
  induction zs with
  | nil => rfl
  | cons z zs ih =>
    unfold icsCells at *
    rw [List.flatMap_cons, List.length_append, ih]; simp [Ic.cells]; omega
theorem Its.rw (h : Its base F W v is) : Rw base F v is W := by
  cases h with
  | mk _ zs hr hF hp ht he => exact ⟨zs, rfl, hr, fun z hz => ⟨hp z hz, ht z hz, he z hz⟩⟩
theorem Rw.its (h : Rw base F v is W) (hF : ∀ g, v.ownBlock = some g → F g) : Its base F W v is := by
  obtain ⟨zs, rfl, hr, hc⟩ := h
  exact .mk v zs hr hF (fun z hz => (hc z hz).1) (fun z hz => (hc z hz).2.1) (fun z hz => (hc z hz).2.2)
theorem its_nil (base : Nat) (F : Nat → Prop) (W : World) : Its base F W (.slice none 0 0) [] :=
  .mk (.slice none 0 0) [] ⟨by simp [icsCells], .inl ⟨rfl, rfl⟩⟩ (fun g h => by simp [Value.ownBlock] at h) (fun z hz => by cases hz) (fun z hz => by cases hz) (fun z hz => by cases hz)
theorem rw_nil (base : Nat) (F : Nat → Prop) (W : World) : Rw base F (.slice none 0 0) [] W := (its_nil base F W).rw
theorem Its.fact (h : Its base F W v is) (g : Nat) (hg : v.ownBlock = some g) : F g ∧ base ≤ g ∧ g < W.heap.size ∧ ∃ cs, W.heap[g]? = some (.cells cs 58 (0, 0)) := by
  cases h with
  | mk _ zs hr hF hp ht he => exact ⟨hF g hg, own_base hr g hg, own_lt hr g hg, own_type hr g hg⟩
theorem Rw.slice (h : Rw base F v is W) : ∃ a c, v = .slice a is.length c := by
  obtain ⟨zs, rfl, hr, _⟩ := h
  obtain ⟨a, c, h, _⟩ := own_slice hr
  exact ⟨a, c, by rw [List.length_map]; exact h⟩
theorem Its.slice (h : Its base F W v is) : ∃ a c, v = .slice a is.length c := h.rw.slice
theorem Rw.fact (h : Rw base F v is W) (g : Nat) (hg : v.ownBlock = some g) : base ≤ g ∧ g < W.heap.size ∧ ∃ cs, W.heap[g]? = some (.cells cs 58 (0, 0)) := by
  obtain ⟨zs, rfl, hr, _⟩ := h
  exact ⟨own_base hr g hg, own_lt hr g hg, own_type hr g hg⟩
theorem Its.mono (h : Its base F W v is) (hm : ∀ g, g < W.heap.size → F g → F' g) : Its base F' W v is := by
  induction h with
  | mk v zs hr hF hp ht he iht ihe => exact .mk v zs hr (fun g hg => hm g (own_lt hr g hg) (hF g hg)) hp iht ihe
theorem Rw.mono (h : Rw base F v is W) (hm : ∀ g, g < W.heap.size → F g → F' g) : Rw base F' v is W := by
  obtain ⟨zs, hz, hr, hc⟩ := h
  exact ⟨zs, hz, hr, fun z hz => ⟨(hc z hz).1, (hc z hz).2.1.mono hm, (hc z hz).2.2.mono hm⟩⟩
/-- what lives on -/
structure Kp (base : Nat) (F : Nat → Prop) (W W' : World) : Prop where
  items : ∀ g cs, W.heap[g]? = some (.cells cs 58 (0, 0)) → F g → W'.heap[g]? = W.heap[g]?
  cms : ∀ v cs, Cms base v cs W → Cms base v cs W'
theorem own_block {base e size n : Nat} {xs : List Value} (h : W.ownsRow base e size v n xs) (hb : ∀ g, v.ownBlock = some g → W'.heap[g]? = W.heap[g]?) : W'.ownsRow base e size v n xs := by
  refine ⟨h.1, ?_⟩
  rcases h.2 with h0 | ⟨g, cap, cur, rfl, hg, hh, h1⟩
  · exact .inl h0
  · exact .inr ⟨g, cap, cur, rfl, hg, (hb g rfl).trans hh, h1⟩
theorem Its.keep (h : Its base F W v is) (k : Kp base F W W') : Its base F W' v is := by
  induction h with
  | mk v zs hr hF hp ht he iht ihe =>
    exact .mk v zs (own_block hr fun g hg => let ⟨cs, hc⟩ := own_type hr g hg; k.items g cs hc (hF g hg)) hF (fun z hz => k.cms _ _ (hp z hz)) iht ihe
theorem Rw.keep (h : Rw base F v is W) (k : Kp base F W W') (hb : ∀ g, v.ownBlock = some g → W'.heap[g]? = W.heap[g]?) : Rw base F v is W' := by
  obtain ⟨zs, hz, hr, hc⟩ := h
  exact ⟨zs, hz, own_block hr hb, fun z hz => ⟨k.cms _ _ (hc z hz).1, (hc z hz).2.1.keep k, (hc z hz).2.2.keep k⟩⟩
theorem Kp.below (hb : Below W.heap.size W W') : Kp base F W W' := ⟨fun g cs h _ => hb.block g (Array.getElem?_eq_some_iff.1 h).1, fun v cs h => h.below hb⟩
theorem Kp.of {row : Option Nat} (hg : W.grownBy W' row) (hi : ∀ k, row = some k → (¬ F k) ∨ ∃ cs t fr, W.heap[k]? = some (.cells cs t fr) ∧ t ≠ 58) (ho : Off base W row) : Kp base F W W' := by
  refine ⟨fun g cs h hF => hg.block g (Array.getElem?_eq_some_iff.1 h).1 fun e => ?_, fun v cs h => h.off hg ho⟩
  rcases hi g e.symm with h1 | ⟨cs', t, fr, h1, h2⟩
  · exact h1 hF
  · rw [h1] at h
    injection h with h
    injection h with _ h
    exact h2 h
theorem Its.blw (h : Its base F W v is) (hb : Below W.heap.size W W') : Its base F W' v is := h.keep (.below hb)
theorem Rw.below (h : Rw base F v is W) (hb : Below W.heap.size W W') : Rw base F v is W' := h.keep (.below hb) fun g hg => hb.block g (h.fact g hg).2.1
/-- five cells behind a row's last element are written: a new element -/
theorem own_snoc5 {base e n g cap : Nat} {xs : List Value} {z0 z1 z2 z3 z4 : Value} (h : W.ownsRow base e 5 (.slice (some ⟨g, 0, none⟩) (n + 1) cap) (n + 1) (xs ++ [z0, z1, z2, z3, z4])) (hx : xs.length = n * 5) (a b c d f : Value) :
    (((((W.setCell ⟨g, n * 5, none⟩ a).setCell ⟨g, n * 5 + 1, none⟩ b).setCell ⟨g, n * 5 + 2, none⟩ c).setCell ⟨g, n * 5 + 3, none⟩ d).setCell ⟨g, n * 5 + 4, none⟩ f).ownsRow base e 5 (.slice (some ⟨g, 0, none⟩) (n + 1) cap) (n + 1) (xs ++ [a, b, c, d, f]) := by
  have h1 := (((((h.stored (n * 5) a).1.stored (n * 5 + 1) b).1.stored (n * 5 + 2) c).1.stored (n * 5 + 3) d).1.stored (n * 5 + 4) f).1
  have e : (((((xs ++ [z0, z1, z2, z3, z4]).set (n * 5) a).set (n * 5 + 1) b).set (n * 5 + 2) c).set (n * 5 + 3) d).set (n * 5 + 4) f = xs ++ [a, b, c, d, f] := by
    rw [← hx]
    simp [List.set_append]
  rw [e] at h1
  exact h1
theorem its_snoc {i : It} {pv tv ev v1 : Value} {w1 : World} {zs : List Ic} (hk : Kp base F W w1) (hr : ∀ z ∈ zs, Cms base z.pv z.it.pipe W ∧ Its base F W z.tv z.it.th ∧ Its base F W z.ev z.it.el) (hp : Cms base pv i.pipe W) (ht : Its base F W tv i.th) (he : Its base F W ev i.el)
    (hown : w1.ownsRow base 58 5 v1 (zs.length + 1) (icsCells zs ++ [.int .i64 i.kind, .string ⟨i.text.toArray⟩, pv, tv, ev])) : Rw base F v1 (zs.map Ic.it ++ [i]) w1 := by
  refine ⟨zs ++ [⟨i, pv, tv, ev⟩], by simp, ?_, ?_⟩
  · unfold icsCells at *
    rw [List.length_append, List.flatMap_append]
    simpa [Ic.cells] using hown
  · intro z hz
    rcases List.mem_append.1 hz with hz | hz
    · obtain ⟨h1, h2, h3⟩ := hr z hz
      exact ⟨hk.cms _ _ h1, h2.keep hk, h3.keep hk⟩
    · rw [List.mem_singleton.1 hz]
      exact ⟨hk.cms _ _ hp, ht.keep hk, he.keep hk⟩
end Go.Proofs.YtbcddlheikdlkaaGreatDoor.S
/-
  PLAIN: how many words, paths, how long their names.
-/
set_option linter.unusedVariables false
set_option linter.unusedSimpArgs false
namespace Go.Proofs.YtbcddlheikdlkaaGreatDoor.S

theorem wdOk_path {d : Wd} (h : WdOk d) : d.path.length ≤ 8 ∧ ∀ x ∈ d.path, x.length ≤ 32 := by
  have hn : ∀ x, nameOk x = true → x.length ≤ 32 := fun x hx => by
    simp only [nameOk, Bool.and_eq_true, decide_eq_true_eq] at hx
    exact hx.1.1.2
  cases h with
  | field xs h hl => exact ⟨hl, fun x hx => hn x (h x hx)⟩
  | var x xs h hs hl => exact ⟨hl, fun x hx => hn x (hs x hx)⟩
  | _ => exact ⟨by simp, fun x hx => by cases hx⟩
theorem costL_len (ds : List Wd) : 2 * ds.length ≤ costL ds := by
  induction ds with
  | nil => exact Nat.zero_le _
  | cons d ds ih => unfold costL at *; simp only [List.map_cons, List.sum_cons, List.length_cons]; omega
theorem wordsL_sizes {l : List UInt8} {ds : List Wd} {n : Nat} (h : wordsL l = (ds, n)) : ds.length ≤ 14 * l.length ∧ ∀ d ∈ ds, d.path.length ≤ 8 ∧ ∀ x ∈ d.path, x.length ≤ 32 := by
  by_cases hn : n = 0
  · subst hn
    obtain ⟨h1, h2⟩ := wordsL_good h
    have := costL_len ds
    exact ⟨by omega, fun d hd => wdOk_path (h1 d hd)⟩
  · rw [wordsL_no h hn]
    exact ⟨Nat.zero_le _, fun d hd => by cases hd⟩
end Go.Proofs.YtbcddlheikdlkaaGreatDoor.S
/-
  THE STACK OF BLOCKS in memory; the walks of package tmpl's top, add.
-/
set_option linter.unusedVariables false
set_option linter.unusedSimpArgs false
namespace Go.Proofs.YtbcddlheikdlkaaGreatDoor.S
open Go.RowKit

/-- a block of the stack: its level, its struct's block, its rows -/
structure Sl where
  lv : Lv
  g : Nat
  pv : Value
  tv : Value
  rv : Value
def Sl.cells (s : Sl) : List Value := [.int .i64 s.lv.kind, .string ⟨#[]⟩, s.pv, s.tv, .slice none 0 0, s.rv, .bool s.lv.behind]
def Sl.ptr (s : Sl) : Value := .pointer (some ⟨s.g, 0, none⟩)
/-- blocks that are no open row's own -/
def Fs (ls : List Sl) (b : Nat) : Prop := ∀ s ∈ ls, s.rv.ownBlock ≠ some b
structure Lev (base : Nat) (F : Nat → Prop) (s : Sl) (W : World) : Prop where
  blk : Blk s.g 68 s.cells W
  low : base ≤ s.g
  pipe : Cms base s.pv s.lv.pipe W
  th : Its base F W s.tv s.lv.th
  row : Rw base F s.rv s.lv.row W
def Apart (s t : Sl) : Prop := s.g ≠ t.g ∧ ∀ b, s.rv.ownBlock = some b → t.rv.ownBlock ≠ some b
structure St (base p : Nat) (ls : List Sl) (W : World) : Prop where
  par : ∃ q c, Blk p 71 [.slice (some ⟨q, 0, none⟩) ls.length c] W ∧ W.ownsRow base 66 1 (.slice (some ⟨q, 0, none⟩) ls.length c) ls.length (ls.map Sl.ptr)
  low : base ≤ p
  levs : ∀ s ∈ ls, Lev base (Fs ls) s W
  dist : ls.Pairwise Apart
variable {base p : Nat} {F F' : Nat → Prop} {W W' : World} {s t : Sl} {ls : List Sl}
theorem Lev.keep (h : Lev base F s W) (k : Kp base F W W') (hb : W'.heap[s.g]? = W.heap[s.g]?) (hr : ∀ g, s.rv.ownBlock = some g → W'.heap[g]? = W.heap[g]?) : Lev base F s W' :=
  ⟨hb.trans h.blk, h.low, k.cms _ _ h.pipe, h.th.keep k, h.row.keep k hr⟩
theorem Lev.mono (h : Lev base F s W) (hm : ∀ g, g < W.heap.size → F g → F' g) : Lev base F' s W := ⟨h.blk, h.low, h.pipe, h.th.mono hm, h.row.mono hm⟩
theorem St.below (h : St base p ls W) (hb : Below W.heap.size W W') : St base p ls W' := by
  obtain ⟨q, c, h1, h2⟩ := h.par
  exact ⟨⟨q, c, h1.below hb, own_below h2 hb⟩, h.low, fun s hs => (h.levs s hs).keep (.below hb) (hb.block _ (h.levs s hs).blk.lt) fun g hg => hb.block g ((h.levs s hs).row.fact g hg).2.1, h.dist⟩
theorem cell_drewN (w : World) (n : Nat) (a : Addr) : (w.drewN n).cell? a = w.cell? a := rfl
set_option maxRecDepth 100000 in
set_option maxHeartbeats 2000000 in
theorem top_calls (w : World) (h : St base p (ls ++ [t]) w) :
    Calls Tryz.prog 49 #[.pointer (some ⟨p, 0, none⟩)] w fun e w' => e = .returned (.pointer (some ⟨t.g, 0, none⟩)) ∧ ∃ m, w' = w.drewN m := by
  obtain ⟨q, c, h1, h2⟩ := h.par
  have hcap : ls.length ≤ 9223372036854775806 := by
    rcases h2.2 with ⟨h0, _⟩ | ⟨g, cap, cur, hv, _, _, hc, hm, _⟩
    · cases h0
    · simp only [maxLen] at hm; simp at hc; omega
  have c1 := World.ownsRow.cellAt h2 ls.length (by simp)
  have e1 : ((ls ++ [t]).map Sl.ptr)[ls.length]? = some (.pointer (some ⟨t.g, 0, none⟩)) := by simp [Sl.ptr]
  rw [e1] at c1
  have hn : (ls ++ [t]).length = ls.length + 1 := by simp
  rw [hn] at h1
  have c0 := h1.cell 0 _ rfl
  generalize ls.length = n at *
  have hi : IntKind.i64.wrap (((n : Int) + 1) - 1) = (n : Int) := by rw [IntWalk.i64_in _ (by omega)]; omega
  have hj : ((n : Int) + 1) - 1 = (n : Int) := by omega
  clear h h1 h2 e1 hn
  go_enter Tryz.func49, Tryz.ntmps49
  go_upto_region 1 with (fail)
  go_quiet (fail)
  go_wp2
  go_ret
  exact ⟨rfl, _, rfl⟩
theorem fs_snoc (b : Nat) : Fs (ls ++ [t]) b ↔ Fs ls b ∧ t.rv.ownBlock ≠ some b := by
  unfold Fs
  constructor
  · intro h
    exact ⟨fun s hs => h s (List.mem_append_left _ hs), h t (by simp)⟩
  · rintro ⟨h1, h2⟩ s hs
    rcases List.mem_append.1 hs with hs | hs
    · exact h1 s hs
    · rw [List.mem_singleton.1 hs]; exact h2
/-- blocks of these types live on -/
def Hold (W W' : World) (P : TypeId → Prop) : Prop := ∀ (b : Nat) (cs : Array Value) (T : TypeId), W.heap[b]? = some (.cells cs T (0, 0)) → P T → W'.heap[b]? = W.heap[b]?
def PipeT (T : TypeId) : Prop := T = 9 ∨ T = 87 ∨ T = 61
theorem own_hold {base e size n : Nat} {v : Value} {xs : List Value} (h : W.ownsRow base e size v n xs) (k : Hold W W' PipeT) (he : PipeT e) : W'.ownsRow base e size v n xs :=
  own_block h fun g hg => let ⟨cs, hc⟩ := own_type h g hg; k g cs e hc he
theorem Txs.hold {v : Value} {xs : List (List UInt8)} (h : Txs base v xs W) (k : Hold W W' PipeT) : Txs base v xs W' := by
  rcases h with h | h
  · exact .inl h
  · exact .inr (own_hold h k (.inl rfl))
theorem Ars.hold {v : Value} {ds : List Ar} (h : Ars base v ds W) (k : Hold W W' PipeT) : Ars base v ds W' :=
  let ⟨zs, hz, hr, hp⟩ := h
  ⟨zs, hz, own_hold hr k (.inr (.inl rfl)), fun z hz => (hp z hz).hold k⟩
theorem Cms.hold {v : Value} {ds : List Cm} (h : Cms base v ds W) (k : Hold W W' PipeT) : Cms base v ds W' :=
  let ⟨zs, hz, hr, hp⟩ := h
  ⟨zs, hz, own_hold hr k (.inr (.inr rfl)), fun z hz => (hp z hz).hold k⟩
theorem Kp.and (k : Kp base F W W') (G : Nat → Prop) : Kp base (fun g => F g ∧ G g) W W' := ⟨fun g cs h hf => k.items g cs h hf.1, k.cms⟩
theorem Its.move {v : Value} {is : List It} (h : Its base F W v is) (k : Kp base F W W') (hm : ∀ g, g < W.heap.size → F g → F' g) : Its base F' W' v is :=
  ((h.mono (F' := fun g => F g ∧ F' g) fun g hg hf => ⟨hf, hm g hg hf⟩).keep (k.and F')).mono fun g _ hf => hf.2
theorem Rw.move {v : Value} {is : List It} (h : Rw base F v is W) (k : Kp base F W W') (hm : ∀ g, g < W.heap.size → F g → F' g) (hb : ∀ g, v.ownBlock = some g → W'.heap[g]? = W.heap[g]?) : Rw base F' v is W' :=
  ((h.mono (F' := fun g => F g ∧ F' g) fun g hg hf => ⟨hf, hm g hg hf⟩).keep (k.and F') hb).mono fun g _ hf => hf.2
theorem Lev.move (h : Lev base F s W) (k : Kp base F W W') (hm : ∀ g, g < W.heap.size → F g → F' g) (hb : W'.heap[s.g]? = W.heap[s.g]?) (hr : ∀ g, s.rv.ownBlock = some g → W'.heap[g]? = W.heap[g]?) : Lev base F' s W' :=
  ⟨hb.trans h.blk, h.low, k.cms _ _ h.pipe, h.th.move k hm, h.row.move k hm hr⟩
theorem blk_type {g : Nat} {T : TypeId} {cs : List Value} (h : Blk g T cs W) {b : Nat} {cs' : Array Value} {T' : TypeId} (hb : W.heap[b]? = some (.cells cs' T' (0, 0))) (hne : T' ≠ T) : b ≠ g := by
  rintro rfl
  unfold Blk at h
  rw [h] at hb
  injection hb with hb
  injection hb with _ hb
  exact hne hb.symm
theorem Apart.symm' (h : Apart s t) : Apart t s := ⟨fun e => h.1 e.symm, fun b h1 h2 => h.2 b h2 h1⟩
/-- the top block has turned: the stack behind it -/
theorem St.change {t' : Sl} (h : St base p (ls ++ [t]) W) (hgt : t'.g = t.g) (hk : ∀ b, b < W.heap.size → t.rv.ownBlock ≠ some b → b ≠ t.g → W'.heap[b]? = W.heap[b]?)
    (hown : ∀ b, t'.rv.ownBlock = some b → t.rv.ownBlock = some b ∨ W.heap.size ≤ b)
    (hlev : Kp base (Fs (ls ++ [t])) W W' → (∀ g, g < W.heap.size → Fs (ls ++ [t]) g → Fs (ls ++ [t']) g) → Lev base (Fs (ls ++ [t'])) t' W') : St base p (ls ++ [t']) W' := by
  have ht := h.levs t (by simp)
  have hty : ∀ (b : Nat) (cs : Array Value) (T : TypeId), W.heap[b]? = some (.cells cs T (0, 0)) → T ≠ 58 → T ≠ 68 → W'.heap[b]? = W.heap[b]? := by
    intro b cs T hb h1 h2
    refine hk b (Array.getElem?_eq_some_iff.1 hb).1 (fun e => ?_) (blk_type ht.blk hb h2)
    obtain ⟨_, _, cs', hc⟩ := ht.row.fact b e
    rw [hb] at hc
    injection hc with hc
    injection hc with _ hc
    exact h1 hc
  have hK : Kp base (Fs (ls ++ [t])) W W' := by
    refine ⟨fun g cs hg hF => hk g (Array.getElem?_eq_some_iff.1 hg).1 (((fs_snoc g).1 hF).2) (blk_type ht.blk hg (by decide)), fun v cs hc => hc.hold fun b cs T hb hT => hty b cs T hb ?_ ?_⟩
    · rcases hT with rfl | rfl | rfl <;> decide
    · rcases hT with rfl | rfl | rfl <;> decide
  have hM : ∀ g, g < W.heap.size → Fs (ls ++ [t]) g → Fs (ls ++ [t']) g := by
    intro g hg hF
    obtain ⟨h1, h2⟩ := (fs_snoc g).1 hF
    refine (fs_snoc g).2 ⟨h1, fun e => ?_⟩
    rcases hown g e with h3 | h3
    · exact h2 h3
    · omega
  have hap : ∀ s ∈ ls, Apart s t := by
    intro s hs
    have := List.pairwise_append.1 h.dist
    exact this.2.2 s hs t (by simp)
  refine ⟨?_, h.low, ?_, ?_⟩
  · obtain ⟨q, c, h1, h2⟩ := h.par
    have hl : (ls ++ [t']).length = (ls ++ [t]).length := by simp
    have hm : (ls ++ [t']).map Sl.ptr = (ls ++ [t]).map Sl.ptr := by simp [Sl.ptr, hgt]
    rw [hl, hm]
    refine ⟨q, c, (hty p _ _ h1 (by decide) (by decide)).trans h1, own_block h2 fun g hg => ?_⟩
    obtain ⟨cs, hc⟩ := own_type h2 g hg
    exact hty g cs _ hc (by decide) (by decide)
  · intro s hs
    rcases List.mem_append.1 hs with hs | hs
    · have hl := h.levs s (List.mem_append_left _ hs)
      refine hl.move hK hM (hk _ hl.blk.lt (fun e => ?_) (hap s hs).1) (fun g hg => hk g (hl.row.fact g hg).2.1 ((hap s hs).2 g hg) ?_)
      · obtain ⟨_, _, cs', hc⟩ := ht.row.fact _ e
        exact blk_type hl.blk hc (by decide) rfl
      · obtain ⟨_, _, cs', hc⟩ := hl.row.fact g hg
        exact blk_type ht.blk hc (by decide)
    · rw [List.mem_singleton.1 hs]
      exact hlev hK hM
  · have hd := List.pairwise_append.1 h.dist
    refine List.pairwise_append.2 ⟨hd.1, List.pairwise_singleton _ _, fun s hs t2 ht2 => ?_⟩
    rw [List.mem_singleton.1 ht2]
    refine ⟨by rw [hgt]; exact (hap s hs).1, fun b hb e => ?_⟩
    rcases hown b e with h3 | h3
    · exact (hap s hs).2 b hb h3
    · have := ((h.levs s (List.mem_append_left _ hs)).row.fact b hb).2.1
      omega
end Go.Proofs.YtbcddlheikdlkaaGreatDoor.S
/-
  THE WALK of package tmpl's add.
-/
set_option linter.unusedVariables false
set_option linter.unusedSimpArgs false
namespace Go.Proofs.YtbcddlheikdlkaaGreatDoor.S
open Go.RowKit
variable {base p : Nat} {F F' : Nat → Prop} {W W' : World} {s t : Sl} {ls : List Sl}

theorem St.drewN (h : St base p ls W) (n : Nat) : St base p ls (W.drewN n) := h.below (Below.drewN (Below.refl _ _) n)
theorem Lv.add_cells (t : Sl) (i : It) (rv : Value) : ({ t with lv := t.lv.add i, rv := rv } : Sl).cells = [.int .i64 t.lv.kind, .string ⟨#[]⟩, t.pv, t.tv, .slice none 0 0, rv, .bool t.lv.behind] := rfl
theorem setCell_heap (w : World) (g j : Nat) (x : Value) (b : Nat) (h : b ≠ g) : (w.setCell ⟨g, j, none⟩ x).heap[b]? = w.heap[b]? := Below.heap_setCell w ⟨g, j, none⟩ x b h
/-- a new element of the top block's row -/
theorem St.put {w5 : World} {g1 c1 n : Nat} {i : It} {pv tv ev : Value} {ra : Option Addr} {rc : Nat} {zs : List Ic} (h : St base p (ls ++ [t]) W) (hrv : t.rv = .slice ra n rc) (hzs : zs.map Ic.it = t.lv.row) (hzr : ∀ z ∈ zs, Cms base z.pv z.it.pipe W ∧ Its base (Fs (ls ++ [t])) W z.tv z.it.th ∧ Its base (Fs (ls ++ [t])) W z.ev z.it.el)
    (hn : zs.length = n) (hp : Cms base pv i.pipe W) (ht : Its base (Fs (ls ++ [t])) W tv i.th) (he : Its base (Fs (ls ++ [t])) W ev i.el)
    (hown : w5.ownsRow base 58 5 (.slice (some ⟨g1, 0, none⟩) (n + 1) c1) (n + 1) (icsCells zs ++ [.int .i64 0, .string ⟨#[]⟩, .slice none 0 0, .slice none 0 0, .slice none 0 0])) (hg : W.grownBy w5 t.rv.ownBlock)
    (hgb : t.rv.ownBlock = some g1 ∨ W.heap.size ≤ g1) (hgt : g1 ≠ t.g) :
    St base p (ls ++ [{ t with lv := t.lv.add i, rv := .slice (some ⟨g1, 0, none⟩) (n + 1) c1 }]) ((((((w5.setCell ⟨g1, n * 5, none⟩ (.int .i64 i.kind)).setCell ⟨g1, n * 5 + 1, none⟩ (.string ⟨i.text.toArray⟩)).setCell ⟨g1, n * 5 + 2, none⟩ pv).setCell ⟨g1, n * 5 + 3, none⟩ tv).setCell ⟨g1, n * 5 + 4, none⟩ ev).setCell ⟨t.g, 5, none⟩ (.slice (some ⟨g1, 0, none⟩) (n + 1) c1)) := by
  have htl := h.levs t (by simp)
  have h6 := own_snoc5 hown (by rw [icsCells_len, hn]) (.int .i64 i.kind) (.string ⟨i.text.toArray⟩) pv tv ev
  generalize hw6 : ((((w5.setCell ⟨g1, n * 5, none⟩ (.int .i64 i.kind)).setCell ⟨g1, n * 5 + 1, none⟩ (.string ⟨i.text.toArray⟩)).setCell ⟨g1, n * 5 + 2, none⟩ pv).setCell ⟨g1, n * 5 + 3, none⟩ tv).setCell ⟨g1, n * 5 + 4, none⟩ ev = w6 at *
  have hk6 : ∀ b, b ≠ g1 → w6.heap[b]? = w5.heap[b]? := by
    intro b hb
    rw [← hw6, setCell_heap _ _ _ _ _ hb, setCell_heap _ _ _ _ _ hb, setCell_heap _ _ _ _ _ hb, setCell_heap _ _ _ _ _ hb, setCell_heap _ _ _ _ _ hb]
  have h7 := own_set (g := t.g) h6 (by simpa [Value.ownBlock] using hgt) 5 (.slice (some ⟨g1, 0, none⟩) (n + 1) c1)
  have hne : ∀ b, b < W.heap.size → t.rv.ownBlock ≠ some b → b ≠ g1 := by
    rintro b hb ho rfl
    rcases hgb with hgb | hgb
    · exact ho hgb
    · omega
  refine h.change rfl (fun b hb ho hbt => ?_) (fun b hb => ?_) (fun hK hM => ?_)
  · rw [setCell_heap _ _ _ _ _ hbt, hk6 b (hne b hb ho)]
    exact hg.block b hb (fun e => ho e.symm)
  · have : g1 = b := by simpa [Value.ownBlock] using hb
    subst this
    exact hgb
  · have hB : Blk t.g 68 ({ t with lv := t.lv.add i, rv := .slice (some ⟨g1, 0, none⟩) (n + 1) c1 } : Sl).cells (w6.setCell ⟨t.g, 5, none⟩ (.slice (some ⟨g1, 0, none⟩) (n + 1) c1)) := by
      have h5 : Blk t.g 68 t.cells w6 := by
        refine (hk6 t.g (fun e => hgt e.symm)).trans ((hg.block _ htl.blk.lt fun e => ?_).trans htl.blk)
        obtain ⟨_, _, cs', hc⟩ := htl.row.fact _ e.symm
        exact blk_type htl.blk hc (by decide) rfl
      exact h5.set 5 _
    refine ⟨hB, htl.low, hK.cms _ _ htl.pipe, htl.th.move hK hM, ?_⟩
    have hr := its_snoc (hK.and (Fs (ls ++ [{ t with lv := t.lv.add i, rv := .slice (some ⟨g1, 0, none⟩) (n + 1) c1 }]))) (fun z hz => ⟨(hzr z hz).1, (hzr z hz).2.1.mono fun g hg hf => ⟨hf, hM g hg hf⟩, (hzr z hz).2.2.mono fun g hg hf => ⟨hf, hM g hg hf⟩⟩) hp (ht.mono fun g hg hf => ⟨hf, hM g hg hf⟩) (he.mono fun g hg hf => ⟨hf, hM g hg hf⟩) (by rw [hn]; exact h7)
    rw [hzs] at hr
    exact hr.mono fun g _ hf => hf.2
def AddPost (base p : Nat) (ls : List Sl) (t : Sl) (i : It) (w : World) (e : Ending) (w' : World) : Prop := e = .returned (.tuple #[]) ∧ ∃ rv, St base p (ls ++ [{ t with lv := t.lv.add i, rv := rv }]) w' ∧ Below base w w'
theorem AddPost.mk {i : It} {w w' : World} {rv : Value} (h : St base p (ls ++ [{ t with lv := t.lv.add i, rv := rv }]) w') (hb : Below base w w') : AddPost base p ls t i w (.returned (.tuple #[])) w' := ⟨rfl, rv, h, hb⟩
theorem setCell_swap (w : World) (g j k l : Nat) (x y : Value) (h : g ≠ k) : (w.setCell ⟨g, j, none⟩ x).setCell ⟨k, l, none⟩ y = (w.setCell ⟨k, l, none⟩ y).setCell ⟨g, j, none⟩ x := by
  unfold World.setCell
  congr 1
  apply Array.ext_getElem?
  intro i
  simp only [Array.getElem?_modify]
  by_cases h1 : g = i
  · subst h1
    rw [if_pos rfl, if_neg (Ne.symm h), if_neg (Ne.symm h), if_pos rfl]
  · rw [if_neg h1, if_neg h1]
theorem chain_swap (w : World) (g1 tg n : Nat) (a b c d e f : Value) (h : tg ≠ g1) :
    (((((w.setCell ⟨tg, 5, none⟩ f).setCell ⟨g1, n * 5, none⟩ a).setCell ⟨g1, n * 5 + 1, none⟩ b).setCell ⟨g1, n * 5 + 2, none⟩ c).setCell ⟨g1, n * 5 + 3, none⟩ d).setCell ⟨g1, n * 5 + 4, none⟩ e =
    (((((w.setCell ⟨g1, n * 5, none⟩ a).setCell ⟨g1, n * 5 + 1, none⟩ b).setCell ⟨g1, n * 5 + 2, none⟩ c).setCell ⟨g1, n * 5 + 3, none⟩ d).setCell ⟨g1, n * 5 + 4, none⟩ e).setCell ⟨tg, 5, none⟩ f := by
  rw [setCell_swap w tg 5 g1 _ f a h, setCell_swap _ tg 5 g1 _ f b h, setCell_swap _ tg 5 g1 _ f c h, setCell_swap _ tg 5 g1 _ f d h, setCell_swap _ tg 5 g1 _ f e h]
theorem grow_at {w2 : World} {o : Obj} {v : Value} {g1 : Nat} (h : v.ownBlock = some g1 ∨ g1 = ((w2.alloc o).drew).heap.size) : v.ownBlock = some g1 ∨ w2.heap.size ≤ g1 := by
  rcases h with h | h
  · exact .inl h
  · refine .inr ?_
    rw [h]
    show w2.heap.size ≤ (w2.alloc o).heap.size
    simp
theorem grow_ne {w2 : World} {v : Value} {g1 tg : Nat} {cs : List Value} (hB : Blk tg 68 cs w2) (hl : tg < w2.heap.size) (hF : ∀ g, v.ownBlock = some g → base ≤ g ∧ g < w2.heap.size ∧ ∃ cs, w2.heap[g]? = some (.cells cs 58 (0, 0))) (h : v.ownBlock = some g1 ∨ w2.heap.size ≤ g1) : g1 ≠ tg := by
  rcases h with h | h
  · obtain ⟨_, _, cs', hc⟩ := hF g1 h
    exact blk_type hB hc (by decide)
  · omega
theorem grow_blk {w2 w5 : World} {v : Value} {tg : Nat} {cs : List Value} (hB : Blk tg 68 cs w2) (hg : w2.grownBy w5 v.ownBlock) (hF : ∀ g, v.ownBlock = some g → base ≤ g ∧ g < w2.heap.size ∧ ∃ cs, w2.heap[g]? = some (.cells cs 58 (0, 0))) : Blk tg 68 cs w5 := by
  refine hB.grown hg fun e => ?_
  obtain ⟨_, _, cs', hc⟩ := hF tg e.symm
  exact blk_type hB hc (by decide) rfl
theorem below6 {B g1 tg : Nat} {w w5 : World} (h : Below B w w5) (h1 : B ≤ g1) (h2 : B ≤ tg) (n : Nat) (a b c d e f : Value) : Below B w ((((((w5.setCell ⟨g1, n * 5, none⟩ a).setCell ⟨g1, n * 5 + 1, none⟩ b).setCell ⟨g1, n * 5 + 2, none⟩ c).setCell ⟨g1, n * 5 + 3, none⟩ d).setCell ⟨g1, n * 5 + 4, none⟩ e).setCell ⟨tg, 5, none⟩ f) :=
  (((((h.setCell (p := ⟨g1, n * 5, none⟩) h1 a).setCell (p := ⟨g1, n * 5 + 1, none⟩) h1 b).setCell (p := ⟨g1, n * 5 + 2, none⟩) h1 c).setCell (p := ⟨g1, n * 5 + 3, none⟩) h1 d).setCell (p := ⟨g1, n * 5 + 4, none⟩) h1 e).setCell (p := ⟨tg, 5, none⟩) h2 f
theorem snoc5_cells {base e n g cap : Nat} {xs : List Value} {z0 z1 z2 z3 z4 : Value} (h : W.ownsRow base e 5 (.slice (some ⟨g, 0, none⟩) (n + 1) cap) (n + 1) (xs ++ [z0, z1, z2, z3, z4])) (hx : xs.length = n * 5) :
    W.cell? ⟨g, n * 5, none⟩ = some z0 ∧ W.cell? ⟨g, n * 5 + 1, none⟩ = some z1 ∧ W.cell? ⟨g, n * 5 + 2, none⟩ = some z2 ∧ W.cell? ⟨g, n * 5 + 3, none⟩ = some z3 ∧ W.cell? ⟨g, n * 5 + 4, none⟩ = some z4 := by
  have hc : ∀ j v, j < 5 → [z0, z1, z2, z3, z4][j]? = some v → W.cell? ⟨g, n * 5 + j, none⟩ = some v := by
    intro j v hj hv
    refine (World.ownsRow.cellAt h (n * 5 + j) (by omega)).trans ?_
    rw [List.getElem?_append_right (by omega), hx, Nat.add_sub_cancel_left]
    exact hv
  exact ⟨hc 0 z0 (by omega) rfl, hc 1 z1 (by omega) rfl, hc 2 z2 (by omega) rfl, hc 3 z3 (by omega) rfl, hc 4 z4 (by omega) rfl⟩
set_option maxRecDepth 100000 in
set_option maxHeartbeats 8000000 in
theorem add_calls (w : World) (h : St base p (ls ++ [t]) w) (i : It) (pv tv ev : Value) (hp : Cms base pv i.pipe w) (ht : Its base (Fs (ls ++ [t])) w tv i.th) (he : Its base (Fs (ls ++ [t])) w ev i.el) (hl : t.lv.row.length ≤ 1073741824) (hbw : base ≤ w.heap.size) :
    Calls Tryz.prog 26 #[.pointer (some ⟨p, 0, none⟩), .agg #[.int .i64 i.kind, .string ⟨i.text.toArray⟩, pv, tv, ev]] w (AddPost base p ls t i w) := by
  obtain ⟨pa, pc, hpv⟩ := hp.slice
  obtain ⟨ta, tc, htv⟩ := ht.slice
  obtain ⟨ea, ec, hev⟩ := he.slice
  subst hpv htv hev
  have hw1 : Below w.heap.size w (w.alloc (.cells #[.int .i64 i.kind, .string ⟨i.text.toArray⟩, .slice pa i.pipe.length pc, .slice ta i.th.length tc, .slice ea i.el.length ec] 58)) := (Below.refl _ w).alloc (Nat.le_refl _) _
  have hX : Blk w.heap.size 58 [.int .i64 i.kind, .string ⟨i.text.toArray⟩, .slice pa i.pipe.length pc, .slice ta i.th.length tc, .slice ea i.el.length ec] (w.alloc (.cells #[.int .i64 i.kind, .string ⟨i.text.toArray⟩, .slice pa i.pipe.length pc, .slice ta i.th.length tc, .slice ea i.el.length ec] 58)) := Blk.new w _ _
  go_enter Tryz.func26, Tryz.ntmps26
  go_upto_region 1 with (fail)
  generalize w.alloc (.cells #[.int .i64 i.kind, .string ⟨i.text.toArray⟩, .slice pa i.pipe.length pc, .slice ta i.th.length tc, .slice ea i.el.length ec] 58) = w1 at *
  have h1 := h.below hw1
  go_wp2_with fail
  refine (top_calls w1 h1).mono ?_
  rintro e w2 ⟨rfl, m, hm⟩
  have hw2 : Below w.heap.size w w2 := by rw [hm]; exact Below.drewN hw1 m
  have hX2 := hX.below (Below.drewN (Below.refl _ w1) m)
  rw [← hm] at hX2
  have h2 := h.below hw2
  have hp2 := hp.below hw2
  have ht2 := ht.blw hw2
  have he2 := he.blw hw2
  have hbw2 : base ≤ w2.heap.size := Nat.le_trans hbw hw2.size
  have hz2 := hX2.lt
  clear hm hX h1 hw1 h hp ht he
  have htl := h2.levs t (by simp)
  obtain ⟨ra, rc, hrv⟩ := htl.row.slice
  obtain ⟨n, hn⟩ : ∃ n, n = t.lv.row.length := ⟨_, rfl⟩
  rw [← hn] at hrv hl
  obtain ⟨zs, hzs, hzr, hzc⟩ := htl.row
  have hzn : zs.length = n := by rw [hn, ← hzs, List.length_map]
  rw [hzn, hrv] at hzr
  have b5 := htl.blk.cell 5 (.slice ra n rc) (by simp [Sl.cells, hrv])
  have x0 := hX2.cell 0 _ rfl
  have x1 := hX2.cell 1 _ rfl
  have x2 := hX2.cell 2 _ rfl
  have x3 := hX2.cell 3 _ rfl
  have x4 := hX2.cell 4 _ rfl
  have HT := Lib.hid (fun w5 g1 c1 h5 h6 h7 h8 => St.put (w5 := w5) (g1 := g1) (c1 := c1) h2 hrv hzs hzc hzn hp2 ht2 he2 h5 h6 h7 h8)
  have HX := Lib.hid hX2
  have hB : Blk t.g 68 [.int .i64 t.lv.kind, .string ⟨#[]⟩, t.pv, t.tv, .slice none 0 0, .slice ra n rc, .bool t.lv.behind] w2 := by
    have h := htl.blk
    rwa [Sl.cells, hrv] at h
  have HB := Lib.hid hB
  have HR := Lib.hid hrv
  have HW := Lib.hid hw2
  have HF := Lib.hid (fun g (h : (Value.slice ra n rc).ownBlock = some g) => htl.row.fact g (by rw [hrv]; exact h))
  have HZR := Lib.hid hzr
  have hbt := htl.blk.lt
  clear hrv hzs hn hp2 ht2 he2 hzc hX2 hw2 h2 hzr
  generalize (⟨i.text.toArray⟩ : ByteArray) = tx at *
  have hlit : Below w2.heap.size w2 ((w2.alloc (.cells #[.int .i64 0, .string ⟨#[]⟩, .slice none 0 0, .slice none 0 0, .slice none 0 0] 58)).drew) := ((Below.refl _ w2).alloc (Nat.le_refl _) _).drew
  have HX5 := Lib.hid (show (icsCells zs).length = n * 5 by rw [icsCells_len, hzn])
  have HLO := Lib.hid htl.low
  have hlt : (n : Int) < (n : Int) + 1 := by omega
  have HG := Lib.hid (grownBy_below (row := (Value.slice ra n rc).ownBlock) hlit)
  have HLIT := Lib.hid hlit
  clear hzn htl hlit hB
  have HALL : Hid (∀ (g1 c1 : Nat) (w5 : World), w5.ownsRow base 58 5 (.slice (some ⟨g1, 0, none⟩) (n + 1) c1) (n + 1) (icsCells zs ++ [.int .i64 0, .string ⟨#[]⟩, .slice none 0 0, .slice none 0 0, .slice none 0 0]) →
      ((w2.alloc (.cells #[.int .i64 0, .string ⟨#[]⟩, .slice none 0 0, .slice none 0 0, .slice none 0 0] 58)).drew).grownBy w5 (Value.slice ra n rc).ownBlock →
      ((Value.slice ra n rc).ownBlock = some g1 ∨ g1 = ((w2.alloc (.cells #[.int .i64 0, .string ⟨#[]⟩, .slice none 0 0, .slice none 0 0, .slice none 0 0] 58)).drew).heap.size) →
      g1 ≠ t.g ∧ t.g ≠ g1 ∧ w5.cell? ⟨t.g, 5, none⟩ = some (.slice ra n rc) ∧ w5.frozen? ⟨t.g, 5, none⟩ = false ∧ w5.cell? ⟨g1, n * 5, none⟩ = some (.int .i64 0) ∧ w5.cell? ⟨g1, n * 5 + 1, none⟩ = some (.string ⟨#[]⟩) ∧ w5.cell? ⟨g1, n * 5 + 2, none⟩ = some (.slice none 0 0) ∧ w5.cell? ⟨g1, n * 5 + 3, none⟩ = some (.slice none 0 0) ∧ w5.cell? ⟨g1, n * 5 + 4, none⟩ = some (.slice none 0 0) ∧
      w5.frozen? ⟨g1, n * 5, none⟩ = false ∧ w5.frozen? ⟨g1, n * 5 + 1, none⟩ = false ∧ w5.frozen? ⟨g1, n * 5 + 2, none⟩ = false ∧ w5.frozen? ⟨g1, n * 5 + 3, none⟩ = false ∧ w5.frozen? ⟨g1, n * 5 + 4, none⟩ = false ∧
      Hid (∃ rv, St base p (ls ++ [{ t with lv := t.lv.add i, rv := rv }]) ((((((w5.setCell ⟨g1, n * 5, none⟩ (.int .i64 i.kind)).setCell ⟨g1, n * 5 + 1, none⟩ (.string tx)).setCell ⟨g1, n * 5 + 2, none⟩ (.slice pa i.pipe.length pc)).setCell ⟨g1, n * 5 + 3, none⟩ (.slice ta i.th.length tc)).setCell ⟨g1, n * 5 + 4, none⟩ (.slice ea i.el.length ec)).setCell ⟨t.g, 5, none⟩ (.slice (some ⟨g1, 0, none⟩) (n + 1) c1))) ∧
      Hid (Below base w ((((((w5.setCell ⟨g1, n * 5, none⟩ (.int .i64 i.kind)).setCell ⟨g1, n * 5 + 1, none⟩ (.string tx)).setCell ⟨g1, n * 5 + 2, none⟩ (.slice pa i.pipe.length pc)).setCell ⟨g1, n * 5 + 3, none⟩ (.slice ta i.th.length tc)).setCell ⟨g1, n * 5 + 4, none⟩ (.slice ea i.el.length ec)).setCell ⟨t.g, 5, none⟩ (.slice (some ⟨g1, 0, none⟩) (n + 1) c1)))) := by
    intro g1 c1 w5 hown hg hgb
    have hg2 := HG.out.trans hg
    have hgb2 := grow_at hgb
    have hne := grow_ne HB.out hbt HF.out hgb2
    have hB5 := grow_blk HB.out hg2 HF.out
    obtain ⟨k0, k1, k2, k3, k4⟩ := snoc5_cells hown HX5.out
    exact ⟨hne, Ne.symm hne, hB5.cell 5 (.slice ra n rc) rfl, hB5.free 5, k0, k1, k2, k3, k4, World.ownsRow.frozenAt hown (n * 5), World.ownsRow.frozenAt hown (n * 5 + 1), World.ownsRow.frozenAt hown (n * 5 + 2), World.ownsRow.frozenAt hown (n * 5 + 3), World.ownsRow.frozenAt hown (n * 5 + 4),
      ⟨_, HT.out w5 g1 c1 hown (by rw [HR.out]; exact hg2) (by rw [HR.out]; exact hgb2) hne⟩,
      below6 ((HW.out.mono hbw).grown hg2 hbw2 (fun k hk => (HF.out k hk).1)) (hgb2.elim (fun h => (HF.out g1 h).1) (fun h => Nat.le_trans hbw2 h)) HLO.out n (.int .i64 i.kind) (.string tx) (.slice pa i.pipe.length pc) (.slice ta i.th.length tc) (.slice ea i.el.length ec) (.slice (some ⟨g1, 0, none⟩) (n + 1) c1)⟩
  have HH : Hid ((w2.alloc (.cells #[.int .i64 0, .string ⟨#[]⟩, .slice none 0 0, .slice none 0 0, .slice none 0 0] 58)).drew.ownsRow base 58 5 (.slice ra n rc) n (icsCells zs)) := own_below HZR.out HLIT.out
  have HZ : Hid (base ≤ (w2.alloc (.cells #[.int .i64 0, .string ⟨#[]⟩, .slice none 0 0, .slice none 0 0, .slice none 0 0] 58)).drew.heap.size) := Nat.le_trans hbw2 HLIT.out.size
  have hn1 : n + 1 ≤ maxLen := by simp only [maxLen]; omega
  have hn2 : (n + 1) * 96 ≤ 140737488355328 := by omega
  have h1c : ∀ u ∈ (#[.int .i64 0, .string ⟨#[]⟩, .slice none 0 0, .slice none 0 0, .slice none 0 0] : Array Value).toList, u.oneCell' = true := by intro u hu; simp at hu; rcases hu with rfl | rfl | rfl <;> rfl
  have HN1 := Lib.hid hn1
  have HN2 := Lib.hid hn2
  have H1C := Lib.hid h1c
  clear HT HR HW HF HB HX HX5 HLO HG HZR HLIT hn1 hn2 h1c hl hbw hbw2
  go_upto_region 2 with (fail)
  go_region_law (refine step_app1 itInfo Tryz.underlying22 rfl (by decide) base rfl (.tmp 10) (.tmp 13) rfl (.slice ra n rc) n (icsCells zs) w2.heap.size #[.int .i64 0, .string ⟨#[]⟩, .slice none 0 0, .slice none 0 0, .slice none 0 0] (0, 0) 1 rfl rfl rfl H1C.out (heap_new w2 _) HH.out HZ.out HN1.out HN2.out ?_; intro g1 c1 w5 hown hg hgb; obtain ⟨hne, hne', b5, f5, k0, k1, k2, k3, k4, q0, q1, q2, q3, q4, HST, HBZ⟩ := HALL.out g1 c1 w5 hown hg hgb; clear hown hg hgb)
  all_goals go_wp2_with fail
  all_goals go_end0
  all_goals obtain ⟨rv, h1⟩ := HST.out
  all_goals have h2 := HBZ.out
  all_goals try rw [chain_swap _ _ _ _ _ _ _ _ _ _ hne']
  all_goals with_reducible exact AddPost.mk h1 h2
end Go.Proofs.YtbcddlheikdlkaaGreatDoor.S
/-
  THE WALKS of package tmpl's otherwise, end, looped, leaves.
-/
set_option linter.unusedVariables false
set_option linter.unusedSimpArgs false
namespace Go.Proofs.YtbcddlheikdlkaaGreatDoor.S
open Go.RowKit
variable {base p : Nat} {F F' : Nat → Prop} {W W' : World} {s t : Sl} {ls : List Sl}

/-- the levels of a stack, the innermost one first -/
def lvs (ls : List Sl) : List Lv := ls.reverse.map Sl.lv
theorem lvs_snoc (ls : List Sl) (t : Sl) : lvs (ls ++ [t]) = t.lv :: lvs ls := by simp [lvs]
theorem lvs_empty (ls : List Sl) : (lvs ls).isEmpty = ls.isEmpty := by
  unfold lvs
  cases ls with
  | nil => rfl
  | cons a t => simp
def StPost (base p : Nat) (T : Except Nat (List Lv)) (w : World) (e : Ending) (w' : World) : Prop :=
  (∀ l, T = .ok l → e = .returned (.int .i64 0) ∧ ∃ ls', lvs ls' = l ∧ ls' ≠ [] ∧ St base p ls' w') ∧ (∀ c, T = .error c → e = .returned (.int .i64 c)) ∧ Below base w w'
theorem StPost.ok {T : Except Nat (List Lv)} {w w' : World} {ls' : List Sl} (h : T = .ok (lvs ls')) (hs : St base p ls' w') (hn : ls' ≠ []) (hb : Below base w w') : StPost base p T w (.returned (.int .i64 0)) w' :=
  ⟨(fun l h' => by rw [h] at h'; cases h'; exact ⟨rfl, ls', rfl, hn, hs⟩), (fun c h' => by rw [h] at h'; cases h'), hb⟩
theorem StPost.no {T : Except Nat (List Lv)} {w w' : World} {c : Nat} (h : T = .error c) (hb : Below base w w') : StPost base p T w (.returned (.int .i64 c)) w' :=
  ⟨(fun l h' => by rw [h] at h'; cases h'), (fun c' h' => by rw [h] at h'; cases h'; rfl), hb⟩
theorem St.len (h : St base p (ls ++ [t]) W) : ∃ N q c, N = ls.length + 1 ∧ Blk p 71 [.slice (some ⟨q, 0, none⟩) N c] W ∧ N ≤ 9223372036854775807 ∧ ls.length ≤ c ∧ c ≤ 9223372036854775807 ∧ W.ownsRow base 66 1 (.slice (some ⟨q, 0, none⟩) N c) N ((ls ++ [t]).map Sl.ptr) := by
  obtain ⟨q, c, h1, h2⟩ := h.par
  have hn : (ls ++ [t]).length = ls.length + 1 := by simp
  rw [hn] at h1 h2
  refine ⟨_, q, c, rfl, h1, ?_, ?_, ?_, h2⟩
  all_goals
    rcases h2.2 with ⟨h0, _⟩ | ⟨g, cap, cur, hv, _, _, hc, hm, _⟩
    · cases h0
    · obtain ⟨_, _, rfl⟩ := Value.slice.inj hv
      simp only [maxLen] at hm
      omega
def Sl.other (t : Sl) : Sl := { lv := { t.lv with th := t.lv.row, row := [], behind := true }, g := t.g, pv := t.pv, tv := t.rv, rv := .slice none 0 0 }
theorem St.other (h : St base p (ls ++ [t]) W) : St base p (ls ++ [t.other]) (((W.setCell ⟨t.g, 3, none⟩ t.rv).setCell ⟨t.g, 5, none⟩ (.slice none 0 0)).setCell ⟨t.g, 6, none⟩ (.bool true)) := by
  have htl := h.levs t (by simp)
  have hap : ∀ s ∈ ls, Apart s t := fun s hs => (List.pairwise_append.1 h.dist).2.2 s hs t (by simp)
  have hk : ∀ b, b ≠ t.g → (((W.setCell ⟨t.g, 3, none⟩ t.rv).setCell ⟨t.g, 5, none⟩ (.slice none 0 0)).setCell ⟨t.g, 6, none⟩ (.bool true)).heap[b]? = W.heap[b]? := fun b hb => by
    rw [setCell_heap _ _ _ _ _ hb, setCell_heap _ _ _ _ _ hb, setCell_heap _ _ _ _ _ hb]
  refine h.change rfl (fun b hb ho hbt => hk b hbt) (fun b hb => by simp [Sl.other, Value.ownBlock] at hb) (fun hK hM => ?_)
  refine ⟨(((htl.blk.set 3 _).set 5 _).set 6 _), htl.low, hK.cms _ _ htl.pipe, ?_, rw_nil _ _ _⟩
  refine (htl.row.move hK hM fun g hg => hk g ?_).its fun g hg => (fs_snoc g).2 ⟨fun s hs e => (hap s hs).2 g e hg, by simp [Sl.other, Value.ownBlock]⟩
  obtain ⟨_, _, cs', hc⟩ := htl.row.fact g hg
  exact blk_type htl.blk hc (by decide)
set_option maxRecDepth 100000 in
set_option maxHeartbeats 4000000 in
theorem otherwise_calls (w : World) (h : St base p (ls ++ [t]) w) :
    Calls Tryz.prog 86 #[.pointer (some ⟨p, 0, none⟩)] w (StPost base p (stepL t.lv (lvs ls) .els) w) := by
  obtain ⟨T, hT⟩ : ∃ T, T = stepL t.lv (lvs ls) .els := ⟨_, rfl⟩
  rw [← hT]
  have hT2 : T = if (ls.isEmpty || t.lv.behind) = true then .error 1601 else .ok (lvs (ls ++ [t.other])) := by rw [hT, stepL, lvs_empty, lvs_snoc]; rfl
  have HT := Lib.hid hT2
  clear hT hT2
  go_enter Tryz.func86, Tryz.ntmps86
  go_wp2_with fail
  refine (top_calls w h).mono ?_
  rintro e w2 ⟨rfl, m, hm⟩
  have h2 := h.drewN m
  rw [← hm] at h2
  have hb2 : Below base w w2 := by rw [hm]; exact Below.drewN (Below.refl _ _) m
  clear hm h
  obtain ⟨N, q, c, hN, hp, hn1, hn2, hn3, hrow⟩ := h2.len
  have htl := h2.levs t (by simp)
  have HLOW := Lib.hid htl.low
  have HO := Lib.hid h2.other
  have c0 := hp.cell 0 _ rfl
  have b6 := htl.blk.cell 6 (.bool t.lv.behind) rfl
  obtain ⟨ra, rc, hrv⟩ := htl.row.slice
  generalize t.lv.row.length = n at *
  have b5 := htl.blk.cell 5 (.slice ra n rc) (by simp [Sl.cells, hrv])
  have b3 := htl.blk.cell 3 t.tv rfl
  have f3 := htl.blk.free 3
  have f5 := htl.blk.free 5
  have f6 := htl.blk.free 6
  rw [hrv] at HO
  generalize t.lv.behind = bh at *
  have HN := Lib.hid hN
  clear hN hp hrow htl hn2 hn3 h2 hrv
  by_cases hl : ls = []
  · have h1b : ((N : Int) == 1) = true := beq_iff_eq.2 (by rw [HN.out, hl]; rfl)
    have hT : T = .error 1601 := by rw [HT.out, hl]; rfl
    have HTT := Lib.hid hT
    clear hT hl
    go_wp2
    go_ret
    exact StPost.no HTT.out hb2
  · have hpos : ls.length ≠ 0 := fun h => hl (List.eq_nil_of_length_eq_zero h)
    have h1b : ((N : Int) == 1) = false := beq_eq_false_iff_ne.2 (by have := HN.out; omega)
    have hle : ls.isEmpty = false := by cases ls with
      | nil => exact absurd rfl hl
      | cons a t => rfl
    cases bh with
    | true =>
      have hT : T = .error 1601 := by rw [HT.out, hle]; rfl
      have HTT := Lib.hid hT
      clear hT hl hle hpos
      go_wp2
      go_ret
      exact StPost.no HTT.out hb2
    | false =>
      have hT : T = .ok (lvs (ls ++ [t.other])) := by rw [HT.out, hle]; rfl
      have HTT := Lib.hid hT
      clear hT hl hle hpos
      go_wp2
      go_ret
      have ho := HO.out
      exact StPost.ok HTT.out ho (by simp) (((hb2.setCell (p := ⟨t.g, 3, none⟩) HLOW.out _).setCell (p := ⟨t.g, 5, none⟩) HLOW.out _).setCell (p := ⟨t.g, 6, none⟩) HLOW.out _)
theorem sub_one (n : Nat) (h : (n : Int) + 1 ≤ 9223372036854775807) : IntKind.i64.wrap (((n : Int) + 1) - 1) = (n : Int) := by rw [IntWalk.i64_in _ (by omega)]; omega
theorem lvs_last {l2 : List Sl} {t2 : Sl} : lvs (l2 ++ [t2]) = t2.lv :: lvs l2 := lvs_snoc l2 t2
/-- the item of the top block, as it is loaded -/
def Sl.endCells (t : Sl) : List Value := [.int .i64 t.lv.kind, .string ⟨#[]⟩, t.pv, (if t.lv.behind = true then t.tv else t.rv), (if t.lv.behind = true then t.rv else .slice none 0 0)]
theorem Kp.weak (k : Kp base F W W') (h : ∀ g, F' g → F g) : Kp base F' W W' := ⟨fun g cs hg hf => k.items g cs hg (h g hf), k.cms⟩
/-- the top block is taken off -/
theorem St.pop {q c N : Nat} (h : St base p (ls ++ [t]) W) (hp : Blk p 71 [.slice (some ⟨q, 0, none⟩) ls.length c] W') (hrow : W.ownsRow base 66 1 (.slice (some ⟨q, 0, none⟩) N c) N ((ls ++ [t]).map Sl.ptr)) (hN : N = ls.length + 1)
    (hk : ∀ b, b < W.heap.size → b ≠ t.g → b ≠ p → W'.heap[b]? = W.heap[b]?) (hpp : ∃ cs, W.heap[p]? = some (.cells cs 71 (0, 0))) :
    St base p ls W' ∧ Kp base (Fs ls) W W' ∧ (∀ g, Fs (ls ++ [t]) g → Fs ls g) ∧ (∀ g, t.rv.ownBlock = some g → Fs ls g ∧ W'.heap[g]? = W.heap[g]?) := by
  have htl := h.levs t (by simp)
  have hap : ∀ s ∈ ls, Apart s t := fun s hs => (List.pairwise_append.1 h.dist).2.2 s hs t (by simp)
  obtain ⟨pcs, hpc⟩ := hpp
  have hty : ∀ (b : Nat) (cs : Array Value) (T : TypeId), W.heap[b]? = some (.cells cs T (0, 0)) → T ≠ 68 → T ≠ 71 → W'.heap[b]? = W.heap[b]? := by
    intro b cs T hb h1 h2
    refine hk b (Array.getElem?_eq_some_iff.1 hb).1 (blk_type htl.blk hb h1) ?_
    rintro rfl
    rw [hb] at hpc
    injection hpc with hpc
    injection hpc with _ hpc
    exact h2 hpc
  have hK : Kp base (Fs ls) W W' := by
    refine ⟨fun g cs hg _ => hty g cs _ hg (by decide) (by decide), fun v cs hc => hc.hold fun b cs T hb hT => hty b cs T hb ?_ ?_⟩
    · rcases hT with rfl | rfl | rfl <;> decide
    · rcases hT with rfl | rfl | rfl <;> decide
  have hM : ∀ g, Fs (ls ++ [t]) g → Fs ls g := fun g hg => ((fs_snoc g).1 hg).1
  refine ⟨⟨⟨q, c, hp, ?_⟩, h.low, fun s hs => ?_, (List.pairwise_append.1 h.dist).1⟩, hK, hM, fun g hg => ⟨fun s hs e => (hap s hs).2 g e hg, ?_⟩⟩
  · subst hN
    rw [List.map_append] at hrow
    have hr2 := ownsRow_pop (by simp) hrow
    refine own_block hr2 fun g hg => ?_
    obtain ⟨cs, hc⟩ := own_type hr2 g hg
    exact hty g cs _ hc (by decide) (by decide)
  · have hl := h.levs s (List.mem_append_left _ hs)
    refine (hl.mono fun g _ hg => hM g hg).keep hK (hk _ hl.blk.lt (hap s hs).1 ?_) fun g hg => ?_
    · intro e
      have h1 := hl.blk
      unfold Blk at h1
      rw [e, hpc] at h1
      injection h1 with h1
      injection h1 with _ h1
      exact absurd h1 (by decide)
    · obtain ⟨_, _, cs', hc⟩ := hl.row.fact g hg
      exact hty g cs' _ hc (by decide) (by decide)
  · obtain ⟨_, _, cs', hc⟩ := htl.row.fact g hg
    exact hty g cs' _ hc (by decide) (by decide)
set_option maxRecDepth 100000 in
set_option maxHeartbeats 4000000 in
theorem tend_calls (w : World) (h : St base p (ls ++ [t]) w) (hsm : ∀ s ∈ ls, s.lv.row.length ≤ 1073741824) (hbw : base ≤ w.heap.size) :
    Calls Tryz.prog 87 #[.pointer (some ⟨p, 0, none⟩)] w (StPost base p (stepL t.lv (lvs ls) .fin) w) := by
  by_cases hl : ls = []
  · subst hl
    have hT : stepL t.lv (lvs []) .fin = .error 1600 := rfl
    have HTT := Lib.hid hT
    obtain ⟨N, q, c, hN, hp, hn1, hn2, hn3, hrow⟩ := h.len
    obtain rfl : N = 1 := hN
    have c0 := hp.cell 0 _ rfl
    generalize stepL t.lv (lvs []) .fin = T at *
    clear hT hp hrow h
    go_enter Tryz.func87, Tryz.ntmps87
    go_wp2
    go_ret
    exact StPost.no HTT.out (Below.refl _ _)
  · obtain ⟨l2, t2, rfl⟩ : ∃ l2 t2, ls = l2 ++ [t2] := ⟨_, _, (List.dropLast_concat_getLast hl).symm⟩
    have hT : stepL t.lv (lvs (l2 ++ [t2])) .fin = .ok (t2.lv.add t.lv.item :: lvs l2) := by rw [lvs_snoc]; rfl
    have HTT := Lib.hid hT
    generalize stepL t.lv (lvs (l2 ++ [t2])) .fin = T at *
    have hs2 := hsm t2 (by simp)
    obtain ⟨N, q, c, hN, hp, hn1, hn2, hn3, hrow⟩ := h.len
    obtain ⟨n, hn⟩ : ∃ n, n = (l2 ++ [t2]).length := ⟨_, rfl⟩
    rw [← hn] at hN hn2
    subst hN
    have hnpos : 0 < n := by rw [hn]; simp
    have h1b : (((n : Int) + 1) == 1) = false := beq_eq_false_iff_ne.2 (by omega)
    have hsub := sub_one n (by omega)
    have hsub' : ((n : Int) + 1) - 1 = (n : Int) := by omega
    have hsl : ∀ W, (Instr.slice 69 (.slice (some ⟨q, 0, none⟩) (n + 1) c) none (some (.int .i64 (n : Int))) none).run Tryz.prog W = .ok (.slice (some ⟨q, 0, none⟩) n c) W := by
      intro W
      rw [run_slice_h (P := Tryz.prog) W 69 (some ⟨q, 0, none⟩) (n + 1) c (by kernel_rfl) .i64 (n : Int) (by omega) (by omega), show (sizeOf (Tryz.prog.elem 69)).run Tryz.prog W = .ok 1 W by kernel_rfl, Int.toNat_natCast]
      simp only [Result.andThen, sliced, Nat.sub_zero]
      split <;> simp [Addr.add_lit]
    have c0 := hp.cell 0 _ rfl
    have HN := Lib.hid hn
    have hpz := hp.lt
    have htp : t.g ≠ p := fun e => by
      have h1 := (h.levs t (by simp)).blk
      unfold Blk at h1
      rw [e, hp] at h1
      injection h1 with h1
      injection h1 with _ h1
      exact absurd h1 (by decide)
    have htp' := Ne.symm htp
    clear hT hn
    go_enter Tryz.func87, Tryz.ntmps87
    go_wp2_with fail
    refine (top_calls w h).mono ?_
    rintro e w2 ⟨rfl, m, hm⟩
    have h2 := h.drewN m
    rw [← hm] at h2
    have hb2 : Below base w w2 := by rw [hm]; exact Below.drewN (Below.refl _ _) m
    have hp2 : Blk p 71 _ w2 := hp.below (by rw [hm]; exact Below.drewN (Below.refl _ _) m)
    have hrow2 := own_below hrow (Below.drewN (Below.refl w.heap.size w) m)
    rw [← hm] at hrow2
    have hbw2 : base ≤ w2.heap.size := Nat.le_trans hbw hb2.size
    clear hm h hp hrow c0 hpz
    have htl := h2.levs t (by simp)
    obtain ⟨ra, rc, hrv⟩ := htl.row.slice
    obtain ⟨ta, tc, htv⟩ := htl.th.slice
    obtain ⟨pa, pc, hpv⟩ := htl.pipe.slice
    have hBc : t.cells = [.int .i64 t.lv.kind, .string ⟨#[]⟩, .slice pa t.lv.pipe.length pc, .slice ta t.lv.th.length tc, .slice none 0 0, .slice ra t.lv.row.length rc, .bool t.lv.behind] := by rw [Sl.cells, hrv, hpv, htv]
    have htl' := htl.blk
    rw [hBc] at htl'
    have b6 := htl'.cell 6 _ rfl
    have b5 := htl'.cell 5 _ rfl
    have b4 := htl'.cell 4 _ rfl
    have b3 := htl'.cell 3 _ rfl
    have f3 := htl'.free 3
    have f4 := htl'.free 4
    have hp2h := Lib.hid hp2
    clear hBc
    cases hbh : t.lv.behind with
    | true =>
      have hit : t.lv.item = .mk t.lv.kind [] t.lv.pipe t.lv.th t.lv.row := by unfold Lv.item; rw [hbh]; rfl
      have HI := Lib.hid hit
      have hB3 := htl'.set 4 (.slice ra t.lv.row.length rc)
      have hp3 := Blk.grown hp2 (grownBy_set w2 t.g 4 (.slice ra t.lv.row.length rc)) (by simpa using htp')
      have hk3 : ∀ b, b ≠ t.g → (w2.setCell ⟨t.g, 4, none⟩ (.slice ra t.lv.row.length rc)).heap[b]? = w2.heap[b]? := fun b hb => setCell_heap _ _ _ _ _ hb
      have hb3 := hb2.setCell (p := ⟨t.g, 4, none⟩) htl.low (.slice ra t.lv.row.length rc)
      have HBH := Lib.hid hbh
      rw [hbh] at b6
      have HB3 := Lib.hid hB3
      have HK3 := Lib.hid hk3
      have HP3 := Lib.hid hp3
      clear hit hB3 hk3 hp3 hp2 hbh
      go_upto_region 7 with (fail)
      clear b3 b4 b5 b6 f3 f4
      generalize w2.setCell ⟨t.g, 4, none⟩ (.slice ra t.lv.row.length rc) = w3 at *
      have c0 := HP3.out.cell 0 _ rfl
      have f0 := HP3.out.free 0
      have hB4 := Blk.grown HB3.out (grownBy_set w3 p 0 (.slice (some ⟨q, 0, none⟩) n c)) (by simpa using htp)
      have hp4 := HP3.out.set 0 (.slice (some ⟨q, 0, none⟩) n c)
      have hk4 : ∀ b, b ≠ t.g → b ≠ p → (w3.setCell ⟨p, 0, none⟩ (.slice (some ⟨q, 0, none⟩) n c)).heap[b]? = w2.heap[b]? := fun b h1 h2 => (setCell_heap _ _ _ _ _ h2).trans (HK3.out b h1)
      have hb4 := Below.drewN (hb3.setCell (p := ⟨p, 0, none⟩) h2.low (.slice (some ⟨q, 0, none⟩) n c)) 1
      have HB4 := Lib.hid hB4
      have HP4 := Lib.hid hp4
      have HK4 := Lib.hid hk4
      clear hB4 hp4 hk4 hb3
      go_region
      go_upto_region 8 with (fail)
      change Below base w ((w3.setCell ⟨p, 0, none⟩ (.slice (some ⟨q, 0, none⟩) n c)).drew) at hb4
      have HB4 : Hid (Blk t.g _ _ ((w3.setCell ⟨p, 0, none⟩ (.slice (some ⟨q, 0, none⟩) n c)).drew)) := HB4
      have HP4 : Hid (Blk p 71 [Value.slice (some ⟨q, 0, none⟩) n c] ((w3.setCell ⟨p, 0, none⟩ (.slice (some ⟨q, 0, none⟩) n c)).drew)) := HP4
      have HK4 : Hid (∀ b, b ≠ t.g → b ≠ p → ((w3.setCell ⟨p, 0, none⟩ (.slice (some ⟨q, 0, none⟩) n c)).drew).heap[b]? = w2.heap[b]?) := HK4
      generalize (w3.setCell ⟨p, 0, none⟩ (.slice (some ⟨q, 0, none⟩) n c)).drew = w4 at *
      have hpp := HP4.out
      rw [show [Value.slice (some ⟨q, 0, none⟩) n c] = [Value.slice (some ⟨q, 0, none⟩) (l2 ++ [t2]).length c] by rw [← HN.out]] at hpp
      obtain ⟨hS4, hK4, hM4, hR4⟩ := h2.pop hpp hrow2 (by rw [HN.out]) (fun b _ h1 h2 => HK4.out b h1 h2) ⟨_, hp2h.out⟩
      have hrw : Its base (Fs (l2 ++ [t2])) w4 (.slice ra t.lv.row.length rc) t.lv.row := by
        have h := htl.row.move (hK4.weak hM4) (fun g _ hf => hM4 g hf) fun g hg => (hR4 g hg).2
        have h := h.its fun g hg => (hR4 g hg).1
        rwa [hrv] at h
      have hth : Its base (Fs (l2 ++ [t2])) w4 (.slice ta t.lv.th.length tc) t.lv.th := by
        have h := htl.th.move (hK4.weak hM4) fun g _ hf => hM4 g hf
        rwa [htv] at h
      have hpi := hK4.cms _ _ htl.pipe
      rw [hpv] at hpi
      have d0 := HB4.out.cell 0 _ rfl
      have d1 := HB4.out.cell 1 _ rfl
      have d2 := HB4.out.cell 2 _ rfl
      have d3 := HB4.out.cell 3 _ rfl
      have d4 := HB4.out.cell 4 _ rfl
      have hbw4 : base ≤ w4.heap.size := by have := hb4.size; have := hb2.size; omega
      have hC := add_calls w4 hS4 (.mk t.lv.kind [] t.lv.pipe t.lv.th t.lv.row) (.slice pa t.lv.pipe.length pc) (.slice ta t.lv.th.length tc) (.slice ra t.lv.row.length rc) hpi hth hrw hs2 hbw4
      clear hS4 hK4 hM4 hR4 hrw hth hpi hpp h2 hrow2 htl c0 f0 hrv htv hpv
      go_wp2_with fail
      refine hC.mono ?_
      rintro e w5 ⟨rfl, rv, hS5, hb5⟩
      have HS5 := Lib.hid hS5
      clear hS5 hC d0 d1 d2 d3 d4
      go_wp2
      go_ret
      have h5 := HS5.out
      exact StPost.ok (by rw [HTT.out, lvs_snoc, HI.out]) h5 (by simp) (hb4.trans hb5)
    | false =>
      have hit : t.lv.item = .mk t.lv.kind [] t.lv.pipe t.lv.row [] := by unfold Lv.item; rw [hbh]; rfl
      have HI := Lib.hid hit
      have hB3 := htl'.set 3 (.slice ra t.lv.row.length rc)
      have hp3 := Blk.grown hp2 (grownBy_set w2 t.g 3 (.slice ra t.lv.row.length rc)) (by simpa using htp')
      have hk3 : ∀ b, b ≠ t.g → (w2.setCell ⟨t.g, 3, none⟩ (.slice ra t.lv.row.length rc)).heap[b]? = w2.heap[b]? := fun b hb => setCell_heap _ _ _ _ _ hb
      have hb3 := hb2.setCell (p := ⟨t.g, 3, none⟩) htl.low (.slice ra t.lv.row.length rc)
      have HBH := Lib.hid hbh
      rw [hbh] at b6
      have HB3 := Lib.hid hB3
      have HK3 := Lib.hid hk3
      have HP3 := Lib.hid hp3
      clear hit hB3 hk3 hp3 hp2 hbh
      go_upto_region 7 with (fail)
      clear b3 b4 b5 b6 f3 f4
      generalize w2.setCell ⟨t.g, 3, none⟩ (.slice ra t.lv.row.length rc) = w3 at *
      have c0 := HP3.out.cell 0 _ rfl
      have f0 := HP3.out.free 0
      have hB4 := Blk.grown HB3.out (grownBy_set w3 p 0 (.slice (some ⟨q, 0, none⟩) n c)) (by simpa using htp)
      have hp4 := HP3.out.set 0 (.slice (some ⟨q, 0, none⟩) n c)
      have hk4 : ∀ b, b ≠ t.g → b ≠ p → (w3.setCell ⟨p, 0, none⟩ (.slice (some ⟨q, 0, none⟩) n c)).heap[b]? = w2.heap[b]? := fun b h1 h2 => (setCell_heap _ _ _ _ _ h2).trans (HK3.out b h1)
      have hb4 := Below.drewN (hb3.setCell (p := ⟨p, 0, none⟩) h2.low (.slice (some ⟨q, 0, none⟩) n c)) 1
      have HB4 := Lib.hid hB4
      have HP4 := Lib.hid hp4
      have HK4 := Lib.hid hk4
      clear hB4 hp4 hk4 hb3
      go_region
      go_upto_region 8 with (fail)
      change Below base w ((w3.setCell ⟨p, 0, none⟩ (.slice (some ⟨q, 0, none⟩) n c)).drew) at hb4
      have HB4 : Hid (Blk t.g _ _ ((w3.setCell ⟨p, 0, none⟩ (.slice (some ⟨q, 0, none⟩) n c)).drew)) := HB4
      have HP4 : Hid (Blk p 71 [Value.slice (some ⟨q, 0, none⟩) n c] ((w3.setCell ⟨p, 0, none⟩ (.slice (some ⟨q, 0, none⟩) n c)).drew)) := HP4
      have HK4 : Hid (∀ b, b ≠ t.g → b ≠ p → ((w3.setCell ⟨p, 0, none⟩ (.slice (some ⟨q, 0, none⟩) n c)).drew).heap[b]? = w2.heap[b]?) := HK4
      generalize (w3.setCell ⟨p, 0, none⟩ (.slice (some ⟨q, 0, none⟩) n c)).drew = w4 at *
      have hpp := HP4.out
      rw [show [Value.slice (some ⟨q, 0, none⟩) n c] = [Value.slice (some ⟨q, 0, none⟩) (l2 ++ [t2]).length c] by rw [← HN.out]] at hpp
      obtain ⟨hS4, hK4, hM4, hR4⟩ := h2.pop hpp hrow2 (by rw [HN.out]) (fun b _ h1 h2 => HK4.out b h1 h2) ⟨_, hp2h.out⟩
      have hrw : Its base (Fs (l2 ++ [t2])) w4 (.slice ra t.lv.row.length rc) t.lv.row := by
        have h := htl.row.move (hK4.weak hM4) (fun g _ hf => hM4 g hf) fun g hg => (hR4 g hg).2
        have h := h.its fun g hg => (hR4 g hg).1
        rwa [hrv] at h
      have hth : Its base (Fs (l2 ++ [t2])) w4 (.slice ta t.lv.th.length tc) t.lv.th := by
        have h := htl.th.move (hK4.weak hM4) fun g _ hf => hM4 g hf
        rwa [htv] at h
      have hpi := hK4.cms _ _ htl.pipe
      rw [hpv] at hpi
      have d0 := HB4.out.cell 0 _ rfl
      have d1 := HB4.out.cell 1 _ rfl
      have d2 := HB4.out.cell 2 _ rfl
      have d3 := HB4.out.cell 3 _ rfl
      have d4 := HB4.out.cell 4 _ rfl
      have hbw4 : base ≤ w4.heap.size := by have := hb4.size; have := hb2.size; omega
      have hC := add_calls w4 hS4 (.mk t.lv.kind [] t.lv.pipe t.lv.row []) (.slice pa t.lv.pipe.length pc) (.slice ra t.lv.row.length rc) (.slice none 0 0) hpi hrw (its_nil _ _ _) hs2 hbw4
      clear hS4 hK4 hM4 hR4 hrw hth hpi hpp h2 hrow2 htl c0 f0 hrv htv hpv
      go_wp2_with fail
      refine hC.mono ?_
      rintro e w5 ⟨rfl, rv, hS5, hb5⟩
      have HS5 := Lib.hid hS5
      clear hS5 hC d0 d1 d2 d3 d4
      go_wp2
      go_ret
      have h5 := HS5.out
      exact StPost.ok (by rw [HTT.out, lvs_snoc, HI.out]) h5 (by simp) (hb4.trans hb5)
end Go.Proofs.YtbcddlheikdlkaaGreatDoor.S
/-
  THE WALKS of package tmpl's looped, leaves, begin.
-/
set_option linter.unusedVariables false
set_option linter.unusedSimpArgs false
namespace Go.Proofs.YtbcddlheikdlkaaGreatDoor.S
open Go.RowKit
variable {base p : Nat} {F F' : Nat → Prop} {W W' : World} {s t : Sl} {ls : List Sl}

def loopS (s : Sl) : Bool := s.lv.kind == 5 && !s.lv.behind
theorem looped_lvs (L : List Sl) : looped (lvs L) = L.any loopS := by
  unfold looped lvs
  rw [List.any_map, List.any_reverse]
  rfl
set_option maxRecDepth 100000 in
set_option maxHeartbeats 4000000 in
theorem looped_calls (w : World) (r : Sl) (L : List Sl) (h : St base p (r :: L) w) (hr : r.lv.kind ≠ 5) :
    Calls Tryz.prog 114 #[.pointer (some ⟨p, 0, none⟩)] w fun e w' => e = .returned (.bool (looped (lvs (r :: L)))) ∧ w = w' := by
  obtain ⟨R, hR⟩ : ∃ R, R = looped (lvs (r :: L)) := ⟨_, rfl⟩
  rw [← hR]
  have hRL : R = L.any loopS := by rw [hR, looped_lvs, List.any_cons, show loopS r = false by unfold loopS; rw [show (r.lv.kind == 5) = false from beq_eq_false_iff_ne.2 hr]; rfl, Bool.false_or]
  have HRL := Lib.hid hRL
  clear hR hRL
  obtain ⟨q, c, h1, h2⟩ := h.par
  obtain ⟨n, hn⟩ : ∃ n, n = L.length := ⟨_, rfl⟩
  rw [List.length_cons, ← hn] at h1 h2
  have hc : n + 1 ≤ c ∧ c ≤ 9223372036854775807 := by
    rcases h2.2 with ⟨h0, _⟩ | ⟨g, cap, cur, hv, _, _, hc, hm, _⟩
    · cases h0
    · obtain ⟨_, _, rfl⟩ := Value.slice.inj hv
      simp only [maxLen] at hm
      omega
  have hsl : ∃ a', (0 < n → a' = some ⟨q, 1, none⟩) ∧ ∀ W, (Instr.slice 69 (.slice (some ⟨q, 0, none⟩) (n + 1) c) (some (.int .i64 1)) none none).run Tryz.prog W = .ok (.slice a' n (c - 1)) W := by
    refine ⟨if c = 1 then some ⟨q, 0, none⟩ else some ⟨q, 1, none⟩, fun hp => if_neg (by omega), fun W => ?_⟩
    rw [run_slice_l (P := Tryz.prog) W 69 (some ⟨q, 0, none⟩) (n + 1) c (by kernel_rfl) .i64 1 (by omega) (by omega), show (sizeOf (Tryz.prog.elem 69)).run Tryz.prog W = .ok 1 W by kernel_rfl]
    simp only [Result.andThen, sliced]
    congr 2
  obtain ⟨a', ha, hrun⟩ := hsl
  have hE : ∀ k (hk : k < L.length), w.cell? ⟨q, 1 + k, none⟩ = some (.pointer (some ⟨L[k].g, 0, none⟩)) ∧ w.cell? ⟨L[k].g, 0, none⟩ = some (.int .i64 L[k].lv.kind) ∧ w.cell? ⟨L[k].g, 6, none⟩ = some (.bool L[k].lv.behind) := by
    intro k hk
    have hl := h.levs L[k] (List.mem_cons_of_mem _ (List.getElem_mem hk))
    have e := World.ownsRow.cellAt h2 (1 + k) (by omega)
    rw [show 1 + k = k + 1 by omega] at e ⊢
    rw [List.map_cons, List.getElem?_cons_succ, List.getElem?_map, List.getElem?_eq_getElem hk] at e
    exact ⟨e, hl.blk.cell 0 _ rfl, hl.blk.cell 6 _ rfl⟩
  have c0 := h1.cell 0 _ rfl
  have HE := Lib.hid hE
  have HN := Lib.hid hn
  have HA := Lib.hid ha
  have hn1 := hc.1
  have hn2 := hc.2
  clear hE hn ha h1 h2 h hc
  go_enter Tryz.func114, Tryz.ntmps114
  go_wp2_with fail
  go_loopg [11] n (fun gk v11 wr => ∃ k : Nat, k + gk = n ∧ v11 = .int .i64 k ∧ Hid ((L.take k).any loopS = false) ∧ w = wr)
  case atStart => exact ⟨0, by omega, rfl, rfl, rfl⟩
  case round =>
    obtain ⟨k, hkg, rfl, hno, rfl⟩ := hrel
    have HKG := Lib.hid hkg
    have hkl : k ≤ n := by omega
    clear hkg
    by_cases hk : k < n
    · have hkL : k < L.length := by rw [← HN.out]; exact hk
      obtain ⟨e1, e2, e3⟩ := HE.out k hkL
      obtain rfl := HA.out (by omega)
      have hb : decide ((k : Int) < (n : Int)) = true := decide_eq_true (by omega)
      have htk : (L.take (k + 1)).any loopS = loopS L[k] := by rw [List.take_succ_eq_append_getElem hkL, List.any_append, hno.out]; simp
      have hyes : loopS L[k] = true → R = true := fun hl => by rw [HRL.out]; exact List.any_eq_true.2 ⟨_, List.getElem_mem hkL, hl⟩
      have HY := Lib.hid hyes
      have HTK := Lib.hid htk
      have hlo : loopS L[k] = (L[k].lv.kind == 5 && !L[k].lv.behind) := rfl
      rw [hlo] at HTK HY
      generalize L[k].lv.kind = kd at *
      generalize L[k].lv.behind = bh at *
      generalize L[k].g = g at *
      clear htk hyes hlo hno
      by_cases h5 : kd = 5
      · have h5b : ((kd : Int) == 5) = true := beq_iff_eq.2 (by omega)
        cases bh with
        | true =>
          have h6 : (L.take (k + 1)).any loopS = false := by rw [HTK.out]; simp
          have H6 := Lib.hid h6
          clear h6 HTK HY h5
          go_wp2
          go_roundg (gk - 1)
          case measure => have := HKG.out; omega
          case rel => exact ⟨k + 1, by have := HKG.out; omega, by go_num, H6.out, rfl⟩
        | false =>
          have h6 : R = true := HY.out (by rw [h5]; rfl)
          have H6 := Lib.hid h6
          clear h6 HTK HY h5
          go_wp2
          go_ret
          exact ⟨by rw [H6.out]; rfl, rfl⟩
      · have h5b : ((kd : Int) == 5) = false := beq_eq_false_iff_ne.2 (by omega)
        have h6 : (L.take (k + 1)).any loopS = false := by rw [HTK.out, show (kd == 5) = false from beq_eq_false_iff_ne.2 h5]; rfl
        have H6 := Lib.hid h6
        clear h6 HTK HY h5
        go_wp2
        go_roundg (gk - 1)
        case measure => have := HKG.out; omega
        case rel => exact ⟨k + 1, by have := HKG.out; omega, by go_num, H6.out, rfl⟩
    · have hb : decide ((k : Int) < (n : Int)) = false := decide_eq_false (by omega)
      have h6 : R = false := by
        have := hno.out
        rw [List.take_of_length_le (by have := HN.out; omega)] at this
        rw [HRL.out, this]
      have H6 := Lib.hid h6
      clear h6 hno
      go_wp2
      go_ret
      exact ⟨by rw [H6.out]; rfl, rfl⟩
def doA (b : Lv) (st : List Lv) (x : Except Nat Ac) : Except Nat (List Lv) := match x with
  | .error e => .error e
  | .ok a => stepL b st a
def rootOk (L : List Sl) : Prop := ∀ s, L.head? = some s → s.lv.kind ≠ 5
set_option maxRecDepth 100000 in
set_option maxHeartbeats 4000000 in
theorem leaves_calls (k : Nat) (w : World) (h : St base p (ls ++ [t]) w) (hr : rootOk (ls ++ [t])) (hsm : t.lv.row.length ≤ 1073741824) (hbw : base ≤ w.heap.size) :
    Calls Tryz.prog 88 #[.pointer (some ⟨p, 0, none⟩), .int .i64 k] w (StPost base p (stepL t.lv (lvs ls) (.leave k)) w) := by
  have hT : stepL t.lv (lvs ls) (.leave k) = if looped (lvs (ls ++ [t])) = true then .ok (lvs (ls ++ [{ t with lv := t.lv.add (.mk k [] [] [] []) }])) else .error 1602 := by rw [lvs_snoc, lvs_snoc]; rfl
  generalize stepL t.lv (lvs ls) (.leave k) = T at *
  have HT := Lib.hid hT
  have hC : Calls Tryz.prog 114 #[.pointer (some ⟨p, 0, none⟩)] w fun e w' => e = .returned (.bool (looped (lvs (ls ++ [t])))) ∧ w = w' := by
    cases ls with
    | nil => exact looped_calls w t [] h (hr t rfl)
    | cons a l => exact looped_calls w a (l ++ [t]) h (hr a rfl)
  clear hT
  generalize looped (lvs (ls ++ [t])) = b at *
  have hA := add_calls w h (.mk k [] [] [] []) (.slice none 0 0) (.slice none 0 0) (.slice none 0 0) (cms_nil _ _) (its_nil _ _ _) (its_nil _ _ _) hsm hbw
  have hA : Calls Tryz.prog 26 #[.pointer (some ⟨p, 0, none⟩), .agg #[.int .i64 k, .string ⟨#[]⟩, .slice none 0 0, .slice none 0 0, .slice none 0 0]] w (AddPost base p ls t (.mk k [] [] [] []) w) := hA
  go_enter Tryz.func88, Tryz.ntmps88
  go_wp2_with fail
  refine hC.mono ?_
  rintro e w' ⟨rfl, rfl⟩
  clear hC
  cases b with
  | true =>
    have hT : T = .ok (lvs (ls ++ [{ t with lv := t.lv.add (.mk k [] [] [] []) }])) := HT.out
    have HTT := Lib.hid hT
    clear hT
    go_wp2_with fail
    refine hA.mono ?_
    rintro e w5 ⟨rfl, rv, hS5, hb5⟩
    have HS5 := Lib.hid hS5
    clear hS5 hA
    go_wp2
    go_ret
    have h5 := HS5.out
    exact StPost.ok (by rw [HTT.out, lvs_snoc, lvs_snoc]) h5 (by simp) hb5
  | false =>
    have hT : T = .error 1602 := HT.out
    have HTT := Lib.hid hT
    clear hT hA
    go_wp2
    go_ret
    exact StPost.no HTT.out (Below.refl _ _)
end Go.Proofs.YtbcddlheikdlkaaGreatDoor.S
/-
  THE WALKS of package tmpl's begin, call, tells.
-/
set_option linter.unusedVariables false
set_option linter.unusedSimpArgs false
namespace Go.Proofs.YtbcddlheikdlkaaGreatDoor.S
open Go.RowKit
variable {base p : Nat} {F F' : Nat → Prop} {W W' : World} {s t : Sl} {ls L : List Sl}

theorem ptrInfo : (Tryz.prog.info? 66).map (fun i => (i.zero, i.size, i.bytes)) = some (some (.pointer none), 1, 8) := by kernel_rfl
theorem pipeL_err {ds : List Wd} {c : Nat} (h : pipeL ds = .error c) : c ≠ 0 := by
  unfold pipeL at h
  split at h
  · cases h; decide
  · split at h
    · cases h; decide
    · cases h
def newS (k : Nat) (pl : List Cm) (g : Nat) (pv : Value) : Sl := { lv := ⟨k, pl, [], [], false⟩, g := g, pv := pv, tv := .slice none 0 0, rv := .slice none 0 0 }
theorem ptr_form {n : Nat} {v : Value} {xs : List Value} (h : W.ownsRow base 66 1 v (n + 1) xs) : ∃ q1 c1, v = .slice (some ⟨q1, 0, none⟩) (n + 1) c1 := by
  rcases h.2 with ⟨_, h0⟩ | ⟨g, cap, cur, hv, _⟩
  · omega
  · exact ⟨g, cap, hv⟩
/-- a new block on the stack -/
theorem St.push {q c q1 c1 k g : Nat} {pl : List Cm} {pv : Value} (h : St base p L W) (hp : Blk p 71 [.slice (some ⟨q, 0, none⟩) L.length c] W) (hrow : W.ownsRow base 66 1 (.slice (some ⟨q, 0, none⟩) L.length c) L.length (L.map Sl.ptr))
    (hk : ∀ b, b < W.heap.size → b ≠ p → b ≠ q → W'.heap[b]? = W.heap[b]?)
    (hp' : Blk p 71 [.slice (some ⟨q1, 0, none⟩) (L.length + 1) c1] W') (hrow' : W'.ownsRow base 66 1 (.slice (some ⟨q1, 0, none⟩) (L.length + 1) c1) (L.length + 1) (L.map Sl.ptr ++ [.pointer (some ⟨g, 0, none⟩)]))
    (hg : W.heap.size ≤ g) (hb : Blk g 68 (newS k pl g pv).cells W') (hbg : base ≤ g) (hpv : Cms base pv pl W') : St base p (L ++ [newS k pl g pv]) W' := by
  have hq : L.length = 0 ∨ ∃ cs, W.heap[q]? = some (.cells cs 66 (0, 0)) := by
    rcases hrow.2 with ⟨h0, _⟩ | ⟨g', cap, cur, hv, _, hh, _⟩
    · cases h0
    · obtain ⟨h1, -, -⟩ := Value.slice.inj hv
      injection h1 with h1
      injection h1 with h1
      subst h1
      exact .inr ⟨cur, hh⟩
  have hty : ∀ (b : Nat) (cs : Array Value) (T : TypeId), W.heap[b]? = some (.cells cs T (0, 0)) → T ≠ 71 → T ≠ 66 → W'.heap[b]? = W.heap[b]? := by
    intro b cs T hbb h1 h2
    refine hk b (Array.getElem?_eq_some_iff.1 hbb).1 (blk_type hp hbb h1) ?_
    rintro rfl
    rcases hq with h0 | ⟨cs', hc⟩
    · rcases hrow.2 with ⟨h0', _⟩ | ⟨g', cap, cur, hv, _, hh, _⟩
      · cases h0'
      · obtain ⟨h1', -, -⟩ := Value.slice.inj hv
        injection h1' with h1'
        injection h1' with h1'
        subst h1'
        rw [hbb] at hh
        injection hh with hh
        injection hh with _ hh
        exact h2 hh
    · rw [hbb] at hc
      injection hc with hc
      injection hc with _ hc
      exact h2 hc
  have hK : ∀ F, Kp base F W W' := by
    intro F
    refine ⟨fun g cs hg _ => hty g cs _ hg (by decide) (by decide), fun v cs hc => hc.hold fun b cs T hb hT => hty b cs T hb ?_ ?_⟩
    · rcases hT with rfl | rfl | rfl <;> decide
    · rcases hT with rfl | rfl | rfl <;> decide
  have hM : ∀ g, Fs L g → Fs (L ++ [newS k pl g pv]) g := fun g hg => (fs_snoc g).2 ⟨hg, by simp [newS, Value.ownBlock]⟩
  have hM' : ∀ b, Fs L b → Fs (L ++ [newS k pl g pv]) b := fun b hb => (fs_snoc b).2 ⟨hb, by simp [newS, Value.ownBlock]⟩
  refine ⟨⟨q1, c1, ?_, ?_⟩, h.low, fun s hs => ?_, ?_⟩
  · simpa using hp'
  · simpa [newS, Sl.ptr] using hrow'
  · rcases List.mem_append.1 hs with hs | hs
    · have hl := h.levs s hs
      refine hl.move (hK _) (fun b _ hb => hM' b hb) (hty _ _ _ hl.blk (by decide) (by decide)) fun g hg => ?_
      obtain ⟨_, _, cs', hc⟩ := hl.row.fact g hg
      exact hty g cs' _ hc (by decide) (by decide)
    · rw [List.mem_singleton.1 hs]
      exact ⟨hb, hbg, hpv, its_nil _ _ _, rw_nil _ _ _⟩
  · refine List.pairwise_append.2 ⟨h.dist, List.pairwise_singleton _ _, fun s hs t2 ht2 => ?_⟩
    rw [List.mem_singleton.1 ht2]
    exact ⟨fun e => by have := (h.levs s hs).blk.lt; rw [e] at this; simp only [newS] at this; omega, fun b _ => by simp [newS, Value.ownBlock]⟩
set_option maxRecDepth 100000 in
set_option maxHeartbeats 8000000 in
theorem begin_calls (k : Nat) (v : Value) (ds : List Wd) (w : World) (h : St base p (ls ++ [t]) w) (hV : WdV v ds w) (hd : ∀ d ∈ ds, WdOk d) (ht : ∀ d ∈ ds, d.text.length ≤ 65536) (hl : ds.length ≤ 1073741824) (hbw : base ≤ w.heap.size) (hn16 : ls.length ≤ 1073741824) :
    Calls Tryz.prog 53 #[.pointer (some ⟨p, 0, none⟩), .int .i64 k, v] w (StPost base p (doA t.lv (lvs ls) (blockA k ds)) w) := by
  obtain ⟨T, hT⟩ : ∃ T, T = doA t.lv (lvs ls) (blockA k ds) := ⟨_, rfl⟩
  rw [← hT]
  have hTe : ∀ c, pipeL ds = .error c → T = .error c := fun c hc => by rw [hT, blockA, hc]; rfl
  have hTo : ∀ pl, pipeL ds = .ok pl → T = if 16 < ls.length + 1 then .error 1603 else .ok (⟨k, pl, [], [], false⟩ :: t.lv :: lvs ls) := fun pl hc => by
    rw [hT, blockA, hc]
    show (if 16 < (lvs ls).length + 1 then _ else _) = _
    rw [show (lvs ls).length = ls.length by simp [lvs]]
  have HTE := Lib.hid hTe
  have HTO := Lib.hid hTo
  clear hT hTe hTo
  obtain ⟨va, vc, rfl⟩ := hV.slice
  go_enter Tryz.func53, Tryz.ntmps53
  go_wp2_with fail
  refine (pparse_calls _ ds w hV hd ht hl).mono ?_
  rintro e w1 ⟨hok, hno, hb1⟩
  have h1 := h.below hb1
  have hbb := hb1.mono hbw
  have hbw1 : base ≤ w1.heap.size := Nat.le_trans hbw hb1.size
  clear h hV hd ht hl
  cases hq : pipeL ds with
  | error c =>
    obtain rfl := hno c hq
    have hTT := HTE.out c hq
    have HTT := Lib.hid hTT
    have hc0 := pipeL_err hq
    · have hcb : ((c : Int) != 0) = true := by rw [bne, beq_eq_false_iff_ne.2 (by omega : (c : Int) ≠ 0)]; rfl
      have hcb2 : ((c : Int) == 0) = false := beq_eq_false_iff_ne.2 (by omega)
      clear hok hno hTT hq hc0
      go_wp2
      go_ret
      exact StPost.no HTT.out hbb
  | ok pl =>
    obtain ⟨pv, rfl, hP⟩ := hok pl hq
    obtain ⟨pa, pc, rfl⟩ := hP.slice
    have hTT := HTO.out pl hq
    have HTT := Lib.hid hTT
    obtain ⟨N, q, c, hN, hp, hn1, hn2, hn3, hrow⟩ := h1.len
    have c0 := hp.cell 0 _ rfl
    have HN := Lib.hid hN
    clear hok hno hTT hq hN
    by_cases h16 : 16 < N
    · have h16b : decide ((16 : Int) < (N : Int)) = true := decide_eq_true (by omega)
      have hT3 : T = .error 1603 := by rw [HTT.out, if_pos (by rw [← HN.out]; exact h16)]
      have HT3 := Lib.hid hT3
      clear hT3 h16 hp hrow
      go_wp2
      go_ret
      exact StPost.no HT3.out hbb
    · have h16b : decide ((16 : Int) < (N : Int)) = false := decide_eq_false (by omega)
      have hT3 : T = .ok (⟨k, pl, [], [], false⟩ :: t.lv :: lvs ls) := by rw [HTT.out, if_neg (by rw [← HN.out]; exact h16)]
      have HT3 := Lib.hid hT3
      have hzq : N ≤ 16 := by omega
      have hba : Below w1.heap.size w1 (w1.alloc (.cells #[.int .i64 k, .string ⟨#[]⟩, .slice pa pl.length pc, .slice none 0 0, .slice none 0 0, .slice none 0 0, .bool false] 68)) := (Below.refl _ w1).alloc (Nat.le_refl _) _
      have hX : Blk w1.heap.size 68 [.int .i64 k, .string ⟨#[]⟩, .slice pa pl.length pc, .slice none 0 0, .slice none 0 0, .slice none 0 0, .bool false] (w1.alloc (.cells #[.int .i64 k, .string ⟨#[]⟩, .slice pa pl.length pc, .slice none 0 0, .slice none 0 0, .slice none 0 0, .bool false] 68)) := Blk.new w1 _ _
      have hza : (w1.alloc (.cells #[.int .i64 k, .string ⟨#[]⟩, .slice pa pl.length pc, .slice none 0 0, .slice none 0 0, .slice none 0 0, .bool false] 68)).heap.size = w1.heap.size + 1 := by simp
      have hrow2 := own_below hrow hba
      have hp2 := hp.below hba
      have hqp : some p ≠ (Value.slice (some ⟨q, 0, none⟩) N c).ownBlock := by
        intro e
        obtain ⟨cs', hc⟩ := own_type hrow p e.symm
        exact blk_type hp hc (by decide) rfl
      have hqX : some w1.heap.size ≠ (Value.slice (some ⟨q, 0, none⟩) N c).ownBlock := fun e => by have := own_lt hrow _ e.symm; omega
      have hqb : ∀ k, (Value.slice (some ⟨q, 0, none⟩) N c).ownBlock = some k → base ≤ k := fun k hk => own_base hrow k hk
      have HRW := Lib.hid hrow
      have HP := Lib.hid hp
      have HP2 := Lib.hid hp2
      have HX := Lib.hid hX
      have HST := Lib.hid h1
      have hpz := hp.lt
      have HBA := Lib.hid hba
      have HPC := Lib.hid hP
      clear hT3 h16 hp hrow hX hp2 h1 hba hP
      go_wp2_with (at_builtin; refine wp_app1 (W := w1.alloc (.cells #[.int .i64 k, .string ⟨#[]⟩, .slice pa pl.length pc, .slice none 0 0, .slice none 0 0, .slice none 0 0, .bool false] 68)) ptrInfo Tryz.underlying69 rfl (by decide) base rfl (.tmp 27) (.tmp 33) rfl (.slice (some ⟨q, 0, none⟩) N c) N ((ls ++ [t]).map Sl.ptr) #[.pointer (some ⟨w1.heap.size, 0, none⟩)] 1 rfl (by rw [hza]; rfl) rfl (by intro u hu; simp at hu; subst hu; rfl) hrow2 (by omega) (by simp only [maxLen]; omega) (by omega) ?_; intro v5 w5 hown hg5; obtain ⟨q1, c1, rfl⟩ := ptr_form hown; have hp5 := Blk.grown HP2.out hg5 hqp; have c0 := hp5.cell 0 _ rfl; have f0 := hp5.free 0; have HO := Lib.hid hown; have HG := Lib.hid hg5; clear hown hg5 hp5)
      go_wp2
      go_ret
      have hp5 := (Blk.grown HP2.out HG.out hqp).set 0 (.slice (some ⟨q1, 0, none⟩) (N + 1) c1)
      have hpq : p ≠ q1 := by
        obtain ⟨cs', hc⟩ := own_type HO.out q1 rfl
        exact fun e => blk_type (Blk.grown HP2.out HG.out hqp) hc (by decide) e.symm
      have hX5 := (Blk.grown HX.out HG.out hqX).grown (grownBy_set w5 p 0 (.slice (some ⟨q1, 0, none⟩) (N + 1) c1)) (by simp; omega)
      have hr5 := own_set (g := p) HO.out (by simpa [Value.ownBlock] using hpq.symm) 0 (.slice (some ⟨q1, 0, none⟩) (N + 1) c1)
      have hk5 : ∀ b, b < w1.heap.size → b ≠ p → b ≠ q → (w5.setCell ⟨p, 0, none⟩ (.slice (some ⟨q1, 0, none⟩) (N + 1) c1)).heap[b]? = w1.heap[b]? := by
        intro b hb h1 h2
        rw [setCell_heap _ _ _ _ _ h1, HG.out.block b (by rw [hza]; omega) (by simpa [Value.ownBlock] using h2)]
        exact HBA.out.block b hb
      have hP5 : Cms base (.slice pa pl.length pc) pl (w5.setCell ⟨p, 0, none⟩ (.slice (some ⟨q1, 0, none⟩) (N + 1) c1)) := by
        refine (HPC.out.mono hbw).hold fun b cs T hb hT => hk5 b (Array.getElem?_eq_some_iff.1 hb).1 (blk_type HP.out hb (by rcases hT with rfl | rfl | rfl <;> decide)) ?_
        rintro rfl
        obtain ⟨cs', hc⟩ := own_type HRW.out b rfl
        rw [hc] at hb
        injection hb with hb
        injection hb with _ hb
        subst hb
        rcases hT with h | h | h <;> exact absurd h (by decide)
      have hNl : N = (ls ++ [t]).length := by rw [HN.out]; simp
      have hb5 := (((hbb.trans (HBA.out.mono hbw1)).grown HG.out (by omega) hqb).setCell (p := ⟨p, 0, none⟩) HST.out.low (.slice (some ⟨q1, 0, none⟩) (N + 1) c1))
      have hS := St.push (k := k) (pl := pl) (g := w1.heap.size) (pv := .slice pa pl.length pc) HST.out (by rw [← hNl]; exact HP.out) (by rw [← hNl]; exact HRW.out) hk5 (by rw [← hNl]; exact hp5) (by rw [← hNl]; exact hr5) (Nat.le_refl _) hX5 hbw1 hP5
      exact StPost.ok (by rw [HT3.out, lvs_snoc, lvs_snoc]; rfl) hS (by simp) hb5
end Go.Proofs.YtbcddlheikdlkaaGreatDoor.S
/-
  THE WALKS of package tmpl's call, tells.
-/
set_option linter.unusedVariables false
set_option linter.unusedSimpArgs false
namespace Go.Proofs.YtbcddlheikdlkaaGreatDoor.S
open Go.RowKit
variable {base p : Nat} {F F' : Nat → Prop} {W W' : World} {s t : Sl} {ls L : List Sl}

/-- what becomes of the item that stands in block g, with these words as its pipe -/
def pipeA (k : Nat) (tx : List UInt8) (ds : List Wd) : Except Nat Ac := (pipeL ds).map fun p => .item (.mk k tx p [] [])
theorem call_nil : callA [] = .error 1604 := rfl
theorem call_bad {d : Wd} {r : List Wd} (h : d.kind ≠ 4) : callA (d :: r) = .error 1604 := if_neg h
theorem call_one {d : Wd} (h : d.kind = 4) : callA [d] = .ok (.item (.mk 6 d.text [] [] [])) := (if_pos h).trans rfl
theorem call_more {d e : Wd} {r : List Wd} (h : d.kind = 4) : callA (d :: e :: r) = pipeA 6 d.text (e :: r) := (if_pos h).trans rfl
theorem doA_item {b : Lv} {st : List Lv} {i : It} : doA b st (.ok (.item i)) = .ok (b.add i :: st) := rfl
theorem doA_err {b : Lv} {st : List Lv} {c : Nat} : doA b st (.error c) = .error c := rfl
set_option maxRecDepth 100000 in
set_option maxHeartbeats 8000000 in
theorem call_calls (v : Value) (ds : List Wd) (w : World) (h : St base p (ls ++ [t]) w) (hV : WdV v ds w) (hd : ∀ d ∈ ds, WdOk d) (ht : ∀ d ∈ ds, d.text.length ≤ 65536) (hl : ds.length ≤ 1073741824) (hbw : base ≤ w.heap.size) (hsm : t.lv.row.length ≤ 1073741824) :
    Calls Tryz.prog 54 #[.pointer (some ⟨p, 0, none⟩), v] w (StPost base p (doA t.lv (lvs ls) (callA ds)) w) := by
  obtain ⟨T, hT⟩ : ∃ T, T = doA t.lv (lvs ls) (callA ds) := ⟨_, rfl⟩
  rw [← hT]
  have HT := Lib.hid hT
  clear hT
  obtain ⟨a, c, hv⟩ := hV.slice
  obtain ⟨n, hn⟩ : ∃ n, n = ds.length := ⟨_, rfl⟩
  rw [← hn] at hv
  subst hv
  have HN := Lib.hid hn
  clear hn
  cases ds with
  | nil =>
    obtain rfl : n = 0 := HN.out
    have hT : T = .error 1604 := HT.out
    have HTT := Lib.hid hT
    clear hT h hV
    go_enter Tryz.func54, Tryz.ntmps54
    go_wp2
    go_ret
    exact StPost.no HTT.out (Below.refl _ _)
  | cons d r =>
    have hn0 : 0 < n := by rw [HN.out]; simp
    have hV' := hV
    obtain ⟨a', c', hv, hc1, hc2, hc⟩ := hV'
    obtain ⟨rfl, -, rfl⟩ := Value.slice.inj hv
    rw [← HN.out] at hc1
    obtain ⟨g, off, pv, rfl, e0, e1, e2, e3, hp⟩ := hc 0 (by simp)
    rw [Nat.zero_mul, Nat.add_zero] at e0 e1
    simp only [List.getElem_cons_zero] at e0 e1
    have hnb : ((n : Int) == 0) = false := beq_eq_false_iff_ne.2 (by omega)
    clear hc hv e2 e3 hp
    by_cases hk : d.kind = 4
    · have hkb : ((d.kind : Int) == 4) = true := beq_iff_eq.2 (by omega)
      have hkn : ((d.kind : Int) != 4) = false := by rw [bne, hkb]; rfl
      have hba : Below w.heap.size w (w.alloc (.cells #[.int .i64 6, .string ⟨d.text.toArray⟩, .slice none 0 0, .slice none 0 0, .slice none 0 0] 58)) := (Below.refl _ w).alloc (Nat.le_refl _) _
      have hX : Blk w.heap.size 58 [.int .i64 6, .string ⟨d.text.toArray⟩, .slice none 0 0, .slice none 0 0, .slice none 0 0] (w.alloc (.cells #[.int .i64 6, .string ⟨d.text.toArray⟩, .slice none 0 0, .slice none 0 0, .slice none 0 0] 58)) := Blk.new w _ _
      have hdr : ∀ x ∈ r, WdOk x := fun x hx => hd x (List.mem_cons_of_mem _ hx)
      have htr : ∀ x ∈ r, x.text.length ≤ 65536 := fun x hx => ht x (List.mem_cons_of_mem _ hx)
      have hlr : r.length ≤ 1073741824 := by simp at hl; omega
      cases r with
      | nil =>
        obtain rfl : n = 1 := HN.out
        have hT : T = .ok (lvs (ls ++ [{ t with lv := t.lv.add (.mk 6 d.text [] [] []) }])) := by rw [HT.out, call_one hk, doA_item, lvs_snoc]
        have HTT := Lib.hid hT
        have h1 := h.below hba
        have hbw1 : base ≤ (w.alloc (.cells #[.int .i64 6, .string ⟨d.text.toArray⟩, .slice none 0 0, .slice none 0 0, .slice none 0 0] 58)).heap.size := Nat.le_trans hbw hba.size
        have hA := add_calls _ h1 (.mk 6 d.text [] [] []) (.slice none 0 0) (.slice none 0 0) (.slice none 0 0) (cms_nil _ _) (its_nil _ _ _) (its_nil _ _ _) hsm hbw1
        have hA : Calls Tryz.prog 26 #[.pointer (some ⟨p, 0, none⟩), .agg #[.int .i64 6, .string ⟨d.text.toArray⟩, .slice none 0 0, .slice none 0 0, .slice none 0 0]] (w.alloc (.cells #[.int .i64 6, .string ⟨d.text.toArray⟩, .slice none 0 0, .slice none 0 0, .slice none 0 0] 58)) (AddPost base p ls t (.mk 6 d.text [] [] []) (w.alloc (.cells #[.int .i64 6, .string ⟨d.text.toArray⟩, .slice none 0 0, .slice none 0 0, .slice none 0 0] 58))) := hA
        have hbm := hba.mono hbw
        clear hT h hV hk hd ht hdr htr hlr h1 hX hba
        generalize (⟨d.text.toArray⟩ : ByteArray) = tx at *
        go_enter Tryz.func54, Tryz.ntmps54
        go_wp2_with fail
        refine hA.mono ?_
        rintro e w5 ⟨rfl, rv, hS5, hb5⟩
        have HS5 := Lib.hid hS5
        clear hS5 hA
        go_wp2
        go_ret
        have h5 := HS5.out
        exact StPost.ok (by rw [HTT.out, lvs_snoc, lvs_snoc]) h5 (by simp) (hbm.trans hb5)
      | cons e r =>
        have hn2 : 2 ≤ n := by rw [HN.out]; simp
        have h1b : decide ((1 : Int) < (n : Int)) = true := decide_eq_true (by omega)
        have hTe : ∀ c, pipeL (e :: r) = .error c → T = .error c := fun c hc => by rw [HT.out, call_more hk, pipeA, hc]; rfl
        have hTo : ∀ pl, pipeL (e :: r) = .ok pl → T = .ok (t.lv.add (.mk 6 d.text pl [] []) :: lvs ls) := fun pl hc => by rw [HT.out, call_more hk, pipeA, hc]; rfl
        have hD := hV.drop 1 (by simp)
        rw [List.drop_succ_cons, List.drop_zero] at hD
        have rD := fun W => run_drop (a := some ⟨g, off, none⟩) (n := n) (c := c) 1 (by omega) (by omega) W
        rw [Int.natCast_one] at rD
        have HTE := Lib.hid hTe
        have HTO := Lib.hid hTo
        have hC := pparse_calls _ (e :: r) _ (hD.below hba) hdr htr hlr
        generalize sliced (some ⟨g, off, none⟩) 1 n c 4 = v1 at *
        generalize (e :: r) = rr at *
        have h1 := h.below hba
        have hbm := hba.mono hbw
        have hdtx : d.text = d.text := rfl
        have HH := Lib.hid h
        have HBA := Lib.hid hba
        have hzi : (w.alloc (.cells #[.int .i64 6, .string ⟨d.text.toArray⟩, .slice none 0 0, .slice none 0 0, .slice none 0 0] 58)).heap.size = w.heap.size + 1 := by simp
        clear hTe hTo h hV hk hd ht hdr htr hlr hD hba
        go_enter Tryz.func54, Tryz.ntmps54
        go_wp2_with fail
        generalize w.alloc (.cells #[.int .i64 6, .string ⟨d.text.toArray⟩, .slice none 0 0, .slice none 0 0, .slice none 0 0] 58) = w1 at *
        refine hC.mono ?_
        rintro e' w2 ⟨hok, hno, hb2⟩
        have h2 := h1.below hb2
        have hX2 := hX.below hb2
        have hbw2 : base ≤ w2.heap.size := Nat.le_trans hbw (Nat.le_trans hbm.size hb2.size)
        have hbb := hbm.trans (hb2.mono (Nat.le_trans hbw hbm.size))
        clear h1 hX hC
        cases hq : pipeL rr with
        | error cc =>
          obtain rfl := hno cc hq
          have hTT := HTE.out cc hq
          have HTT := Lib.hid hTT
          have hc0 := pipeL_err hq
          have hcb : ((cc : Int) != 0) = true := by rw [bne, beq_eq_false_iff_ne.2 (by omega : (cc : Int) ≠ 0)]; rfl
          have hcb2 : ((cc : Int) == 0) = false := beq_eq_false_iff_ne.2 (by omega)
          clear hok hno hTT hq hc0 h2 hX2
          go_wp2
          go_ret
          exact StPost.no HTT.out hbb
        | ok pl =>
          obtain ⟨pv', rfl, hP⟩ := hok pl hq
          obtain ⟨pa, pc, rfl⟩ := hP.slice
          have hTT := HTO.out pl hq
          have HTT := Lib.hid hTT
          have hX3 := hX2.set 2 (.slice pa pl.length pc)
          have hP3 := (hP.off (grownBy_set w2 w.heap.size 2 (.slice pa pl.length pc)) (off_low (by omega))).mono (base' := base) (by omega)
          have hb02 := (HBA.out.trans (hb2.mono HBA.out.size)).setCell (p := ⟨w.heap.size, 2, none⟩) (Nat.le_refl _) (.slice pa pl.length pc)
          have h3 := HH.out.below hb02
          have hbw3 : base ≤ (w2.setCell ⟨w.heap.size, 2, none⟩ (.slice pa pl.length pc)).heap.size := Nat.le_trans hbw hb02.size
          have x2 := hX2.cell 2 _ rfl
          have f2 := hX2.free 2
          have hA := add_calls _ h3 (.mk 6 d.text pl [] []) (.slice pa pl.length pc) (.slice none 0 0) (.slice none 0 0) hP3 (its_nil _ _ _) (its_nil _ _ _) hsm hbw3
          have HA : Hid (Calls Tryz.prog 26 #[.pointer (some ⟨p, 0, none⟩), .agg #[.int .i64 6, .string ⟨d.text.toArray⟩, .slice pa pl.length pc, .slice none 0 0, .slice none 0 0]] (w2.setCell ⟨w.heap.size, 2, none⟩ (.slice pa pl.length pc)) (AddPost base p ls t (.mk 6 d.text pl [] []) (w2.setCell ⟨w.heap.size, 2, none⟩ (.slice pa pl.length pc)))) := hA
          have HX3 := Lib.hid hX3
          have hb3 := hb02.mono hbw
          clear hA hok hno hTT hq h2 hX2 hX3 hP hP3 h3 hb02
          go_upto_region 9 with (fail)
          clear x2 f2
          generalize w2.setCell ⟨w.heap.size, 2, none⟩ (.slice pa pl.length pc) = w3 at *
          have d0 := HX3.out.cell 0 _ rfl
          have d1 := HX3.out.cell 1 _ rfl
          have d2 := HX3.out.cell 2 _ rfl
          have d3 := HX3.out.cell 3 _ rfl
          have d4 := HX3.out.cell 4 _ rfl
          go_wp2_with fail
          refine HA.out.mono ?_
          rintro e' w5 ⟨rfl, rv, hS5, hb5⟩
          have HS5 := Lib.hid hS5
          clear hS5 d0 d1 d2 d3 d4
          go_wp2
          go_ret
          have h5 := HS5.out
          exact StPost.ok (by rw [HTT.out, lvs_snoc]) h5 (by simp) (hb3.trans hb5)
    · have hkb : ((d.kind : Int) == 4) = false := beq_eq_false_iff_ne.2 (by omega)
      have hkn : ((d.kind : Int) != 4) = true := by rw [bne, hkb]; rfl
      have hT : T = .error 1604 := by rw [HT.out, call_bad hk]; rfl
      have HTT := Lib.hid hT
      clear hT h hV hk hd ht
      go_enter Tryz.func54, Tryz.ntmps54
      go_wp2
      go_ret
      exact StPost.no HTT.out (Below.refl _ _)
end Go.Proofs.YtbcddlheikdlkaaGreatDoor.S
/-
  THE WALK of package tmpl's tells.
-/
set_option linter.unusedVariables false
set_option linter.unusedSimpArgs false
namespace Go.Proofs.YtbcddlheikdlkaaGreatDoor.S
open Go.RowKit
variable {base p : Nat} {F F' : Nat → Prop} {W W' : World} {s t : Sl} {ls L : List Sl}

theorem setHead_two (d e : Wd) (r : List Wd) : setHead (d :: e :: r) = (d.kind == 2 && d.path.isEmpty && e.kind == 6) := rfl
theorem tell_set {ds : List Wd} (h : setHead ds = true) : tellA ds = pipeA 2 (ds.getD 0 ⟨0, [], [], 0⟩).text (ds.drop 2) := by unfold tellA; rw [if_pos h]; rfl
theorem tell_hole {ds : List Wd} (h : setHead ds = false) : tellA ds = pipeA 1 [] ds := by unfold tellA; rw [if_neg (by rw [h]; decide)]; rfl
set_option maxRecDepth 100000 in
set_option maxHeartbeats 16000000 in
theorem tells_calls (v : Value) (ds : List Wd) (w : World) (h : St base p (ls ++ [t]) w) (hV : WdV v ds w) (hd : ∀ d ∈ ds, WdOk d) (ht : ∀ d ∈ ds, d.text.length ≤ 65536) (hl : ds.length ≤ 1073741824) (hbw : base ≤ w.heap.size) (hsm : t.lv.row.length ≤ 1073741824) :
    Calls Tryz.prog 55 #[.pointer (some ⟨p, 0, none⟩), v] w (StPost base p (doA t.lv (lvs ls) (tellA ds)) w) := by
  obtain ⟨T, hT⟩ : ∃ T, T = doA t.lv (lvs ls) (tellA ds) := ⟨_, rfl⟩
  rw [← hT]
  have HT := Lib.hid hT
  clear hT
  obtain ⟨a, c, hv⟩ := hV.slice
  obtain ⟨n, hn⟩ : ∃ n, n = ds.length := ⟨_, rfl⟩
  rw [← hn] at hv
  subst hv
  have hcn : n ≤ c ∧ c ≤ 9223372036854775807 := by
    obtain ⟨_, _, hv, h1, h2, _⟩ := hV
    obtain ⟨-, rfl, rfl⟩ := Value.slice.inj hv
    exact ⟨h1, h2⟩
  have HN := Lib.hid hn
  have hba : Below w.heap.size w (w.alloc (.cells #[.int .i64 1, .string ⟨#[]⟩, .slice none 0 0, .slice none 0 0, .slice none 0 0] 58)) := (Below.refl _ w).alloc (Nat.le_refl _) _
  have hX : Blk w.heap.size 58 [.int .i64 1, .string ⟨#[]⟩, .slice none 0 0, .slice none 0 0, .slice none 0 0] (w.alloc (.cells #[.int .i64 1, .string ⟨#[]⟩, .slice none 0 0, .slice none 0 0, .slice none 0 0] 58)) := Blk.new w _ _
  clear hn
  go_enter Tryz.func55, Tryz.ntmps55
  go_upto_region 2 with (fail)
  generalize w.alloc (.cells #[.int .i64 1, .string ⟨#[]⟩, .slice none 0 0, .slice none 0 0, .slice none 0 0] 58) = w1 at *
  have hV1 := hV.below hba
  go_cut [33] (fun v33 wx => v33 = .bool (setHead ds) ∧ w1 = wx)
  case first =>
    cases ds with
    | nil =>
      obtain rfl : n = 0 := HN.out
      go_wp2_with fail
      go_meet
      exact ⟨rfl, rfl⟩
    | cons d r => cases r with
      | nil =>
        obtain rfl : n = 1 := HN.out
        go_wp2_with fail
        go_meet
        exact ⟨rfl, rfl⟩
      | cons e r =>
        have hn2 : 2 ≤ n := by rw [HN.out]; simp
        obtain ⟨a', c', hv, h1, h2, hc⟩ := hV1
        obtain ⟨rfl, -, rfl⟩ := Value.slice.inj hv
        obtain ⟨g, off, pv, rfl, e0, e1, e2, e3, hp⟩ := hc 0 (by simp)
        obtain ⟨g', off', pv', hgg, u0, u1, u2, u3, hp'⟩ := hc 1 (by simp)
        injection hgg with hgg
        injection hgg with hg1 hg2
        subst hg1 hg2
        rw [Nat.zero_mul, Nat.add_zero] at e0 e1 e2
        rw [Nat.one_mul] at u0
        simp only [List.getElem_cons_zero, List.getElem_cons_succ] at e0 e1 e2 u0 hp
        obtain ⟨pa, pc, rfl⟩ := hp.slice
        have hb1 : decide ((1 : Int) < (n : Int)) = true := decide_eq_true (by omega)
        have HS := Lib.hid (setHead_two d e r)
        have hpe : ((d.path.length : Int) == 0) = d.path.isEmpty := by cases d.path <;> simp; omega
        generalize d.path.isEmpty = pb at *
        generalize d.path.length = pn at *
        generalize d.kind = kd at *
        generalize e.kind = ke at *
        clear hc hv e1 e3 u1 u2 u3 hp hp' hV h hd ht hl h1 h2
        by_cases hk : kd = 2
        · have hkb : ((kd : Int) == 2) = true := beq_iff_eq.2 (by omega)
          have hs1 : setHead (d :: e :: r) = (pb && ke == 6) := by rw [HS.out, hk]; simp
          have HS1 := Lib.hid hs1
          clear hs1 hk
          cases pb with
          | true =>
            by_cases h6 : ke = 6
            · have h6b : ((ke : Int) == 6) = true := beq_iff_eq.2 (by omega)
              have hs2 : setHead (d :: e :: r) = true := by rw [HS1.out, h6]; rfl
              have HS2 := Lib.hid hs2
              clear hs2 h6
              go_wp2_with fail
              go_meet
              exact ⟨by rw [HS2.out], rfl⟩
            · have h6b : ((ke : Int) == 6) = false := beq_eq_false_iff_ne.2 (by omega)
              have hs2 : setHead (d :: e :: r) = false := by rw [HS1.out, show (ke == 6) = false from beq_eq_false_iff_ne.2 h6]; rfl
              have HS2 := Lib.hid hs2
              clear hs2 h6
              go_wp2_with fail
              go_meet
              exact ⟨by rw [HS2.out], rfl⟩
          | false =>
            have hs2 : setHead (d :: e :: r) = false := by rw [HS1.out]; rfl
            have HS2 := Lib.hid hs2
            clear hs2
            go_wp2_with fail
            go_meet
            exact ⟨by rw [HS2.out], rfl⟩
        · have hkb : ((kd : Int) == 2) = false := beq_eq_false_iff_ne.2 (by omega)
          have hs2 : setHead (d :: e :: r) = false := by rw [HS.out, show (kd == 2) = false from beq_eq_false_iff_ne.2 hk]; rfl
          have HS2 := Lib.hid hs2
          clear hs2 hk
          go_wp2_with fail
          go_meet
          exact ⟨by rw [HS2.out], rfl⟩
  case rest =>
  obtain ⟨rfl, rfl⟩ := hcut
  go_upto_if 33 with (fail)
  go_cut [1] (fun v1 wx => ∃ (k : Nat) (tx : List UInt8) (tb : ByteArray) (es : List Wd), StrIs tb tx ∧ WdV v1 es w ∧ (∀ d ∈ es, WdOk d) ∧ (∀ d ∈ es, d.text.length ≤ 65536) ∧ es.length ≤ 1073741824 ∧ Hid (T = doA t.lv (lvs ls) (pipeA k tx es)) ∧ Blk w.heap.size 58 [.int .i64 k, .string tb, .slice none 0 0, .slice none 0 0, .slice none 0 0] wx ∧ Below w.heap.size w wx)
  case first =>
    cases hs : setHead ds with
    | true =>
      have hT := HT.out
      rw [tell_set hs] at hT
      obtain ⟨d, e, r, rfl⟩ : ∃ d e r, ds = d :: e :: r := by
        cases ds with
        | nil => cases hs
        | cons d r => cases r with
          | nil => cases hs
          | cons e r => exact ⟨d, e, r, rfl⟩
      have hn2 : 2 ≤ n := by rw [HN.out]; simp
      have hD := hV.drop 2 (by simp)
      have rD := fun W => run_drop (a := a) (n := n) (c := c) 2 (by omega) (by omega) W
      rw [show ((2 : Nat) : Int) = 2 from rfl] at rD
      obtain ⟨a', c', hv, h1, h2, hc⟩ := hV1
      obtain ⟨rfl, -, rfl⟩ := Value.slice.inj hv
      obtain ⟨g, off, pv, rfl, e0, e1, e2, e3, hp⟩ := hc 0 (by simp)
      rw [Nat.zero_mul, Nat.add_zero] at e1
      simp only [List.getElem_cons_zero] at e1
      have hst : StrIs (⟨d.text.toArray⟩ : ByteArray) d.text := rfl
      have hdr : ∀ x ∈ r, WdOk x := fun x hx => hd x (List.mem_cons_of_mem _ (List.mem_cons_of_mem _ hx))
      have htr : ∀ x ∈ r, x.text.length ≤ 65536 := fun x hx => ht x (List.mem_cons_of_mem _ (List.mem_cons_of_mem _ hx))
      have hlr : r.length ≤ 1073741824 := by simp at hl; omega
      have hT2 : T = doA t.lv (lvs ls) (pipeA 2 d.text r) := hT
      have hD2 : WdV (sliced (some ⟨g, off, none⟩) 2 n c 4) r w := hD
      have HTT := Lib.hid hT2
      have k0 := hX.cell 0 _ rfl
      have k1 := hX.cell 1 _ rfl
      have k2 := hX.cell 2 _ rfl
      have k3 := hX.cell 3 _ rfl
      have k4 := hX.cell 4 _ rfl
      have f0 := hX.free 0
      have f1 := hX.free 1
      have f2 := hX.free 2
      have f3 := hX.free 3
      have f4 := hX.free 4
      have hidx : (0 : Int) < (n : Int) := by omega
      generalize (⟨d.text.toArray⟩ : ByteArray) = tb at *
      generalize sliced (some ⟨g, off, none⟩) 2 n c 4 = v2 at *
      have hX4 : Blk w.heap.size 58 [.int .i64 2, .string tb, .slice none 0 0, .slice none 0 0, .slice none 0 0] (((((w1.setCell ⟨w.heap.size, 0, none⟩ (.int .i64 2)).setCell ⟨w.heap.size, 1, none⟩ (.string tb)).setCell ⟨w.heap.size, 2, none⟩ (.slice none 0 0)).setCell ⟨w.heap.size, 3, none⟩ (.slice none 0 0)).setCell ⟨w.heap.size, 4, none⟩ (.slice none 0 0)) := blk_put5 hX _ _ _ _ _
      have hb4 : Below w.heap.size w (((((w1.setCell ⟨w.heap.size, 0, none⟩ (.int .i64 2)).setCell ⟨w.heap.size, 1, none⟩ (.string tb)).setCell ⟨w.heap.size, 2, none⟩ (.slice none 0 0)).setCell ⟨w.heap.size, 3, none⟩ (.slice none 0 0)).setCell ⟨w.heap.size, 4, none⟩ (.slice none 0 0)) := below_put5 hba _ (Nat.le_refl _) _ _ _ _ _
      have HX4 := Lib.hid hX4
      have HB4 := Lib.hid hb4
      clear hc hv e0 e2 e3 hp hT hT2 hs hD hV h hX hba hX4 hb4 h1 h2
      go_wp2_with fail
      go_meet
      have h5 := HX4.out
      have h6 := HB4.out
      exact ⟨2, d.text, tb, r, hst, hD2, hdr, htr, hlr, HTT.out, h5, h6⟩
    | false =>
      have hT := HT.out
      rw [tell_hole hs] at hT
      have HTT := Lib.hid hT
      have hlr : ds.length ≤ 1073741824 := hl
      clear hT hs
      go_wp2_with fail
      go_meet
      exact ⟨1, [], ⟨#[]⟩, ds, rfl, hV, hd, ht, hlr, HTT.out, hX, hba⟩
  case rest =>
  clear hV1 hX hba hV hd ht hl HT HN hcn
  obtain ⟨k, tx, tb, es, htb, hV, hd, ht, hl, hTE, hX, hba⟩ := hcut
  obtain ⟨ua, uc, hv⟩ := hV.slice
  subst hv
  have hTe : ∀ c, pipeL es = .error c → T = .error c := fun c hc => by rw [hTE.out, pipeA, hc]; rfl
  have hTo : ∀ pl, pipeL es = .ok pl → T = .ok (t.lv.add (.mk k tx pl [] []) :: lvs ls) := fun pl hc => by rw [hTE.out, pipeA, hc]; rfl
  have HTE := Lib.hid hTe
  have HTO := Lib.hid hTo
  have hC := pparse_calls _ es _ (hV.below hba) hd ht hl
  have HH := Lib.hid h
  have HBA := Lib.hid hba
  have hzi := hX.lt
  have HTB := Lib.hid htb
  clear hTe hTo hTE hV hd ht hl h htb hba
  go_wp2_with fail
  refine hC.mono ?_
  rintro e' w2 ⟨hok, hno, hb2⟩
  have hX2 := hX.below hb2
  have hbb := HBA.out.trans (hb2.mono HBA.out.size)
  clear hX hC
  cases hq : pipeL es with
  | error cc =>
    obtain rfl := hno cc hq
    have hTT := HTE.out cc hq
    have HTT := Lib.hid hTT
    have hc0 := pipeL_err hq
    have hcb : ((cc : Int) != 0) = true := by rw [bne, beq_eq_false_iff_ne.2 (by omega : (cc : Int) ≠ 0)]; rfl
    have hcb2 : ((cc : Int) == 0) = false := beq_eq_false_iff_ne.2 (by omega)
    have hbm := hbb.mono hbw
    clear hok hno hTT hq hc0 hX2
    go_wp2
    go_ret
    exact StPost.no HTT.out hbm
  | ok pl =>
    obtain ⟨pv', rfl, hP⟩ := hok pl hq
    obtain ⟨pa, pc, rfl⟩ := hP.slice
    have hTT := HTO.out pl hq
    have HTT := Lib.hid hTT
    have hX3 := hX2.set 2 (.slice pa pl.length pc)
    have hP3 := (hP.off (grownBy_set w2 w.heap.size 2 (.slice pa pl.length pc)) (off_low (by omega))).mono (base' := base) (by omega)
    have hb02 := hbb.setCell (p := ⟨w.heap.size, 2, none⟩) (Nat.le_refl _) (.slice pa pl.length pc)
    have h3 := HH.out.below hb02
    have hbw3 : base ≤ (w2.setCell ⟨w.heap.size, 2, none⟩ (.slice pa pl.length pc)).heap.size := Nat.le_trans hbw hb02.size
    have x2 := hX2.cell 2 _ rfl
    have f2 := hX2.free 2
    have hA := add_calls _ h3 (.mk k tx pl [] []) (.slice pa pl.length pc) (.slice none 0 0) (.slice none 0 0) hP3 (its_nil _ _ _) (its_nil _ _ _) hsm hbw3
    have hA2 : Calls Tryz.prog 26 #[.pointer (some ⟨p, 0, none⟩), .agg #[.int .i64 k, .string ⟨tx.toArray⟩, .slice pa pl.length pc, .slice none 0 0, .slice none 0 0]] (w2.setCell ⟨w.heap.size, 2, none⟩ (.slice pa pl.length pc)) (AddPost base p ls t (.mk k tx pl [] []) (w2.setCell ⟨w.heap.size, 2, none⟩ (.slice pa pl.length pc))) := hA
    have htbe : (⟨tx.toArray⟩ : ByteArray) = tb := (StrIs.eq HTB.out).symm
    rw [htbe] at hA2
    have HA := Lib.hid hA2
    have HX3 := Lib.hid hX3
    have hb3 := hb02.mono hbw
    clear hA hA2 htbe hok hno hTT hq hX2 hX3 hP hP3 h3 hb02 hbb
    go_upto_region 9 with (fail)
    clear x2 f2
    generalize w2.setCell ⟨w.heap.size, 2, none⟩ (.slice pa pl.length pc) = w3 at *
    have d0 := HX3.out.cell 0 _ rfl
    have d1 := HX3.out.cell 1 _ rfl
    have d2 := HX3.out.cell 2 _ rfl
    have d3 := HX3.out.cell 3 _ rfl
    have d4 := HX3.out.cell 4 _ rfl
    go_wp2_with fail
    refine HA.out.mono ?_
    rintro e' w5 ⟨rfl, rv, hS5, hb5⟩
    have HS5 := Lib.hid hS5
    clear hS5 d0 d1 d2 d3 d4
    go_wp2
    go_ret
    have h5 := HS5.out
    exact StPost.ok (by rw [HTT.out, lvs_snoc]) h5 (by simp) (hb3.trans hb5)
end Go.Proofs.YtbcddlheikdlkaaGreatDoor.S
/-
  THE WALKS of package tmpl's lone, alone.
-/
set_option linter.unusedVariables false
set_option linter.unusedSimpArgs false
namespace Go.Proofs.YtbcddlheikdlkaaGreatDoor.S
open Go.RowKit
variable {base p : Nat} {F F' : Nat → Prop} {W W' : World} {s t : Sl} {ls L : List Sl}

set_option maxRecDepth 100000 in
set_option maxHeartbeats 4000000 in
theorem lone_calls (s : ByteArray) (l : List UInt8) (hl : StrIs s l) (w : World) :
    Calls Tryz.prog 51 #[.string s] w fun e w' => e = .returned (.bool (lone l)) ∧ w = w' := by
  cases h0 : (l == [101, 108, 115, 101]) with
  | true =>
    have t0 := str_test hl [101, 108, 115, 101] true h0
    have hf : lone l = true := by unfold lone; rw [h0]; simp
    have HF := Lib.hid hf
    clear hf h0
    go_enter Tryz.func51, Tryz.ntmps51
    go_wp2
    go_ret
    exact ⟨by rw [HF.out]; rfl, rfl⟩
  | false =>
    have t0 := str_test hl [101, 108, 115, 101] false h0
    cases h1 : (l == [101, 110, 100]) with
    | true =>
      have t1 := str_test hl [101, 110, 100] true h1
      have hf : lone l = true := by unfold lone; rw [h1]; simp
      have HF := Lib.hid hf
      clear hf h0 h1
      go_enter Tryz.func51, Tryz.ntmps51
      go_wp2
      go_ret
      exact ⟨by rw [HF.out]; rfl, rfl⟩
    | false =>
      have t1 := str_test hl [101, 110, 100] false h1
      cases h2 : (l == [98, 114, 101, 97, 107]) with
      | true =>
        have t2 := str_test hl [98, 114, 101, 97, 107] true h2
        have hf : lone l = true := by unfold lone; rw [h2]; simp
        have HF := Lib.hid hf
        clear hf h0 h1 h2
        go_enter Tryz.func51, Tryz.ntmps51
        go_wp2
        go_ret
        exact ⟨by rw [HF.out]; rfl, rfl⟩
      | false =>
        have t2 := str_test hl [98, 114, 101, 97, 107] false h2
        cases h3 : (l == [99, 111, 110, 116, 105, 110, 117, 101]) with
        | true =>
          have t3 := str_test hl [99, 111, 110, 116, 105, 110, 117, 101] true h3
          have hf : lone l = true := by unfold lone; rw [h3]; simp
          have HF := Lib.hid hf
          clear hf h0 h1 h2 h3
          go_enter Tryz.func51, Tryz.ntmps51
          go_wp2
          go_ret
          exact ⟨by rw [HF.out]; rfl, rfl⟩
        | false =>
          have t3 := str_test hl [99, 111, 110, 116, 105, 110, 117, 101] false h3
          have hf : lone l = false := by unfold lone; rw [h0, h1, h2, h3]; rfl
          have HF := Lib.hid hf
          clear hf h0 h1 h2 h3
          go_enter Tryz.func51, Tryz.ntmps51
          go_wp2
          go_ret
          exact ⟨by rw [HF.out]; rfl, rfl⟩
theorem StPost.val {T : Except Nat (List Lv)} {w : World} {e : Ending} {w' : World} (h : StPost base p T w e w') : ∃ x : Nat, e = .returned (.int .i64 x) := by
  cases T with
  | ok l => exact ⟨0, (h.1 l rfl).1⟩
  | error c => exact ⟨c, h.2.1 c rfl⟩
def AlonePost (base p : Nat) (T : Except Nat (List Lv)) (w : World) (e : Ending) (w' : World) : Prop := ∃ x : Nat, e = .returned (.tuple #[.int .i64 x, .bool true]) ∧ StPost base p T w (.returned (.int .i64 x)) w'
theorem lit_test {s : ByteArray} {l x : List UInt8} (hl : StrIs s l) (h : l = x) (y : List UInt8) (b : Bool) (hb : (x == y) = b) : (s.toList == y) = b := str_test hl y b (by rw [h]; exact hb)
set_option maxRecDepth 100000 in
set_option maxHeartbeats 4000000 in
theorem alone_else (s : ByteArray) (w : World) (h : St base p (ls ++ [t]) w) (hr : rootOk (ls ++ [t])) (hsm : ∀ s ∈ ls ++ [t], s.lv.row.length ≤ 1073741824) (hbw : base ≤ w.heap.size) (hs : StrIs s [101, 108, 115, 101]) :
    Calls Tryz.prog 52 #[.pointer (some ⟨p, 0, none⟩), .string s] w (AlonePost base p (stepL t.lv (lvs ls) (.els)) w) := by
  have t0 := lit_test hs rfl [101, 108, 115, 101] true (by decide)
  have hC := otherwise_calls w h
  generalize stepL t.lv (lvs ls) (.els) = T at *
  clear hs hsm hr h
  go_enter Tryz.func52, Tryz.ntmps52
  go_wp2_with fail
  refine hC.mono ?_
  rintro e w' hP
  obtain ⟨x, rfl⟩ := hP.val
  have HP := Lib.hid hP
  clear hP hC
  go_wp2
  go_ret2
  have hp := HP.out
  exact ⟨x, rfl, hp⟩
set_option maxRecDepth 100000 in
set_option maxHeartbeats 4000000 in
theorem alone_end (s : ByteArray) (w : World) (h : St base p (ls ++ [t]) w) (hr : rootOk (ls ++ [t])) (hsm : ∀ s ∈ ls ++ [t], s.lv.row.length ≤ 1073741824) (hbw : base ≤ w.heap.size) (hs : StrIs s [101, 110, 100]) :
    Calls Tryz.prog 52 #[.pointer (some ⟨p, 0, none⟩), .string s] w (AlonePost base p (stepL t.lv (lvs ls) (.fin)) w) := by
  have t0 := lit_test hs rfl [101, 108, 115, 101] false (by decide)
  have t1 := lit_test hs rfl [101, 110, 100] true (by decide)
  have hC := tend_calls w h (fun s hs => hsm s (List.mem_append_left _ hs)) hbw
  generalize stepL t.lv (lvs ls) (.fin) = T at *
  clear hs hsm hr h
  go_enter Tryz.func52, Tryz.ntmps52
  go_wp2_with fail
  refine hC.mono ?_
  rintro e w' hP
  obtain ⟨x, rfl⟩ := hP.val
  have HP := Lib.hid hP
  clear hP hC
  go_wp2
  go_ret2
  have hp := HP.out
  exact ⟨x, rfl, hp⟩
set_option maxRecDepth 100000 in
set_option maxHeartbeats 4000000 in
theorem alone_break (s : ByteArray) (w : World) (h : St base p (ls ++ [t]) w) (hr : rootOk (ls ++ [t])) (hsm : ∀ s ∈ ls ++ [t], s.lv.row.length ≤ 1073741824) (hbw : base ≤ w.heap.size) (hs : StrIs s [98, 114, 101, 97, 107]) :
    Calls Tryz.prog 52 #[.pointer (some ⟨p, 0, none⟩), .string s] w (AlonePost base p (stepL t.lv (lvs ls) (.leave 7)) w) := by
  have t0 := lit_test hs rfl [101, 108, 115, 101] false (by decide)
  have t1 := lit_test hs rfl [101, 110, 100] false (by decide)
  have t2 := lit_test hs rfl [98, 114, 101, 97, 107] true (by decide)
  have hC := leaves_calls 7 w h hr (hsm t (by simp)) hbw
  rw [show ((7 : Nat) : Int) = 7 from rfl] at hC
  generalize stepL t.lv (lvs ls) (.leave 7) = T at *
  clear hs hsm hr h
  go_enter Tryz.func52, Tryz.ntmps52
  go_wp2_with fail
  refine hC.mono ?_
  rintro e w' hP
  obtain ⟨x, rfl⟩ := hP.val
  have HP := Lib.hid hP
  clear hP hC
  go_wp2
  go_ret2
  have hp := HP.out
  exact ⟨x, rfl, hp⟩
set_option maxRecDepth 100000 in
set_option maxHeartbeats 4000000 in
theorem alone_continue (s : ByteArray) (w : World) (h : St base p (ls ++ [t]) w) (hr : rootOk (ls ++ [t])) (hsm : ∀ s ∈ ls ++ [t], s.lv.row.length ≤ 1073741824) (hbw : base ≤ w.heap.size) (hs : StrIs s [99, 111, 110, 116, 105, 110, 117, 101]) :
    Calls Tryz.prog 52 #[.pointer (some ⟨p, 0, none⟩), .string s] w (AlonePost base p (stepL t.lv (lvs ls) (.leave 8)) w) := by
  have t0 := lit_test hs rfl [101, 108, 115, 101] false (by decide)
  have t1 := lit_test hs rfl [101, 110, 100] false (by decide)
  have t2 := lit_test hs rfl [98, 114, 101, 97, 107] false (by decide)
  have t3 := lit_test hs rfl [99, 111, 110, 116, 105, 110, 117, 101] true (by decide)
  have hC := leaves_calls 8 w h hr (hsm t (by simp)) hbw
  rw [show ((8 : Nat) : Int) = 8 from rfl] at hC
  generalize stepL t.lv (lvs ls) (.leave 8) = T at *
  clear hs hsm hr h
  go_enter Tryz.func52, Tryz.ntmps52
  go_wp2_with fail
  refine hC.mono ?_
  rintro e w' hP
  obtain ⟨x, rfl⟩ := hP.val
  have HP := Lib.hid hP
  clear hP hC
  go_wp2
  go_ret2
  have hp := HP.out
  exact ⟨x, rfl, hp⟩
set_option maxRecDepth 100000 in
set_option maxHeartbeats 4000000 in
theorem alone_no (q : Value) (s : ByteArray) (l : List UInt8) (hl : StrIs s l) (w : World) (h0 : (l == [101, 108, 115, 101]) = false) (h1 : (l == [101, 110, 100]) = false) (h2 : (l == [98, 114, 101, 97, 107]) = false) (h3 : (l == [99, 111, 110, 116, 105, 110, 117, 101]) = false) :
    Calls Tryz.prog 52 #[q, .string s] w fun e w' => e = .returned (.tuple #[.int .i64 0, .bool false]) ∧ w = w' := by
  have t0 := str_test hl [101, 108, 115, 101] false h0
  have t1 := str_test hl [101, 110, 100] false h1
  have t2 := str_test hl [98, 114, 101, 97, 107] false h2
  have t3 := str_test hl [99, 111, 110, 116, 105, 110, 117, 101] false h3
  clear h0 h1 h2 h3
  go_enter Tryz.func52, Tryz.ntmps52
  go_wp2
  go_ret2
  exact ⟨rfl, rfl⟩
end Go.Proofs.YtbcddlheikdlkaaGreatDoor.S
/-
  THE WALK of package tmpl's action.
-/
set_option linter.unusedVariables false
set_option linter.unusedSimpArgs false
namespace Go.Proofs.YtbcddlheikdlkaaGreatDoor.S
open Go.RowKit
variable {base p : Nat} {F F' : Nat → Prop} {W W' : World} {s t : Sl} {ls L : List Sl}

def chainA (nl : List UInt8) (ds : List Wd) : Except Nat Ac :=
  if (lone nl && decide (1 < ds.length)) = true then .error 1604
  else if nl = [101, 108, 115, 101] then .ok .els
  else if nl = [101, 110, 100] then .ok .fin
  else if nl = [98, 114, 101, 97, 107] then .ok (.leave 7)
  else if nl = [99, 111, 110, 116, 105, 110, 117, 101] then .ok (.leave 8)
  else if nl = [105, 102] then blockA 3 (ds.drop 1)
  else if nl = [119, 105, 116, 104] then blockA 4 (ds.drop 1)
  else if nl = [114, 97, 110, 103, 101] then blockA 5 (ds.drop 1)
  else if nl = [116, 101, 109, 112, 108, 97, 116, 101] then callA (ds.drop 1)
  else tellA ds
theorem wordsA_chain {d : Wd} {r : List Wd} : wordsA (d :: r) = chainA (nameOf (d :: r)) (d :: r) := rfl
theorem actL_err {l : List UInt8} {ds : List Wd} {n : Nat} (h : wordsL l = (ds, n)) (hn : n ≠ 0) : actL l = .error n := by unfold actL; rw [h, if_pos hn]
theorem actL_ok {l : List UInt8} {ds : List Wd} (h : wordsL l = (ds, 0)) : actL l = wordsA ds := by unfold actL; rw [h, if_neg (by simp)]
theorem escs_ge : ∀ t : List UInt8, t.length ≤ (escsL t).length
  | [] => Nat.le_refl _
  | b :: t => by have := escs_ge t; have := (escB_len b).1; unfold escsL at *; rw [List.flatMap_cons, List.length_append, List.length_cons]; omega
theorem text_cost {d : Wd} (h : WdOk d) : d.text.length ≤ (wrL d).length := by
  cases h with
  | name x h => exact Nat.le_refl _
  | var x xs h hx hl =>
    show x.length ≤ (refW (36 :: x) xs).length
    unfold refW
    rw [if_neg (by simp)]
    simp
    omega
  | text x =>
    show x.length ≤ (34 :: (escsL x ++ [34])).length
    have := escs_ge x
    simp
    omega
  | _ => exact Nat.zero_le _
theorem cost_mem {ds : List Wd} {d : Wd} (h : d ∈ ds) : 2 + (wrL d).length ≤ costL ds := by
  induction ds with
  | nil => cases h
  | cons a r ih =>
    unfold costL at *
    rw [List.map_cons, List.sum_cons]
    rcases List.mem_cons.1 h with rfl | h
    · omega
    · have := ih h; omega

theorem StPost.trans {T : Except Nat (List Lv)} {w w1 : World} {e : Ending} {w' : World} (hb : Below base w w1) (h : StPost base p T w1 e w') : StPost base p T w e w' := ⟨h.1, h.2.1, hb.trans h.2.2⟩
set_option maxRecDepth 100000 in
set_option maxHeartbeats 16000000 in
theorem taction_calls (s : ByteArray) (l : List UInt8) (hsl : StrIs s l) (hl : l.length ≤ 256) (w : World) (hE : Env w) (h : St base p (ls ++ [t]) w) (hr : rootOk (ls ++ [t])) (hsm : ∀ s ∈ ls ++ [t], s.lv.row.length ≤ 1073741824) (hbw : base ≤ w.heap.size) (hn16 : ls.length ≤ 1073741824) :
    Calls Tryz.prog 27 #[.pointer (some ⟨p, 0, none⟩), .string s] w (StPost base p (doA t.lv (lvs ls) (actL l)) w) := by
  obtain ⟨T, hT⟩ : ∃ T, T = doA t.lv (lvs ls) (actL l) := ⟨_, rfl⟩
  rw [← hT]
  have HT := Lib.hid hT
  have hss : s.size ≤ 1073741824 := by rw [hsl.size]; omega
  have hsd : s.data.toList = l := hsl
  have hW := words_calls s w hE hss
  rw [hsd] at hW
  clear hT hsl hsd hss
  go_enter Tryz.func27, Tryz.ntmps27
  go_wp2_with fail
  refine hW.mono ?_
  rintro e w1 ⟨v, ds, n, rfl, hP, hb1, hw⟩
  have h1 := h.below hb1
  have hbb := hb1.mono hbw
  have hbw1 : base ≤ w1.heap.size := Nat.le_trans hbw hb1.size
  have hV := hP.view
  have hdl : ds.length ≤ 16777216 := by have := (wordsL_sizes hw).1; omega
  clear h hE hP hb1 hW
  obtain ⟨a, c, hv⟩ := hV.slice
  obtain ⟨m, hm⟩ : ∃ m, m = ds.length := ⟨_, rfl⟩
  rw [← hm] at hv hdl
  subst hv
  have HM := Lib.hid hm
  clear hm
  by_cases hn : n = 0
  · subst hn
    obtain ⟨hd, hcost⟩ := wordsL_good hw
    have ht : ∀ d ∈ ds, d.text.length ≤ 65536 := fun d hx => by have h1 := text_cost (hd d hx); have h2 := cost_mem hx; omega
    have hT := HT.out
    rw [actL_ok hw] at hT
    cases ds with
    | nil =>
      obtain rfl : m = 0 := HM.out
      have hT2 : T = .error 1604 := hT
      have HTT := Lib.hid hT2
      clear hT hT2 hV hd ht hcost hw h1
      go_wp2
      go_ret
      exact StPost.no HTT.out hbb
    | cons d r =>
      rw [wordsA_chain] at hT
      have hm0 : 0 < m := by rw [HM.out]; simp
      have hmb : ((m : Int) == 0) = false := beq_eq_false_iff_ne.2 (by omega)
      have hV' := hV
      obtain ⟨a', c', hv, hc1, hc2, hc⟩ := hV'
      obtain ⟨rfl, -, rfl⟩ := Value.slice.inj hv
      rw [← HM.out] at hc1
      obtain ⟨g, off, pv, rfl, e0, e1, e2, e3, hp⟩ := hc 0 (by simp)
      rw [Nat.zero_mul, Nat.add_zero] at e0 e1
      simp only [List.getElem_cons_zero] at e0 e1
      have HTC := Lib.hid hT
      have HD := Lib.hid hd
      have HTX := Lib.hid ht
      have HV := Lib.hid hV
      have H1 := Lib.hid h1
      have hnm : nameOf (d :: r) = if d.kind = 0 then d.text else [] := rfl
      have HNM := Lib.hid hnm
      have hst : StrIs (⟨d.text.toArray⟩ : ByteArray) d.text := rfl
      have HSTR := Lib.hid hst
      clear hc hv e2 e3 hp hT hd ht hcost hw hV h1 hnm hst
      go_upto_region 7 with (fail)
      go_cut [27] (fun v27 wx => v27 = .bool (d.kind == 0) ∧ w1 = wx)
      case first =>
        go_wp2_with fail
        go_meet
        exact ⟨by cases hk : (d.kind == 0) with
          | true => rw [beq_iff_eq.1 hk]; rfl
          | false => rw [show ((d.kind : Int) == 0) = false from beq_eq_false_iff_ne.2 (by have := beq_eq_false_iff_ne.1 hk; omega)], rfl⟩
      case rest =>
      obtain ⟨rfl, rfl⟩ := hcut
      go_upto_if 27 with (fail)
      go_cut [7] (fun v7 wx => ∃ nb : ByteArray, v7 = .string nb ∧ StrIs nb (nameOf (d :: r)) ∧ w1 = wx)
      case first =>
        cases hk : (d.kind == 0) with
        | true =>
          have hst : StrIs (⟨d.text.toArray⟩ : ByteArray) (nameOf (d :: r)) := by rw [HNM.out, if_pos (beq_iff_eq.1 hk)]; rfl
          have HST := Lib.hid hst
          have hidx : (0 : Int) < (m : Int) := by omega
          clear hk hst
          generalize (⟨d.text.toArray⟩ : ByteArray) = tb at *
          go_wp2_with fail
          go_meet
          exact ⟨tb, rfl, HST.out, rfl⟩
        | false =>
          have hst : StrIs (⟨#[]⟩ : ByteArray) (nameOf (d :: r)) := by rw [HNM.out, if_neg (beq_eq_false_iff_ne.1 hk)]; rfl
          have HST := Lib.hid hst
          clear hk hst
          go_wp2_with fail
          go_meet
          exact ⟨⟨#[]⟩, rfl, HST.out, rfl⟩
      case rest =>
      obtain ⟨nb, rfl, hnb, rfl⟩ := hcut
      generalize nameOf (d :: r) = nl at *
      clear e0 e1 HNM HSTR
      have hLC := lone_calls nb nl hnb w1
      have hTC := HTC.out
      have hrd : (d :: r).length = m := HM.out.symm
      unfold chainA at hTC
      rw [hrd] at hTC
      cases hlm : (lone nl && decide (1 < m)) with
      | true =>
        rw [hlm] at hTC
        have hT2 : T = .error 1604 := hTC
        have HTT := Lib.hid hT2
        obtain ⟨hl1, hm1⟩ := Bool.and_eq_true_iff.1 hlm
        have hmb2 : decide ((1 : Int) < (m : Int)) = true := decide_eq_true (by have := of_decide_eq_true hm1; omega)
        rw [hl1] at hLC
        clear hTC hT2 hlm hl1 hm1 HTC hrd hnb
        go_wp2_with (go_at_call 51; refine hLC.mono ?_; rintro e w' ⟨rfl, rfl⟩)
        go_ret
        exact StPost.no HTT.out hbb
      | false =>
        rw [hlm, if_neg (by decide)] at hTC
        have HTC2 := Lib.hid hTC
        clear hTC HTC hrd
        go_upto_region 9 with (fail)
        go_cut [38] (fun v38 wx => v38 = .bool false ∧ w1 = wx)
        case first =>
          cases hl1 : lone nl with
          | true =>
            rw [hl1, Bool.true_and] at hlm
            have hmb2 : decide ((1 : Int) < (m : Int)) = false := decide_eq_false (by have := of_decide_eq_false hlm; omega)
            rw [hl1] at hLC
            clear hlm hl1 hnb
            go_wp2_with (go_at_call 51; refine hLC.mono ?_; rintro e w' ⟨rfl, rfl⟩)
            go_meet
            exact ⟨rfl, rfl⟩
          | false =>
            rw [hl1] at hLC
            clear hlm hl1 hnb
            go_wp2_with (go_at_call 51; refine hLC.mono ?_; rintro e w' ⟨rfl, rfl⟩)
            go_meet
            exact ⟨rfl, rfl⟩
        case rest =>
        obtain ⟨rfl, rfl⟩ := hcut
        clear hlm hLC
        have hD := HV.out.drop 1 (by simp)
        rw [List.drop_succ_cons, List.drop_zero] at hD
        have hdr : ∀ x ∈ r, WdOk x := fun x hx => HD.out x (List.mem_cons_of_mem _ hx)
        have htr : ∀ x ∈ r, x.text.length ≤ 65536 := fun x hx => HTX.out x (List.mem_cons_of_mem _ hx)
        have hlr : r.length ≤ 1073741824 := by have h := HM.out; rw [List.length_cons] at h; omega
        have hld : (d :: r).length ≤ 1073741824 := by rw [← HM.out]; omega
        have rD := fun W => run_drop (a := some ⟨g, off, none⟩) (n := m) (c := c) 1 (by omega) (by omega) W
        rw [Int.natCast_one] at rD
        rw [List.drop_succ_cons, List.drop_zero] at HTC2
        generalize sliced (some ⟨g, off, none⟩) 1 m c 4 = v1 at *
        cases k0 : (nl == [101, 108, 115, 101]) with
        | true =>
          have he := beq_iff_eq.1 k0
          subst he
          have hT2 : T = stepL t.lv (lvs ls) (.els) := HTC2.out
          have hC := alone_else nb w1 H1.out hr hsm hbw1 hnb
          rw [← hT2] at hC
          clear hT2 hnb rD hD k0
          go_wp2_with fail
          refine hC.mono ?_
          rintro e w5 ⟨x, rfl, hP5⟩
          have hpp := StPost.trans hbb hP5
          have HP5 := Lib.hid hpp
          clear hP5 hC hpp
          go_wp2
          go_ret
          exact HP5.out
        | false =>
          have t0 := str_test hnb [101, 108, 115, 101] false k0
          cases k1 : (nl == [101, 110, 100]) with
          | true =>
            have he := beq_iff_eq.1 k1
            subst he
            have hT2 : T = stepL t.lv (lvs ls) (.fin) := HTC2.out
            have hC := alone_end nb w1 H1.out hr hsm hbw1 hnb
            rw [← hT2] at hC
            clear hT2 hnb rD hD k0 k1
            go_wp2_with fail
            refine hC.mono ?_
            rintro e w5 ⟨x, rfl, hP5⟩
            have hpp := StPost.trans hbb hP5
            have HP5 := Lib.hid hpp
            clear hP5 hC hpp
            go_wp2
            go_ret
            exact HP5.out
          | false =>
            have t1 := str_test hnb [101, 110, 100] false k1
            cases k2 : (nl == [98, 114, 101, 97, 107]) with
            | true =>
              have he := beq_iff_eq.1 k2
              subst he
              have hT2 : T = stepL t.lv (lvs ls) (.leave 7) := HTC2.out
              have hC := alone_break nb w1 H1.out hr hsm hbw1 hnb
              rw [← hT2] at hC
              clear hT2 hnb rD hD k0 k1 k2
              go_wp2_with fail
              refine hC.mono ?_
              rintro e w5 ⟨x, rfl, hP5⟩
              have hpp := StPost.trans hbb hP5
              have HP5 := Lib.hid hpp
              clear hP5 hC hpp
              go_wp2
              go_ret
              exact HP5.out
            | false =>
              have t2 := str_test hnb [98, 114, 101, 97, 107] false k2
              cases k3 : (nl == [99, 111, 110, 116, 105, 110, 117, 101]) with
              | true =>
                have he := beq_iff_eq.1 k3
                subst he
                have hT2 : T = stepL t.lv (lvs ls) (.leave 8) := HTC2.out
                have hC := alone_continue nb w1 H1.out hr hsm hbw1 hnb
                rw [← hT2] at hC
                clear hT2 hnb rD hD k0 k1 k2 k3
                go_wp2_with fail
                refine hC.mono ?_
                rintro e w5 ⟨x, rfl, hP5⟩
                have hpp := StPost.trans hbb hP5
                have HP5 := Lib.hid hpp
                clear hP5 hC hpp
                go_wp2
                go_ret
                exact HP5.out
              | false =>
                have t3 := str_test hnb [99, 111, 110, 116, 105, 110, 117, 101] false k3
                cases k4 : (nl == [105, 102]) with
                | true =>
                  have he := beq_iff_eq.1 k4
                  subst he
                  have t0 := str_test hnb [101, 108, 115, 101] false (by decide)
                  have t1 := str_test hnb [101, 110, 100] false (by decide)
                  have t2 := str_test hnb [98, 114, 101, 97, 107] false (by decide)
                  have t3 := str_test hnb [99, 111, 110, 116, 105, 110, 117, 101] false (by decide)
                  have t4 := str_test hnb [105, 102] true (by decide)
                  have hA := alone_no (.pointer (some ⟨p, 0, none⟩)) nb _ hnb w1 (by decide) (by decide) (by decide) (by decide)
                  have hT2 : T = doA t.lv (lvs ls) (blockA 3 r) := HTC2.out
                  have hC := begin_calls 3 v1 r w1 H1.out hD hdr htr hlr hbw1 hn16
                  rw [show ((3 : Nat) : Int) = 3 from rfl, ← hT2] at hC
                  clear hT2 hnb hD hdr htr hlr hld hsm hr k0 k1 k2 k3 k4
                  go_wp2_with (first | (go_at_call 52; refine hA.mono ?_; rintro e w' ⟨rfl, rfl⟩) | (go_at_call 53; refine hC.mono ?_; rintro e w5 hP5; obtain ⟨x, rfl⟩ := hP5.val; have HP5 := Lib.hid (StPost.trans hbb hP5); clear hP5))
                  go_ret
                  exact HP5.out
                | false =>
                  have t4 := str_test hnb [105, 102] false k4
                  cases k5 : (nl == [119, 105, 116, 104]) with
                  | true =>
                    have he := beq_iff_eq.1 k5
                    subst he
                    have t0 := str_test hnb [101, 108, 115, 101] false (by decide)
                    have t1 := str_test hnb [101, 110, 100] false (by decide)
                    have t2 := str_test hnb [98, 114, 101, 97, 107] false (by decide)
                    have t3 := str_test hnb [99, 111, 110, 116, 105, 110, 117, 101] false (by decide)
                    have t4 := str_test hnb [105, 102] false (by decide)
                    have t5 := str_test hnb [119, 105, 116, 104] true (by decide)
                    have hA := alone_no (.pointer (some ⟨p, 0, none⟩)) nb _ hnb w1 (by decide) (by decide) (by decide) (by decide)
                    have hT2 : T = doA t.lv (lvs ls) (blockA 4 r) := HTC2.out
                    have hC := begin_calls 4 v1 r w1 H1.out hD hdr htr hlr hbw1 hn16
                    rw [show ((4 : Nat) : Int) = 4 from rfl, ← hT2] at hC
                    clear hT2 hnb hD hdr htr hlr hld hsm hr k0 k1 k2 k3 k4 k5
                    go_wp2_with (first | (go_at_call 52; refine hA.mono ?_; rintro e w' ⟨rfl, rfl⟩) | (go_at_call 53; refine hC.mono ?_; rintro e w5 hP5; obtain ⟨x, rfl⟩ := hP5.val; have HP5 := Lib.hid (StPost.trans hbb hP5); clear hP5))
                    go_ret
                    exact HP5.out
                  | false =>
                    have t5 := str_test hnb [119, 105, 116, 104] false k5
                    cases k6 : (nl == [114, 97, 110, 103, 101]) with
                    | true =>
                      have he := beq_iff_eq.1 k6
                      subst he
                      have t0 := str_test hnb [101, 108, 115, 101] false (by decide)
                      have t1 := str_test hnb [101, 110, 100] false (by decide)
                      have t2 := str_test hnb [98, 114, 101, 97, 107] false (by decide)
                      have t3 := str_test hnb [99, 111, 110, 116, 105, 110, 117, 101] false (by decide)
                      have t4 := str_test hnb [105, 102] false (by decide)
                      have t5 := str_test hnb [119, 105, 116, 104] false (by decide)
                      have t6 := str_test hnb [114, 97, 110, 103, 101] true (by decide)
                      have hA := alone_no (.pointer (some ⟨p, 0, none⟩)) nb _ hnb w1 (by decide) (by decide) (by decide) (by decide)
                      have hT2 : T = doA t.lv (lvs ls) (blockA 5 r) := HTC2.out
                      have hC := begin_calls 5 v1 r w1 H1.out hD hdr htr hlr hbw1 hn16
                      rw [show ((5 : Nat) : Int) = 5 from rfl, ← hT2] at hC
                      clear hT2 hnb hD hdr htr hlr hld hsm hr k0 k1 k2 k3 k4 k5 k6
                      go_wp2_with (first | (go_at_call 52; refine hA.mono ?_; rintro e w' ⟨rfl, rfl⟩) | (go_at_call 53; refine hC.mono ?_; rintro e w5 hP5; obtain ⟨x, rfl⟩ := hP5.val; have HP5 := Lib.hid (StPost.trans hbb hP5); clear hP5))
                      go_ret
                      exact HP5.out
                    | false =>
                      have t6 := str_test hnb [114, 97, 110, 103, 101] false k6
                      cases k7 : (nl == [116, 101, 109, 112, 108, 97, 116, 101]) with
                      | true =>
                        have he := beq_iff_eq.1 k7
                        subst he
                        have t0 := str_test hnb [101, 108, 115, 101] false (by decide)
                        have t1 := str_test hnb [101, 110, 100] false (by decide)
                        have t2 := str_test hnb [98, 114, 101, 97, 107] false (by decide)
                        have t3 := str_test hnb [99, 111, 110, 116, 105, 110, 117, 101] false (by decide)
                        have t4 := str_test hnb [105, 102] false (by decide)
                        have t5 := str_test hnb [119, 105, 116, 104] false (by decide)
                        have t6 := str_test hnb [114, 97, 110, 103, 101] false (by decide)
                        have t7 := str_test hnb [116, 101, 109, 112, 108, 97, 116, 101] true (by decide)
                        have hA := alone_no (.pointer (some ⟨p, 0, none⟩)) nb _ hnb w1 (by decide) (by decide) (by decide) (by decide)
                        have hT2 : T = doA t.lv (lvs ls) (callA r) := HTC2.out
                        have hC := call_calls v1 r w1 H1.out hD hdr htr hlr hbw1 (hsm t (by simp))
                        rw [← hT2] at hC
                        clear hT2 hnb hD hdr htr hlr hld hsm hr k0 k1 k2 k3 k4 k5 k6 k7
                        go_wp2_with (first | (go_at_call 52; refine hA.mono ?_; rintro e w' ⟨rfl, rfl⟩) | (go_at_call 54; refine hC.mono ?_; rintro e w5 hP5; obtain ⟨x, rfl⟩ := hP5.val; have HP5 := Lib.hid (StPost.trans hbb hP5); clear hP5))
                        go_ret
                        exact HP5.out
                      | false =>
                        have t7 := str_test hnb [116, 101, 109, 112, 108, 97, 116, 101] false k7
                        have hT2 : T = doA t.lv (lvs ls) (tellA (d :: r)) := by
                          have h := HTC2.out
                          rwa [if_neg (beq_eq_false_iff_ne.1 k0), if_neg (beq_eq_false_iff_ne.1 k1), if_neg (beq_eq_false_iff_ne.1 k2), if_neg (beq_eq_false_iff_ne.1 k3), if_neg (beq_eq_false_iff_ne.1 k4), if_neg (beq_eq_false_iff_ne.1 k5), if_neg (beq_eq_false_iff_ne.1 k6), if_neg (beq_eq_false_iff_ne.1 k7)] at h
                        have hA := alone_no (.pointer (some ⟨p, 0, none⟩)) nb _ hnb w1 k0 k1 k2 k3
                        have hC := tells_calls _ (d :: r) w1 H1.out HV.out HD.out HTX.out hld hbw1 (hsm t (by simp))
                        rw [← hT2] at hC
                        clear hT2 hnb hD hdr htr hlr hld hsm hr k0 k1 k2 k3 k4 k5 k6 k7
                        go_wp2_with (first | (go_at_call 52; refine hA.mono ?_; rintro e w' ⟨rfl, rfl⟩) | (go_at_call 55; refine hC.mono ?_; rintro e w5 hP5; obtain ⟨x, rfl⟩ := hP5.val; have HP5 := Lib.hid (StPost.trans hbb hP5); clear hP5))
                        go_ret
                        exact HP5.out
  · have hT : T = .error n := by rw [HT.out, actL_err hw hn]; rfl
    have HTT := Lib.hid hT
    have hnb : ((n : Int) != 0) = true := by rw [bne, beq_eq_false_iff_ne.2 (by omega : (n : Int) ≠ 0)]; rfl
    have hnb2 : ((n : Int) == 0) = false := beq_eq_false_iff_ne.2 (by omega)
    clear hT hw hn hV h1
    go_wp2
    go_ret
    exact StPost.no HTT.out hbb
end Go.Proofs.YtbcddlheikdlkaaGreatDoor.S
