/-
  THE STACK OF BLOCKS in memory; the walks of package tmpl's top, add.
-/
import Derived.Test.YtdaffedbboofjaaGreatDoorItMem
import Derived.Test.YtdaffedbboofjaaGreatDoorPipeW6
import Derived.Laws.Pointers
import Derived.Deep.RegionLaw
set_option linter.unusedVariables false
set_option linter.unusedSimpArgs false
namespace Go.Proofs.YtdaffedbboofjaaGreatDoor.S
open Go.RowKit

/-- a block of the stack: its level, its struct's block, its rows -/
structure Sl where
  lv : Lv
  g : Nat
  pv : Value
  tv : Value
  rv : Value
def Sl.cells (s : Sl) : List Value := [.int .i64 s.lv.kind, .string ⟨#[]⟩, s.pv, s.tv, .slice none 0 0, s.rv, .bool s.lv.behind]
def Sl.ptr (s : Sl) : Value := .pointer (some ⟨s.g, 0, none⟩)
/-- blocks that are no open row's own -/
def Fs (ls : List Sl) (b : Nat) : Prop := ∀ s ∈ ls, s.rv.ownBlock ≠ some b
structure Lev (base : Nat) (F : Nat → Prop) (s : Sl) (W : World) : Prop where
  blk : Blk s.g 75 s.cells W
  low : base ≤ s.g
  pipe : Cms base s.pv s.lv.pipe W
  th : Its base F W s.tv s.lv.th
  row : Rw base F s.rv s.lv.row W
def Apart (s t : Sl) : Prop := s.g ≠ t.g ∧ ∀ b, s.rv.ownBlock = some b → t.rv.ownBlock ≠ some b
structure St (base p : Nat) (ls : List Sl) (W : World) : Prop where
  par : ∃ q c, Blk p 78 [.slice (some ⟨q, 0, none⟩) ls.length c] W ∧ W.ownsRow base 73 1 (.slice (some ⟨q, 0, none⟩) ls.length c) ls.length (ls.map Sl.ptr)
  low : base ≤ p
  levs : ∀ s ∈ ls, Lev base (Fs ls) s W
  dist : ls.Pairwise Apart
variable {base p : Nat} {F F' : Nat → Prop} {W W' : World} {s t : Sl} {ls : List Sl}
theorem Lev.keep (h : Lev base F s W) (k : Kp base F W W') (hb : W'.heap[s.g]? = W.heap[s.g]?) (hr : ∀ g, s.rv.ownBlock = some g → W'.heap[g]? = W.heap[g]?) : Lev base F s W' :=
  ⟨hb.trans h.blk, h.low, k.cms _ _ h.pipe, h.th.keep k, h.row.keep k hr⟩
theorem Lev.mono (h : Lev base F s W) (hm : ∀ g, g < W.heap.size → F g → F' g) : Lev base F' s W := ⟨h.blk, h.low, h.pipe, h.th.mono hm, h.row.mono hm⟩
theorem St.below (h : St base p ls W) (hb : Below W.heap.size W W') : St base p ls W' := by
  obtain ⟨q, c, h1, h2⟩ := h.par
  exact ⟨⟨q, c, h1.below hb, own_below h2 hb⟩, h.low, fun s hs => (h.levs s hs).keep (.below hb) (hb.block _ (h.levs s hs).blk.lt) fun g hg => hb.block g ((h.levs s hs).row.fact g hg).2.1, h.dist⟩
theorem cell_drewN (w : World) (n : Nat) (a : Addr) : (w.drewN n).cell? a = w.cell? a := rfl
set_option maxRecDepth 100000 in
set_option maxHeartbeats 2000000 in
theorem top_calls (w : World) (h : St base p (ls ++ [t]) w) :
    Calls Tryz.prog 53 #[.pointer (some ⟨p, 0, none⟩)] w fun e w' => e = .returned (.pointer (some ⟨t.g, 0, none⟩)) ∧ ∃ m, w' = w.drewN m := by
  obtain ⟨q, c, h1, h2⟩ := h.par
  have hcap : ls.length ≤ 9223372036854775806 := by
    rcases h2.2 with ⟨h0, _⟩ | ⟨g, cap, cur, hv, _, _, hc, hm, _⟩
    · cases h0
    · simp only [maxLen] at hm; simp at hc; omega
  have c1 := World.ownsRow.cellAt h2 ls.length (by simp)
  have e1 : ((ls ++ [t]).map Sl.ptr)[ls.length]? = some (.pointer (some ⟨t.g, 0, none⟩)) := by simp [Sl.ptr]
  rw [e1] at c1
  have hn : (ls ++ [t]).length = ls.length + 1 := by simp
  rw [hn] at h1
  have c0 := h1.cell 0 _ rfl
  generalize ls.length = n at *
  have hi : IntKind.i64.wrap (((n : Int) + 1) - 1) = (n : Int) := by rw [IntWalk.i64_in _ (by omega)]; omega
  have hj : ((n : Int) + 1) - 1 = (n : Int) := by omega
  clear h h1 h2 e1 hn
  go_enter Tryz.func53, Tryz.ntmps53
  go_upto_region 1 with (fail)
  go_quiet (fail)
  go_wp2
  go_ret
  exact ⟨rfl, _, rfl⟩
theorem fs_snoc (b : Nat) : Fs (ls ++ [t]) b ↔ Fs ls b ∧ t.rv.ownBlock ≠ some b := by
  unfold Fs
  constructor
  · intro h
    exact ⟨fun s hs => h s (List.mem_append_left _ hs), h t (by simp)⟩
  · rintro ⟨h1, h2⟩ s hs
    rcases List.mem_append.1 hs with hs | hs
    · exact h1 s hs
    · rw [List.mem_singleton.1 hs]; exact h2
/-- blocks of these types live on -/
def Hold (W W' : World) (P : TypeId → Prop) : Prop := ∀ (b : Nat) (cs : Array Value) (T : TypeId), W.heap[b]? = some (.cells cs T (0, 0)) → P T → W'.heap[b]? = W.heap[b]?
def PipeT (T : TypeId) : Prop := T = 9 ∨ T = 43 ∨ T = 46
theorem own_hold {base e size n : Nat} {v : Value} {xs : List Value} (h : W.ownsRow base e size v n xs) (k : Hold W W' PipeT) (he : PipeT e) : W'.ownsRow base e size v n xs :=
  own_block h fun g hg => let ⟨cs, hc⟩ := own_type h g hg; k g cs e hc he
theorem Txs.hold {v : Value} {xs : List (List UInt8)} (h : Txs base v xs W) (k : Hold W W' PipeT) : Txs base v xs W' := by
  rcases h with h | h
  · exact .inl h
  · exact .inr (own_hold h k (.inl rfl))
theorem Ars.hold {v : Value} {ds : List Ar} (h : Ars base v ds W) (k : Hold W W' PipeT) : Ars base v ds W' :=
  let ⟨zs, hz, hr, hp⟩ := h
  ⟨zs, hz, own_hold hr k (.inr (.inl rfl)), fun z hz => (hp z hz).hold k⟩
theorem Cms.hold {v : Value} {ds : List Cm} (h : Cms base v ds W) (k : Hold W W' PipeT) : Cms base v ds W' :=
  let ⟨zs, hz, hr, hp⟩ := h
  ⟨zs, hz, own_hold hr k (.inr (.inr rfl)), fun z hz => (hp z hz).hold k⟩
theorem Kp.and (k : Kp base F W W') (G : Nat → Prop) : Kp base (fun g => F g ∧ G g) W W' := ⟨fun g cs h hf => k.items g cs h hf.1, k.cms⟩
theorem Its.move {v : Value} {is : List It} (h : Its base F W v is) (k : Kp base F W W') (hm : ∀ g, g < W.heap.size → F g → F' g) : Its base F' W' v is :=
  ((h.mono (F' := fun g => F g ∧ F' g) fun g hg hf => ⟨hf, hm g hg hf⟩).keep (k.and F')).mono fun g _ hf => hf.2
theorem Rw.move {v : Value} {is : List It} (h : Rw base F v is W) (k : Kp base F W W') (hm : ∀ g, g < W.heap.size → F g → F' g) (hb : ∀ g, v.ownBlock = some g → W'.heap[g]? = W.heap[g]?) : Rw base F' v is W' :=
  ((h.mono (F' := fun g => F g ∧ F' g) fun g hg hf => ⟨hf, hm g hg hf⟩).keep (k.and F') hb).mono fun g _ hf => hf.2
theorem Lev.move (h : Lev base F s W) (k : Kp base F W W') (hm : ∀ g, g < W.heap.size → F g → F' g) (hb : W'.heap[s.g]? = W.heap[s.g]?) (hr : ∀ g, s.rv.ownBlock = some g → W'.heap[g]? = W.heap[g]?) : Lev base F' s W' :=
  ⟨hb.trans h.blk, h.low, k.cms _ _ h.pipe, h.th.move k hm, h.row.move k hm hr⟩
theorem blk_type {g : Nat} {T : TypeId} {cs : List Value} (h : Blk g T cs W) {b : Nat} {cs' : Array Value} {T' : TypeId} (hb : W.heap[b]? = some (.cells cs' T' (0, 0))) (hne : T' ≠ T) : b ≠ g := by
  rintro rfl
  unfold Blk at h
  rw [h] at hb
  injection hb with hb
  injection hb with _ hb
  exact hne hb.symm
theorem Apart.symm' (h : Apart s t) : Apart t s := ⟨fun e => h.1 e.symm, fun b h1 h2 => h.2 b h2 h1⟩
/-- the top block has turned: the stack behind it -/
theorem St.change {t' : Sl} (h : St base p (ls ++ [t]) W) (hgt : t'.g = t.g) (hk : ∀ b, b < W.heap.size → t.rv.ownBlock ≠ some b → b ≠ t.g → W'.heap[b]? = W.heap[b]?)
    (hown : ∀ b, t'.rv.ownBlock = some b → t.rv.ownBlock = some b ∨ W.heap.size ≤ b)
    (hlev : Kp base (Fs (ls ++ [t])) W W' → (∀ g, g < W.heap.size → Fs (ls ++ [t]) g → Fs (ls ++ [t']) g) → Lev base (Fs (ls ++ [t'])) t' W') : St base p (ls ++ [t']) W' := by
  have ht := h.levs t (by simp)
  have hty : ∀ (b : Nat) (cs : Array Value) (T : TypeId), W.heap[b]? = some (.cells cs T (0, 0)) → T ≠ 37 → T ≠ 75 → W'.heap[b]? = W.heap[b]? := by
    intro b cs T hb h1 h2
    refine hk b (Array.getElem?_eq_some_iff.1 hb).1 (fun e => ?_) (blk_type ht.blk hb h2)
    obtain ⟨_, _, cs', hc⟩ := ht.row.fact b e
    rw [hb] at hc
    injection hc with hc
    injection hc with _ hc
    exact h1 hc
  have hK : Kp base (Fs (ls ++ [t])) W W' := by
    refine ⟨fun g cs hg hF => hk g (Array.getElem?_eq_some_iff.1 hg).1 (((fs_snoc g).1 hF).2) (blk_type ht.blk hg (by decide)), fun v cs hc => hc.hold fun b cs T hb hT => hty b cs T hb ?_ ?_⟩
    · rcases hT with rfl | rfl | rfl <;> decide
    · rcases hT with rfl | rfl | rfl <;> decide
  have hM : ∀ g, g < W.heap.size → Fs (ls ++ [t]) g → Fs (ls ++ [t']) g := by
    intro g hg hF
    obtain ⟨h1, h2⟩ := (fs_snoc g).1 hF
    refine (fs_snoc g).2 ⟨h1, fun e => ?_⟩
    rcases hown g e with h3 | h3
    · exact h2 h3
    · omega
  have hap : ∀ s ∈ ls, Apart s t := by
    intro s hs
    have := List.pairwise_append.1 h.dist
    exact this.2.2 s hs t (by simp)
  refine ⟨?_, h.low, ?_, ?_⟩
  · obtain ⟨q, c, h1, h2⟩ := h.par
    have hl : (ls ++ [t']).length = (ls ++ [t]).length := by simp
    have hm : (ls ++ [t']).map Sl.ptr = (ls ++ [t]).map Sl.ptr := by simp [Sl.ptr, hgt]
    rw [hl, hm]
    refine ⟨q, c, (hty p _ _ h1 (by decide) (by decide)).trans h1, own_block h2 fun g hg => ?_⟩
    obtain ⟨cs, hc⟩ := own_type h2 g hg
    exact hty g cs _ hc (by decide) (by decide)
  · intro s hs
    rcases List.mem_append.1 hs with hs | hs
    · have hl := h.levs s (List.mem_append_left _ hs)
      refine hl.move hK hM (hk _ hl.blk.lt (fun e => ?_) (hap s hs).1) (fun g hg => hk g (hl.row.fact g hg).2.1 ((hap s hs).2 g hg) ?_)
      · obtain ⟨_, _, cs', hc⟩ := ht.row.fact _ e
        exact blk_type hl.blk hc (by decide) rfl
      · obtain ⟨_, _, cs', hc⟩ := hl.row.fact g hg
        exact blk_type ht.blk hc (by decide)
    · rw [List.mem_singleton.1 hs]
      exact hlev hK hM
  · have hd := List.pairwise_append.1 h.dist
    refine List.pairwise_append.2 ⟨hd.1, List.pairwise_singleton _ _, fun s hs t2 ht2 => ?_⟩
    rw [List.mem_singleton.1 ht2]
    refine ⟨by rw [hgt]; exact (hap s hs).1, fun b hb e => ?_⟩
    rcases hown b e with h3 | h3
    · exact (hap s hs).2 b hb h3
    · have := ((h.levs s (List.mem_append_left _ hs)).row.fact b hb).2.1
      omega
end Go.Proofs.YtdaffedbboofjaaGreatDoor.S
