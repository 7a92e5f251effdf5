/-
  ROWS OF VALUES AND OF KEYS that grow while a list or a record is read.
-/
import Derived.Test.YthmcacgkhpigaaaDoorJW4
import Derived.Deep.AppendLies
import Derived.Laws.AppendOwn
import Derived.OwnWalk
set_option linter.unusedVariables false
set_option linter.unusedSimpArgs false
namespace Go.Proofs.YthmcacgkhpigaaaDoor.S
open Go.RowKit

theorem jvInfo : (Tryd.prog.info? 28).map (fun i => (i.zero, i.size, i.bytes)) = some (some (.agg #[.int .i64 0, .int .i64 0, .int .u64 0, .string ⟨#[]⟩, .slice none 0 0, .slice none 0 0]), 6, 88) := by kernel_rfl
theorem jsInfo : (Tryd.prog.info? 9).map (fun i => (i.zero, i.size, i.bytes)) = some (some (.string ⟨#[]⟩), 1, 16) := by kernel_rfl
theorem jheap_new (w : World) (o : Obj) : (w.alloc o).heap[w.heap.size]? = some o := by show (w.heap.push o)[w.heap.size]? = some o; simp
section
variable {ops : Array Oper} {rest : List Oper} {o : Oper} {a : Act} {Q : Exit → Act → World → Prop}
theorem jstep_app {K : Act → World → Prop} {E : Prop} {W : World} {T ST size bytes : Nat} {z0 : Value} (hinfo : (Tryd.prog.info? T).map (fun i => (i.zero, i.size, i.bytes)) = some (some z0, size, bytes)) (hu : Tryd.prog.underlying ST = some (.slice T)) (hzs : z0.cells.size = size) (hsz : 0 < size)
    (base : Nat) (hgd : o.guard = none) (s x : Operand) (ho : o.op = .call { callee := .builtin .append, args := #[s, x], argTypes := #[ST, ST] })
    (v : Value) (n : Nat) (xs : List Value) (L : Nat) (cs : Array Value) (fr : Nat × Nat) (c : Nat) (hs : a.eval s = v) (hx : a.eval x = .slice (some ⟨L, 0, none⟩) 1 c) (hl : cs.toList.length = size) (h1 : ∀ u ∈ cs.toList, u.oneCell' = true)
    (hL : W.heap[L]? = some (.cells cs T fr)) (HO : W.ownsRow base T size v n xs) (hbase : base ≤ W.heap.size) (hn : n + 1 ≤ maxLen) (hb : (n + 1) * bytes ≤ 140737488355328)
    (h : ∀ g1 c1 w1, w1.ownsRow base T size (.slice (some ⟨g1, 0, none⟩) (n + 1) c1) (n + 1) (xs ++ cs.toList) → W.grownBy w1 v.ownBlock → (v.ownBlock = some g1 ∨ g1 = W.heap.size) → K (a.put o.dst (.slice (some ⟨g1, 0, none⟩) (n + 1) c1)) w1) :
    if Region.wanted o (yielded ops a.tmps) = true then Oper.wp Tryd.prog o a W K Q else E := by
  obtain ⟨i0, hi, hz0, hz1, hz2⟩ := info_parts hinfo
  refine step_append_lies W hgd s x ST ho base T i0 z0 size bytes hu hi hz0 hz1 hz2 hzs hsz v n xs hs HO
    ⟨L, 0, none⟩ 1 c cs.toList hx (by rw [hl, Nat.one_mul]) (World.news_of_block hL) h1 (by decide) hn hb hbase _ rfl ?_
  intro g cap w1 hown hg hgb _
  exact h g cap w1 hown hg hgb
end
theorem jown_type {base e size n : Nat} {v : Value} {xs : List Value} {w : World} (h : w.ownsRow base e size v n xs) (k : Nat) (hk : v.ownBlock = some k) : ∃ cs, w.heap[k]? = some (.cells cs e (0, 0)) := by
  rcases h.2 with ⟨rfl, _⟩ | ⟨g, cap, cur, rfl, _, hh, _⟩
  · simp [Value.ownBlock] at hk
  · have : g = k := by simpa [Value.ownBlock] using hk
    exact ⟨cur, by rw [← this]; exact hh⟩
theorem jown_block {base e size n : Nat} {v : Value} {xs : List Value} {W W' : World} (h : W.ownsRow base e size v n xs) (hb : ∀ g, v.ownBlock = some g → W'.heap[g]? = W.heap[g]?) : W'.ownsRow base e size v n xs := by
  refine ⟨h.1, ?_⟩
  rcases h.2 with h0 | ⟨g, cap, cur, rfl, hg, hh, h1⟩
  · exact .inl h0
  · exact .inr ⟨g, cap, cur, rfl, hg, (hb g rfl).trans hh, h1⟩
def jkCells (x : List UInt8) : List Value := [.string ⟨x.toArray⟩]
theorem jk_at : ∀ (ks : List (List UInt8)) (j : Nat) (h : j < ks.length), (ks.flatMap jkCells)[j]? = some (.string ⟨(ks[j]'h).toArray⟩)
  | [], j, h => by simp at h
  | k :: ks, 0, h => rfl
  | k :: ks, j + 1, h => by
    rw [List.flatMap_cons]
    show (jkCells k ++ _)[j + 1]? = _
    rw [List.getElem?_append_right (by simp [jkCells])]
    exact jk_at ks j (by simpa using h)
/-- blocks that belong to inner rows -/
def Pq (base q : Nat) (iv kv : Value) (b : Nat) : Prop := base ≤ b ∧ b ≠ q ∧ iv.ownBlock ≠ some b ∧ kv.ownBlock ≠ some b
structure GR (base q : Nat) (iv kv : Value) (zs : List Vc) (ks : List (List UInt8)) (W : World) : Prop where
  row : W.ownsRow base 28 6 iv zs.length (vcsCells zs)
  keys : W.ownsRow base 9 1 kv ks.length (ks.flatMap jkCells)
  ins : ∀ z ∈ zs, KR (Pq base q iv kv) W z.kv z.jv.keys ∧ VR (Pq base q iv kv) W z.iv z.jv.items
  iq : iv.ownBlock ≠ some q
  kq : kv.ownBlock ≠ some q
  ik : ∀ b, iv.ownBlock = some b → kv.ownBlock ≠ some b
variable {base q g : Nat} {iv kv : Value} {zs : List Vc} {ks : List (List UInt8)} {W W' : World}
theorem GR.keepB (h : GR base q iv kv zs ks W) (hk : ∀ b, base ≤ b → b ≠ q → b < W.heap.size → W'.heap[b]? = W.heap[b]?) : GR base q iv kv zs ks W' := by
  refine ⟨jown_block h.row fun b hb => hk b (own_base h.row b hb) (fun e => h.iq (by rw [← e]; exact hb)) (own_lt h.row b hb), jown_block h.keys fun b hb => hk b (own_base h.keys b hb) (fun e => h.kq (by rw [← e]; exact hb)) (own_lt h.keys b hb), fun z hz => ?_, h.iq, h.kq, h.ik⟩
  obtain ⟨h1, h2⟩ := h.ins z hz
  exact ⟨h1.keep fun b hP hb => hk b hP.1 hP.2.1 hb, h2.keep fun b hP hb => hk b hP.1 hP.2.1 hb⟩
theorem GR.grown (h : GR base q iv kv zs ks W) (hg : W.grownBy W' (some g)) (hgb : g < base) : GR base q iv kv zs ks W' :=
  h.keepB fun b h1 _ h3 => hg.block b h3 (by simp; omega)
theorem GR.blw (h : GR base q iv kv zs ks W) (hb : Below W.heap.size W W') : GR base q iv kv zs ks W' := h.keepB fun b _ _ h3 => hb.block b h3
theorem GR.setq (h : GR base q iv kv zs ks W) (j : Nat) (x : Value) : GR base q iv kv zs ks (W.setCell ⟨q, j, none⟩ x) :=
  h.keepB fun b _ h2 h3 => (grownBy_set W q j x).block b h3 (by simp [h2])
theorem GR.nil (base q : Nat) (W : World) : GR base q (.slice none 0 0) (.slice none 0 0) [] [] W :=
  ⟨⟨rfl, .inl ⟨rfl, rfl⟩⟩, ⟨rfl, .inl ⟨rfl, rfl⟩⟩, (fun z hz => by cases hz), (by simp [Value.ownBlock]), (by simp [Value.ownBlock]), (fun b h => by simp [Value.ownBlock] at h)⟩
theorem GR.vr (h : GR base q iv kv zs ks W) : VR (fun b => base ≤ b) W iv (zs.map Vc.jv) := by
  have hin : ∀ z ∈ zs, KR (fun b => base ≤ b) W z.kv z.jv.keys ∧ VR (fun b => base ≤ b) W z.iv z.jv.items := fun z hz => ⟨(h.ins z hz).1.mono fun b _ hp => hp.1, (h.ins z hz).2.mono fun b _ hp => hp.1⟩
  have hr := h.row
  rcases hr.2 with ⟨rfl, h0⟩ | ⟨b, cap, cur, rfl, hb, hh, _⟩
  · obtain rfl := List.eq_nil_of_length_eq_zero h0
    exact .nil none 0
  · refine .mk b 0 cap zs hb (Array.getElem?_eq_some_iff.1 hh).1 (fun j hj => ?_) (fun z hz => (hin z hz).1) (fun z hz => (hin z hz).2)
    have := World.ownsRow.cellAt hr j (by omega)
    rw [Nat.zero_add]
    exact this
theorem GR.kr (h : GR base q iv kv zs ks W) : KR (fun b => base ≤ b) W kv ks := by
  have hr := h.keys
  rcases hr.2 with ⟨rfl, h0⟩ | ⟨b, cap, cur, rfl, hb, hh, _⟩
  · obtain rfl := List.eq_nil_of_length_eq_zero h0
    exact .nil none 0
  · refine .mk b 0 cap ks hb (Array.getElem?_eq_some_iff.1 hh).1 (fun j hj => ?_)
    have := World.ownsRow.cellAt hr j (by omega)
    rw [Nat.zero_add]
    exact this.trans (jk_at ks j hj)
theorem GR.addKey (h : GR base q iv kv zs ks W) (hq : q < W.heap.size) {w6 : World} {g1 n c1 : Nat} {tb : ByteArray} {k : List UInt8} (hn : ks.length = n) (ht : StrIs tb k)
    (hown : w6.ownsRow base 9 1 (.slice (some ⟨g1, 0, none⟩) (n + 1) c1) (n + 1) (ks.flatMap jkCells ++ [.string tb])) (hg : W.grownBy w6 kv.ownBlock) (hgb : kv.ownBlock = some g1 ∨ W.heap.size ≤ g1) :
    GR base q iv (.slice (some ⟨g1, 0, none⟩) (n + 1) c1) zs (ks ++ [k]) w6 := by
  have hk : ∀ b, b < W.heap.size → kv.ownBlock ≠ some b → w6.heap[b]? = W.heap[b]? := fun b h1 h2 => hg.block b h1 (Ne.symm h2)
  have hne : ∀ b, b < W.heap.size → kv.ownBlock ≠ some b → (Value.slice (some ⟨g1, 0, none⟩) (n + 1) c1).ownBlock ≠ some b := fun b h1 h2 e => by
    have : g1 = b := by simpa [Value.ownBlock] using e
    rcases hgb with h3 | h3
    · exact h2 (by rw [h3, this])
    · omega
  refine ⟨jown_block h.row fun b hb => hk b (own_lt h.row b hb) (h.ik b hb), ?_, fun z hz => ?_, h.iq, hne q hq h.kq, fun b hb => hne b (own_lt h.row b hb) (h.ik b hb)⟩
  · rw [List.length_append, List.flatMap_append, hn, List.length_singleton]
    have e : [k].flatMap jkCells = [.string tb] := by rw [ht.eq]; rfl
    rw [e]
    exact hown
  · obtain ⟨h1, h2⟩ := h.ins z hz
    have hP : ∀ b, b < W.heap.size → Pq base q iv kv b → Pq base q iv (.slice (some ⟨g1, 0, none⟩) (n + 1) c1) b := fun b hb hp => ⟨hp.1, hp.2.1, hp.2.2.1, hne b hb hp.2.2.2⟩
    exact ⟨(h1.mono (P' := fun b => Pq base q iv kv b ∧ Pq base q iv (.slice (some ⟨g1, 0, none⟩) (n + 1) c1) b) fun b hb hp => ⟨hp, hP b hb hp⟩).keep (fun b hp hb => hk b hb hp.1.2.2.2) |>.mono fun b _ hp => hp.2,
      (h2.mono (P' := fun b => Pq base q iv kv b ∧ Pq base q iv (.slice (some ⟨g1, 0, none⟩) (n + 1) c1) b) fun b hb hp => ⟨hp, hP b hb hp⟩).keep (fun b hp hb => hk b hb hp.1.2.2.2) |>.mono fun b _ hp => hp.2⟩
theorem GR.addItem (h : GR base q iv kv zs ks W) (hq : q < W.heap.size) {w6 : World} {g1 n c1 : Nat} {z : Vc} (hn : zs.length = n) (hz : KR (Pq base q iv kv) W z.kv z.jv.keys ∧ VR (Pq base q iv kv) W z.iv z.jv.items)
    (hown : w6.ownsRow base 28 6 (.slice (some ⟨g1, 0, none⟩) (n + 1) c1) (n + 1) (vcsCells zs ++ z.cells)) (hk : ∀ b, b < W.heap.size → iv.ownBlock ≠ some b → w6.heap[b]? = W.heap[b]?) (hgb : iv.ownBlock = some g1 ∨ W.heap.size ≤ g1) :
    GR base q (.slice (some ⟨g1, 0, none⟩) (n + 1) c1) kv (zs ++ [z]) ks w6 := by
  have hne : ∀ b, b < W.heap.size → iv.ownBlock ≠ some b → (Value.slice (some ⟨g1, 0, none⟩) (n + 1) c1).ownBlock ≠ some b := fun b h1 h2 e => by
    have : g1 = b := by simpa [Value.ownBlock] using e
    rcases hgb with h3 | h3
    · exact h2 (by rw [h3, this])
    · omega
  have hki : ∀ b, kv.ownBlock = some b → iv.ownBlock ≠ some b := fun b hb hi => h.ik b hi hb
  refine ⟨?_, jown_block h.keys fun b hb => hk b (own_lt h.keys b hb) (hki b hb), fun y hy => ?_, hne q hq h.iq, h.kq, fun b hb hkb => ?_⟩
  · rw [List.length_append, hn, List.length_singleton]
    unfold vcsCells at *
    rw [List.flatMap_append]
    simpa using hown
  · have hh : KR (Pq base q iv kv) W y.kv y.jv.keys ∧ VR (Pq base q iv kv) W y.iv y.jv.items := by
      rcases List.mem_append.1 hy with hy | hy
      · exact h.ins y hy
      · rw [List.mem_singleton.1 hy]; exact hz
    obtain ⟨h1, h2⟩ := hh
    have hP : ∀ b, b < W.heap.size → Pq base q iv kv b → Pq base q (.slice (some ⟨g1, 0, none⟩) (n + 1) c1) kv b := fun b hb hp => ⟨hp.1, hp.2.1, hne b hb hp.2.2.1, hp.2.2.2⟩
    exact ⟨(h1.mono (P' := fun b => Pq base q iv kv b ∧ Pq base q (.slice (some ⟨g1, 0, none⟩) (n + 1) c1) kv b) fun b hb hp => ⟨hp, hP b hb hp⟩).keep (fun b hp hb => hk b hb hp.1.2.2.1) |>.mono fun b _ hp => hp.2,
      (h2.mono (P' := fun b => Pq base q iv kv b ∧ Pq base q (.slice (some ⟨g1, 0, none⟩) (n + 1) c1) kv b) fun b hb hp => ⟨hp, hP b hb hp⟩).keep (fun b hp hb => hk b hb hp.1.2.2.1) |>.mono fun b _ hp => hp.2⟩
  · exact hne b (own_lt h.keys b hkb) (hki b hkb) hb
/-- while items are read: the reader, the value that is filled -/
structure IS (w0 : World) (g q : Nat) (k : Int) (s : ByteArray) (zs : List Vc) (ks : List (List UInt8)) (iv kv : Value) (W : World) : Prop where
  rd : JRd g s W
  blk : Blk q 28 [.int .i64 k, .int .i64 0, .int .u64 0, .string ⟨#[]⟩, iv, kv] W
  gr : GR w0.heap.size q iv kv zs ks W
  grown : w0.grownBy W (some g)
  hq : w0.heap.size ≤ q
  hg : g < w0.heap.size
variable {w0 : World} {k : Int} {s s' : ByteArray}
theorem IS.reader (h : IS w0 g q k s zs ks iv kv W) (hg : W.grownBy W' (some g)) (hr : JRd g s' W') : IS w0 g q k s' zs ks iv kv W' :=
  ⟨hr, h.blk.grown hg (by have := h.hq; have := h.hg; simp; omega), h.gr.grown hg h.hg, h.grown.trans hg, h.hq, h.hg⟩
theorem IS.blw (h : IS w0 g q k s zs ks iv kv W) (hb : Below W.heap.size W W') : IS w0 g q k s zs ks iv kv W' :=
  ⟨h.rd.below hb, h.blk.below hb, h.gr.blw hb, h.grown.trans (grownBy_below hb), h.hq, h.hg⟩
theorem grown_off {W w6 : World} {row : Option Nat} (h : w0.grownBy W (some g)) (hr : W.grownBy w6 row) (hb : ∀ b, row = some b → w0.heap.size ≤ b) : w0.grownBy w6 (some g) :=
  ⟨hr.os.trans h.os, hr.tape.trans h.tape, hr.output.trans h.output, Nat.le_trans h.size hr.size, fun i hi hne => (hr.block i (Nat.lt_of_lt_of_le hi h.size) fun e => by have := hb i e.symm; omega).trans (h.block i hi hne)⟩
theorem IS.key (h : IS w0 g q k s zs ks iv kv W) {w6 : World} {g1 n c1 : Nat} {tb : ByteArray} {x : List UInt8} (hn : ks.length = n) (ht : StrIs tb x)
    (hown : w6.ownsRow w0.heap.size 9 1 (.slice (some ⟨g1, 0, none⟩) (n + 1) c1) (n + 1) (ks.flatMap jkCells ++ [.string tb])) (hg : W.grownBy w6 kv.ownBlock) (hgb : kv.ownBlock = some g1 ∨ W.heap.size ≤ g1) :
    w6.cell? ⟨q, 5, none⟩ = some kv ∧ w6.frozen? ⟨q, 5, none⟩ = false ∧ IS w0 g q k s zs (ks ++ [x]) iv (.slice (some ⟨g1, 0, none⟩) (n + 1) c1) (w6.setCell ⟨q, 5, none⟩ (.slice (some ⟨g1, 0, none⟩) (n + 1) c1)) := by
  have hgq := h.hq
  have hgg := h.hg
  have hb6 : Blk q 28 [.int .i64 k, .int .i64 0, .int .u64 0, .string ⟨#[]⟩, iv, kv] w6 := h.blk.grown hg (fun e => h.gr.kq e.symm)
  have hr6 : JRd g s w6 := h.rd.grown hg (fun e => by have := own_base h.gr.keys g e.symm; omega)
  have h6 := h.gr.addKey h.blk.lt hn ht hown hg hgb
  refine ⟨hb6.cell 5 _ rfl, hb6.free 5, ⟨hr6.grown (grownBy_set w6 q 5 _) (by simp; omega), hb6.set 5 _, h6.setq 5 _, ?_, hgq, hgg⟩⟩
  exact grown_off (grown_off h.grown hg fun b hb => own_base h.gr.keys b hb) (grownBy_set w6 q 5 _) (fun b hb => by simp at hb; omega)
theorem jsnoc6_cells {base e n g cap : Nat} {xs : List Value} {z0 z1 z2 z3 z4 z5 : Value} (h : W.ownsRow base e 6 (.slice (some ⟨g, 0, none⟩) (n + 1) cap) (n + 1) (xs ++ [z0, z1, z2, z3, z4, z5])) (hx : xs.length = n * 6) :
    W.cell? ⟨g, n * 6, none⟩ = some z0 ∧ W.cell? ⟨g, n * 6 + 1, none⟩ = some z1 ∧ W.cell? ⟨g, n * 6 + 2, none⟩ = some z2 ∧ W.cell? ⟨g, n * 6 + 3, none⟩ = some z3 ∧ W.cell? ⟨g, n * 6 + 4, none⟩ = some z4 ∧ W.cell? ⟨g, n * 6 + 5, none⟩ = some z5 := by
  have hc : ∀ j v, j < 6 → [z0, z1, z2, z3, z4, z5][j]? = some v → W.cell? ⟨g, n * 6 + j, none⟩ = some v := by
    intro j v hj hv
    refine (World.ownsRow.cellAt h (n * 6 + j) (by omega)).trans ?_
    rw [List.getElem?_append_right (by omega), hx, Nat.add_sub_cancel_left]
    exact hv
  exact ⟨hc 0 z0 (by omega) rfl, hc 1 z1 (by omega) rfl, hc 2 z2 (by omega) rfl, hc 3 z3 (by omega) rfl, hc 4 z4 (by omega) rfl, hc 5 z5 (by omega) rfl⟩
theorem jsnoc6 {base e n g cap : Nat} {xs : List Value} {z0 z1 z2 z3 z4 z5 : Value} (h : W.ownsRow base e 6 (.slice (some ⟨g, 0, none⟩) (n + 1) cap) (n + 1) (xs ++ [z0, z1, z2, z3, z4, z5])) (hx : xs.length = n * 6) (a b c d f u : Value) :
    ((((((W.setCell ⟨g, n * 6, none⟩ a).setCell ⟨g, n * 6 + 1, none⟩ b).setCell ⟨g, n * 6 + 2, none⟩ c).setCell ⟨g, n * 6 + 3, none⟩ d).setCell ⟨g, n * 6 + 4, none⟩ f).setCell ⟨g, n * 6 + 5, none⟩ u).ownsRow base e 6 (.slice (some ⟨g, 0, none⟩) (n + 1) cap) (n + 1) (xs ++ [a, b, c, d, f, u]) := by
  have h1 := ((((((h.stored (n * 6) a).1.stored (n * 6 + 1) b).1.stored (n * 6 + 2) c).1.stored (n * 6 + 3) d).1.stored (n * 6 + 4) f).1.stored (n * 6 + 5) u).1
  have e : ((((((xs ++ [z0, z1, z2, z3, z4, z5]).set (n * 6) a).set (n * 6 + 1) b).set (n * 6 + 2) c).set (n * 6 + 3) d).set (n * 6 + 4) f).set (n * 6 + 5) u = xs ++ [a, b, c, d, f, u] := by
    rw [← hx]
    simp [List.set_append]
  rw [e] at h1
  exact h1
theorem jgrown_six (W : World) (g n : Nat) (a b c d f u : Value) : W.grownBy ((((((W.setCell ⟨g, n * 6, none⟩ a).setCell ⟨g, n * 6 + 1, none⟩ b).setCell ⟨g, n * 6 + 2, none⟩ c).setCell ⟨g, n * 6 + 3, none⟩ d).setCell ⟨g, n * 6 + 4, none⟩ f).setCell ⟨g, n * 6 + 5, none⟩ u) (some g) :=
  (((((grownBy_set W g _ a).trans (grownBy_set _ g _ b)).trans (grownBy_set _ g _ c)).trans (grownBy_set _ g _ d)).trans (grownBy_set _ g _ f)).trans (grownBy_set _ g _ u)
theorem IS.item (h : IS w0 g q k s zs ks iv kv W) {w6 : World} {g1 n c1 B : Nat} {z : Vc} (hn : zs.length = n) (hB : q < B ∧ (∀ b, iv.ownBlock = some b → b < B) ∧ (∀ b, kv.ownBlock = some b → b < B) ∧ w0.heap.size ≤ B)
    (hz : KR (fun b => B ≤ b) W z.kv z.jv.keys ∧ VR (fun b => B ≤ b) W z.iv z.jv.items)
    (hown : w6.ownsRow w0.heap.size 28 6 (.slice (some ⟨g1, 0, none⟩) (n + 1) c1) (n + 1) (vcsCells zs ++ [.int .i64 0, .int .i64 0, .int .u64 0, .string ⟨#[]⟩, .slice none 0 0, .slice none 0 0])) (hg : W.grownBy w6 iv.ownBlock) (hgb : iv.ownBlock = some g1 ∨ W.heap.size ≤ g1) :
    (g1 ≠ q ∧ q ≠ g1) ∧ (w6.cell? ⟨q, 4, none⟩ = some iv ∧ w6.frozen? ⟨q, 4, none⟩ = false) ∧
    (w6.cell? ⟨g1, n * 6, none⟩ = some (.int .i64 0) ∧ w6.cell? ⟨g1, n * 6 + 1, none⟩ = some (.int .i64 0) ∧ w6.cell? ⟨g1, n * 6 + 2, none⟩ = some (.int .u64 0) ∧ w6.cell? ⟨g1, n * 6 + 3, none⟩ = some (.string ⟨#[]⟩) ∧ w6.cell? ⟨g1, n * 6 + 4, none⟩ = some (.slice none 0 0) ∧ w6.cell? ⟨g1, n * 6 + 5, none⟩ = some (.slice none 0 0)) ∧
    (∀ j, w6.frozen? ⟨g1, j, none⟩ = false) ∧
    Hid (IS w0 g q k s (zs ++ [z]) ks (.slice (some ⟨g1, 0, none⟩) (n + 1) c1) kv (((((((w6.setCell ⟨g1, n * 6, none⟩ (.int .i64 z.jv.kind)).setCell ⟨g1, n * 6 + 1, none⟩ (.int .i64 z.jv.num)).setCell ⟨g1, n * 6 + 2, none⟩ (.int .u64 z.jv.bits)).setCell ⟨g1, n * 6 + 3, none⟩ (.string ⟨z.jv.text.toArray⟩)).setCell ⟨g1, n * 6 + 4, none⟩ z.iv).setCell ⟨g1, n * 6 + 5, none⟩ z.kv).setCell ⟨q, 4, none⟩ (.slice (some ⟨g1, 0, none⟩) (n + 1) c1))) := by
  have hgq := h.hq
  have hgg := h.hg
  have hql := h.blk.lt
  have hne : g1 ≠ q := fun e => by
    rcases hgb with h1 | h1
    · exact h.gr.iq (by rw [← e]; exact h1)
    · omega
  have hgl : w0.heap.size ≤ g1 := own_base hown g1 rfl
  have hlen : (vcsCells zs).length = n * 6 := by rw [vcsCells_len, hn]
  have hb6 : Blk q 28 [.int .i64 k, .int .i64 0, .int .u64 0, .string ⟨#[]⟩, iv, kv] w6 := h.blk.grown hg (fun e => h.gr.iq e.symm)
  have hr6 : JRd g s w6 := h.rd.grown hg (fun e => by have := own_base h.gr.row g e.symm; omega)
  have hg6 := jgrown_six w6 g1 n (.int .i64 z.jv.kind) (.int .i64 z.jv.num) (.int .u64 z.jv.bits) (.string ⟨z.jv.text.toArray⟩) z.iv z.kv
  have hown6 := jsnoc6 hown hlen (.int .i64 z.jv.kind) (.int .i64 z.jv.num) (.int .u64 z.jv.bits) (.string ⟨z.jv.text.toArray⟩) z.iv z.kv
  refine ⟨⟨hne, Ne.symm hne⟩, ⟨hb6.cell 4 _ rfl, hb6.free 4⟩, jsnoc6_cells hown hlen, fun j => World.ownsRow.frozenAt hown j, ?_⟩
  generalize (((((w6.setCell ⟨g1, n * 6, none⟩ (.int .i64 z.jv.kind)).setCell ⟨g1, n * 6 + 1, none⟩ (.int .i64 z.jv.num)).setCell ⟨g1, n * 6 + 2, none⟩ (.int .u64 z.jv.bits)).setCell ⟨g1, n * 6 + 3, none⟩ (.string ⟨z.jv.text.toArray⟩)).setCell ⟨g1, n * 6 + 4, none⟩ z.iv).setCell ⟨g1, n * 6 + 5, none⟩ z.kv = w7 at *
  have hb7 := hb6.grown hg6 (by simp; exact Ne.symm hne)
  have hr7 := hr6.grown hg6 (by simp; omega)
  have hP : ∀ b, b < W.heap.size → B ≤ b → Pq w0.heap.size q iv kv b := fun b _ hb => ⟨by omega, by omega, fun e => by have := hB.2.1 b e; omega, fun e => by have := hB.2.2.1 b e; omega⟩
  have h7 := h.gr.addItem hql hn ⟨hz.1.mono hP, hz.2.mono hP⟩ hown6 (fun b hb hi => (hg6.block b (Nat.lt_of_lt_of_le hb hg.size) (fun e => by
    have e : b = g1 := by simpa using e
    rcases hgb with h1 | h1
    · exact hi (by rw [e]; exact h1)
    · omega)).trans (hg.block b hb (Ne.symm hi))) hgb
  refine ⟨hr7.grown (grownBy_set w7 q 4 _) (by simp; omega), hb7.set 4 _, h7.setq 4 _, ?_, hgq, hgg⟩
  exact grown_off (grown_off (grown_off h.grown hg fun b hb => own_base h.gr.row b hb) hg6 (fun b hb => by simp at hb; omega)) (grownBy_set w7 q 4 _) (fun b hb => by simp at hb; omega)
end Go.Proofs.YthmcacgkhpigaaaDoor.S
