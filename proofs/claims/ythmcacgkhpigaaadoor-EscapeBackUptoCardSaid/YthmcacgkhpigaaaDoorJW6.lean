/-
  THE WALK of package json's items.
-/
import Derived.Test.YthmcacgkhpigaaaDoorJW5
import Derived.BigCall
import Derived.WalkKit
set_option linter.unusedVariables false
set_option linter.unusedSimpArgs false
namespace Go.Proofs.YthmcacgkhpigaaaDoor.S
open Go.RowKit

def ValPost (R : Option (JV × List UInt8)) (w : World) (g : Nat) (e : Ending) (w' : World) : Prop :=
  (∀ v r, R = some (v, r) → ∃ (iv kv : Value) (s' : ByteArray), e = .returned (aggV v iv kv) ∧ VR (fun b => w.heap.size ≤ b) w' iv v.items ∧ KR (fun b => w.heap.size ≤ b) w' kv v.keys ∧ StrIs s' r ∧ JRd g s' w') ∧ (R = none → e = panJ) ∧ w.grownBy w' (some g)
def ItemsPost (R : Option ((List JV × List (List UInt8)) × List UInt8)) (w0 : World) (g q : Nat) (k : Int) (e : Ending) (w' : World) : Prop :=
  (∀ is ks r, R = some ((is, ks), r) → ∃ (iv kv : Value) (zs : List Vc) (s' : ByteArray), e = .returned (.tuple #[]) ∧ zs.map Vc.jv = is ∧ IS w0 g q k s' zs ks iv kv w' ∧ StrIs s' r) ∧ (R = none → e = panJ) ∧ w0.grownBy w' (some g)
theorem ItemsPost.no {R : Option ((List JV × List (List UInt8)) × List UInt8)} {w0 w' : World} {g q : Nat} {k : Int} (h : R = none) (hg : w0.grownBy w' (some g)) : ItemsPost R w0 g q k panJ w' :=
  ⟨(fun v ks r h' => by rw [h] at h'; cases h'), (fun _ => rfl), hg⟩
theorem ItemsPost.ok {R : Option ((List JV × List (List UInt8)) × List UInt8)} {w0 w' : World} {g q : Nat} {k : Int} {is : List JV} {ks : List (List UInt8)} {r : List UInt8} {iv kv : Value} {zs : List Vc} {s' : ByteArray} (h : R = some ((is, ks), r)) (hz : zs.map Vc.jv = is) (hI : IS w0 g q k s' zs ks iv kv w') (hs : StrIs s' r) : ItemsPost R w0 g q k (.returned (.tuple #[])) w' :=
  ⟨(fun is' ks' r' h' => by rw [h] at h'; cases h'; exact ⟨iv, kv, zs, s', rfl, hz, hI, hs⟩), (fun h' => by rw [h] at h'; cases h'), hI.grown⟩
theorem blJ_len (l : List UInt8) : (blJ l).length ≤ l.length := by unfold blJ; exact (List.dropWhile_sublist _).length_le
theorem txF_len : ∀ (n : Nat) (l t r : List UInt8), txF n l = some (t, r) → r.length < l.length
  | 0, l, t, r, h => by rw [txF] at h; cases h
  | n + 1, [], t, r, h => by rw [txF] at h; cases h
  | n + 1, c :: l, t, r, h => by
    unfold txF at h
    split at h
    · simp at h; rw [← h.2]; simp
    · split at h
      · cases he : escJL l with
        | none => rw [he] at h; cases h
        | some y =>
          obtain ⟨t2, r2⟩ := y
          rw [he] at h
          have h1 := escJL_len he
          dsimp only at h
          cases hf : txF n r2 with
          | none => rw [hf] at h; cases h
          | some z =>
            obtain ⟨t3, r3⟩ := z
            rw [hf] at h
            have h2 := txF_len n r2 t3 r3 hf
            simp at h
            rw [← h.2, List.length_cons]
            omega
      · split at h
        · cases h
        · split at h
          · cases h
          · cases hf : txF n ((c :: l).drop (sign (c :: l))) with
            | none => rw [hf] at h; cases h
            | some z =>
              obtain ⟨t3, r3⟩ := z
              rw [hf] at h
              have h2 := txF_len n _ t3 r3 hf
              rw [List.length_drop] at h2
              simp at h
              rw [← h.2, List.length_cons]
              simp only [List.length_cons] at h2
              omega
theorem txJ_len {l t r : List UInt8} (h : txJ l = some (t, r)) : r.length < l.length := txF_len _ _ _ _ h
/-- behind the key -/
def rowV (f : List UInt8 → Option (JV × List UInt8)) (rec : Bool) (fin : UInt8) (n : Nat) (is : List JV) (ks : List (List UInt8)) (l : List UInt8) : Option ((List JV × List (List UInt8)) × List UInt8) :=
  match f l with
  | none => none
  | some (v, r) => if List.isPrefixOf [fin] (blJ r) = true then some ((is ++ [v], ks), (blJ r).drop 1)
      else if List.isPrefixOf [44] (blJ r) = false then none
      else rowJ f rec fin n (is ++ [v]) ks ((blJ r).drop 1)
variable {f : List UInt8 → Option (JV × List UInt8)} {fin : UInt8} {n : Nat} {is : List JV} {ks : List (List UInt8)} {l : List UInt8}
theorem rowJ_list : rowJ f false fin (n + 1) is ks l = rowV f false fin n is ks l := rfl
theorem rowJ_q (h : List.isPrefixOf [34] (blJ l) = false) : rowJ f true fin (n + 1) is ks l = none := by rw [rowJ, if_pos rfl, if_pos h]
theorem rowJ_t (h : List.isPrefixOf [34] (blJ l) = true) (h2 : txJ ((blJ l).drop 1) = none) : rowJ f true fin (n + 1) is ks l = none := by rw [rowJ, if_pos rfl, if_neg (by rw [h]; simp), h2]
theorem rowJ_c {k r : List UInt8} (h : List.isPrefixOf [34] (blJ l) = true) (h2 : txJ ((blJ l).drop 1) = some (k, r)) (h3 : List.isPrefixOf [58] (blJ r) = false) : rowJ f true fin (n + 1) is ks l = none := by
  rw [rowJ, if_pos rfl, if_neg (by rw [h]; simp), h2]; dsimp only; rw [if_pos h3]
theorem rowJ_k {k r : List UInt8} (h : List.isPrefixOf [34] (blJ l) = true) (h2 : txJ ((blJ l).drop 1) = some (k, r)) (h3 : List.isPrefixOf [58] (blJ r) = true) : rowJ f true fin (n + 1) is ks l = rowV f true fin n is (ks ++ [k]) ((blJ r).drop 1) := by
  rw [rowJ, if_pos rfl, if_neg (by rw [h]; simp), h2]; dsimp only; rw [if_neg (by rw [h3]; simp)]; rfl
theorem rowV_none {rec : Bool} (h : f l = none) : rowV f rec fin n is ks l = none := by rw [rowV, h]
theorem rowV_end {rec : Bool} {v : JV} {r : List UInt8} (h : f l = some (v, r)) (h2 : List.isPrefixOf [fin] (blJ r) = true) : rowV f rec fin n is ks l = some ((is ++ [v], ks), (blJ r).drop 1) := by rw [rowV, h]; dsimp only; rw [if_pos h2]
theorem rowV_bad {rec : Bool} {v : JV} {r : List UInt8} (h : f l = some (v, r)) (h2 : List.isPrefixOf [fin] (blJ r) = false) (h3 : List.isPrefixOf [44] (blJ r) = false) : rowV f rec fin n is ks l = none := by rw [rowV, h]; dsimp only; rw [if_neg (by rw [h2]; simp), if_pos h3]
theorem rowV_go {rec : Bool} {v : JV} {r : List UInt8} (h : f l = some (v, r)) (h2 : List.isPrefixOf [fin] (blJ r) = false) (h3 : List.isPrefixOf [44] (blJ r) = true) : rowV f rec fin n is ks l = rowJ f rec fin n (is ++ [v]) ks ((blJ r).drop 1) := by rw [rowV, h]; dsimp only; rw [if_neg (by rw [h2]; simp), if_neg (by rw [h3]; simp)]
theorem jset_swap (w : World) (a i b j : Nat) (x y : Value) (h : a ≠ b) : (w.setCell ⟨a, i, none⟩ x).setCell ⟨b, j, none⟩ y = (w.setCell ⟨b, j, none⟩ y).setCell ⟨a, i, none⟩ x := by
  simp only [World.setCell]
  congr 1
  apply Array.ext_getElem?
  intro k
  simp only [Array.getElem?_modify]
  by_cases h1 : a = k
  · have h2 : ¬ b = k := fun e => h (h1.trans e.symm)
    simp [h1, h2]
  · simp [h1]
theorem jset_swap6 (w : World) (g1 tg n : Nat) (a b c d e u f : Value) (h : tg ≠ g1) :
    ((((((w.setCell ⟨tg, 4, none⟩ f).setCell ⟨g1, n * 6, none⟩ a).setCell ⟨g1, n * 6 + 1, none⟩ b).setCell ⟨g1, n * 6 + 2, none⟩ c).setCell ⟨g1, n * 6 + 3, none⟩ d).setCell ⟨g1, n * 6 + 4, none⟩ e).setCell ⟨g1, n * 6 + 5, none⟩ u =
    ((((((w.setCell ⟨g1, n * 6, none⟩ a).setCell ⟨g1, n * 6 + 1, none⟩ b).setCell ⟨g1, n * 6 + 2, none⟩ c).setCell ⟨g1, n * 6 + 3, none⟩ d).setCell ⟨g1, n * 6 + 4, none⟩ e).setCell ⟨g1, n * 6 + 5, none⟩ u).setCell ⟨tg, 4, none⟩ f := by
  rw [jset_swap w tg 4 g1 _ f a h, jset_swap _ tg 4 g1 _ f b h, jset_swap _ tg 4 g1 _ f c h, jset_swap _ tg 4 g1 _ f d h, jset_swap _ tg 4 g1 _ f e h, jset_swap _ tg 4 g1 _ f u h]
/-- one item more has been read -/
def Item1 (w0 : World) (g q : Nat) (k : Int) (zs : List Vc) (ks : List (List UInt8)) (kv : Value) (v : JV) (r : List UInt8) (W : World) : Prop :=
  ∃ (z : Vc) (iv6 : Value) (s5 : ByteArray), z.jv = v ∧ IS w0 g q k s5 (zs ++ [z]) ks iv6 kv W ∧ StrIs s5 r
theorem item_two {w0 w6 W : World} {g q n g1 c1 B : Nat} {k : Int} {s : ByteArray} {zs : List Vc} {iv kv iv2 kv2 : Value} {v : JV} {r : List UInt8} (h : IS w0 g q k s zs ks iv kv W) (hs : StrIs s r) (hn : zs.length = n) (hB : q < B ∧ (∀ b, iv.ownBlock = some b → b < B) ∧ (∀ b, kv.ownBlock = some b → b < B) ∧ w0.heap.size ≤ B)
    (hz : KR (fun b => B ≤ b) W kv2 v.keys ∧ VR (fun b => B ≤ b) W iv2 v.items)
    (hown : w6.ownsRow w0.heap.size 28 6 (.slice (some ⟨g1, 0, none⟩) (n + 1) c1) (n + 1) (vcsCells zs ++ [.int .i64 0, .int .i64 0, .int .u64 0, .string ⟨#[]⟩, .slice none 0 0, .slice none 0 0])) (hg : W.grownBy w6 iv.ownBlock) (hgb : iv.ownBlock = some g1 ∨ g1 = W.heap.size) :
    g1 ≠ q ∧ q ≠ g1 ∧ w6.cell? ⟨q, 4, none⟩ = some iv ∧ w6.frozen? ⟨q, 4, none⟩ = false ∧
    w6.cell? ⟨g1, n * 6, none⟩ = some (.int .i64 0) ∧ w6.cell? ⟨g1, n * 6 + 1, none⟩ = some (.int .i64 0) ∧ w6.cell? ⟨g1, n * 6 + 2, none⟩ = some (.int .u64 0) ∧ w6.cell? ⟨g1, n * 6 + 3, none⟩ = some (.string ⟨#[]⟩) ∧ w6.cell? ⟨g1, n * 6 + 4, none⟩ = some (.slice none 0 0) ∧ w6.cell? ⟨g1, n * 6 + 5, none⟩ = some (.slice none 0 0) ∧
    w6.frozen? ⟨g1, n * 6, none⟩ = false ∧ w6.frozen? ⟨g1, n * 6 + 1, none⟩ = false ∧ w6.frozen? ⟨g1, n * 6 + 2, none⟩ = false ∧ w6.frozen? ⟨g1, n * 6 + 3, none⟩ = false ∧ w6.frozen? ⟨g1, n * 6 + 4, none⟩ = false ∧ w6.frozen? ⟨g1, n * 6 + 5, none⟩ = false ∧
    Hid (Item1 w0 g q k zs ks kv v r (((((((w6.setCell ⟨g1, n * 6, none⟩ (.int .i64 v.kind)).setCell ⟨g1, n * 6 + 1, none⟩ (.int .i64 v.num)).setCell ⟨g1, n * 6 + 2, none⟩ (.int .u64 v.bits)).setCell ⟨g1, n * 6 + 3, none⟩ (.string ⟨v.text.toArray⟩)).setCell ⟨g1, n * 6 + 4, none⟩ iv2).setCell ⟨g1, n * 6 + 5, none⟩ kv2).setCell ⟨q, 4, none⟩ (.slice (some ⟨g1, 0, none⟩) (n + 1) c1))) ∧
    Hid (Item1 w0 g q k zs ks kv v r (((((((w6.setCell ⟨q, 4, none⟩ (.slice (some ⟨g1, 0, none⟩) (n + 1) c1)).setCell ⟨g1, n * 6, none⟩ (.int .i64 v.kind)).setCell ⟨g1, n * 6 + 1, none⟩ (.int .i64 v.num)).setCell ⟨g1, n * 6 + 2, none⟩ (.int .u64 v.bits)).setCell ⟨g1, n * 6 + 3, none⟩ (.string ⟨v.text.toArray⟩)).setCell ⟨g1, n * 6 + 4, none⟩ iv2).setCell ⟨g1, n * 6 + 5, none⟩ kv2)) := by
  obtain ⟨⟨h1, h2⟩, ⟨h3, h4⟩, ⟨k0, k1, k2, k3, k4, k5⟩, hff, HI⟩ := IS.item (z := ⟨v, iv2, kv2⟩) h hn hB hz hown hg (hgb.imp id (fun h => Nat.le_of_eq h.symm))
  have HA : Item1 w0 g q k zs ks kv v r _ := ⟨⟨v, iv2, kv2⟩, _, s, rfl, HI.out, hs⟩
  have HB := HA
  dsimp only at HA HB
  rw [← jset_swap6 _ _ _ _ _ _ _ _ _ _ _ h2] at HB
  exact ⟨h1, h2, h3, h4, k0, k1, k2, k3, k4, k5, hff _, hff _, hff _, hff _, hff _, hff _, HA, HB⟩
theorem jdrew_grown {w w' : World} {g : Nat} (h : w.grownBy w' (some g)) : w.grownBy w'.drew (some g) := ⟨h.os, h.tape, h.output, h.size, h.block⟩
theorem below_drew (w : World) : Below w.heap.size w w.drew := ⟨rfl, rfl, rfl, Nat.le_refl _, fun _ _ => rfl⟩
end Go.Proofs.YthmcacgkhpigaaaDoor.S
