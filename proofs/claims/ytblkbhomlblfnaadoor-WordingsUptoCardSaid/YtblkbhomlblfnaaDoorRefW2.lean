/-
  THE WALK of the reference's words: path.
-/
import Derived.Test.YtblkbhomlblfnaaDoorRefW1
import Derived.Test.YtblkbhomlblfnaaDoorSameW
set_option linter.unusedVariables false
set_option linter.unusedSimpArgs false
namespace Go.Proofs.YtblkbhomlblfnaaDoor.S
open Go.RowKit

/-- a path's outcome -/
def PtPost (T : Except Nat (List (List UInt8) × List UInt8)) (w : World) (g : Nat) (s : ByteArray) (p : Nat) (e : Ending) (w' : World) : Prop :=
  ∃ (v : Value) (xs : List (List UInt8)) (p' e' : Nat), e = .returned v ∧ Strs w.heap.size v xs w' ∧ Cr g s p' e' w' ∧ p ≤ p' ∧ p' ≤ s.size ∧ w.grownBy w' (some g) ∧
    (∀ ys r', T = .ok (ys, r') → e' = 0 ∧ xs = ys ∧ s.data.toList.drop p' = r') ∧ (∀ c, T = .error c → e' = c)
theorem nameL_err {l : List UInt8} {c : Nat} (h : nameL l = .error c) : c = 1400 := by
  unfold nameL at h
  split at h
  · cases h
  · cases h; rfl
/-- how far a path is read -/
def PtInv (T : Except Nat (List (List UInt8) × List UInt8)) (xs : List (List UInt8)) (e : Nat) (l : List UInt8) : Prop :=
  (e = 0 ∧ ((xs.length ≤ 8 ∧ ∃ n, n + 1 + xs.length = 9 ∧ PathAt T xs (n + 1) xs.length l) ∨ (8 < xs.length ∧ T = .error 1400))) ∨ (e = 1400 ∧ T = .error 1400)
def pathGo (e : Nat) (l : List UInt8) : Bool := e == 0 && List.isPrefixOf [46] l
theorem PtInv.next {T : Except Nat (List (List UInt8) × List UInt8)} {xs : List (List UInt8)} {l : List UInt8} {r : ByteArray} {e' : Nat} {l' : List UInt8} (h : PtInv T xs 0 l) (hp : List.isPrefixOf [46] l = true)
    (hok : ∀ x r', nameL (l.drop 1) = .ok (x, r') → e' = 0 ∧ StrIs r x ∧ l' = r') (her : ∀ c, nameL (l.drop 1) = .error c → e' = c) : PtInv T (xs ++ [r.data.toList]) e' l' := by
  have hl : (xs ++ [r.data.toList]).length = xs.length + 1 := by simp
  rcases h with ⟨-, h⟩ | ⟨h, _⟩
  · cases hn : nameL (l.drop 1) with
    | error c =>
      obtain rfl := her c hn
      obtain rfl := nameL_err hn
      rcases h with ⟨_, n, _, hA⟩ | ⟨_, hT⟩
      · exact .inr ⟨rfl, path_err hA hp hn⟩
      · exact .inr ⟨rfl, hT⟩
    | ok y =>
      obtain ⟨x, r'⟩ := y
      obtain ⟨rfl, hr, rfl⟩ := hok x r' hn
      obtain rfl : r.data.toList = x := hr
      rcases h with ⟨h8, n, hn9, hA⟩ | ⟨h8, hT⟩
      · by_cases hk : xs.length + 1 ≤ 8
        · refine .inl ⟨rfl, .inl ⟨by omega, n - 1, by omega, ?_⟩⟩
          rw [hl, show n - 1 + 1 = n by omega]
          exact path_go hA hp hn hk
        · exact .inl ⟨rfl, .inr ⟨by omega, path_many hA hp hn hk⟩⟩
      · exact .inl ⟨rfl, .inr ⟨by omega, hT⟩⟩
  · cases h

set_option maxRecDepth 100000 in
set_option maxHeartbeats 8000000 in
theorem rpath_calls (g : Nat) (s : ByteArray) (p : Nat) (w : World) (hB : Cr g s p 0 w) (hp : p ≤ s.size) (hs : s.size ≤ 1073741824) :
    Calls Tryd.prog 75 #[.pointer (some ⟨g, 0, none⟩)] w fun e w' => PtPost (pathL (s.data.toList.drop p)) w g s p e w' := by
  have hgl := hB.lt
  have hll := size_list s
  obtain ⟨T, hT⟩ : ∃ T, T = pathL (s.data.toList.drop p) := ⟨_, rfl⟩
  have hT0 : PtInv T [] 0 (s.data.toList.drop p) := .inl ⟨rfl, .inl ⟨by simp, 8, rfl, by
    unfold PathAt
    rw [hT]
    show pathF 9 0 _ = _
    cases pathF 9 0 (s.data.toList.drop p) <;> rfl⟩⟩
  rw [← hT]
  clear hT
  go_enter Tryd.func75, Tryd.ntmps75
  go_wp2
  go_loopg [3] (s.size - p) (fun gk v3 wr => ∃ (xs : List (List UInt8)) (q x : Nat), Strs w.heap.size v3 xs wr ∧ Cr g s q x wr ∧ p ≤ q ∧ gk + q = s.size ∧ w.grownBy wr (some g) ∧ xs.length + p ≤ q ∧ Hid (PtInv T xs x (s.data.toList.drop q)))
  case atStart => exact ⟨[], p, 0, strs_nil _ _, hB, Nat.le_refl _, by omega, World.grownBy.refl _ _, by simp, hT0⟩
  case round =>
    obtain ⟨xs, q, x, hS, hBk, hpq, hgk, hg, hxl, hI⟩ := hrel
    obtain ⟨sa, sc, rfl⟩ := hS.slice
    have HGK := Lib.hid hgk
    have hks : q ≤ s.size := by omega
    clear hgk hT0
    have c0 := hBk.cell 0 _ rfl
    have c1 := hBk.cell 1 _ rfl
    have c2 := hBk.cell 2 _ rfl
    go_upto_region 2 with (fail)
    go_cut [32] (fun v32 wx => v32 = .bool (pathGo x (s.data.toList.drop q)) ∧ Strs w.heap.size (.slice sa xs.length sc) xs wx ∧ Cr g s q x wx ∧ w.grownBy wx (some g))
    case first =>
      have HBK := Lib.hid hBk
      have HSS := Lib.hid hS
      clear hBk hS hI
      by_cases hx : x = 0
      · subst hx
        by_cases h : q < s.size
        · have hdc := drop_cons s q h
          obtain ⟨b, hb⟩ : ∃ b : UInt8, b = s[q]'h := ⟨_, rfl⟩
          have hbt : ∀ h', ((s[q]'h').toNat : Nat) = b.toNat := fun h' => by rw [hb]
          rw [← hb] at hdc
          have hlt := b.toNat_lt
          have hgo : pathGo 0 (s.data.toList.drop q) = ((b.toNat : Int) == 46) := by
            rw [hdc]
            show (46 == b && true) = _
            rw [Bool.and_true, Bool.eq_iff_iff, beq_iff_eq, beq_iff_eq]
            exact ⟨fun e => by rw [← e]; rfl, fun e => (UInt8.toNat_inj.1 (by show b.toNat = 46; omega)).symm⟩
          have HGO := Lib.hid hgo
          clear hdc hb hgo
          generalize b.toNat = c at *
          have hjb : decide ((q : Int) < (s.size : Int)) = true := decide_eq_true (by omega)
          go_quiet (fail)
          go_wp2_with fail
          go_meet
          exact ⟨by rw [HGO.out], HSS.out.drewN _, HBK.out.drewN _, hg.trans (grownBy_drewN wr _ _)⟩
        · obtain rfl : q = s.size := by omega
          have hjb : decide ((s.size : Int) < (s.size : Int)) = false := decide_eq_false (by omega)
          have hgo : pathGo 0 (s.data.toList.drop s.size) = false := by rw [List.drop_eq_nil_of_le (Nat.le_of_eq hll)]; rfl
          have HGO := Lib.hid hgo
          clear hgo
          go_quiet (fail)
          go_wp2_with fail
          go_meet
          exact ⟨by rw [HGO.out], HSS.out.drewN _, HBK.out.drewN _, hg.trans (grownBy_drewN wr _ _)⟩
      · have hxb : ((x : Int) == 0) = false := beq_eq_false_iff_ne.2 (by omega)
        have hgo : pathGo x (s.data.toList.drop q) = false := by unfold pathGo; rw [show (x == 0) = false from beq_eq_false_iff_ne.2 hx]; rfl
        have HGO := Lib.hid hgo
        clear hgo hx
        go_quiet (fail)
        go_wp2_with fail
        go_meet
        exact ⟨by rw [HGO.out], HSS.out.drewN _, HBK.out.drewN _, hg.trans (grownBy_drewN wr _ _)⟩
    case rest =>
    obtain ⟨rfl, hSx, hBx, hgx⟩ := hcut
    clear hg hBk hS c0 c1 c2
    have c1 := hBx.cell 1 _ rfl
    have f1 := hBx.free 1
    cases hgo : pathGo x (s.data.toList.drop q) with
    | true =>
      unfold pathGo at hgo
      rw [Bool.and_eq_true] at hgo
      obtain ⟨hx, hpre⟩ := hgo
      obtain rfl : x = 0 := beq_iff_eq.1 hx
      have hq : q < s.size := by
        refine Nat.lt_of_le_of_ne hks fun e => ?_
        rw [e, List.drop_eq_nil_of_le (Nat.le_of_eq hll)] at hpre
        cases hpre
      have hd1 : (s.data.toList.drop q).drop 1 = s.data.toList.drop (q + 1) := by rw [List.drop_drop]
      have hnext := fun (r : ByteArray) e' l' => hI.out.next (r := r) (e' := e') (l' := l') hpre
      rw [hd1] at hnext
      have HNX := Lib.hid hnext
      have hB1 := hBx.at0 (q + 1) ((q : Int) + 1) (by omega)
      have hS1 := hSx.grown (grownBy_set _ g 1 (.int .i64 ((q : Int) + 1))) hgl
      have hg1 := hgx.trans (grownBy_set _ g 1 (.int .i64 ((q : Int) + 1)))
      clear hnext hd1 hpre hx hI
      go_wp2_with fail
      refine (rname_calls g s (q + 1) _ hB1 (by omega) (by omega)).mono ?_
      rintro e w2 ⟨r, p', e', rfl, hB2, hp1, hp2, hg2, hok, her⟩
      have hI2 := HNX.out r e' _ hok her
      have hS2 := hS1.grown hg2 hgl
      have hg12 := hg1.trans hg2
      have hz2 := hg12.size
      have hy : StrIs r r.data.toList := rfl
      have hI3 := Lib.hid hI2
      clear hI2 hok her hB1 hS1 hg1 c1 f1
      go_wp2_with (at_builtin; refine wp_appStr w.heap.size rfl (.tmp 40) (.tmp 43) rfl (.slice sa xs.length sc) xs r _ hy 1 rfl rfl hS2 hz2 (by omega) ?_; intro v3 w3 hO3 hg3; have hB3 := hB2.grown hg3 (fun e => by have := own_base hS2 g e.symm; omega); have hgr3 := grown_more hg12 hS2 (Nat.le_refl _) hg3)
      go_roundg (s.size - p')
      case measure => have := HGK.out; omega
      case rel => exact ⟨xs ++ [r.data.toList], p', e', hO3, hB3, by omega, by omega, hgr3, by simp; omega, hI3.out⟩
    | false =>
      have hfin : (x = 0 → xs.length ≤ 8 → T = .ok (xs, s.data.toList.drop q)) ∧ (x = 0 → 8 < xs.length → T = .error 1400) ∧ (x ≠ 0 → x = 1400 ∧ T = .error 1400) := by
        rcases hI.out with ⟨rfl, h⟩ | ⟨rfl, hT⟩
        · refine ⟨fun _ h8 => ?_, fun _ h8 => ?_, fun h => absurd rfl h⟩
          · rcases h with ⟨_, n, _, hA⟩ | ⟨h9, _⟩
            · exact path_end hA (by unfold pathGo at hgo; simpa using hgo)
            · omega
          · rcases h with ⟨h9, _⟩ | ⟨_, hT⟩
            · omega
            · exact hT
        · exact ⟨fun h => absurd h (by decide), fun h => absurd h (by decide), fun _ => ⟨rfl, hT⟩⟩
      have HF := Lib.hid hfin
      clear hfin hI hgo
      by_cases h8 : 8 < xs.length
      · have hb8 : decide ((8 : Int) < (xs.length : Int)) = true := decide_eq_true (by omega)
        by_cases hx : x = 0
        · subst hx
          have HT := Lib.hid (HF.out.2.1 rfl h8)
          go_wp2_with (go_at_call 50; refine (rfail_calls g s q 1400 _ hBx).mono ?_; rintro e w9 ⟨rfl, hB9, hg9⟩; have hS9 := hSx.grown hg9 hgl)
          go_ret
          refine ⟨_, xs, q, 1400, rfl, hS9, hB9, hpq, hks, hgx.trans hg9, fun ys r' h => ?_, fun c h => ?_⟩
          · rw [HT.out] at h; cases h
          · rw [HT.out] at h; cases h; rfl
        · have HT := Lib.hid (HF.out.2.2 hx)
          go_wp2_with (go_at_call 50; refine (rfail_again g s q x 1400 _ hBx hx).mono ?_; rintro e w9 ⟨rfl, rfl⟩)
          go_ret
          refine ⟨_, xs, q, x, rfl, hSx, hBx, hpq, hks, hgx, fun ys r' h => ?_, fun c h => ?_⟩
          · rw [HT.out.2] at h; cases h
          · rw [HT.out.2] at h; cases h; exact HT.out.1
      · have hb8 : decide ((8 : Int) < (xs.length : Int)) = false := decide_eq_false (by omega)
        go_wp2
        go_ret
        by_cases hx : x = 0
        · subst hx
          have hT := HF.out.1 rfl (by omega)
          refine ⟨_, xs, q, 0, rfl, hSx, hBx, hpq, hks, hgx, fun ys r' h => ?_, fun c h => ?_⟩
          · rw [hT] at h; cases h; exact ⟨rfl, rfl, rfl⟩
          · rw [hT] at h; cases h
        · have HT := HF.out.2.2 hx
          refine ⟨_, xs, q, x, rfl, hSx, hBx, hpq, hks, hgx, fun ys r' h => ?_, fun c h => ?_⟩
          · rw [HT.2] at h; cases h
          · rw [HT.2] at h; cases h; exact HT.1
/-- behind an error no path is read -/
theorem rpath_none (g : Nat) (s : ByteArray) (p x : Nat) (w : World) (hB : Cr g s p x w) (hx : x ≠ 0) :
    Calls Tryd.prog 75 #[.pointer (some ⟨g, 0, none⟩)] w fun e w' => e = .returned (.slice none 0 0) ∧ ∃ m, w' = w.drewN m := by
  have c2 := hB.cell 2 _ rfl
  have hxb : ((x : Int) == 0) = false := beq_eq_false_iff_ne.2 (by omega)
  clear hx
  go_enter Tryd.func75, Tryd.ntmps75
  go_wp2
  go_loopg [3] 1 (fun gk v3 wr => v3 = .slice none 0 0 ∧ wr = w)
  case atStart => exact ⟨rfl, rfl⟩
  case round =>
    obtain ⟨rfl, rfl⟩ := hrel
    go_upto_region 2 with (fail)
    go_quiet (fail)
    go_wp2
    go_ret
    exact ⟨rfl, _, rfl⟩
end Go.Proofs.YtblkbhomlblfnaaDoor.S
