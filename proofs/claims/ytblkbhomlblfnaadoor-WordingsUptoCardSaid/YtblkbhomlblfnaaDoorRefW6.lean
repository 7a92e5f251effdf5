/-
  THE WALK of the reference's Words.
-/
import Derived.Test.YtblkbhomlblfnaaDoorRefW5
import Derived.Test.YtblkbhomlblfnaaDoorWordTop
set_option linter.unusedVariables false
set_option linter.unusedSimpArgs false
namespace Go.Proofs.YtblkbhomlblfnaaDoor.S
open Go.RowKit

theorem textL_err2 : ∀ (m : Nat) (l : List UInt8) (c : Nat), l.length ≤ m → textL l = .error c → c = 1401
  | m, [], c, _, h => by rw [textL.eq_def] at h; cases h; rfl
  | 0, b :: t, c, hm, h => by simp at hm
  | m + 1, b :: t, c, hm, h => by
    simp only [List.length_cons] at hm
    by_cases h1 : b = 34
    · subst h1
      rw [textL_quote] at h
      cases h
    · by_cases h2 : b = 92
      · subst h2
        cases t with
        | nil => rw [textL_esc0] at h; cases h; rfl
        | cons d t =>
          rw [textL_esc] at h
          cases he : escW d.toNat with
          | none => rw [he] at h; cases h; rfl
          | some z =>
            rw [he] at h
            cases ht : textL t with
            | error e => rw [ht] at h; cases h; exact textL_err2 m t _ (by simp only [List.length_cons] at hm; omega) ht
            | ok y => rw [ht] at h; cases h
      · rw [textL_plain b t h1 h2] at h
        cases ht : textL t with
        | error e => rw [ht] at h; cases h; exact textL_err2 m t _ (by omega) ht
        | ok y => rw [ht] at h; cases h
theorem numL_err {l : List UInt8} {c : Nat} (h : numL l = .error c) : c = 1402 := by
  obtain ⟨q, hq⟩ : ∃ q, q = (if List.isPrefixOf [45] l = true then l.drop 1 else l) := ⟨_, rfl⟩
  have h' : (if 0 < digN q ∧ digV 0 (q.take (digN q)) ≤ 9007199254740991 then (Except.ok ((if List.isPrefixOf [45] l = true then -(digV 0 (q.take (digN q)) : Int) else digV 0 (q.take (digN q))), q.drop (digN q)) : Except Nat (Int × List UInt8)) else .error 1402) = .error c := by rw [hq]; exact h
  by_cases hc : 0 < digN q ∧ digV 0 (q.take (digN q)) ≤ 9007199254740991
  · rw [if_pos hc] at h'; cases h'
  · rw [if_neg hc] at h'; cases h'; rfl
theorem pathF_err : ∀ (n k : Nat) (l : List UInt8) (c : Nat), pathF n k l = .error c → c = 1400
  | 0, k, l, c, h => by cases h
  | n + 1, k, l, c, h => by
    rw [pathF] at h
    split at h
    · cases hn : nameL (l.drop 1) with
      | error e => rw [hn] at h; cases h; exact nameL_err hn
      | ok y =>
        obtain ⟨x, r⟩ := y
        rw [hn] at h
        dsimp only at h
        split at h
        · cases hp : pathF n (k + 1) r with
          | error e => rw [hp] at h; cases h; exact pathF_err n _ _ _ hp
          | ok z => rw [hp] at h; cases h
        · cases h; rfl
    · cases h
theorem map_err {α β : Type} {f : α → β} {x : Except Nat α} {c : Nat} (h : x.map f = .error c) : x = .error c := by
  cases x with
  | error e => cases h; rfl
  | ok z => cases h
theorem wordL_err {l : List UInt8} {c : Nat} (h : wordL l = .error c) : c ≠ 0 := by
  unfold wordL at h
  split at h
  · cases h
  · split at h
    · rw [textL_err2 _ _ _ (Nat.le_refl _) (map_err h)]; decide
    · split at h
      · rw [numL_err (map_err h)]; decide
      · split at h
        · unfold fieldL at h
          split at h
          · rw [pathF_err _ _ _ _ (map_err h)]; decide
          · cases h
        · split at h
          · cases hn : nameL (l.drop 1) with
            | error e => rw [hn] at h; cases h; rw [nameL_err hn]; decide
            | ok y =>
              obtain ⟨x, r⟩ := y
              rw [hn] at h
              rw [pathF_err _ _ _ _ (map_err h)]; decide
          · split at h
            · rw [nameL_err (map_err h)]; decide
            · cases h; decide
theorem wordL_kind {l r : List UInt8} {d : Wd} (h : wordL l = .ok (d, r)) : d.kind ≠ 5 := by
  unfold wordL at h
  split at h
  · cases h; simp
  · split at h
    · obtain ⟨z, _, hy⟩ := map_ok h; cases hy; simp
    · split at h
      · obtain ⟨z, _, hy⟩ := map_ok h; cases hy; simp
      · split at h
        · unfold fieldL at h
          split at h
          · obtain ⟨z, _, hy⟩ := map_ok h; cases hy; simp
          · cases h; simp
        · split at h
          · cases hn : nameL (l.drop 1) with
            | error e => rw [hn] at h; cases h
            | ok y =>
              obtain ⟨x, r⟩ := y
              rw [hn] at h
              obtain ⟨z, _, hy⟩ := map_ok h; cases hy; simp
          · split at h
            · obtain ⟨z, _, hy⟩ := map_ok h; cases hy; simp
            · cases h
def blkGo (l : List UInt8) : Bool := match l with
  | [] => false
  | b :: _ => blk b.toNat
theorem trimL_no {l : List UInt8} (h : blkGo l = false) : trimL l = l := by
  cases l with
  | nil => rfl
  | cons b t => exact trimL_first h
theorem ends_not (e kd : Nat) (l : List UInt8) : (e == 0 && kd != 5 && !ends l) = match l with
    | [] => false
    | b :: _ => e == 0 && kd != 5 && !blk b.toNat && b.toNat != 124 := by
  cases l with
  | nil => show (_ && !true) = false; simp
  | cons b t =>
    show (e == 0 && !(kd == 5) && !(false || b.toNat == 124 || blk b.toNat)) = (e == 0 && !(kd == 5) && !blk b.toNat && !(b.toNat == 124))
    generalize (b.toNat == 124) = x
    generalize blk b.toNat = y
    generalize (kd == 5) = z
    generalize (e == 0) = a
    cases x <;> cases y <;> cases z <;> cases a <;> rfl
/-- one round of all words, by its word -/
theorem all_err' {T : Except Nat (List Wd)} {acc : List Wd} {n : Nat} {l : List UInt8} {c : Nat} (h : AllAt T acc (n + 1) l) (ht : trimL l ≠ []) (hw : wordP (trimL l) = .error c) : T = .error c ∧ c ≠ 0 := by
  unfold wordP at hw
  split at hw
  · cases hw
  · rename_i hp
    exact ⟨all_err h ht (Bool.eq_false_iff.2 hp) hw, wordL_err hw⟩
theorem all_ok' {T : Except Nat (List Wd)} {acc : List Wd} {n : Nat} {l r : List UInt8} {d : Wd} (h : AllAt T acc (n + 1) l) (ht : trimL l ≠ []) (hw : wordP (trimL l) = .ok (d, r)) :
    r.length + 1 ≤ (trimL l).length ∧ (d.kind = 5 → AllAt T (acc ++ [d]) n r) ∧ (d.kind ≠ 5 → ends r = true → AllAt T (acc ++ [d]) n r) ∧ (d.kind ≠ 5 → ends r = false → T = .error 1400) := by
  unfold wordP at hw
  split at hw
  · rename_i hp
    cases hw
    have h1 := all_pipe h ht hp
    refine ⟨?_, fun _ => h1, fun hk => absurd rfl hk, fun hk => absurd rfl hk⟩
    have := List.length_pos_iff.2 ht
    rw [List.length_drop]
    omega
  · rename_i hp
    have hp' : List.isPrefixOf [124] (trimL l) = false := Bool.eq_false_iff.2 hp
    exact ⟨wordL_len ht hw, fun hk => absurd hk (wordL_kind hw), fun _ he => all_go h ht hp' hw he, fun _ he => all_ends h ht hp' hw he⟩

set_option maxRecDepth 100000 in
set_option maxHeartbeats 8000000 in
theorem rwords_calls (s : ByteArray) (w : World) (hs : s.size ≤ 1073741824) :
    Calls Tryd.prog 20 #[.string s] w fun e w' => ∃ v ds n, e = .returned (.tuple #[v, .int .i64 (n : Nat)]) ∧ Wds w.heap.size v ds w' ∧ Below w.heap.size w w' ∧ wordsL s.data.toList = (ds, n) := by
  have hll := size_list s
  obtain ⟨T, hT⟩ : ∃ T, T = allF (s.data.toList.length + 1) s.data.toList := ⟨_, rfl⟩
  have hA0 : AllAt T [] (s.size + 1) (s.data.toList.drop 0) := by
    unfold AllAt
    rw [hT, hll]
    show _ = (allF (s.size + 1) s.data.toList).map _
    cases allF (s.size + 1) s.data.toList <;> rfl
  have hfin : (∀ ds, T = .ok ds → wordsL s.data.toList = (ds, 0)) ∧ (∀ c, T = .error c → wordsL s.data.toList = ([], c)) := ⟨fun ds h => wordsL_ok (hT.symm.trans h), fun c h => wordsL_err (hT.symm.trans h)⟩
  have HFIN := Lib.hid hfin
  clear hT hfin
  obtain ⟨g, hg⟩ : ∃ g, g = w.heap.size := ⟨_, rfl⟩
  have hB : Cr g s 0 0 (w.alloc (.cells #[.string s, .int .i64 0, .int .i64 0] 83)) := by rw [hg]; exact Blk.new w [.string s, .int .i64 0, .int .i64 0] _
  have hb1 : Below w.heap.size w (w.alloc (.cells #[.string s, .int .i64 0, .int .i64 0] 83)) := (Below.refl _ w).alloc (Nat.le_refl _) _
  have hz1 : (w.alloc (.cells #[.string s, .int .i64 0, .int .i64 0] 83)).heap.size = g + 1 := by rw [hg]; simp
  go_enter Tryd.func20, Tryd.ntmps20
  go_upto_region 2 with (fail)
  rw [← hg]
  generalize w.alloc _ = w1 at *
  have HG := Lib.hid hg
  clear hg
  go_wp2
  go_loopg [5, 6] s.size (fun gk v5 _ wr => ∃ (acc : List Wd) (q : Nat), Wds (g + 1) v5 acc wr ∧ Cr g s q 0 wr ∧ q ≤ s.size ∧ s.size ≤ gk + q ∧ w1.grownBy wr (some g) ∧ acc.length ≤ q ∧ Hid (AllAt T acc (gk + 1) (s.data.toList.drop q)))
  case atStart => exact ⟨[], 0, wds_nil _ _, hB, Nat.zero_le _, by omega, World.grownBy.refl _ _, Nat.le_refl _, hA0⟩
  case round =>
    obtain ⟨acc, q, hO, hBk, hqs, hgq, hgr, hal, hA⟩ := hrel
    obtain ⟨va, vc, rfl⟩ := hO.slice
    obtain ⟨G0, hG0⟩ : ∃ G0, G0 = gk := ⟨_, rfl⟩
    rw [← hG0] at hgq hA
    have HG0 := Lib.hid hG0
    clear hA0 hG0
    go_wp2
    go_loopg [] (s.size - q) (fun gj wr => ∃ j, Cr g s j 0 wr ∧ Wds (g + 1) (.slice va acc.length vc) acc wr ∧ q ≤ j ∧ gj + j = s.size ∧ w1.grownBy wr (some g) ∧ Hid (trimL (s.data.toList.drop j) = trimL (s.data.toList.drop q)))
    case atStart => exact ⟨q, hBk, hO, Nat.le_refl _, by omega, hgr, rfl⟩
    case round =>
      obtain ⟨j, hBj, hOj, hqj, hgj, hgrj, hTR⟩ := hrel
      have HGJ := Lib.hid hgj
      have hjs : j ≤ s.size := by omega
      clear hgj hBk hO hgr
      have c0 := hBj.cell 1 _ rfl
      go_upto_region 3 with (fail)
      go_cut [25] (fun v25 wx => v25 = .bool (blkGo (s.data.toList.drop j)) ∧ Cr g s j 0 wx ∧ Wds (g + 1) (.slice va acc.length vc) acc wx ∧ w1.grownBy wx (some g))
      case first =>
        have HBJ := Lib.hid hBj
        have HOJ := Lib.hid hOj
        clear hBj hOj
        by_cases h : j < s.size
        · have hdc := drop_cons s j h
          obtain ⟨b, hb⟩ : ∃ b : UInt8, b = s[j]'h := ⟨_, rfl⟩
          have hbt : ∀ h', ((s[j]'h').toNat : Nat) = b.toNat := fun h' => by rw [hb]
          rw [← hb] at hdc
          have hlt := b.toNat_lt
          have hgo : blkGo (s.data.toList.drop j) = blk b.toNat := by rw [hdc]; rfl
          have HGO := Lib.hid hgo
          clear hdc hb hgo
          generalize b.toNat = c at *
          have hjb : decide ((j : Int) < (s.size : Int)) = true := decide_eq_true (by omega)
          go_wp2_with (go_at_call 48; refine (rblank_calls c _ hlt).mono ?_; rintro e w3 ⟨rfl, rfl⟩)
          go_meet
          exact ⟨by rw [HGO.out], HBJ.out, HOJ.out, hgrj⟩
        · have hgo : blkGo (s.data.toList.drop j) = false := by rw [List.drop_eq_nil_of_le (by rw [hll]; omega)]; rfl
          have HGO := Lib.hid hgo
          clear hgo
          have hjb : decide ((j : Int) < (s.size : Int)) = false := decide_eq_false (by omega)
          go_wp2_with fail
          go_meet
          exact ⟨by rw [HGO.out], HBJ.out, HOJ.out, hgrj⟩
      case rest =>
      obtain ⟨rfl, hBj, hOj, hgrj⟩ := hcut
      clear c0
      cases hgo : blkGo (s.data.toList.drop j) with
      | true =>
        have h : j < s.size := by
          refine Nat.lt_of_le_of_ne hjs fun e => ?_
          rw [e, List.drop_eq_nil_of_le (Nat.le_of_eq hll)] at hgo
          cases hgo
        have hdc := drop_cons s j h
        have ht : trimL (s.data.toList.drop (j + 1)) = trimL (s.data.toList.drop q) := by
          rw [← hTR.out, hdc, trimL_cons, if_pos (by rw [hdc] at hgo; exact hgo)]
        have HT2 := Lib.hid ht
        have c1 := hBj.cell 1 _ rfl
        have f1 := hBj.free 1
        clear hdc ht hgo hTR
        go_wp2
        go_roundg (gk - 1)
        case measure => have := HGJ.out; omega
        case rel => exact ⟨j + 1, hBj.at0 (j + 1) _ (by go_num), hOj.grown (grownBy_set _ g 1 _) (Nat.lt_succ_self g), by omega, by have := HGJ.out; omega, hgrj.trans (grownBy_set _ g 1 _), HT2.out⟩
      | false =>
        have htr : trimL (s.data.toList.drop q) = s.data.toList.drop j := by rw [← hTR.out]; exact trimL_no hgo
        have c1 := hBj.cell 1 _ rfl
        clear hgo hTR
        by_cases h : j < s.size
        · have hjb : decide ((j : Int) < (s.size : Int)) = true := decide_eq_true (by omega)
          have hjg : decide ((s.size : Int) ≤ (j : Int)) = false := decide_eq_false (by omega)
          have hne : trimL (s.data.toList.drop q) ≠ [] := by rw [htr, drop_cons s j h]; simp
          have herr := fun c hw => all_err' (c := c) hA.out hne hw
          have hok := fun d r hw => all_ok' (d := d) (r := r) hA.out hne hw
          rw [htr] at herr hok
          have HERR := Lib.hid herr
          have HOKK := Lib.hid hok
          clear herr hok hne htr hA
          go_wp2_with fail
          refine (rword_calls g s j _ hBj h hs).mono ?_
          rintro e w2 ⟨kd, tx, pv, nm, p', e', rfl, ⟨a, n, c, rfl⟩, hB2, hp1, hp2, hg2, hok, her⟩
          have hO2 := hOj.grown hg2 (Nat.lt_succ_self g)
          have hgr2 := hgrj.trans hg2
          have hgl2 := hBj.lt
          have hcase : (e' = 0 ∧ ∃ d : Wd, kd = d.kind ∧ StrIs tx d.text ∧ nm = d.num ∧ Strs (g + 1) (.slice a n c) d.path w2 ∧ j < p' ∧ (kd = 5 → AllAt T (acc ++ [d]) G0 (s.data.toList.drop p')) ∧ (kd ≠ 5 → ends (s.data.toList.drop p') = true → AllAt T (acc ++ [d]) G0 (s.data.toList.drop p')) ∧ (kd ≠ 5 → ends (s.data.toList.drop p') = false → T = .error 1400)) ∨ (e' ≠ 0 ∧ T = .error e') := by
            cases hV : wordP (s.data.toList.drop j) with
            | error c' =>
              obtain rfl := her c' hV
              obtain ⟨h1, h2⟩ := HERR.out _ hV
              exact .inr ⟨h2, h1⟩
            | ok y =>
              obtain ⟨d, r⟩ := y
              obtain ⟨k1, k2, k3, k4⟩ := HOKK.out d r hV
              rcases hok d r hV with ⟨h0, h1, h2, h3, h4, h5⟩ | ⟨h0, h1, h2⟩
              · subst h5
                rw [List.length_drop, List.length_drop, hll] at k1
                exact .inl ⟨h0, d, h1, h2, h3, World.ownsRow.mono h4 hgl2, by omega, by rw [h1]; exact k2, by rw [h1]; exact k3, by rw [h1]; exact k4⟩
              · exact .inr ⟨by rw [h0]; decide, by rw [h0]; exact k4 h1 h2⟩
          have HCASE := Lib.hid hcase
          clear hcase hok her HERR HOKK
          have hV : Blk w2.heap.size 40 [.int .i64 kd, .string tx, .slice a n c, .int .i64 nm] (w2.alloc (.cells #[.int .i64 kd, .string tx, .slice a n c, .int .i64 nm] 40)) := Blk.new w2 _ 40
          have hgn : ∀ row, w2.grownBy (w2.alloc (.cells #[.int .i64 kd, .string tx, .slice a n c, .int .i64 nm] 40)) row := fun row => World.grownBy_alloc w2 _ row
          have hB3 := hB2.grown (hgn none) (by simp)
          have hO3 := hO2.grown (hgn (some g)) (Nat.lt_succ_self g)
          have hgr3 := hgr2.trans (hgn (some g))
          have hS3 := fun xs (h : Strs (g + 1) (.slice a n c) xs w2) => h.grown (hgn (some g)) (Nat.lt_succ_self g)
          go_upto_region 8 with (fail)
          clear c1 hgn hB2 hO2 hgr2 hg2 hBj hOj hgrj
          generalize w2.alloc (.cells #[.int .i64 kd, .string tx, .slice a n c, .int .i64 nm] 40) = w3 at *
          have d0 := hV.cell 0 _ rfl
          have d1 := hV.cell 1 _ rfl
          have d2 := hV.cell 2 _ rfl
          have d3 := hV.cell 3 _ rfl
          have c1 := hB3.cell 1 _ rfl
          have c2 := hB3.cell 2 _ rfl
          go_cut [80] (fun v80 wx => v80 = .bool (e' == 0 && kd != 5 && !ends (s.data.toList.drop p')) ∧ w3 = wx)
          case first =>
            have hE := ends_not e' kd (s.data.toList.drop p')
            clear hV hB3 hO3 hgr3 hS3 HCASE d1 d2 d3
            by_cases he : e' = 0
            · have heb : ((e' : Int) == 0) = true := beq_iff_eq.2 (by omega)
              rw [show (e' == 0) = true from beq_iff_eq.2 he] at hE
              by_cases hk : kd = 5
              · have hkb : ((kd : Int) == 5) = true := beq_iff_eq.2 (by omega)
                have hkbn : ((kd : Int) != 5) = false := by rw [bne, hkb]; rfl
                have hv : (e' == 0 && kd != 5 && !ends (s.data.toList.drop p')) = false := by rw [show (kd != 5) = false by rw [bne, beq_iff_eq.2 hk]; rfl]; simp
                have HV := Lib.hid hv
                clear hE hv hk he
                go_wp2_with fail
                go_meet
                exact ⟨by rw [HV.out], rfl⟩
              · have hkb : ((kd : Int) == 5) = false := beq_eq_false_iff_ne.2 (by omega)
                have hkbn : ((kd : Int) != 5) = true := by rw [bne, hkb]; rfl
                rw [show (kd != 5) = true by rw [bne, beq_eq_false_iff_ne.2 hk]; rfl] at hE
                by_cases hp3 : p' < s.size
                · have hdc := drop_cons s p' hp3
                  obtain ⟨b, hb⟩ : ∃ b : UInt8, b = s[p']'hp3 := ⟨_, rfl⟩
                  have hbt : ∀ h', ((s[p']'h').toNat : Nat) = b.toNat := fun h' => by rw [hb]
                  rw [← hb] at hdc
                  rw [hdc] at hE
                  dsimp only at hE
                  rw [← hdc] at hE
                  have hlt := b.toNat_lt
                  have hpb : decide ((p' : Int) < (s.size : Int)) = true := decide_eq_true (by omega)
                  clear hdc hb
                  generalize b.toNat = x at *
                  cases hbl : blk x with
                  | true =>
                    have hv : (e' == 0 && kd != 5 && !ends (s.data.toList.drop p')) = false := by rw [show (e' == 0) = true from beq_iff_eq.2 he, show (kd != 5) = true by rw [bne, beq_eq_false_iff_ne.2 hk]; rfl, hE, hbl]; simp
                    have HV := Lib.hid hv
                    clear hE hv hk he
                    go_wp2_with (go_at_call 48; refine (rblank_calls x _ hlt).mono ?_; rw [hbl]; rintro e w9 ⟨rfl, rfl⟩)
                    go_meet
                    exact ⟨by rw [HV.out], rfl⟩
                  | false =>
                    by_cases h124 : x = 124
                    · have hxb : ((x : Int) == 124) = true := beq_iff_eq.2 (by omega)
                      have hxn : ((x : Int) != 124) = false := by rw [bne, hxb]; rfl
                      have hv : (e' == 0 && kd != 5 && !ends (s.data.toList.drop p')) = false := by rw [show (e' == 0) = true from beq_iff_eq.2 he, show (kd != 5) = true by rw [bne, beq_eq_false_iff_ne.2 hk]; rfl, hE, h124]; simp
                      have HV := Lib.hid hv
                      clear hE hv hk he h124
                      go_wp2_with (go_at_call 48; refine (rblank_calls x _ hlt).mono ?_; rw [hbl]; rintro e w9 ⟨rfl, rfl⟩)
                      go_meet
                      exact ⟨by rw [HV.out], rfl⟩
                    · have hxb : ((x : Int) == 124) = false := beq_eq_false_iff_ne.2 (by omega)
                      have hxn : ((x : Int) != 124) = true := by rw [bne, hxb]; rfl
                      have hv : (e' == 0 && kd != 5 && !ends (s.data.toList.drop p')) = true := by rw [show (e' == 0) = true from beq_iff_eq.2 he, show (kd != 5) = true by rw [bne, beq_eq_false_iff_ne.2 hk]; rfl, hE, hbl, show (x != 124) = true by rw [bne, beq_eq_false_iff_ne.2 h124]; rfl]; rfl
                      have HV := Lib.hid hv
                      clear hE hv hk he h124
                      go_wp2_with (go_at_call 48; refine (rblank_calls x _ hlt).mono ?_; rw [hbl]; rintro e w9 ⟨rfl, rfl⟩)
                      go_meet
                      exact ⟨by rw [HV.out], rfl⟩
                · have hpb : decide ((p' : Int) < (s.size : Int)) = false := decide_eq_false (by omega)
                  have hv : (e' == 0 && kd != 5 && !ends (s.data.toList.drop p')) = false := by rw [List.drop_eq_nil_of_le (by rw [hll]; omega)]; simp [ends]
                  have HV := Lib.hid hv
                  clear hE hv hk he
                  go_wp2_with fail
                  go_meet
                  exact ⟨by rw [HV.out], rfl⟩
            · have heb : ((e' : Int) == 0) = false := beq_eq_false_iff_ne.2 (by omega)
              have hv : (e' == 0 && kd != 5 && !ends (s.data.toList.drop p')) = false := by rw [show (e' == 0) = false from beq_eq_false_iff_ne.2 he]; rfl
              have HV := Lib.hid hv
              clear hE hv he
              go_wp2_with fail
              go_meet
              exact ⟨by rw [HV.out], rfl⟩
          case rest =>
          obtain ⟨rfl, rfl⟩ := hcut
          rcases HCASE.out with ⟨rfl, d, hk, ht, hn, hP, hjp, hA5, hAe, hAn⟩ | ⟨he, hT⟩
          · by_cases hx : kd ≠ 5 ∧ ends (s.data.toList.drop p') = false
            · have hT := hAn hx.1 hx.2
              have hw := HFIN.out.2 _ hT
              have HW := Lib.hid hw
              rw [show (0 == 0 && kd != 5 && !ends (s.data.toList.drop p')) = true by rw [hx.2, show (kd != 5) = true by rw [bne, beq_eq_false_iff_ne.2 hx.1]; rfl]; rfl]
              clear hT hw HCASE hx hA5 hAe hAn ht hn hP hk c1 c2 d0 d1 d2 d3
              go_wp2_with (go_at_call 50; refine (rfail_calls g s p' 1400 _ hB3).mono ?_; rintro e w9 ⟨rfl, hB9, hg9⟩; have c2 := hB9.cell 2 _ rfl)
              go_quiet (fail)
              go_wp2
              go_ret2
              refine ⟨_, [], 1400, rfl, wds_nil _ _, ?_, HW.out⟩
              have hbz := hb1.trans (Below.grow1 (hgr3.trans hg9) (by have := HG.out; omega) (by have := HG.out; omega))
              exact Below.drewN hbz _
            · have hAA : AllAt T (acc ++ [d]) G0 (s.data.toList.drop p') := by
                by_cases h5 : kd = 5
                · exact hA5 h5
                · exact hAe h5 (by cases hq : ends (s.data.toList.drop p') with
                    | true => rfl
                    | false => exact absurd ⟨h5, hq⟩ hx)
              have hv : (0 == 0 && kd != 5 && !ends (s.data.toList.drop p')) = false := by
                cases hq : ends (s.data.toList.drop p') with
                | true => simp
                | false =>
                  have h5 : kd = 5 := Decidable.byContradiction fun h5 => hx ⟨h5, hq⟩
                  rw [h5]; rfl
              rw [hv]
              have HAA := Lib.hid hAA
              have hPP := hS3 _ hP
              obtain ⟨pa, pc, hsl⟩ := hPP.slice
              obtain ⟨rfl, rfl, rfl⟩ := Value.slice.inj hsl
              have hcs : #[Value.int IntKind.i64 (kd : Nat), .string tx, .slice a d.path.length c, .int .i64 nm].toList = wdCells d (.slice a d.path.length c) := by
                rw [hk, hn, ht.eq]; rfl
              have HCS := Lib.hid hcs
              have hz3 : g + 1 ≤ w3.heap.size := by have := hB3.lt; omega
              clear hAA hv hx HCASE hA5 hAe hAn ht hn hP hk c1 hsl hcs hS3
              go_wp2_with (at_builtin; refine wp_appWord (g + 1) rfl (.tmp 92) (.tmp 94) rfl (.slice va acc.length vc) acc d (.slice a d.path.length c) _ HCS.out rfl 1 rfl rfl hO3 hPP hz3 (by omega) ?_; intro v5 w5 hO5 hg5)
              go_roundg (G0 - 1)
              case measure => have := HG0.out; omega
              case rel =>
                have hB5 := hB3.grown hg5 (fun e => by have := hO3.base_le g e.symm; omega)
                have hgr5 := wds_more hgr3 hO3 (by omega) hg5
                exact ⟨acc ++ [d], p', hO5, hB5, hp2, by have := HG0.out; omega, hgr5, by simp; omega, by rw [show G0 - 1 + 1 = G0 by omega]; exact HAA.out⟩
          · have heb : ((e' : Int) == 0) = false := beq_eq_false_iff_ne.2 (by omega)
            have hebn : ((e' : Int) != 0) = true := by rw [bne, heb]; rfl
            have hw := HFIN.out.2 _ hT
            have HW := Lib.hid hw
            rw [show (e' == 0) = false from beq_eq_false_iff_ne.2 he, Bool.false_and, Bool.false_and]
            clear hT hw HCASE
            go_wp2_with fail
            go_quiet (fail)
            go_wp2
            go_ret2
            refine ⟨_, [], e', rfl, wds_nil _ _, ?_, HW.out⟩
            have hbz := hb1.trans (Below.grow1 hgr3 (by have := HG.out; omega) (by have := HG.out; omega))
            exact Below.drewN hbz _
        · have hjg : decide ((s.size : Int) ≤ (j : Int)) = true := decide_eq_true (by omega)
          have hT := all_end hA.out (by rw [htr]; exact List.drop_eq_nil_of_le (by rw [hll]; omega))
          have hw := HFIN.out.1 _ hT
          have HW := Lib.hid hw
          clear hT hw hA htr
          go_wp2
          go_ret2
          have hbz := hb1.trans (Below.grow1 hgrj (by have := HG.out; omega) (by have := HG.out; omega))
          obtain ⟨zs, hzs, hzr, hzp⟩ := hOj
          exact ⟨_, acc, 0, rfl, ⟨zs, hzs, World.ownsRow.mono hzr (by have := HG.out; omega), fun z hz => World.ownsRow.mono (hzp z hz) (by have := HG.out; omega)⟩, hbz, HW.out⟩
end Go.Proofs.YtblkbhomlblfnaaDoor.S
