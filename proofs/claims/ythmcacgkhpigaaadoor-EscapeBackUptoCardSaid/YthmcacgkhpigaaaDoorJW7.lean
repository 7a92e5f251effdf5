/-
  THE WALK of package json's items.
-/
import Derived.Test.YthmcacgkhpigaaaDoorJW6
set_option linter.unusedVariables false
set_option linter.unusedSimpArgs false
namespace Go.Proofs.YthmcacgkhpigaaaDoor.S
open Go.RowKit

set_option maxRecDepth 100000 in
set_option maxHeartbeats 16000000 in
theorem jitems_calls (d : Nat) (hd : d ≤ 8) (f : List UInt8 → Option (JV × List UInt8)) (hfl : ∀ l v r, f l = some (v, r) → r.length ≤ l.length)
    (IH : ∀ (g : Nat) (s : ByteArray) (l : List UInt8) (W : World), EnvAt g W → JRd g s W → StrIs s l → s.size ≤ 65536 → Calls Tryd.prog 25 #[.pointer (some ⟨g, 0, none⟩), .int .i64 ((d : Int) + 1)] W (ValPost (f l) W g))
    (w0 : World) (g q : Nat) (rec : Bool) (k : Int) (hkr : (k == 6) = rec) (fin : UInt8) (s : ByteArray) (l : List UInt8) (w : World) (hE : EnvAt g w0) (hI : IS w0 g q k s [] [] (.slice none 0 0) (.slice none 0 0) w) (hl : StrIs s l) (hs : s.size ≤ 65536) :
    Calls Tryd.prog 37 #[.pointer (some ⟨g, 0, none⟩), .pointer (some ⟨q, 0, none⟩), .int .i64 d, .string ⟨#[fin]⟩] w (ItemsPost (itemsJ f rec fin l) w0 g q k) := by
  obtain ⟨T, hT⟩ : ∃ T, T = itemsJ f rec fin l := ⟨_, rfl⟩
  rw [← hT]
  unfold itemsJ at hT
  have hgq := hI.hq
  have hgg := hI.hg
  have HEG := Lib.hid (fun (W : World) (h : w0.grownBy W (some g)) => hE.below (Below.grow1 h (by omega) (Nat.le_refl g)))
  have hw1 : IntKind.i64.wrap ((d : Int) + 1) = (d : Int) + 1 := IntWalk.i64_in _ (by omega)
  have HK := Lib.hid hkr
  have HT0 := Lib.hid hT
  clear hkr hE hT
  go_enter Tryd.func37, Tryd.ntmps37
  go_wp2_with fail
  refine (jblanks_calls g s l _ hI.rd hl).mono ?_
  rintro e w1 ⟨s1, rfl, hs1, hB1, hg1⟩
  have hI1 := hI.reader hg1 hB1
  have hz1 : s1.size ≤ 65536 := by have h1 := hs1.size; have h2 := hl.size; have h3 := blJ_len l; omega
  clear hI hl hs hg1 hB1
  go_wp2_with fail
  refine (jhas_calls g s1 ⟨#[fin]⟩ (blJ l) _ hI1.rd hs1).mono ?_
  rw [show (⟨#[fin]⟩ : ByteArray).data.toList = [fin] from rfl]
  rintro e w2 ⟨s2, rfl, hs2, hB2, hg2⟩
  have hI2 := hI1.reader hg2 hB2
  clear hI1 hg2 hB2
  have hT := HT0.out
  cases hp : List.isPrefixOf [fin] (blJ l) with
  | true =>
    rw [hp, if_pos rfl] at hT
    rw [cutJ_yes hp] at hs2
    have HT := Lib.hid hT
    clear hT hp
    go_wp2
    go_end0
    exact ItemsPost.ok HT.out rfl hI2 hs2
  | false =>
    rw [hp, if_neg (by simp)] at hT
    rw [cutJ_no hp] at hs2
    have hz2 : s2.size ≤ 65536 := by have h1 := hs2.size; have h2 := hs1.size; omega
    have HT := Lib.hid hT
    clear hT hp hs1 hz1
    go_wp2
    go_loopg [13] 64 (fun gk _ wr => ∃ (iv kv : Value) (zs : List Vc) (ks : List (List UInt8)) (s' : ByteArray) (l' : List UInt8), zs.length + gk = 64 ∧ ks.length ≤ zs.length ∧ IS w0 g q k s' zs ks iv kv wr ∧ StrIs s' l' ∧ s'.size ≤ 65536 ∧ Hid (T = rowJ f rec fin gk (zs.map Vc.jv) ks l'))
    case atStart => exact ⟨_, _, [], [], s2, blJ l, rfl, Nat.le_refl _, hI2, hs2, hz2, HT⟩
    case round =>
      obtain ⟨iv, kv, zs, ks, s', l', hlen, hkl, hIr, hsr, hzr, hTr⟩ := hrel
      clear HT hI2 hs2 hz2
      obtain ⟨ia, ic, hiv, -⟩ := own_slice hIr.gr.row
      obtain ⟨ka, kc, hkv, -⟩ := own_slice hIr.gr.keys
      subst hiv hkv
      obtain ⟨n, hn⟩ : ∃ n, n = zs.length := ⟨_, rfl⟩
      rw [← hn] at hIr hlen hkl
      have c4 := hIr.blk.cell 4 _ rfl
      have c0 := hIr.blk.cell 0 _ rfl
      by_cases h64 : n < 64
      · have hb64 : decide ((n : Int) < 64) = true := decide_eq_true (by omega)
        obtain ⟨m, rfl⟩ : ∃ m, gk = m + 1 := ⟨gk - 1, by omega⟩
        have HLN := Lib.hid hlen
        have HKL := Lib.hid hkl
        have HN := Lib.hid hn
        have hk64 : ks.length ≤ 64 := by omega
        clear hlen hkl hn
        go_upto_if 24 with (go_at_call 33; refine (must_ok _).mono ?_; rintro e w9 ⟨rfl, rfl⟩)
        have hrr := HK.out
        go_cut [] (fun wx => ∃ (kv2 : Value) (ks2 : List (List UInt8)) (s2 : ByteArray) (l2 : List UInt8), ks2.length ≤ n + 1 ∧ IS w0 g q k s2 zs ks2 (.slice ia n ic) kv2 wx ∧ StrIs s2 l2 ∧ s2.size ≤ 65536 ∧ Hid (T = rowV f rec fin m (zs.map Vc.jv) ks2 l2))
        case first =>
          cases rec with
          | false =>
            go_wp2
            go_meet
            exact ⟨_, ks, s', l', by have := HKL.out; omega, hIr, hsr, hzr, hTr⟩
          | true =>
            go_wp2_with fail
            refine (jblanks_calls g s' l' _ hIr.rd hsr).mono ?_
            rintro e w3 ⟨s3, rfl, hs3, hB3, hg3⟩
            have hI3 := hIr.reader hg3 hB3
            have hz3 : s3.size ≤ 65536 := by have h1 := hs3.size; have h2 := hsr.size; have h3 := blJ_len l'; omega
            clear hIr hB3 hg3
            go_wp2_with fail
            refine (jhas_calls g s3 ⟨#[34]⟩ (blJ l') _ hI3.rd hs3).mono ?_
            rw [show (⟨#[34]⟩ : ByteArray).data.toList = [34] from rfl]
            rintro e w4 ⟨s4, rfl, hs4, hB4, hg4⟩
            have hI4 := hI3.reader hg4 hB4
            clear hI3 hB4 hg4
            cases hp : List.isPrefixOf [34] (blJ l') with
            | false =>
              have HT := Lib.hid (hTr.out.trans (rowJ_q hp))
              clear hTr hp
              go_wp2_with (go_at_call 33; refine (must_no _).mono ?_; unfold panJ; rintro e w9 ⟨rfl, rfl⟩)
              exact ⟨rfl, ItemsPost.no HT.out hI4.grown⟩
            | true =>
              rw [cutJ_yes hp] at hs4
              have hs4 : StrIs s4 ((blJ l').drop 1) := hs4
              have hz4 : s4.size ≤ 65536 := by have h1 := hs4.size; have h2 := hs3.size; rw [List.length_drop] at h1; omega
              clear hs3
              have c5 := hI4.blk.cell 5 _ rfl
              have hEd := HEG.out w4.drew (jdrew_grown hI4.grown)
              have hCC := jtext_calls g s4 ((blJ l').drop 1) w4.drew hEd (hI4.rd.below (below_drew w4)) hs4 hz4
              have hI4d := hI4.blw (below_drew w4)
              cases htx : txJ ((blJ l').drop 1) with
              | none =>
                have HT := Lib.hid (hTr.out.trans (rowJ_t hp htx))
                clear hTr hp hEd
                go_upto_region 6 with (go_at_call 33; refine (must_ok _).mono ?_; rintro e w9 ⟨rfl, rfl⟩)
                have hEND : ∀ w5, w4.drew.grownBy w5 (some g) → ItemsPost T w0 g q k panJ w5 := fun w5 h5 => ItemsPost.no HT.out (hI4d.grown.trans h5)
                have HEND := Lib.hid hEND
                clear hEND
                refine wp_region_any (by kernel_rfl) ?_
                change wpAny _ _ _ _ _ _ _ (World.drew _)
                refine wpAny_take (i := 0) (v := ?vv0) rfl (by kernel_rfl) (by kernel_rfl) (by kernel_rfl) (fun _ _ _ h => h) (Or.inl ⟨by rfl, ?hy0⟩) ?rest0
                case hy0 =>
                  intro w
                  first | (go_simp; done) | (go_simp; with_reducible rfl)
                refine wpAny_take (i := 1) (v := ?vv1) rfl (by kernel_rfl) (by kernel_rfl) (by kernel_rfl) (fun _ _ _ h => h) (Or.inl ⟨by rfl, ?hy1⟩) ?rest1
                case hy1 =>
                  intro w
                  first | (go_simp; done) | (go_simp; with_reducible rfl)
                refine wpAny_take (i := 2) (v := ?vv2) rfl (by kernel_rfl) (by kernel_rfl) (by kernel_rfl) (fun _ _ _ h => h) (Or.inl ⟨by rfl, ?hy2⟩) ?rest2
                case hy2 =>
                  intro w
                  first | (go_simp; done) | (go_simp; with_reducible rfl)
                refine wpAny_take (i := 3) (v := ?vv3) rfl (by kernel_rfl) (by kernel_rfl) (by kernel_rfl) (fun _ _ _ h => h) (Or.inl ⟨by rfl, ?hy3⟩) ?rest3
                case hy3 =>
                  intro w
                  first | (go_simp; done) | (go_simp; with_reducible rfl)
                refine wpAny_take (i := 5) (v := ?vv5) rfl (by kernel_rfl) (by kernel_rfl) (by kernel_rfl) (fun _ _ _ h => h) (Or.inl ⟨by rfl, ?hy5⟩) ?rest5
                case hy5 =>
                  intro w
                  first | (go_simp; done) | (go_simp; with_reducible rfl)
                refine wpAny_ready (rs := [4, 6]) (by kernel_rfl) (by simp) ?_
                refine AllReady.cons rfl (fun K hK => ?_) ?_
                · go_simp
                  refine hK _ _ ?_
                  clear hK K
                  refine wpAny_ready (rs := [6]) (by kernel_rfl) (by simp) ?_
                  refine AllReady.cons rfl (fun K hK => ?_) AllReady.nil
                  go_simp
                  go_at_call 36
                  refine hCC.mono ?_
                  rintro e w5 ⟨-, he, hg5⟩
                  obtain rfl := he htx
                  unfold panJ
                  exact ⟨rfl, HEND.out w5 hg5⟩
                · refine AllReady.cons rfl (fun K hK => ?_) AllReady.nil
                  go_simp
                  go_at_call 36
                  refine hCC.mono ?_
                  rintro e w5 ⟨-, he, hg5⟩
                  obtain rfl := he htx
                  unfold panJ
                  exact ⟨rfl, HEND.out w5 hg5⟩
              | some y =>
                obtain ⟨x, r⟩ := y
                have hxr := txJ_len htx
                go_upto_region 6 with (go_at_call 33; refine (must_ok _).mono ?_; rintro e w9 ⟨rfl, rfl⟩)
                have hf6 : ∀ (w5 : World) (s5 : ByteArray), JRd g s5 w5 → w4.drew.grownBy w5 (some g) →
                    w5.cell? ⟨q, 5, none⟩ = some (.slice ka ks.length kc) ∧ (∀ o, (w5.alloc o).cell? ⟨q, 5, none⟩ = some (.slice ka ks.length kc)) ∧ (∀ o, IS w0 g q k s5 zs ks (.slice ia n ic) (.slice ka ks.length kc) (w5.alloc o)) ∧ (∀ o, (w5.alloc o).ownsRow w0.heap.size 9 1 (.slice ka ks.length kc) ks.length (ks.flatMap jkCells)) ∧ (∀ o, w0.heap.size ≤ (w5.alloc o).heap.size) := by
                  intro w5 s5 hR hG
                  have h5 := hI4d.reader hG hR
                  have hba := fun o => (Below.refl _ w5).alloc (Nat.le_refl _) o
                  exact ⟨h5.blk.cell 5 _ rfl, fun o => (h5.blw (hba o)).blk.cell 5 _ rfl, fun o => h5.blw (hba o), fun o => (h5.blw (hba o)).gr.keys, fun o => (h5.blw (hba o)).grown.size⟩
                have HF := Lib.hid hf6
                have HX := Lib.hid hxr
                have hn1 : ks.length + 1 ≤ maxLen := by simp only [maxLen]; omega
                have hn2 : (ks.length + 1) * 16 ≤ 140737488355328 := by omega
                clear hf6 hxr hEd
                go_cut [] (fun wx => ∃ (kv2 : Value) (s5 : ByteArray), IS w0 g q k s5 zs (ks ++ [x]) (.slice ia n ic) kv2 wx ∧ StrIs s5 r)
                case first =>
                  go_region_law (first | (go_simp; go_at_call 36; refine hCC.mono ?_; rintro e w5 ⟨hok, -, hg5⟩; obtain ⟨tb, s5, rfl, htb, hs5, hB5⟩ := hok x r htx; obtain ⟨c5a, c5b, hIa, hKa, hZa⟩ := HF.out w5 s5 hB5 hg5; clear hok) | (refine jstep_app jsInfo Tryd.underlying26 rfl (by decide) w0.heap.size rfl (.tmp 34) (.tmp 37) rfl (.slice ka ks.length kc) ks.length (ks.flatMap jkCells) w5.heap.size #[.string tb] (0, 0) 1 rfl rfl rfl (by intro u hu; simp at hu; rw [hu]; rfl) (jheap_new w5 _) (hKa _) (hZa _) hn1 hn2 ?_; intro g1 c1 w6 hown hg6 hgb; obtain ⟨c6, f6, HI6⟩ := IS.key (hIa _) rfl htb hown hg6 (hgb.imp id (fun h => Nat.le_of_eq h.symm)); have HI6 := Lib.hid HI6; clear hown hg6 hgb))
                  all_goals go_wp2_with fail
                  all_goals go_meet
                  all_goals exact ⟨_, s5, HI6.out, hs5⟩
                case rest =>
                obtain ⟨kv2, s5, hI5, hs5⟩ := hcut
                have hz5 : s5.size ≤ 65536 := by have h1 := hs5.size; have h2 := HX.out; have h3 := hs4.size; omega
                clear hCC hI4 hI4d HF c5 c4 c0
                go_wp2_with fail
                refine (jblanks_calls g s5 r _ hI5.rd hs5).mono ?_
                rintro e w6 ⟨s6, rfl, hs6, hB6, hg6⟩
                have hI6 := hI5.reader hg6 hB6
                have hz6 : s6.size ≤ 65536 := by have h1 := hs6.size; have h2 := hs5.size; have h3 := blJ_len r; omega
                clear hI5 hB6 hg6
                go_wp2_with fail
                refine (jhas_calls g s6 ⟨#[58]⟩ (blJ r) _ hI6.rd hs6).mono ?_
                rw [show (⟨#[58]⟩ : ByteArray).data.toList = [58] from rfl]
                rintro e w7 ⟨s7, rfl, hs7, hB7, hg7⟩
                have hI7 := hI6.reader hg7 hB7
                clear hI6 hB7 hg7
                cases hp2 : List.isPrefixOf [58] (blJ r) with
                | false =>
                  have HT := Lib.hid (hTr.out.trans (rowJ_c hp htx hp2))
                  clear hTr hp htx hp2
                  go_wp2_with (go_at_call 33; refine (must_no _).mono ?_; unfold panJ; rintro e w9 ⟨rfl, rfl⟩)
                  exact ⟨rfl, ItemsPost.no HT.out hI7.grown⟩
                | true =>
                  rw [cutJ_yes hp2] at hs7
                  have hs7 : StrIs s7 ((blJ r).drop 1) := hs7
                  have hz7 : s7.size ≤ 65536 := by have h1 := hs7.size; have h2 := hs6.size; rw [List.length_drop] at h1; omega
                  have HT := Lib.hid (hTr.out.trans (rowJ_k hp htx hp2))
                  clear hTr hp htx hp2
                  go_wp2_with (go_at_call 33; refine (must_ok _).mono ?_; rintro e w9 ⟨rfl, rfl⟩)
                  go_meet
                  exact ⟨kv2, ks ++ [x], s7, _, by rw [List.length_append]; have := HKL.out; simp; omega, hI7, hs7, hz7, HT⟩
        case rest =>
        obtain ⟨kv2, ks2, s2, l2, hkl2, hI2, hs2, hz2, hT2⟩ := hcut
        clear hIr hTr hsr hzr c4 c0 HKL hk64
        obtain ⟨kb, kcc, hkv2, -⟩ := own_slice hI2.gr.keys
        subst hkv2
        have hBB : q < wc.heap.size ∧ (∀ b, (Value.slice ia n ic).ownBlock = some b → b < wc.heap.size) ∧ (∀ b, (Value.slice kb ks2.length kcc).ownBlock = some b → b < wc.heap.size) ∧ w0.heap.size ≤ wc.heap.size := ⟨hI2.blk.lt, fun b hb => own_lt hI2.gr.row b hb, fun b hb => own_lt hI2.gr.keys b hb, hI2.grown.size⟩
        have hlitB : Below wc.heap.size wc (wc.alloc (Obj.cells #[.int .i64 0, .int .i64 0, .int .u64 0, .string ⟨#[]⟩, .slice none 0 0, .slice none 0 0] 28)).drew := ((Below.refl _ wc).alloc (Nat.le_refl _) _).drew
        have hId : ∀ W, (W = wc.drew ∨ W = (wc.alloc (Obj.cells #[.int .i64 0, .int .i64 0, .int .u64 0, .string ⟨#[]⟩, .slice none 0 0, .slice none 0 0] 28)).drew) → IS w0 g q k s2 zs ks2 (.slice ia n ic) (.slice kb ks2.length kcc) W := fun W h => by
          rcases h with rfl | rfl
          · exact hI2.blw (below_drew wc)
          · exact hI2.blw hlitB
        have hWs : ∀ W, (W = wc.drew ∨ W = (wc.alloc (Obj.cells #[.int .i64 0, .int .i64 0, .int .u64 0, .string ⟨#[]⟩, .slice none 0 0, .slice none 0 0] 28)).drew) → wc.heap.size ≤ W.heap.size := fun W h => by
          rcases h with rfl | rfl
          · exact Nat.le_refl _
          · exact hlitB.size
        have hCC : ∀ W, (W = wc.drew ∨ W = (wc.alloc (Obj.cells #[.int .i64 0, .int .i64 0, .int .u64 0, .string ⟨#[]⟩, .slice none 0 0, .slice none 0 0] 28)).drew) → Calls Tryd.prog 25 #[.pointer (some ⟨g, 0, none⟩), .int .i64 ((d : Int) + 1)] W (ValPost (f l2) W g) := fun W h =>
          IH g s2 l2 W (HEG.out W (hId W h).grown) (hId W h).rd hs2 hz2
        have c4 := hI2.blk.cell 4 _ rfl
        have c4a : ∀ o, (wc.alloc o).cell? ⟨q, 4, none⟩ = some (.slice ia n ic) := fun o => (hI2.blw ((Below.refl _ wc).alloc (Nat.le_refl _) o)).blk.cell 4 _ rfl
        cases hv : f l2 with
        | none =>
          have HT := Lib.hid (hT2.out.trans (rowV_none hv))
          have hEND : ∀ W w5, (W = wc.drew ∨ W = (wc.alloc (Obj.cells #[.int .i64 0, .int .i64 0, .int .u64 0, .string ⟨#[]⟩, .slice none 0 0, .slice none 0 0] 28)).drew) → W.grownBy w5 (some g) → ItemsPost T w0 g q k panJ w5 := fun W w5 h h5 => ItemsPost.no HT.out ((hId W h).grown.trans h5)
          have HEND := Lib.hid hEND
          clear hEND hT2 hlitB hWs hId
          go_upto_region 9 with (fail)
          refine wp_region_any (by kernel_rfl) ?_
          change wpAny _ _ _ _ _ _ _ (World.drew _)
          refine wpAny_take (i := 0) (v := ?vv101) rfl (by kernel_rfl) (by kernel_rfl) (by kernel_rfl) (fun _ _ _ h => h) (Or.inl ⟨by rfl, ?hy101⟩) ?rest101
          case hy101 =>
            intro w
            first | (go_simp; done) | (go_simp; with_reducible rfl)
          refine wpAny_take (i := 1) (v := ?vv102) rfl (by kernel_rfl) (by kernel_rfl) (by kernel_rfl) (fun _ _ _ h => h) (Or.inl ⟨by rfl, ?hy102⟩) ?rest102
          case hy102 =>
            intro w
            first | (go_simp; done) | (go_simp; with_reducible rfl)
          refine wpAny_take (i := 2) (v := ?vv103) rfl (by kernel_rfl) (by kernel_rfl) (by kernel_rfl) (fun _ _ _ h => h) (Or.inl ⟨by rfl, ?hy103⟩) ?rest103
          case hy103 =>
            intro w
            first | (go_simp; done) | (go_simp; with_reducible rfl)
          refine wpAny_take (i := 4) (v := ?vv104) rfl (by kernel_rfl) (by kernel_rfl) (by kernel_rfl) (fun _ _ _ h => h) (Or.inl ⟨by rfl, ?hy104⟩) ?rest104
          case hy104 =>
            intro w
            first | (go_simp; done) | (go_simp; with_reducible rfl)
          refine wpAny_take (i := 5) (v := ?vv105) rfl (by kernel_rfl) (by kernel_rfl) (by kernel_rfl) (fun _ _ _ h => h) (Or.inl ⟨by rfl, ?hy105⟩) ?rest105
          case hy105 =>
            intro w
            first | (go_simp; done) | (go_simp; with_reducible rfl)
          refine wpAny_take (i := 6) (v := ?vv106) rfl (by kernel_rfl) (by kernel_rfl) (by kernel_rfl) (fun _ _ _ h => h) (Or.inl ⟨by rfl, ?hy106⟩) ?rest106
          case hy106 =>
            intro w
            first | (go_simp; done) | (go_simp; with_reducible rfl)
          refine wpAny_ready (rs := [3, 7, 9]) (by kernel_rfl) (by simp) ?_
          refine AllReady.cons rfl (fun K hK => ?_) ?_
          · go_simp
            refine hK _ _ ?_
            clear hK K
            refine wpAny_take (i := 8) (v := ?vv107) rfl (by kernel_rfl) (by kernel_rfl) (by kernel_rfl) (fun _ _ _ h => h) (Or.inl ⟨by rfl, ?hy107⟩) ?rest107
            case hy107 =>
              intro w
              first | (go_simp; done) | (go_simp; with_reducible rfl)
            refine wpAny_ready (rs := [7, 9]) (by kernel_rfl) (by simp) ?_
            refine AllReady.cons rfl (fun K hK => ?_) ?_
            · go_simp
              go_at_call 25
              refine (hCC _ (by first | exact .inl rfl | exact .inr rfl)).mono ?_
              rintro e w5 ⟨-, he, hg5⟩
              obtain rfl := he hv
              unfold panJ
              exact ⟨rfl, HEND.out _ w5 (by first | exact .inl rfl | exact .inr rfl) hg5⟩
            · skip
              refine AllReady.cons rfl (fun K hK => ?_) AllReady.nil
              go_simp
              refine hK _ _ ?_
              clear hK K
              refine wpAny_ready (rs := [7]) (by kernel_rfl) (by simp) ?_
              refine AllReady.cons rfl (fun K hK => ?_) AllReady.nil
              go_simp
              go_at_call 25
              refine (hCC _ (by first | exact .inl rfl | exact .inr rfl)).mono ?_
              rintro e w5 ⟨-, he, hg5⟩
              obtain rfl := he hv
              unfold panJ
              exact ⟨rfl, HEND.out _ w5 (by first | exact .inl rfl | exact .inr rfl) hg5⟩
          · skip
            refine AllReady.cons rfl (fun K hK => ?_) ?_
            · go_simp
              go_at_call 25
              refine (hCC _ (by first | exact .inl rfl | exact .inr rfl)).mono ?_
              rintro e w5 ⟨-, he, hg5⟩
              obtain rfl := he hv
              unfold panJ
              exact ⟨rfl, HEND.out _ w5 (by first | exact .inl rfl | exact .inr rfl) hg5⟩
            · skip
              refine AllReady.cons rfl (fun K hK => ?_) AllReady.nil
              go_simp
              refine hK _ _ ?_
              clear hK K
              refine wpAny_ready (rs := [3, 7]) (by kernel_rfl) (by simp) ?_
              refine AllReady.cons rfl (fun K hK => ?_) ?_
              · go_simp
                refine hK _ _ ?_
                clear hK K
                refine wpAny_take (i := 8) (v := ?vv108) rfl (by kernel_rfl) (by kernel_rfl) (by kernel_rfl) (fun _ _ _ h => h) (Or.inl ⟨by rfl, ?hy108⟩) ?rest108
                case hy108 =>
                  intro w
                  first | (go_simp; done) | (go_simp; with_reducible rfl)
                refine wpAny_ready (rs := [7]) (by kernel_rfl) (by simp) ?_
                refine AllReady.cons rfl (fun K hK => ?_) AllReady.nil
                go_simp
                go_at_call 25
                refine (hCC _ (by first | exact .inl rfl | exact .inr rfl)).mono ?_
                rintro e w5 ⟨-, he, hg5⟩
                obtain rfl := he hv
                unfold panJ
                exact ⟨rfl, HEND.out _ w5 (by first | exact .inl rfl | exact .inr rfl) hg5⟩
              · skip
                refine AllReady.cons rfl (fun K hK => ?_) AllReady.nil
                go_simp
                go_at_call 25
                refine (hCC _ (by first | exact .inl rfl | exact .inr rfl)).mono ?_
                rintro e w5 ⟨-, he, hg5⟩
                obtain rfl := he hv
                unfold panJ
                exact ⟨rfl, HEND.out _ w5 (by first | exact .inl rfl | exact .inr rfl) hg5⟩
        | some y =>
          obtain ⟨v, r⟩ := y
          have hrl := hfl l2 v r hv
          have hf9 : ∀ W w5 s5 iv2 kv3, (W = wc.drew ∨ W = (wc.alloc (Obj.cells #[.int .i64 0, .int .i64 0, .int .u64 0, .string ⟨#[]⟩, .slice none 0 0, .slice none 0 0] 28)).drew) → W.grownBy w5 (some g) → JRd g s5 w5 → VR (fun b => W.heap.size ≤ b) w5 iv2 v.items → KR (fun b => W.heap.size ≤ b) w5 kv3 v.keys →
              ∃ a1 n1 e1 a2 n2 e2, iv2 = .slice a1 n1 e1 ∧ kv3 = .slice a2 n2 e2 ∧ w5.cell? ⟨q, 4, none⟩ = some (.slice ia n ic) ∧ (∀ o, (w5.alloc o).cell? ⟨q, 4, none⟩ = some (.slice ia n ic)) ∧
              (IS w0 g q k s5 zs ks2 (.slice ia n ic) (.slice kb ks2.length kcc) w5 ∧ w5.ownsRow w0.heap.size 28 6 (.slice ia n ic) n (vcsCells zs) ∧ w0.heap.size ≤ w5.heap.size ∧ (KR (fun b => wc.heap.size ≤ b) w5 (.slice a2 n2 e2) v.keys ∧ VR (fun b => wc.heap.size ≤ b) w5 (.slice a1 n1 e1) v.items)) ∧
              (∀ o, IS w0 g q k s5 zs ks2 (.slice ia n ic) (.slice kb ks2.length kcc) (w5.alloc o) ∧ (w5.alloc o).ownsRow w0.heap.size 28 6 (.slice ia n ic) n (vcsCells zs) ∧ w0.heap.size ≤ (w5.alloc o).heap.size ∧ (KR (fun b => wc.heap.size ≤ b) (w5.alloc o) (.slice a2 n2 e2) v.keys ∧ VR (fun b => wc.heap.size ≤ b) (w5.alloc o) (.slice a1 n1 e1) v.items)) ∧
              (W = (wc.alloc (Obj.cells #[.int .i64 0, .int .i64 0, .int .u64 0, .string ⟨#[]⟩, .slice none 0 0, .slice none 0 0] 28)).drew → w5.heap[wc.heap.size]? = some (Obj.cells #[.int .i64 0, .int .i64 0, .int .u64 0, .string ⟨#[]⟩, .slice none 0 0, .slice none 0 0] 28)) := by
            intro W w5 s5 iv2 kv3 hW hG hR hV hK
            obtain ⟨a1, e1, h1⟩ := hV.slice
            obtain ⟨a2, e2, h2⟩ := hK.slice
            subst h1 h2
            have h5 := (hId W hW).reader hG hR
            have hz5 := hWs W hW
            have hV' := hV.mono (P' := fun b => wc.heap.size ≤ b) fun b _ hb => Nat.le_trans hz5 hb
            have hK' := hK.mono (P' := fun b => wc.heap.size ≤ b) fun b _ hb => Nat.le_trans hz5 hb
            have hba := fun o => (Below.refl _ w5).alloc (Nat.le_refl _) o
            have hnn := HN.out
            have hrow : ∀ W', IS w0 g q k s5 zs ks2 (.slice ia n ic) (.slice kb ks2.length kcc) W' → W'.ownsRow w0.heap.size 28 6 (.slice ia n ic) n (vcsCells zs) := fun W' h => by have := h.gr.row; rw [← hnn] at this; exact this
            refine ⟨a1, _, e1, a2, _, e2, rfl, rfl, h5.blk.cell 4 _ rfl, fun o => (h5.blw (hba o)).blk.cell 4 _ rfl, ⟨h5, hrow _ h5, h5.grown.size, hK', hV'⟩, fun o => ⟨h5.blw (hba o), hrow _ (h5.blw (hba o)), (h5.blw (hba o)).grown.size, hK'.blw (hba o), hV'.blw (hba o)⟩, ?_⟩
            intro hE
            subst hE
            have hlt : wc.heap.size < (wc.alloc (Obj.cells #[.int .i64 0, .int .i64 0, .int .u64 0, .string ⟨#[]⟩, .slice none 0 0, .slice none 0 0] 28)).drew.heap.size := by show _ < (wc.heap.push _).size; simp
            exact (hG.block wc.heap.size hlt (by simp; omega)).trans (jheap_new wc _)
          have HF := Lib.hid hf9
          have HRL := Lib.hid hrl
          have HBB := Lib.hid hBB
          have hn1 : n + 1 ≤ maxLen := by simp only [maxLen]; omega
          have hn2 : (n + 1) * 88 ≤ 140737488355328 := by omega
          have h1c : ∀ u ∈ (#[.int .i64 0, .int .i64 0, .int .u64 0, .string ⟨#[]⟩, .slice none 0 0, .slice none 0 0] : Array Value).toList, u.oneCell' = true := by intro u hu; simp at hu; rcases hu with rfl | rfl | rfl | rfl <;> rfl
          have hlt : (n : Int) < (n : Int) + 1 := by omega
          have hnz : n ≤ 64 := by omega
          clear hf9 hrl hBB hlitB hWs hId
          go_upto_region 9 with (fail)
          go_cut [] (fun wz => Item1 w0 g q k zs ks2 (.slice kb ks2.length kcc) v r wz)
          case first =>
            go_region_law (first | (go_simp; go_at_call 25; refine (hCC _ (by first | exact .inl rfl | exact .inr rfl)).mono ?_; rintro e w5 ⟨hok, -, hg5⟩; obtain ⟨iv2, kv3, s5, rfl, hVR, hKR, hs5, hB5⟩ := hok v r hv; obtain ⟨a1, n1, e1, a2, n2, e2, rfl, rfl, c5, c5a, hI5, hIa, hLB⟩ := HF.out _ w5 s5 iv2 kv3 (by first | exact .inl rfl | exact .inr rfl) hg5 hB5 hVR hKR; unfold aggV; clear hok hVR hKR) | (refine jstep_app jvInfo Tryd.underlying25 rfl (by decide) w0.heap.size rfl (.tmp 49) (.tmp 55) rfl (.slice ia n ic) n (vcsCells zs) w5.heap.size #[.int .i64 0, .int .i64 0, .int .u64 0, .string ⟨#[]⟩, .slice none 0 0, .slice none 0 0] (0, 0) 1 rfl rfl rfl h1c (jheap_new w5 _) (hIa _).2.1 (hIa _).2.2.1 hn1 hn2 ?_; intro g1 c1 w6 hown hg6 hgb; obtain ⟨hne, hne', c6, f6, k0, k1, k2, k3, k4, k5, q0, q1, q2, q3, q4, q5, HIA, HIB⟩ := item_two (hIa _).1 hs5 HN.out.symm HBB.out (hIa _).2.2.2 hown hg6 hgb; clear hown hg6 hgb) | (refine jstep_app jvInfo Tryd.underlying25 rfl (by decide) w0.heap.size rfl (.tmp 49) (.tmp 55) rfl (.slice ia n ic) n (vcsCells zs) wc.heap.size #[.int .i64 0, .int .i64 0, .int .u64 0, .string ⟨#[]⟩, .slice none 0 0, .slice none 0 0] (0, 0) 1 rfl rfl rfl h1c (hLB rfl) hI5.2.1 hI5.2.2.1 hn1 hn2 ?_; intro g1 c1 w6 hown hg6 hgb; obtain ⟨hne, hne', c6, f6, k0, k1, k2, k3, k4, k5, q0, q1, q2, q3, q4, q5, HIA, HIB⟩ := item_two hI5.1 hs5 HN.out.symm HBB.out hI5.2.2.2 hown hg6 hgb; clear hown hg6 hgb))
            all_goals go_wp2_with fail
            all_goals go_meet
            · with_reducible exact HIA.out
            · with_reducible exact HIB.out
            · with_reducible exact HIA.out
            · with_reducible exact HIB.out
            · with_reducible exact HIA.out
            · with_reducible exact HIB.out
            · with_reducible exact HIA.out
            · with_reducible exact HIB.out
            · with_reducible exact HIA.out
            · with_reducible exact HIB.out
            · with_reducible exact HIA.out
            · with_reducible exact HIB.out
          case rest =>
          obtain ⟨z, iv6, s5, hzv, hI5, hs5⟩ := hcut
          have hz5 : s5.size ≤ 65536 := by have h1 := hs5.size; have h2 := HRL.out; have h3 := hs2.size; omega
          clear hCC hI2 HF c4 c4a hn1 hn2 h1c hlt
          go_wp2_with fail
          refine (jblanks_calls g s5 r _ hI5.rd hs5).mono ?_
          rintro e w6 ⟨s6, rfl, hs6, hB6, hg6⟩
          have hI6 := hI5.reader hg6 hB6
          have hz6 : s6.size ≤ 65536 := by have h1 := hs6.size; have h2 := hs5.size; have h3 := blJ_len r; omega
          clear hI5 hB6 hg6
          go_wp2_with fail
          refine (jhas_calls g s6 ⟨#[fin]⟩ (blJ r) _ hI6.rd hs6).mono ?_
          rw [show (⟨#[fin]⟩ : ByteArray).data.toList = [fin] from rfl]
          rintro e w7 ⟨s7, rfl, hs7, hB7, hg7⟩
          have hI7 := hI6.reader hg7 hB7
          have hmap : (zs ++ [z]).map Vc.jv = zs.map Vc.jv ++ [v] := by rw [List.map_append, List.map_singleton, hzv]
          clear hI6 hB7 hg7
          cases hp : List.isPrefixOf [fin] (blJ r) with
          | true =>
            rw [cutJ_yes hp] at hs7
            have HT := Lib.hid (hT2.out.trans (rowV_end hv hp))
            clear hT2 hp hv
            go_wp2
            go_end0
            exact ItemsPost.ok HT.out hmap hI7 hs7
          | false =>
            rw [cutJ_no hp] at hs7
            go_wp2_with fail
            refine (jhas_calls g s7 ⟨#[44]⟩ (blJ r) _ hI7.rd hs7).mono ?_
            rw [show (⟨#[44]⟩ : ByteArray).data.toList = [44] from rfl]
            rintro e w8 ⟨s8, rfl, hs8, hB8, hg8⟩
            have hI8 := hI7.reader hg8 hB8
            clear hI7 hB8 hg8
            cases hp2 : List.isPrefixOf [44] (blJ r) with
            | false =>
              have HT := Lib.hid (hT2.out.trans (rowV_bad hv hp hp2))
              clear hT2 hp hv hp2
              go_wp2_with (go_at_call 33; refine (must_no _).mono ?_; unfold panJ; rintro e w9 ⟨rfl, rfl⟩)
              exact ⟨rfl, ItemsPost.no HT.out hI8.grown⟩
            | true =>
              rw [cutJ_yes hp2] at hs8
              have hs8 : StrIs s8 ((blJ r).drop 1) := hs8
              have hz8 : s8.size ≤ 65536 := by have h1 := hs8.size; have h2 := hs6.size; rw [List.length_drop] at h1; omega
              have HT := Lib.hid (hT2.out.trans (rowV_go hv hp hp2))
              clear hT2 hp hv hp2
              go_wp2_with (go_at_call 33; refine (must_ok _).mono ?_; rintro e w9 ⟨rfl, rfl⟩)
              go_roundg m
              case measure => omega
              case rel =>
                refine ⟨iv6, _, zs ++ [z], ks2, s8, _, ?_, ?_, hI8, hs8, hz8, ?_⟩
                · have h1 := HLN.out; have h2 := HN.out; rw [List.length_append, List.length_singleton]; omega
                · have h2 := HN.out; rw [List.length_append, List.length_singleton]; omega
                · rw [hmap]; exact HT.out
      · have hb64 : decide ((n : Int) < 64) = false := decide_eq_false (by omega)
        obtain rfl : gk = 0 := by omega
        have HN := Lib.hid hn
        clear hn hlen hkl
        have HT := Lib.hid (hTr.out.trans (show rowJ f rec fin 0 (zs.map Vc.jv) ks l' = none from rfl))
        clear hTr
        go_wp2_with (go_at_call 33; refine (must_no _).mono ?_; unfold panJ; rintro e w9 ⟨rfl, rfl⟩)
        exact ⟨rfl, ItemsPost.no HT.out hIr.grown⟩
end Go.Proofs.YthmcacgkhpigaaaDoor.S
