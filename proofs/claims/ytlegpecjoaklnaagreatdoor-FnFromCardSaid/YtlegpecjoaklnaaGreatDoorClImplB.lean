/- Walk: the program's bytesOf. -/
import Derived.Test.YtlegpecjoaklnaaGreatDoorClImplV
import Derived.Test.YtlegpecjoaklnaaGreatDoorClSpecB
namespace Go.Proofs.YtlegpecjoaklnaaGreatDoor
open Go Go.RowKit
attribute [local go_sem ↓] Go.wp_at_zero Go.wp_at_succ

set_option maxRecDepth 100000 in
set_option maxHeartbeats 3200000 in
theorem bytesOf_any (A1 A2 : Option Addr) (n1 c1 n2 c2 : Nat) (room : List Int) (us : List Un) (w : World) (h : RdC w A1 A2 n1 n2 room us) (hs : ShU us) (hn1 : n1 ≤ 1048576) :
    Calls Tryz.prog 72 #[.agg #[.slice A1 n1 c1, .slice A2 n2 c2]] w fun e w' => ∃ A m c, e = .returned (.slice A m c) ∧ w'.ownsRow w.heap.size 3 1 (.slice A m c) m ((bytesP room us).map (Value.int .i64)) ∧ Below w.heap.size w w' := by
  obtain ⟨i0, hi0, hz0, hz1, hz2⟩ := info_parts ownI_info
  have hl := Lib.hid h.b.len
  have hl1 := Lib.hid h.a.len
  have H := Lib.hid h
  have Hs0 := Lib.hid hs
  have ln : n2 ≤ 1000 := by have := h.b.len; have := hs.1; omega
  clear h hs
  have B1 := Lib.hid (alloc_up w (.cells #[.slice A1 n1 c1, .slice A2 n2 c2] 26))
  have P1 := Lib.hid (Blk.new w 26 #[.slice A1 n1 c1, .slice A2 n2 c2])
  have x0 := P1.out.cell 0
  have x1 := P1.out.cell 1
  simp only [List.getElem?_toArray, List.getElem?_cons_zero, List.getElem?_cons_succ] at x0 x1
  go_enter Tryz.func72, Tryz.ntmps72
  go_wp2_with fail
  generalize w.alloc (.cells #[.slice A1 n1 c1, .slice A2 n2 c2] 26) = w1 at B1 P1 x0 x1 ⊢
  refine (clone_any A1 n1 c1 room w1 (H.out.a.up B1.out) hn1).mono ?_; rintro e w2 ⟨A3, c3, rfl, hown3, hb3⟩
  have B2 := Lib.hid (below_to B1.out hb3)
  have O2 := Lib.hid (own_lo hown3 B1.out.size)
  have P2 := Lib.hid (P1.out.below hb3 P1.out.lt)
  have x1 := P2.out.cell 1
  simp only [List.getElem?_toArray, List.getElem?_cons_zero, List.getElem?_cons_succ] at x1
  clear hown3 hb3 B1 P1 x0
  go_wp2_with fail
  clear x1 P2
  go_loopw [3, 15] (fun v i wr => ∃ (k : Nat) (A6 : Option Addr) (m6 c6 : Nat), i = .int .i64 k ∧ k ≤ n2 ∧ v = .slice A6 m6 c6 ∧ Below w.heap.size w wr ∧
    wr.ownsRow w.heap.size 3 1 (.slice A6 m6 c6) m6 ((room ++ (us.take k).flatMap encU).map (Value.int .i64))) (fun _ i _ => n2 - (intOf i).toNat)
  case atStart => exact ⟨0, _, _, _, rfl, Nat.zero_le _, rfl, B2.out, by simpa using O2.out⟩
  case round =>
    clear B2 O2
    obtain ⟨k, A6, m6, c6, rfl, hk, rfl, hbel, hown⟩ := hrel
    have Hbel := Lib.hid hbel
    have Hown := Lib.hid hown
    have lz := hbel.size
    have hlm := own_len hown
    have Hpre := Lib.hid (show (room ++ (us.take k).flatMap encU).length ≤ 1003100000 by
      have := encUs_len Hs0.out (show k ≤ us.length by rw [hl.out]; exact hk)
      rw [List.length_append, hl1.out]
      omega)
    have lm : m6 ≤ 1003100000 := by have := Hpre.out; omega
    clear hbel hown hlm
    by_cases hlt : k < n2
    · have k1 : (0 : Int) ≤ (k : Int) := by omega
      have k2 : (k : Int) < (n2 : Int) := by omega
      have k3 : 0 ≤ (k : Int) * 2 := by omega
      have hkl : Hid (k < us.length) := by have := hl.out; show _ < _; omega
      have He := Lib.hid (encUs_succ hkl.out)
      have hu := Hs0.out.2 _ (un_mem hkl.out)
      obtain ⟨b, o, A', m', c', rfl, lb, hc1, hc2, hmc, hrd⟩ := (H.out.b.below Hbel.out).at_ hlt
      have Hml := Lib.hid hrd.len
      have lm' : m' ≤ 1000 := by have := hrd.len; have := hu.1; omega
      have Hrd := Lib.hid ((H.out.b.at_ hlt))
      clear Hrd
      have Hrd := Lib.hid (hrd.keep (w' := w) (fun p hp => (Hbel.out.cell (p := p) hp).symm) (Nat.le_refl _))
      have Hu := Lib.hid hu
      clear hrd hu
      generalize us[k]?.getD (false, []) = u at *
      obtain ⟨op, ts⟩ := u
      dsimp only at hc1 hc2 Hml Hrd Hu
      cases op with
      | false =>
        have sz : (wr.alloc (.cells #[.bool false, .slice A' m' c'] 52)).heap.size = wr.heap.size + 1 := World.size_alloc _ _
        have Own7 := Lib.hid (own_alloc (own_alloc Hown.out (.cells #[.bool false, .slice A' m' c'] 52)) (.cells #[.int .i64 0, .int .i64 (m' : Int)] 3))
        have hX := own_src' (World.ownsRow_lit (base := 0) (e := 3) (size := 1) (wr.alloc (.cells #[.bool false, .slice A' m' c'] 52)) #[.int .i64 0, .int .i64 (m' : Int)] 2 (Nat.zero_le _) (by unfold maxLen; omega) rfl)
        rw [sz] at hX
        have X7 := Lib.hid hX
        have lz7 : w.heap.size ≤ ((wr.alloc (.cells #[.bool false, .slice A' m' c'] 52)).alloc (.cells #[.int .i64 0, .int .i64 (m' : Int)] 3)).heap.size := by rw [World.size_alloc, sz]; omega
        have U7 := Lib.hid ((Hbel.out.alloc lz (.cells #[.bool false, .slice A' m' c'] 52)).alloc (by rw [sz]; omega) (.cells #[.int .i64 0, .int .i64 (m' : Int)] 3))
        have P7 := Lib.hid (((Blk.new wr 52 #[.bool false, .slice A' m' c']).alloc (.cells #[.int .i64 0, .int .i64 (m' : Int)] 3)))
        clear hX sz
        go_wp2_with (at_builtin; refine wpList_append_src _ rfl _ _ 23 rfl w.heap.size 3 i0 _ 1 8 Tryz.underlying23 hi0 hz0 hz1 hz2 rfl (by omega) (.slice A6 m6 c6) m6 _ rfl Own7.out (some ⟨wr.heap.size + 1, 0, none⟩) 2 2 [.int .i64 0, .int .i64 (m' : Int)] rfl X7.out (one2 _ _ rfl rfl) (by unfold maxLen; omega) (by omega) lz7 ?_; intro v' w8 hown8 hgrow8 hat8; obtain ⟨A8, c8, rfl⟩ := own_shape hown8; have P8 := Lib.hid (P7.out.grown hgrow8 (fun e => own_blk_ne Own7.out P7.out (by decide) e.symm)); have p1 := P8.out.cell 1; simp only [List.getElem?_toArray, List.getElem?_cons_zero, List.getElem?_cons_succ] at p1)
        have O8 := Lib.hid (show w8.ownsRow w.heap.size 3 1 (.slice A8 (m6 + 2) c8) (m6 + 2) ((room ++ (us.take k).flatMap encU ++ [0, (m' : Int)] ++ (ts.take 0).flatMap encT).map (Value.int .i64)) by simpa using hown8)
        have B8 := Lib.hid (U7.out.grown hgrow8 lz7 (fun j e => (Own7.out.lt j e).1))
        have He2 := Lib.hid (show encU (false, ts) = [0, (m' : Int)] ++ ts.flatMap encT by simp [encU, Hml.out])
        clear hown8 hgrow8 hat8 Own7 X7 U7 P7 P8 p1 Hown Hbel
        generalize m6 + 2 = m8 at O8 ⊢
        go_loopw [3, 31] (fun v i wr => ∃ (j : Nat) (A9 : Option Addr) (m9 c9 : Nat), i = .int .i64 j ∧ j ≤ m' ∧ v = .slice A9 m9 c9 ∧ Below w.heap.size w wr ∧
          wr.ownsRow w.heap.size 3 1 (.slice A9 m9 c9) m9 ((room ++ (us.take k).flatMap encU ++ [0, (m' : Int)] ++ (ts.take j).flatMap encT).map (Value.int .i64))) (fun _ i _ => m' - (intOf i).toNat)
        case atStart => exact ⟨0, _, _, _, rfl, Nat.zero_le _, rfl, B8.out, O8.out⟩
        case round =>
          clear B8 O8
          obtain ⟨j, A9, m9, c9, rfl, hj, rfl, hbi, hoi⟩ := hrel
          have Hbi := Lib.hid hbi
          have Hoi := Lib.hid hoi
          have lzi := hbi.size
          have hlm9 := own_len hoi
          clear hbi hoi
          by_cases hlj : j < m'
          · have kj1 : (0 : Int) ≤ (j : Int) := by omega
            have kj2 : (j : Int) < (m' : Int) := by omega
            have kj3 : 0 ≤ (j : Int) * 2 := by omega
            have hjl : Hid (j < ts.length) := by have := Hml.out; show _ < _; omega
            have lm9 : m9 ≤ 1005000000 := by
              have := encTs_len Hu.out.2 (show j ≤ ts.length from Nat.le_of_lt hjl.out)
              have := Hpre.out
              simp only [List.length_append, List.length_cons, List.length_nil] at hlm9 this
              omega
            have Hs := Lib.hid (encTs_succ hjl.out)
            obtain ⟨bt, ot, An, mn, cn, rfl, lbt, ht1, ht2, hmcn, hrn⟩ := (Hrd.out.below Hbi.out).at_ hlj
            have hmn : mn ≤ 1000 := by have := Hu.out.2 _ (tk_mem hjl.out); have := hrn.len; omega
            have Hrn := Lib.hid hrn
            clear hrn hlm9
            generalize (ts[j]?.getD (0, [])).1 = id at *
            generalize (ts[j]?.getD (0, [])).2 = nd at *
            have D0 := Lib.hid (alloc_up wr (.cells #[.int .i64 id, .slice An mn cn] 33)).drew
            have PX := Lib.hid ((Blk.new wr 33 #[.int .i64 id, .slice An mn cn]).drew)
            have O0 := Lib.hid (World.ownsRow.drew (own_alloc Hoi.out (.cells #[.int .i64 id, .slice An mn cn] 33)))
            go_wp2_with fail
            obtain ⟨gx, hgx⟩ : ∃ gx, gx = wr.heap.size := ⟨_, rfl⟩
            rw [← hgx] at PX ⊢
            have lgx : w.heap.size ≤ gx := by omega
            have K0 : (wr.alloc (.cells #[.int .i64 id, .slice An mn cn] 33)).drew.cell? ⟨gx, 0, none⟩ = some (.int .i64 id) ∧ (wr.alloc (.cells #[.int .i64 id, .slice An mn cn] 33)).drew.cell? ⟨gx, 1, none⟩ = some (.slice An mn cn) := ⟨PX.out.cell 0, PX.out.cell 1⟩
            have HBu := Lib.hid (Hbi.out.trans (D0.out.mono lzi))
            clear hgx D0
            refine wp_region_mix (.take 0 (.take 1 (.take 2 (.take 5 (.take 6 (.bar 3 (.bar 4 (.bar 7 (.take 8 .nil))))))))) (fun w' => w'.cell? ⟨gx, 0, none⟩ = some (.int .i64 id) ∧ w'.cell? ⟨gx, 1, none⟩ = some (.slice An mn cn)) (by kernel_rfl) (by kernel_rfl) K0 (fun _ => ?_)
            clear K0
            repeat (first | (refine wpMix_skip (by rfl) (by rfl) ?_; (try simp only [Act.put, List.setIfInBounds_toArray, List.set_cons_zero, List.set_cons_succ])) | (refine wpMix_take (v := ?_) (by rfl) (by rfl) (fun wS hSt => ?_) ?_; rotate_left; (focus ((try dsimp only at hSt); (go_simp <;> with_reducible rfl); done)); (try simp only [Act.put, List.setIfInBounds_toArray, List.set_cons_zero, List.set_cons_succ])))
            generalize (wr.alloc (.cells #[.int .i64 id, .slice An mn cn] 33)).drew = u0 at PX O0 HBu ⊢
            have lzu := HBu.out.size
            have E1 := Lib.hid (own_alloc O0.out (.cells #[.int .i64 id] 3))
            have D1 := Lib.hid (HBu.out.alloc lzu (.cells #[.int .i64 id] 3))
            have X1 := Lib.hid (lit1 u0 3 (.int .i64 id))
            have P1 := Lib.hid (PX.out.alloc (.cells #[.int .i64 id] 3))
            have lz1 := D1.out.size
            (refine wpMix_bar (by rfl) (fun K hK => ?_); go_simp)
            ((try dsimp only); refine hK.out _ _ (⟨P1.out.cell 0, P1.out.cell 1⟩) (fun hSw => ?_); (try clear hSw); clear hK K; (try simp only [Act.put, List.setIfInBounds_toArray, List.set_cons_zero, List.set_cons_succ]))
            generalize u0.alloc (.cells #[.int .i64 id] 3) = u1 at E1 D1 X1 P1 lz1 ⊢
            refine wpMix_bar (by rfl) (fun K hK => ?_)
            rw [if_pos (by rfl)]
            refine wp_append_src _ _ _ 23 (by rfl) w.heap.size 3 i0 _ 1 8 Tryz.underlying23 hi0 hz0 hz1 hz2 rfl (by omega) (.slice A9 m9 c9) m9 _ (by rfl) E1.out (some ⟨u0.heap.size, 0, none⟩) 1 1 [.int .i64 id] (by rfl) X1.out (one1 _ rfl) (by unfold maxLen; omega) (by omega) lz1 ?_
            intro v6 u2 hown6 hgrow6 hrow6
            obtain ⟨A6m, c6m, rfl⟩ := own_shape hown6
            have D2 := Lib.hid (D1.out.grown hgrow6 lz1 (fun j e => (E1.out.lt j e).1))
            have P2 := Lib.hid (P1.out.grown hgrow6 (fun e => own_blk_ne E1.out P1.out (by decide) e.symm))
            have E2 := Lib.hid hown6
            have lz2 := D2.out.size
            have S2 := Lib.hid (srcOfI (Hrn.out.keep (fun p hp => ((Hbi.out.cell (p := p) hp).trans (D2.out.cell (p := p) hp).symm).symm) (Nat.le_refl _)))
            have N2 := Lib.hid (ints_cell1 nd)
            clear hown6 hgrow6 hrow6 E1 D1 X1 P1 lz1
            ((try dsimp only); refine hK.out _ _ (⟨P2.out.cell 0, P2.out.cell 1⟩) (fun hSw => ?_); (try clear hSw); clear hK K; (try simp only [Act.put, List.setIfInBounds_toArray, List.set_cons_zero, List.set_cons_succ]))
            refine wpMix_bar (by rfl) (fun K hK => ?_)
            rw [if_pos (by rfl)]
            refine wp_append_src _ _ _ 23 (by rfl) w.heap.size 3 i0 _ 1 8 Tryz.underlying23 hi0 hz0 hz1 hz2 rfl (by omega) (.slice A6m (m9 + 1) c6m) (m9 + 1) _ (by rfl) E2.out An mn cn _ (by rfl) S2.out N2.out (by unfold maxLen; omega) (by omega) lz2 ?_
            intro v7 u3 hown7 hgrow7 hrow7
            obtain ⟨A7m, c7m, rfl⟩ := own_shape hown7
            have D3 := Lib.hid (D2.out.grown hgrow7 lz2 (fun j e => (E2.out.lt j e).1))
            have P3 := Lib.hid (P2.out.grown hgrow7 (fun e => own_blk_ne E2.out P2.out (by decide) e.symm))
            have E3 := Lib.hid (show u3.ownsRow w.heap.size 3 1 (.slice A7m (m9 + 1 + mn) c7m) (m9 + 1 + mn) ((room ++ (us.take k).flatMap encU ++ [0, (m' : Int)] ++ (ts.take (j + 1)).flatMap encT).map (Value.int .i64)) by rw [Hs.out]; simpa using hown7)
            clear hown7 hgrow7 hrow7 E2 D2 P2 S2 N2 lz2
            ((try dsimp only); refine hK.out _ _ (⟨P3.out.cell 0, P3.out.cell 1⟩) (fun hSw => ?_); (try clear hSw); clear hK K; (try simp only [Act.put, List.setIfInBounds_toArray, List.set_cons_zero, List.set_cons_succ]))
            repeat (first | (refine wpMix_skip (by rfl) (by rfl) ?_; (try simp only [Act.put, List.setIfInBounds_toArray, List.set_cons_zero, List.set_cons_succ])) | (refine wpMix_take (v := ?_) (by rfl) (by rfl) (fun wS hSt => ?_) ?_; rotate_left; (focus ((try dsimp only at hSt); (go_simp <;> with_reducible rfl); done)); (try simp only [Act.put, List.setIfInBounds_toArray, List.set_cons_zero, List.set_cons_succ])))
            refine wpMix_nil ?_
            go_wp2_with fail
            go_roundw
            case measure => simp [intOf]; omega
            case rel => exact ⟨j + 1, A7m, m9 + 1 + mn, c7m, by go_num, by omega, rfl, D3.out, E3.out⟩
          · obtain rfl : m' = j := by omega
            go_wp2_with fail
            go_roundw
            case measure => simp [intOf]; omega
            case rel => exact ⟨k + 1, A9, m9, c9, by go_num, by omega, rfl, Hbi.out, by
              have := Hoi.out
              rw [List.take_of_length_le (l := ts) (by rw [Hml.out]; exact Nat.le_refl _)] at this
              rw [He.out, He2.out]; simpa using this⟩
      | true =>
        have sz : (wr.alloc (.cells #[.bool true, .slice A' m' c'] 52)).heap.size = wr.heap.size + 1 := World.size_alloc _ _
        have Own7 := Lib.hid (own_alloc (own_alloc Hown.out (.cells #[.bool true, .slice A' m' c'] 52)) (.cells #[.int .i64 1, .int .i64 (m' : Int)] 3))
        have hX := own_src' (World.ownsRow_lit (base := 0) (e := 3) (size := 1) (wr.alloc (.cells #[.bool true, .slice A' m' c'] 52)) #[.int .i64 1, .int .i64 (m' : Int)] 2 (Nat.zero_le _) (by unfold maxLen; omega) rfl)
        rw [sz] at hX
        have X7 := Lib.hid hX
        have lz7 : w.heap.size ≤ ((wr.alloc (.cells #[.bool true, .slice A' m' c'] 52)).alloc (.cells #[.int .i64 1, .int .i64 (m' : Int)] 3)).heap.size := by rw [World.size_alloc, sz]; omega
        have U7 := Lib.hid ((Hbel.out.alloc lz (.cells #[.bool true, .slice A' m' c'] 52)).alloc (by rw [sz]; omega) (.cells #[.int .i64 1, .int .i64 (m' : Int)] 3))
        have P7 := Lib.hid (((Blk.new wr 52 #[.bool true, .slice A' m' c']).alloc (.cells #[.int .i64 1, .int .i64 (m' : Int)] 3)))
        clear hX sz
        go_wp2_with (at_builtin; refine wpList_append_src _ rfl _ _ 23 rfl w.heap.size 3 i0 _ 1 8 Tryz.underlying23 hi0 hz0 hz1 hz2 rfl (by omega) (.slice A6 m6 c6) m6 _ rfl Own7.out (some ⟨wr.heap.size + 1, 0, none⟩) 2 2 [.int .i64 1, .int .i64 (m' : Int)] rfl X7.out (one2 _ _ rfl rfl) (by unfold maxLen; omega) (by omega) lz7 ?_; intro v' w8 hown8 hgrow8 hat8; obtain ⟨A8, c8, rfl⟩ := own_shape hown8; have P8 := Lib.hid (P7.out.grown hgrow8 (fun e => own_blk_ne Own7.out P7.out (by decide) e.symm)); have p1 := P8.out.cell 1; simp only [List.getElem?_toArray, List.getElem?_cons_zero, List.getElem?_cons_succ] at p1)
        have O8 := Lib.hid (show w8.ownsRow w.heap.size 3 1 (.slice A8 (m6 + 2) c8) (m6 + 2) ((room ++ (us.take k).flatMap encU ++ [1, (m' : Int)] ++ (ts.take 0).flatMap encT).map (Value.int .i64)) by simpa using hown8)
        have B8 := Lib.hid (U7.out.grown hgrow8 lz7 (fun j e => (Own7.out.lt j e).1))
        have He2 := Lib.hid (show encU (true, ts) = [1, (m' : Int)] ++ ts.flatMap encT by simp [encU, Hml.out])
        clear hown8 hgrow8 hat8 Own7 X7 U7 P7 P8 p1 Hown Hbel
        generalize m6 + 2 = m8 at O8 ⊢
        go_loopw [3, 31] (fun v i wr => ∃ (j : Nat) (A9 : Option Addr) (m9 c9 : Nat), i = .int .i64 j ∧ j ≤ m' ∧ v = .slice A9 m9 c9 ∧ Below w.heap.size w wr ∧
          wr.ownsRow w.heap.size 3 1 (.slice A9 m9 c9) m9 ((room ++ (us.take k).flatMap encU ++ [1, (m' : Int)] ++ (ts.take j).flatMap encT).map (Value.int .i64))) (fun _ i _ => m' - (intOf i).toNat)
        case atStart => exact ⟨0, _, _, _, rfl, Nat.zero_le _, rfl, B8.out, O8.out⟩
        case round =>
          clear B8 O8
          obtain ⟨j, A9, m9, c9, rfl, hj, rfl, hbi, hoi⟩ := hrel
          have Hbi := Lib.hid hbi
          have Hoi := Lib.hid hoi
          have lzi := hbi.size
          have hlm9 := own_len hoi
          clear hbi hoi
          by_cases hlj : j < m'
          · have kj1 : (0 : Int) ≤ (j : Int) := by omega
            have kj2 : (j : Int) < (m' : Int) := by omega
            have kj3 : 0 ≤ (j : Int) * 2 := by omega
            have hjl : Hid (j < ts.length) := by have := Hml.out; show _ < _; omega
            have lm9 : m9 ≤ 1005000000 := by
              have := encTs_len Hu.out.2 (show j ≤ ts.length from Nat.le_of_lt hjl.out)
              have := Hpre.out
              simp only [List.length_append, List.length_cons, List.length_nil] at hlm9 this
              omega
            have Hs := Lib.hid (encTs_succ hjl.out)
            obtain ⟨bt, ot, An, mn, cn, rfl, lbt, ht1, ht2, hmcn, hrn⟩ := (Hrd.out.below Hbi.out).at_ hlj
            have hmn : mn ≤ 1000 := by have := Hu.out.2 _ (tk_mem hjl.out); have := hrn.len; omega
            have Hrn := Lib.hid hrn
            clear hrn hlm9
            generalize (ts[j]?.getD (0, [])).1 = id at *
            generalize (ts[j]?.getD (0, [])).2 = nd at *
            have D0 := Lib.hid (alloc_up wr (.cells #[.int .i64 id, .slice An mn cn] 33)).drew
            have PX := Lib.hid ((Blk.new wr 33 #[.int .i64 id, .slice An mn cn]).drew)
            have O0 := Lib.hid (World.ownsRow.drew (own_alloc Hoi.out (.cells #[.int .i64 id, .slice An mn cn] 33)))
            go_wp2_with fail
            obtain ⟨gx, hgx⟩ : ∃ gx, gx = wr.heap.size := ⟨_, rfl⟩
            rw [← hgx] at PX ⊢
            have lgx : w.heap.size ≤ gx := by omega
            have K0 : (wr.alloc (.cells #[.int .i64 id, .slice An mn cn] 33)).drew.cell? ⟨gx, 0, none⟩ = some (.int .i64 id) ∧ (wr.alloc (.cells #[.int .i64 id, .slice An mn cn] 33)).drew.cell? ⟨gx, 1, none⟩ = some (.slice An mn cn) := ⟨PX.out.cell 0, PX.out.cell 1⟩
            have HBu := Lib.hid (Hbi.out.trans (D0.out.mono lzi))
            clear hgx D0
            refine wp_region_mix (.take 0 (.take 1 (.take 2 (.take 5 (.take 6 (.bar 3 (.bar 4 (.bar 7 (.take 8 .nil))))))))) (fun w' => w'.cell? ⟨gx, 0, none⟩ = some (.int .i64 id) ∧ w'.cell? ⟨gx, 1, none⟩ = some (.slice An mn cn)) (by kernel_rfl) (by kernel_rfl) K0 (fun _ => ?_)
            clear K0
            repeat (first | (refine wpMix_skip (by rfl) (by rfl) ?_; (try simp only [Act.put, List.setIfInBounds_toArray, List.set_cons_zero, List.set_cons_succ])) | (refine wpMix_take (v := ?_) (by rfl) (by rfl) (fun wS hSt => ?_) ?_; rotate_left; (focus ((try dsimp only at hSt); (go_simp <;> with_reducible rfl); done)); (try simp only [Act.put, List.setIfInBounds_toArray, List.set_cons_zero, List.set_cons_succ])))
            generalize (wr.alloc (.cells #[.int .i64 id, .slice An mn cn] 33)).drew = u0 at PX O0 HBu ⊢
            have lzu := HBu.out.size
            have E1 := Lib.hid (own_alloc O0.out (.cells #[.int .i64 id] 3))
            have D1 := Lib.hid (HBu.out.alloc lzu (.cells #[.int .i64 id] 3))
            have X1 := Lib.hid (lit1 u0 3 (.int .i64 id))
            have P1 := Lib.hid (PX.out.alloc (.cells #[.int .i64 id] 3))
            have lz1 := D1.out.size
            (refine wpMix_bar (by rfl) (fun K hK => ?_); go_simp)
            ((try dsimp only); refine hK.out _ _ (⟨P1.out.cell 0, P1.out.cell 1⟩) (fun hSw => ?_); (try clear hSw); clear hK K; (try simp only [Act.put, List.setIfInBounds_toArray, List.set_cons_zero, List.set_cons_succ]))
            generalize u0.alloc (.cells #[.int .i64 id] 3) = u1 at E1 D1 X1 P1 lz1 ⊢
            refine wpMix_bar (by rfl) (fun K hK => ?_)
            rw [if_pos (by rfl)]
            refine wp_append_src _ _ _ 23 (by rfl) w.heap.size 3 i0 _ 1 8 Tryz.underlying23 hi0 hz0 hz1 hz2 rfl (by omega) (.slice A9 m9 c9) m9 _ (by rfl) E1.out (some ⟨u0.heap.size, 0, none⟩) 1 1 [.int .i64 id] (by rfl) X1.out (one1 _ rfl) (by unfold maxLen; omega) (by omega) lz1 ?_
            intro v6 u2 hown6 hgrow6 hrow6
            obtain ⟨A6m, c6m, rfl⟩ := own_shape hown6
            have D2 := Lib.hid (D1.out.grown hgrow6 lz1 (fun j e => (E1.out.lt j e).1))
            have P2 := Lib.hid (P1.out.grown hgrow6 (fun e => own_blk_ne E1.out P1.out (by decide) e.symm))
            have E2 := Lib.hid hown6
            have lz2 := D2.out.size
            have S2 := Lib.hid (srcOfI (Hrn.out.keep (fun p hp => ((Hbi.out.cell (p := p) hp).trans (D2.out.cell (p := p) hp).symm).symm) (Nat.le_refl _)))
            have N2 := Lib.hid (ints_cell1 nd)
            clear hown6 hgrow6 hrow6 E1 D1 X1 P1 lz1
            ((try dsimp only); refine hK.out _ _ (⟨P2.out.cell 0, P2.out.cell 1⟩) (fun hSw => ?_); (try clear hSw); clear hK K; (try simp only [Act.put, List.setIfInBounds_toArray, List.set_cons_zero, List.set_cons_succ]))
            refine wpMix_bar (by rfl) (fun K hK => ?_)
            rw [if_pos (by rfl)]
            refine wp_append_src _ _ _ 23 (by rfl) w.heap.size 3 i0 _ 1 8 Tryz.underlying23 hi0 hz0 hz1 hz2 rfl (by omega) (.slice A6m (m9 + 1) c6m) (m9 + 1) _ (by rfl) E2.out An mn cn _ (by rfl) S2.out N2.out (by unfold maxLen; omega) (by omega) lz2 ?_
            intro v7 u3 hown7 hgrow7 hrow7
            obtain ⟨A7m, c7m, rfl⟩ := own_shape hown7
            have D3 := Lib.hid (D2.out.grown hgrow7 lz2 (fun j e => (E2.out.lt j e).1))
            have P3 := Lib.hid (P2.out.grown hgrow7 (fun e => own_blk_ne E2.out P2.out (by decide) e.symm))
            have E3 := Lib.hid (show u3.ownsRow w.heap.size 3 1 (.slice A7m (m9 + 1 + mn) c7m) (m9 + 1 + mn) ((room ++ (us.take k).flatMap encU ++ [1, (m' : Int)] ++ (ts.take (j + 1)).flatMap encT).map (Value.int .i64)) by rw [Hs.out]; simpa using hown7)
            clear hown7 hgrow7 hrow7 E2 D2 P2 S2 N2 lz2
            ((try dsimp only); refine hK.out _ _ (⟨P3.out.cell 0, P3.out.cell 1⟩) (fun hSw => ?_); (try clear hSw); clear hK K; (try simp only [Act.put, List.setIfInBounds_toArray, List.set_cons_zero, List.set_cons_succ]))
            repeat (first | (refine wpMix_skip (by rfl) (by rfl) ?_; (try simp only [Act.put, List.setIfInBounds_toArray, List.set_cons_zero, List.set_cons_succ])) | (refine wpMix_take (v := ?_) (by rfl) (by rfl) (fun wS hSt => ?_) ?_; rotate_left; (focus ((try dsimp only at hSt); (go_simp <;> with_reducible rfl); done)); (try simp only [Act.put, List.setIfInBounds_toArray, List.set_cons_zero, List.set_cons_succ])))
            refine wpMix_nil ?_
            go_wp2_with fail
            go_roundw
            case measure => simp [intOf]; omega
            case rel => exact ⟨j + 1, A7m, m9 + 1 + mn, c7m, by go_num, by omega, rfl, D3.out, E3.out⟩
          · obtain rfl : m' = j := by omega
            go_wp2_with fail
            go_roundw
            case measure => simp [intOf]; omega
            case rel => exact ⟨k + 1, A9, m9, c9, by go_num, by omega, rfl, Hbi.out, by
              have := Hoi.out
              rw [List.take_of_length_le (l := ts) (by rw [Hml.out]; exact Nat.le_refl _)] at this
              rw [He.out, He2.out]; simpa using this⟩
    · obtain rfl : k = n2 := by omega
      have Hown2 := Lib.hid (show wr.ownsRow w.heap.size 3 1 (.slice A6 m6 c6) m6 ((encC room us).map (Value.int .i64)) by
        have := Hown.out
        rwa [List.take_of_length_le (by rw [hl.out]; exact Nat.le_refl _)] at this)
      have R6 := Lib.hid (own_rdI Hown2.out (by omega))
      have Own7 := Lib.hid (own_alloc Hown2.out (.cells #[.int .i64 (sumP (encC room us))] 3))
      have X7 := Lib.hid (lit1 wr 3 (.int .i64 (sumP (encC room us))))
      have lz7 : w.heap.size ≤ (wr.alloc (.cells #[.int .i64 (sumP (encC room us))] 3)).heap.size := by rw [World.size_alloc]; omega
      have Eb := Lib.hid (show bytesP room us = encC room us ++ [sumP (encC room us)] from rfl)
      go_wp2_with (first | (go_at_call 68; refine (clusterSumI_any A6 m6 c6 wr.heap.size (encC room us) wr R6.out).mono ?_; rintro e w7 ⟨rfl, rfl⟩) | (at_builtin; refine wpList_append_src _ rfl _ _ 23 rfl w.heap.size 3 i0 _ 1 8 Tryz.underlying23 hi0 hz0 hz1 hz2 rfl (by omega) (.slice A6 m6 c6) m6 _ rfl Own7.out (some ⟨wr.heap.size, 0, none⟩) 1 1 [.int .i64 (sumP (encC room us))] rfl X7.out (one1 _ rfl) (by unfold maxLen; omega) (by omega) lz7 ?_; intro v' w8 hown8 hgrow8 hat8; obtain ⟨A8, c8, rfl⟩ := own_shape hown8))
      have B8 := Lib.hid ((Hbel.out.alloc lz (.cells #[.int .i64 (sumP (encC room us))] 3)).grown hgrow8 lz7 (fun j e => (Own7.out.lt j e).1))
      have O8 := Lib.hid hown8
      clear hown8 hgrow8 hat8
      go_wp2_with fail
      go_ret
      refine ⟨A8, m6 + 1, c8, rfl, ?_, B8.out⟩
      rw [Eb.out, List.map_append]
      exact O8.out
end Go.Proofs.YtlegpecjoaklnaaGreatDoor
