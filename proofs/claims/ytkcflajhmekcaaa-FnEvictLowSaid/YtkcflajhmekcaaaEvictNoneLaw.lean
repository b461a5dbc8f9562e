/- The walks of the laws FnEvictNone and FnEvictLow. -/
import Derived.Test.YtkcflajhmekcaaaEvictLawPure
import Derived.Test.YtkcflajhmekcaaaEvictRankLaw
namespace Go.Proofs.Ytkcflajhmekcaaa
open Go Go.RowKit
attribute [local go_sem ↓] Go.wp_at_zero Go.wp_at_succ

set_option maxRecDepth 100000 in
set_option maxHeartbeats 3200000 in
theorem evictNone_walk (A : Option Addr) (n c : Nat) (w : World) (h : RdU w w.heap.size A n) (hc : n ≤ c) (hcm : c ≤ 9223372036854775807) :
    Calls Try.prog 6 #[.slice A n c] w fun e w' => e = .returned (.bool true) ∧ Below w.heap.size w w' := by
  obtain ⟨i0, hi0, hz0, hz1, hz2⟩ := info_parts task_info
  by_cases k1 : 1048576 < n
  · go_enter Try.func6, Try.ntmps6
    go_wp2
    go_ret
    exact ⟨rfl, Below.refl _ _⟩
  go_enter Try.func6, Try.ntmps6
  go_wp2_with fail
  refine (drawEvictList_any A n c w h hc hcm).mono ?_; rintro e w1 ⟨A1, At, A3, A5, mt, n3, ct, c3, room, ts, rk, idx, xs, r, rfl, hR, hc2, hn2, hn3, B1⟩
  have HR := Lib.hid hR
  have HB1 := Lib.hid B1
  have HL2 := Lib.hid hR.b.len
  have B2 := alloc_up w1 (.cells #[.int .i64 idx, .slice A5 3 3] 26)
  have hk := Lib.hid (fun w' => box_two 26 w1 (.int .i64 idx) (.slice A5 3 3) (w' := w'))
  have sz : (w1.alloc (.cells #[.int .i64 idx, .slice A5 3 3] 26)).heap.size = w1.heap.size + 1 := World.size_alloc _ _
  clear hR B1
  obtain ⟨x0, x1⟩ := hk.out _ (Below.refl _ _)
  go_wp2_with fail
  generalize w1.alloc (.cells #[.int .i64 idx, .slice A5 3 3] 26) = w2 at B2 hk sz x0 x1 ⊢
  rw [← sz] at hk
  have HR2 := Lib.hid (HR.out.up B2)
  have HB2 := Lib.hid (below_to HB1.out B2)
  clear sz B2
  have hzm : mt ≤ 1048576 := by omega
  refine (evictListI_any A1 At A3 A5 3 3 mt ct n3 c3 3 3 room rk ts idx xs r w2 HR2.out.a HR2.out.b HR2.out.c HR2.out.d hc2 (Nat.le_refl _) hzm).mono ?_; rintro e w3 ⟨hres, d3⟩
  have D3 := Lib.hid d3
  have HR3 := Lib.hid (HR2.out.up d3)
  have HB3 := Lib.hid (below_to HB2.out d3)
  clear d3 x0 x1
  obtain ⟨x0, x1⟩ := hk.out w3 D3.out
  have hspec := Lib.hid (evictListS_any A1 At A3 A5 3 3 mt ct n3 c3 3 3 room rk ts idx xs r w3 HR3.out.a HR3.out.b HR3.out.c HR3.out.d hc2 (Nat.le_refl _) hzm)
  rcases hres with ⟨hg, rfl⟩ | ⟨g, A7, m5, c7, hg, rfl, hown⟩
  · have Hg := Lib.hid hg
    clear hg
    go_wp2_with fail
    refine hspec.out.mono ?_; rintro e w4 ⟨hres, d4⟩
    have HB4 := Lib.hid (below_to HB3.out d4)
    clear d4 hspec
    rcases hres with ⟨_, A8, c8, rfl⟩ | ⟨g, _, _, _, hg, _, _⟩
    · go_wp2_with fail
      refine (sameInts_any none A8 0 0 c8 0 0 [] _ RdI.nil RdI.nil).mono ?_; rintro e w5 ⟨rfl, m6, rfl⟩
      go_wp2_with fail
      refine (sameInts_any none A8 0 0 c8 0 0 [] _ RdI.nil RdI.nil).mono ?_; rintro e w5 ⟨rfl, m7, rfl⟩
      go_wp2
      go_ret
      exact ⟨rfl, below_drewN HB4.out _⟩
    · rw [Hg.out] at hg; cases hg
  have hlen := own_len hown
  have hm5 : m5 ≤ 8 := by have := listG_len g ts.length; have := HL2.out; omega
  have R5' := Lib.hid (own_rdI hown (by omega))
  have Hlen := Lib.hid hlen
  have Hown := Lib.hid hown
  have Hg := Lib.hid hg
  obtain ⟨hok, hgo⟩ := evP_facts hg
  have Hok := Lib.hid hok
  have Hgo := Lib.hid hgo
  clear hg hlen hown hok hgo
  go_wp2_with fail
  refine hspec.out.mono ?_; rintro e w4 ⟨hres, d4⟩
  have HB4 := Lib.hid (below_to HB3.out d4)
  have D4 := Lib.hid (below_to D3.out d4)
  have HR4 := Lib.hid (HR3.out.up d4)
  have R5 := Lib.hid (R5'.out.up d4)
  clear d4 hspec x0 x1 R5'
  rcases hres with ⟨hg, _⟩ | ⟨g', A8, m6, c8, hg, rfl, hown⟩
  · rw [Hg.out] at hg; cases hg
  obtain rfl : g = g' := by rw [Hg.out] at hg; injection hg
  have hlen := own_len hown
  obtain rfl : m5 = m6 := by have := Hlen.out; omega
  have R6 := Lib.hid (own_rdI hown (by omega))
  clear hg hlen hown
  go_wp2_with fail
  refine (sameInts_any A7 A8 m5 c7 c8 _ _ _ _ R5.out R6.out).mono ?_; rintro e w5 ⟨rfl, m7, rfl⟩
  have HB5 := Lib.hid (below_drewN HB4.out m7)
  have D5 := Lib.hid (below_drewN D4.out m7)
  have HR5 := Lib.hid (HR4.out.up (drew_below w4 m7))
  have R55 := Lib.hid (R5.out.up (drew_below w4 m7))
  have R65 := Lib.hid (R6.out.up (drew_below w4 m7))
  have HRw := Lib.hid (HR5.out)
  have HBw := Lib.hid (HB5.out)
  have DW := Lib.hid (D5.out)
  generalize (w4.drewN m7) = wr at HRw HBw DW ⊢
  have HRT := Lib.hid HRw.out.b
  have HRX := Lib.hid HRw.out.d
  have lmt : mt ≤ 1000 := by omega
  have keepS := Lib.hid (show ∀ W, Below wr.heap.size wr W → W.cell? ⟨w1.heap.size, 0, none⟩ = some (.int .i64 idx) ∧ W.cell? ⟨w1.heap.size, 1, none⟩ = some (.slice A5 3 3) from fun W hW => hk.out W (below_to DW.out hW))
  have K0 := keepS.out wr.drew (Below.refl _ _).drew
  have hlo : wr.heap.size ≤ wr.heap.size := Nat.le_refl _
  clear HR5 HB5 D5 R55 R65 HR4 HB4 D4 R5 R6 HR3 HB3 D3 HR2 HB2
  by_cases hm : m5 = 0
  · have e0 : ((m5 : Int) == 0) = true := by simp [hm]
    have ts_ := Lib.hid (show binsOk room [ts ++ [(idx, xs)]] = true from by rw [evNone Hg.out, Hlen.out, hm]; rfl)
    clear hm
    go_wp2_with fail
    refine wp_region_mix (.take 0 (.take 1 (.take 2 (.take 3 (.take 5 (.take 7 (.fork 4 (.fork 6 (.bar 8 (.bar 9 (.bar 10 (.bar 11 (.take 12 (.take 13 .nil)))))) 8 (.bar 6 (.bar 9 (.bar 10 (.bar 11 (.take 12 (.take 13 .nil))))))) 8 (.bar 4 (.bar 6 (.bar 9 (.bar 10 (.bar 11 (.take 12 (.take 13 .nil)))))))))))))) (fun w' => w'.cell? ⟨w1.heap.size, 0, none⟩ = some (.int .i64 idx) ∧ w'.cell? ⟨w1.heap.size, 1, none⟩ = some (.slice A5 3 3)) (by kernel_rfl) (by kernel_rfl) K0 (fun _ => ?_)
    clear K0
    repeat (first | (refine wpMix_skip (by rfl) (by rfl) ?_; (try simp only [Act.put, List.setIfInBounds_toArray, List.set_cons_zero, List.set_cons_succ])) | (refine wpMix_take (v := ?_) (by rfl) (by rfl) (fun wS hSt => ?_) ?_; rotate_left; (focus ((try dsimp only at hSt); (go_simp <;> with_reducible rfl); done)); (try simp only [Act.put, List.setIfInBounds_toArray, List.set_cons_zero, List.set_cons_succ])))
    have HB0 := Lib.hid ((Below.refl wr.heap.size wr).drew)
    generalize wr.drew = u0 at HB0 ⊢
    refine wpMix_fork (by rfl) (by rfl) (fun K hK => ?_) (fun K hK => ?_)
    go_simp
    have HB1 := Lib.hid (HB0.out.alloc HB0.out.size (.cells #[] 26))
    have sz1 : (u0).heap.size < (World.alloc (u0) (.cells #[] 26)).heap.size := by simp
    have HE := Lib.hid (show (World.alloc (u0) (.cells #[] 26)).ownsRow wr.heap.size 26 2 (.slice (some ⟨(u0).heap.size, 0, none⟩) 0 0) 0 [] from World.ownsRow_made (u0) #[] 0 HB0.out.size (by unfold maxLen; omega) rfl)
    ((try dsimp only); refine hK.out _ _ (keepS.out _ HB1.out) (fun hSw => ?_); (try clear hSw); clear hK K; (try simp only [Act.put, List.setIfInBounds_toArray, List.set_cons_zero, List.set_cons_succ]))
    generalize (u0).heap.size = ge at HE sz1 ⊢
    generalize World.alloc (u0) (.cells #[] 26) = u1 at HB1 sz1 HE ⊢
    refine wpMix_fork (by rfl) (by rfl) (fun K hK => ?_) (fun K hK => ?_)
    skip
    rw [if_pos (by rfl)]
    obtain ⟨news, hsrc, htn⟩ := (HRT.out.below (HB1.out.mono hlo)).src
    refine wp_append_src _ _ _ 24 (by rfl) wr.heap.size 26 i0 _ 2 32 Try.underlying24 hi0 hz0 hz1 hz2 rfl (by omega) (.slice (some ⟨ge, 0, none⟩) 0 0) 0 [] (by rfl) HE.out At mt ct news (by rfl) hsrc htn.one (by unfold maxLen; omega) (by omega) HB1.out.size ?_
    intro v6 u2 hown6 hgrow6 hrow6
    rw [Nat.zero_add, List.nil_append] at hown6
    obtain ⟨A6m, c6m, rfl⟩ := own_shape hown6
    have Hown := Lib.hid hown6
    have HB2 := Lib.hid (HB1.out.grown hgrow6 HB1.out.size (fun j e => (HE.out.lt j e).1))
    have Htk := Lib.hid (htn.below (((Below.refl wr.heap.size (u1)).grown hgrow6 HB1.out.size (fun j e => (HE.out.lt j e).1)).mono hlo))
    have sz2 := hgrow6.size
    clear hown6 hrow6 hsrc htn hgrow6
    ((try dsimp only); refine hK.out _ _ (keepS.out _ HB2.out) (fun hSw => ?_); (try clear hSw); clear hK K; (try simp only [Act.put, List.setIfInBounds_toArray, List.set_cons_zero, List.set_cons_succ]))
    (refine wpMix_bar (by rfl) (fun K hK => ?_); go_simp)
    have HB3 := Lib.hid (HB2.out.alloc HB2.out.size (.cells #[.int .i64 idx, .slice A5 3 3] 26))
    have sz3 : (u2).heap.size < (World.alloc (u2) (.cells #[.int .i64 idx, .slice A5 3 3] 26)).heap.size := by simp
    have HXB := Lib.hid (Blk.new (u2) 26 #[.int .i64 idx, .slice A5 3 3])
    replace Hown := Lib.hid (own_keep Hown.out (w' := World.alloc (u2) (.cells #[.int .i64 idx, .slice A5 3 3] 26)) (fun b hb => Below.heap_alloc _ _ _ (Hown.out.lt b hb).2))
    replace Htk := Lib.hid (Htk.out.below (((Below.refl wr.heap.size (u2)).alloc HB2.out.size (.cells #[.int .i64 idx, .slice A5 3 3] 26)).mono hlo))
    ((try dsimp only); refine hK.out _ _ (keepS.out _ HB3.out) (fun hSw => ?_); (try clear hSw); clear hK K; (try simp only [Act.put, List.setIfInBounds_toArray, List.set_cons_zero, List.set_cons_succ]))
    generalize (u2).heap.size = gx at HXB sz2 sz3 ⊢
    generalize World.alloc (u2) (.cells #[.int .i64 idx, .slice A5 3 3] 26) = u3 at HB3 sz3 HXB Hown Htk ⊢
    have HBz := HB3
    have HX := Lib.hid (show Src u3 2 (some ⟨gx, 0, none⟩) 1 [.int .i64 idx, .slice A5 3 3] from ⟨rfl, fun _ => ⟨_, rfl, fun j u hu => by rw [addr_add, Nat.zero_add, HXB.out.cell]; simpa using hu⟩⟩)
    clear HB0 HB1 HB2 HB3 HE HXB sz1 sz2 sz3
    rotate_left
    go_simp
    have HB2 := Lib.hid (HB1.out.alloc HB1.out.size (.cells #[.int .i64 idx, .slice A5 3 3] 26))
    have sz2 : (u1).heap.size < (World.alloc (u1) (.cells #[.int .i64 idx, .slice A5 3 3] 26)).heap.size := by simp
    have HXB := Lib.hid (Blk.new (u1) 26 #[.int .i64 idx, .slice A5 3 3])
    replace HE := Lib.hid (own_keep HE.out (w' := World.alloc (u1) (.cells #[.int .i64 idx, .slice A5 3 3] 26)) (fun b hb => Below.heap_alloc _ _ _ (HE.out.lt b hb).2))
    ((try dsimp only); refine hK.out _ _ (keepS.out _ HB2.out) (fun hSw => ?_); (try clear hSw); clear hK K; (try simp only [Act.put, List.setIfInBounds_toArray, List.set_cons_zero, List.set_cons_succ]))
    generalize (u1).heap.size = gx at HXB sz1 sz2 ⊢
    generalize World.alloc (u1) (.cells #[.int .i64 idx, .slice A5 3 3] 26) = u2 at HB2 sz2 HE HXB ⊢
    refine wpMix_bar (by rfl) (fun K hK => ?_)
    rw [if_pos (by rfl)]
    obtain ⟨news, hsrc, htn⟩ := (HRT.out.below (HB2.out.mono hlo)).src
    refine wp_append_src _ _ _ 24 (by rfl) wr.heap.size 26 i0 _ 2 32 Try.underlying24 hi0 hz0 hz1 hz2 rfl (by omega) (.slice (some ⟨ge, 0, none⟩) 0 0) 0 [] (by rfl) HE.out At mt ct news (by rfl) hsrc htn.one (by unfold maxLen; omega) (by omega) HB2.out.size ?_
    intro v6 u3 hown6 hgrow6 hrow6
    rw [Nat.zero_add, List.nil_append] at hown6
    obtain ⟨A6m, c6m, rfl⟩ := own_shape hown6
    have Hown := Lib.hid hown6
    have HB3 := Lib.hid (HB2.out.grown hgrow6 HB2.out.size (fun j e => (HE.out.lt j e).1))
    have Htk := Lib.hid (htn.below (((Below.refl wr.heap.size (u2)).grown hgrow6 HB2.out.size (fun j e => (HE.out.lt j e).1)).mono hlo))
    replace HXB := Lib.hid (HXB.out.grown hgrow6 (fun e => by simp [Value.ownBlock] at e; omega))
    have sz3 := hgrow6.size
    clear hown6 hrow6 hsrc htn hgrow6
    ((try dsimp only); refine hK.out _ _ (keepS.out _ HB3.out) (fun hSw => ?_); (try clear hSw); clear hK K; (try simp only [Act.put, List.setIfInBounds_toArray, List.set_cons_zero, List.set_cons_succ]))
    have HBz := HB3
    have HX := Lib.hid (show Src u3 2 (some ⟨gx, 0, none⟩) 1 [.int .i64 idx, .slice A5 3 3] from ⟨rfl, fun _ => ⟨_, rfl, fun j u hu => by rw [addr_add, Nat.zero_add, HXB.out.cell]; simpa using hu⟩⟩)
    clear HB0 HB1 HB2 HB3 HE HXB sz1 sz2 sz3
    rotate_left
    go_simp
    have HB1 := Lib.hid (HB0.out.alloc HB0.out.size (.cells #[.int .i64 idx, .slice A5 3 3] 26))
    have sz1 : (u0).heap.size < (World.alloc (u0) (.cells #[.int .i64 idx, .slice A5 3 3] 26)).heap.size := by simp
    have HXB := Lib.hid (Blk.new (u0) 26 #[.int .i64 idx, .slice A5 3 3])
    ((try dsimp only); refine hK.out _ _ (keepS.out _ HB1.out) (fun hSw => ?_); (try clear hSw); clear hK K; (try simp only [Act.put, List.setIfInBounds_toArray, List.set_cons_zero, List.set_cons_succ]))
    generalize (u0).heap.size = gx at HXB sz1 ⊢
    generalize World.alloc (u0) (.cells #[.int .i64 idx, .slice A5 3 3] 26) = u1 at HB1 sz1 HXB ⊢
    (refine wpMix_bar (by rfl) (fun K hK => ?_); go_simp)
    have HB2 := Lib.hid (HB1.out.alloc HB1.out.size (.cells #[] 26))
    have sz2 : (u1).heap.size < (World.alloc (u1) (.cells #[] 26)).heap.size := by simp
    have HE := Lib.hid (show (World.alloc (u1) (.cells #[] 26)).ownsRow wr.heap.size 26 2 (.slice (some ⟨(u1).heap.size, 0, none⟩) 0 0) 0 [] from World.ownsRow_made (u1) #[] 0 HB1.out.size (by unfold maxLen; omega) rfl)
    replace HXB := Lib.hid (HXB.out.alloc (.cells #[] 26))
    ((try dsimp only); refine hK.out _ _ (keepS.out _ HB2.out) (fun hSw => ?_); (try clear hSw); clear hK K; (try simp only [Act.put, List.setIfInBounds_toArray, List.set_cons_zero, List.set_cons_succ]))
    generalize (u1).heap.size = ge at HE sz1 sz2 ⊢
    generalize World.alloc (u1) (.cells #[] 26) = u2 at HB2 sz2 HE HXB ⊢
    refine wpMix_bar (by rfl) (fun K hK => ?_)
    rw [if_pos (by rfl)]
    obtain ⟨news, hsrc, htn⟩ := (HRT.out.below (HB2.out.mono hlo)).src
    refine wp_append_src _ _ _ 24 (by rfl) wr.heap.size 26 i0 _ 2 32 Try.underlying24 hi0 hz0 hz1 hz2 rfl (by omega) (.slice (some ⟨ge, 0, none⟩) 0 0) 0 [] (by rfl) HE.out At mt ct news (by rfl) hsrc htn.one (by unfold maxLen; omega) (by omega) HB2.out.size ?_
    intro v6 u3 hown6 hgrow6 hrow6
    rw [Nat.zero_add, List.nil_append] at hown6
    obtain ⟨A6m, c6m, rfl⟩ := own_shape hown6
    have Hown := Lib.hid hown6
    have HB3 := Lib.hid (HB2.out.grown hgrow6 HB2.out.size (fun j e => (HE.out.lt j e).1))
    have Htk := Lib.hid (htn.below (((Below.refl wr.heap.size (u2)).grown hgrow6 HB2.out.size (fun j e => (HE.out.lt j e).1)).mono hlo))
    replace HXB := Lib.hid (HXB.out.grown hgrow6 (fun e => by simp [Value.ownBlock] at e; omega))
    have sz3 := hgrow6.size
    clear hown6 hrow6 hsrc htn hgrow6
    ((try dsimp only); refine hK.out _ _ (keepS.out _ HB3.out) (fun hSw => ?_); (try clear hSw); clear hK K; (try simp only [Act.put, List.setIfInBounds_toArray, List.set_cons_zero, List.set_cons_succ]))
    have HBz := HB3
    have HX := Lib.hid (show Src u3 2 (some ⟨gx, 0, none⟩) 1 [.int .i64 idx, .slice A5 3 3] from ⟨rfl, fun _ => ⟨_, rfl, fun j u hu => by rw [addr_add, Nat.zero_add, HXB.out.cell]; simpa using hu⟩⟩)
    clear HB0 HB1 HB2 HB3 HE HXB sz1 sz2 sz3
    rotate_left
    all_goals
      refine wpMix_bar (by rfl) (fun K hK => ?_)
      rw [if_pos (by rfl)]
      refine wp_append_src _ _ _ 24 (by rfl) wr.heap.size 26 i0 _ 2 32 Try.underlying24 hi0 hz0 hz1 hz2 rfl (by omega) (.slice A6m mt c6m) mt news (by rfl) Hown.out (some ⟨gx, 0, none⟩) 1 1 [.int .i64 idx, .slice A5 3 3] (by rfl) HX.out (by simp [Value.oneCell']) (by unfold maxLen; omega) (by omega) HBz.out.size ?_
      intro v7 w7 hown7 hgrow7 hrow7
      obtain ⟨A9, c9, rfl⟩ := own_shape hown7
      have L7 := (Below.refl wr.heap.size u3).grown hgrow7 HBz.out.size (fun j e => (Hown.out.lt j e).1)
      have HB7 := Lib.hid (HBz.out.trans L7)
      have Hr7 := Lib.hid (RdT.of_own hown7 ((Htk.out.below L7).append (TkCells.single (id := idx) (HRX.out.below HB7.out) (Nat.le_refl 3))) HB7.out.size (by omega))
      have hc7 := own_cap hown7
      clear L7 hown7 hgrow7 hrow7 Hown Htk HX HBz
      ((try dsimp only); refine hK.out _ _ (keepS.out _ HB7.out) (fun hSw => ?_); (try clear hSw); clear hK K; (try simp only [Act.put, List.setIfInBounds_toArray, List.set_cons_zero, List.set_cons_succ]))
      (refine wpMix_bar (by rfl) (fun K hK => ?_); go_simp)
      have HB8 := Lib.hid (HB7.out.alloc HB7.out.size (.cells #[.slice A9 (mt + 1) c9] 24))
      have HR8 := Lib.hid (RdB.one (Blk.new w7 24 #[.slice A9 (mt + 1) c9]) hc7 (Hr7.out.up (alloc_up w7 _)))
      ((try dsimp only); refine hK.out _ _ (keepS.out _ HB8.out) (fun hSw => ?_); (try clear hSw); clear hK K; (try simp only [Act.put, List.setIfInBounds_toArray, List.set_cons_zero, List.set_cons_succ]))
      (refine wpMix_bar (by rfl) (fun K hK => ?_); go_simp)
      refine (binsValidI_any A1 _ 3 3 1 1 room _ _ (HRw.out.a.up HB8.out) HR8.out (by have := HL2.out; simp; omega)).mono ?_; rintro e w9 ⟨rfl, hb9⟩
      rw [ts_.out]
      have HB9 := Lib.hid (below_to HB8.out hb9)
      clear hb9
      ((try dsimp only); refine hK.out _ _ (keepS.out _ HB9.out) (fun hSw => ?_); (try clear hSw); clear hK K; (try simp only [Act.put, List.setIfInBounds_toArray, List.set_cons_zero, List.set_cons_succ]))
      repeat (first | (refine wpMix_skip (by rfl) (by rfl) ?_; (try simp only [Act.put, List.setIfInBounds_toArray, List.set_cons_zero, List.set_cons_succ])) | (refine wpMix_take (v := ?_) (by rfl) (by rfl) (fun wS hSt => ?_) ?_; rotate_left; (focus ((try dsimp only at hSt); (go_simp <;> with_reducible rfl); done)); (try simp only [Act.put, List.setIfInBounds_toArray, List.set_cons_zero, List.set_cons_succ])))
      refine wpMix_nil ?_
      go_wp2
      go_ret
      exact ⟨rfl, below_to HBw.out HB9.out⟩

  · have e0 : ((m5 : Int) == 0) = false := by simp [hm]
    have ts_ := Lib.hid (show binsOk room [ts ++ [(idx, xs)]] = false from by rw [evNone Hg.out, Hlen.out]; simp [hm])
    clear hm
    go_wp2_with fail
    refine wp_region_mix (.take 0 (.take 1 (.take 2 (.take 3 (.take 5 (.take 7 (.fork 4 (.fork 6 (.bar 8 (.bar 9 (.bar 10 (.bar 11 (.take 12 (.take 13 .nil)))))) 8 (.bar 6 (.bar 9 (.bar 10 (.bar 11 (.take 12 (.take 13 .nil))))))) 8 (.bar 4 (.bar 6 (.bar 9 (.bar 10 (.bar 11 (.take 12 (.take 13 .nil)))))))))))))) (fun w' => w'.cell? ⟨w1.heap.size, 0, none⟩ = some (.int .i64 idx) ∧ w'.cell? ⟨w1.heap.size, 1, none⟩ = some (.slice A5 3 3)) (by kernel_rfl) (by kernel_rfl) K0 (fun _ => ?_)
    clear K0
    repeat (first | (refine wpMix_skip (by rfl) (by rfl) ?_; (try simp only [Act.put, List.setIfInBounds_toArray, List.set_cons_zero, List.set_cons_succ])) | (refine wpMix_take (v := ?_) (by rfl) (by rfl) (fun wS hSt => ?_) ?_; rotate_left; (focus ((try dsimp only at hSt); (go_simp <;> with_reducible rfl); done)); (try simp only [Act.put, List.setIfInBounds_toArray, List.set_cons_zero, List.set_cons_succ])))
    have HB0 := Lib.hid ((Below.refl wr.heap.size wr).drew)
    generalize wr.drew = u0 at HB0 ⊢
    refine wpMix_fork (by rfl) (by rfl) (fun K hK => ?_) (fun K hK => ?_)
    go_simp
    have HB1 := Lib.hid (HB0.out.alloc HB0.out.size (.cells #[] 26))
    have sz1 : (u0).heap.size < (World.alloc (u0) (.cells #[] 26)).heap.size := by simp
    have HE := Lib.hid (show (World.alloc (u0) (.cells #[] 26)).ownsRow wr.heap.size 26 2 (.slice (some ⟨(u0).heap.size, 0, none⟩) 0 0) 0 [] from World.ownsRow_made (u0) #[] 0 HB0.out.size (by unfold maxLen; omega) rfl)
    ((try dsimp only); refine hK.out _ _ (keepS.out _ HB1.out) (fun hSw => ?_); (try clear hSw); clear hK K; (try simp only [Act.put, List.setIfInBounds_toArray, List.set_cons_zero, List.set_cons_succ]))
    generalize (u0).heap.size = ge at HE sz1 ⊢
    generalize World.alloc (u0) (.cells #[] 26) = u1 at HB1 sz1 HE ⊢
    refine wpMix_fork (by rfl) (by rfl) (fun K hK => ?_) (fun K hK => ?_)
    skip
    rw [if_pos (by rfl)]
    obtain ⟨news, hsrc, htn⟩ := (HRT.out.below (HB1.out.mono hlo)).src
    refine wp_append_src _ _ _ 24 (by rfl) wr.heap.size 26 i0 _ 2 32 Try.underlying24 hi0 hz0 hz1 hz2 rfl (by omega) (.slice (some ⟨ge, 0, none⟩) 0 0) 0 [] (by rfl) HE.out At mt ct news (by rfl) hsrc htn.one (by unfold maxLen; omega) (by omega) HB1.out.size ?_
    intro v6 u2 hown6 hgrow6 hrow6
    rw [Nat.zero_add, List.nil_append] at hown6
    obtain ⟨A6m, c6m, rfl⟩ := own_shape hown6
    have Hown := Lib.hid hown6
    have HB2 := Lib.hid (HB1.out.grown hgrow6 HB1.out.size (fun j e => (HE.out.lt j e).1))
    have Htk := Lib.hid (htn.below (((Below.refl wr.heap.size (u1)).grown hgrow6 HB1.out.size (fun j e => (HE.out.lt j e).1)).mono hlo))
    have sz2 := hgrow6.size
    clear hown6 hrow6 hsrc htn hgrow6
    ((try dsimp only); refine hK.out _ _ (keepS.out _ HB2.out) (fun hSw => ?_); (try clear hSw); clear hK K; (try simp only [Act.put, List.setIfInBounds_toArray, List.set_cons_zero, List.set_cons_succ]))
    (refine wpMix_bar (by rfl) (fun K hK => ?_); go_simp)
    have HB3 := Lib.hid (HB2.out.alloc HB2.out.size (.cells #[.int .i64 idx, .slice A5 3 3] 26))
    have sz3 : (u2).heap.size < (World.alloc (u2) (.cells #[.int .i64 idx, .slice A5 3 3] 26)).heap.size := by simp
    have HXB := Lib.hid (Blk.new (u2) 26 #[.int .i64 idx, .slice A5 3 3])
    replace Hown := Lib.hid (own_keep Hown.out (w' := World.alloc (u2) (.cells #[.int .i64 idx, .slice A5 3 3] 26)) (fun b hb => Below.heap_alloc _ _ _ (Hown.out.lt b hb).2))
    replace Htk := Lib.hid (Htk.out.below (((Below.refl wr.heap.size (u2)).alloc HB2.out.size (.cells #[.int .i64 idx, .slice A5 3 3] 26)).mono hlo))
    ((try dsimp only); refine hK.out _ _ (keepS.out _ HB3.out) (fun hSw => ?_); (try clear hSw); clear hK K; (try simp only [Act.put, List.setIfInBounds_toArray, List.set_cons_zero, List.set_cons_succ]))
    generalize (u2).heap.size = gx at HXB sz2 sz3 ⊢
    generalize World.alloc (u2) (.cells #[.int .i64 idx, .slice A5 3 3] 26) = u3 at HB3 sz3 HXB Hown Htk ⊢
    have HBz := HB3
    have HX := Lib.hid (show Src u3 2 (some ⟨gx, 0, none⟩) 1 [.int .i64 idx, .slice A5 3 3] from ⟨rfl, fun _ => ⟨_, rfl, fun j u hu => by rw [addr_add, Nat.zero_add, HXB.out.cell]; simpa using hu⟩⟩)
    clear HB0 HB1 HB2 HB3 HE HXB sz1 sz2 sz3
    rotate_left
    go_simp
    have HB2 := Lib.hid (HB1.out.alloc HB1.out.size (.cells #[.int .i64 idx, .slice A5 3 3] 26))
    have sz2 : (u1).heap.size < (World.alloc (u1) (.cells #[.int .i64 idx, .slice A5 3 3] 26)).heap.size := by simp
    have HXB := Lib.hid (Blk.new (u1) 26 #[.int .i64 idx, .slice A5 3 3])
    replace HE := Lib.hid (own_keep HE.out (w' := World.alloc (u1) (.cells #[.int .i64 idx, .slice A5 3 3] 26)) (fun b hb => Below.heap_alloc _ _ _ (HE.out.lt b hb).2))
    ((try dsimp only); refine hK.out _ _ (keepS.out _ HB2.out) (fun hSw => ?_); (try clear hSw); clear hK K; (try simp only [Act.put, List.setIfInBounds_toArray, List.set_cons_zero, List.set_cons_succ]))
    generalize (u1).heap.size = gx at HXB sz1 sz2 ⊢
    generalize World.alloc (u1) (.cells #[.int .i64 idx, .slice A5 3 3] 26) = u2 at HB2 sz2 HE HXB ⊢
    refine wpMix_bar (by rfl) (fun K hK => ?_)
    rw [if_pos (by rfl)]
    obtain ⟨news, hsrc, htn⟩ := (HRT.out.below (HB2.out.mono hlo)).src
    refine wp_append_src _ _ _ 24 (by rfl) wr.heap.size 26 i0 _ 2 32 Try.underlying24 hi0 hz0 hz1 hz2 rfl (by omega) (.slice (some ⟨ge, 0, none⟩) 0 0) 0 [] (by rfl) HE.out At mt ct news (by rfl) hsrc htn.one (by unfold maxLen; omega) (by omega) HB2.out.size ?_
    intro v6 u3 hown6 hgrow6 hrow6
    rw [Nat.zero_add, List.nil_append] at hown6
    obtain ⟨A6m, c6m, rfl⟩ := own_shape hown6
    have Hown := Lib.hid hown6
    have HB3 := Lib.hid (HB2.out.grown hgrow6 HB2.out.size (fun j e => (HE.out.lt j e).1))
    have Htk := Lib.hid (htn.below (((Below.refl wr.heap.size (u2)).grown hgrow6 HB2.out.size (fun j e => (HE.out.lt j e).1)).mono hlo))
    replace HXB := Lib.hid (HXB.out.grown hgrow6 (fun e => by simp [Value.ownBlock] at e; omega))
    have sz3 := hgrow6.size
    clear hown6 hrow6 hsrc htn hgrow6
    ((try dsimp only); refine hK.out _ _ (keepS.out _ HB3.out) (fun hSw => ?_); (try clear hSw); clear hK K; (try simp only [Act.put, List.setIfInBounds_toArray, List.set_cons_zero, List.set_cons_succ]))
    have HBz := HB3
    have HX := Lib.hid (show Src u3 2 (some ⟨gx, 0, none⟩) 1 [.int .i64 idx, .slice A5 3 3] from ⟨rfl, fun _ => ⟨_, rfl, fun j u hu => by rw [addr_add, Nat.zero_add, HXB.out.cell]; simpa using hu⟩⟩)
    clear HB0 HB1 HB2 HB3 HE HXB sz1 sz2 sz3
    rotate_left
    go_simp
    have HB1 := Lib.hid (HB0.out.alloc HB0.out.size (.cells #[.int .i64 idx, .slice A5 3 3] 26))
    have sz1 : (u0).heap.size < (World.alloc (u0) (.cells #[.int .i64 idx, .slice A5 3 3] 26)).heap.size := by simp
    have HXB := Lib.hid (Blk.new (u0) 26 #[.int .i64 idx, .slice A5 3 3])
    ((try dsimp only); refine hK.out _ _ (keepS.out _ HB1.out) (fun hSw => ?_); (try clear hSw); clear hK K; (try simp only [Act.put, List.setIfInBounds_toArray, List.set_cons_zero, List.set_cons_succ]))
    generalize (u0).heap.size = gx at HXB sz1 ⊢
    generalize World.alloc (u0) (.cells #[.int .i64 idx, .slice A5 3 3] 26) = u1 at HB1 sz1 HXB ⊢
    (refine wpMix_bar (by rfl) (fun K hK => ?_); go_simp)
    have HB2 := Lib.hid (HB1.out.alloc HB1.out.size (.cells #[] 26))
    have sz2 : (u1).heap.size < (World.alloc (u1) (.cells #[] 26)).heap.size := by simp
    have HE := Lib.hid (show (World.alloc (u1) (.cells #[] 26)).ownsRow wr.heap.size 26 2 (.slice (some ⟨(u1).heap.size, 0, none⟩) 0 0) 0 [] from World.ownsRow_made (u1) #[] 0 HB1.out.size (by unfold maxLen; omega) rfl)
    replace HXB := Lib.hid (HXB.out.alloc (.cells #[] 26))
    ((try dsimp only); refine hK.out _ _ (keepS.out _ HB2.out) (fun hSw => ?_); (try clear hSw); clear hK K; (try simp only [Act.put, List.setIfInBounds_toArray, List.set_cons_zero, List.set_cons_succ]))
    generalize (u1).heap.size = ge at HE sz1 sz2 ⊢
    generalize World.alloc (u1) (.cells #[] 26) = u2 at HB2 sz2 HE HXB ⊢
    refine wpMix_bar (by rfl) (fun K hK => ?_)
    rw [if_pos (by rfl)]
    obtain ⟨news, hsrc, htn⟩ := (HRT.out.below (HB2.out.mono hlo)).src
    refine wp_append_src _ _ _ 24 (by rfl) wr.heap.size 26 i0 _ 2 32 Try.underlying24 hi0 hz0 hz1 hz2 rfl (by omega) (.slice (some ⟨ge, 0, none⟩) 0 0) 0 [] (by rfl) HE.out At mt ct news (by rfl) hsrc htn.one (by unfold maxLen; omega) (by omega) HB2.out.size ?_
    intro v6 u3 hown6 hgrow6 hrow6
    rw [Nat.zero_add, List.nil_append] at hown6
    obtain ⟨A6m, c6m, rfl⟩ := own_shape hown6
    have Hown := Lib.hid hown6
    have HB3 := Lib.hid (HB2.out.grown hgrow6 HB2.out.size (fun j e => (HE.out.lt j e).1))
    have Htk := Lib.hid (htn.below (((Below.refl wr.heap.size (u2)).grown hgrow6 HB2.out.size (fun j e => (HE.out.lt j e).1)).mono hlo))
    replace HXB := Lib.hid (HXB.out.grown hgrow6 (fun e => by simp [Value.ownBlock] at e; omega))
    have sz3 := hgrow6.size
    clear hown6 hrow6 hsrc htn hgrow6
    ((try dsimp only); refine hK.out _ _ (keepS.out _ HB3.out) (fun hSw => ?_); (try clear hSw); clear hK K; (try simp only [Act.put, List.setIfInBounds_toArray, List.set_cons_zero, List.set_cons_succ]))
    have HBz := HB3
    have HX := Lib.hid (show Src u3 2 (some ⟨gx, 0, none⟩) 1 [.int .i64 idx, .slice A5 3 3] from ⟨rfl, fun _ => ⟨_, rfl, fun j u hu => by rw [addr_add, Nat.zero_add, HXB.out.cell]; simpa using hu⟩⟩)
    clear HB0 HB1 HB2 HB3 HE HXB sz1 sz2 sz3
    rotate_left
    all_goals
      refine wpMix_bar (by rfl) (fun K hK => ?_)
      rw [if_pos (by rfl)]
      refine wp_append_src _ _ _ 24 (by rfl) wr.heap.size 26 i0 _ 2 32 Try.underlying24 hi0 hz0 hz1 hz2 rfl (by omega) (.slice A6m mt c6m) mt news (by rfl) Hown.out (some ⟨gx, 0, none⟩) 1 1 [.int .i64 idx, .slice A5 3 3] (by rfl) HX.out (by simp [Value.oneCell']) (by unfold maxLen; omega) (by omega) HBz.out.size ?_
      intro v7 w7 hown7 hgrow7 hrow7
      obtain ⟨A9, c9, rfl⟩ := own_shape hown7
      have L7 := (Below.refl wr.heap.size u3).grown hgrow7 HBz.out.size (fun j e => (Hown.out.lt j e).1)
      have HB7 := Lib.hid (HBz.out.trans L7)
      have Hr7 := Lib.hid (RdT.of_own hown7 ((Htk.out.below L7).append (TkCells.single (id := idx) (HRX.out.below HB7.out) (Nat.le_refl 3))) HB7.out.size (by omega))
      have hc7 := own_cap hown7
      clear L7 hown7 hgrow7 hrow7 Hown Htk HX HBz
      ((try dsimp only); refine hK.out _ _ (keepS.out _ HB7.out) (fun hSw => ?_); (try clear hSw); clear hK K; (try simp only [Act.put, List.setIfInBounds_toArray, List.set_cons_zero, List.set_cons_succ]))
      (refine wpMix_bar (by rfl) (fun K hK => ?_); go_simp)
      have HB8 := Lib.hid (HB7.out.alloc HB7.out.size (.cells #[.slice A9 (mt + 1) c9] 24))
      have HR8 := Lib.hid (RdB.one (Blk.new w7 24 #[.slice A9 (mt + 1) c9]) hc7 (Hr7.out.up (alloc_up w7 _)))
      ((try dsimp only); refine hK.out _ _ (keepS.out _ HB8.out) (fun hSw => ?_); (try clear hSw); clear hK K; (try simp only [Act.put, List.setIfInBounds_toArray, List.set_cons_zero, List.set_cons_succ]))
      (refine wpMix_bar (by rfl) (fun K hK => ?_); go_simp)
      refine (binsValidI_any A1 _ 3 3 1 1 room _ _ (HRw.out.a.up HB8.out) HR8.out (by have := HL2.out; simp; omega)).mono ?_; rintro e w9 ⟨rfl, hb9⟩
      rw [ts_.out]
      have HB9 := Lib.hid (below_to HB8.out hb9)
      clear hb9
      ((try dsimp only); refine hK.out _ _ (keepS.out _ HB9.out) (fun hSw => ?_); (try clear hSw); clear hK K; (try simp only [Act.put, List.setIfInBounds_toArray, List.set_cons_zero, List.set_cons_succ]))
      repeat (first | (refine wpMix_skip (by rfl) (by rfl) ?_; (try simp only [Act.put, List.setIfInBounds_toArray, List.set_cons_zero, List.set_cons_succ])) | (refine wpMix_take (v := ?_) (by rfl) (by rfl) (fun wS hSt => ?_) ?_; rotate_left; (focus ((try dsimp only at hSt); (go_simp <;> with_reducible rfl); done)); (try simp only [Act.put, List.setIfInBounds_toArray, List.set_cons_zero, List.set_cons_succ])))
      refine wpMix_nil ?_
      go_wp2
      go_ret
      exact ⟨rfl, below_to HBw.out HB9.out⟩


set_option maxRecDepth 100000 in
set_option maxHeartbeats 3200000 in
theorem evictLow_walk (A : Option Addr) (n c : Nat) (w : World) (h : RdU w w.heap.size A n) (hc : n ≤ c) (hcm : c ≤ 9223372036854775807) :
    Calls Try.prog 5 #[.slice A n c] w fun e w' => e = .returned (.bool true) ∧ Below w.heap.size w w' := by
  obtain ⟨i0, hi0, hz0, hz1, hz2⟩ := info_parts task_info
  by_cases k1 : 1048576 < n
  · go_enter Try.func5, Try.ntmps5
    go_wp2
    go_ret
    exact ⟨rfl, Below.refl _ _⟩
  go_enter Try.func5, Try.ntmps5
  go_wp2_with fail
  refine (drawEvictList_any A n c w h hc hcm).mono ?_; rintro e w1 ⟨A1, At, A3, A5, mt, n3, ct, c3, room, ts, rk, idx, xs, r, rfl, hR, hc2, hn2, hn3, B1⟩
  have HR := Lib.hid hR
  have HB1 := Lib.hid B1
  have HL2 := Lib.hid hR.b.len
  have B2 := alloc_up w1 (.cells #[.int .i64 idx, .slice A5 3 3] 26)
  have hk := Lib.hid (fun w' => box_two 26 w1 (.int .i64 idx) (.slice A5 3 3) (w' := w'))
  have sz : (w1.alloc (.cells #[.int .i64 idx, .slice A5 3 3] 26)).heap.size = w1.heap.size + 1 := World.size_alloc _ _
  clear hR B1
  obtain ⟨x0, x1⟩ := hk.out _ (Below.refl _ _)
  go_wp2_with fail
  generalize w1.alloc (.cells #[.int .i64 idx, .slice A5 3 3] 26) = w2 at B2 hk sz x0 x1 ⊢
  rw [← sz] at hk
  have HR2 := Lib.hid (HR.out.up B2)
  have HB2 := Lib.hid (below_to HB1.out B2)
  clear sz B2
  have hzm : mt ≤ 1048576 := by omega
  refine (evictListI_any A1 At A3 A5 3 3 mt ct n3 c3 3 3 room rk ts idx xs r w2 HR2.out.a HR2.out.b HR2.out.c HR2.out.d hc2 (Nat.le_refl _) hzm).mono ?_; rintro e w3 ⟨hres, d3⟩
  have D3 := Lib.hid d3
  have HR3 := Lib.hid (HR2.out.up d3)
  have HB3 := Lib.hid (below_to HB2.out d3)
  clear d3 x0 x1
  obtain ⟨x0, x1⟩ := hk.out w3 D3.out
  have hspec := Lib.hid (evictListS_any A1 At A3 A5 3 3 mt ct n3 c3 3 3 room rk ts idx xs r w3 HR3.out.a HR3.out.b HR3.out.c HR3.out.d hc2 (Nat.le_refl _) hzm)
  rcases hres with ⟨hg, rfl⟩ | ⟨g, A7, m5, c7, hg, rfl, hown⟩
  · have Hg := Lib.hid hg
    clear hg
    go_wp2_with fail
    refine hspec.out.mono ?_; rintro e w4 ⟨hres, d4⟩
    have HB4 := Lib.hid (below_to HB3.out d4)
    clear d4 hspec
    rcases hres with ⟨_, A8, c8, rfl⟩ | ⟨g, _, _, _, hg, _, _⟩
    · go_wp2_with fail
      refine (sameInts_any none A8 0 0 c8 0 0 [] _ RdI.nil RdI.nil).mono ?_; rintro e w5 ⟨rfl, m6, rfl⟩
      go_wp2_with fail
      refine (sameInts_any none A8 0 0 c8 0 0 [] _ RdI.nil RdI.nil).mono ?_; rintro e w5 ⟨rfl, m7, rfl⟩
      go_wp2
      go_ret
      exact ⟨rfl, below_drewN HB4.out _⟩
    · rw [Hg.out] at hg; cases hg
  have hlen := own_len hown
  have hm5 : m5 ≤ 8 := by have := listG_len g ts.length; have := HL2.out; omega
  have R5' := Lib.hid (own_rdI hown (by omega))
  have Hlen := Lib.hid hlen
  have Hown := Lib.hid hown
  have Hg := Lib.hid hg
  obtain ⟨hok, hgo⟩ := evP_facts hg
  have Hok := Lib.hid hok
  have Hgo := Lib.hid hgo
  clear hg hlen hown hok hgo
  go_wp2_with fail
  refine hspec.out.mono ?_; rintro e w4 ⟨hres, d4⟩
  have HB4 := Lib.hid (below_to HB3.out d4)
  have D4 := Lib.hid (below_to D3.out d4)
  have HR4 := Lib.hid (HR3.out.up d4)
  have R5 := Lib.hid (R5'.out.up d4)
  clear d4 hspec x0 x1 R5'
  rcases hres with ⟨hg, _⟩ | ⟨g', A8, m6, c8, hg, rfl, hown⟩
  · rw [Hg.out] at hg; cases hg
  obtain rfl : g = g' := by rw [Hg.out] at hg; injection hg
  have hlen := own_len hown
  obtain rfl : m5 = m6 := by have := Hlen.out; omega
  have R6 := Lib.hid (own_rdI hown (by omega))
  clear hg hlen hown
  go_wp2_with fail
  refine (sameInts_any A7 A8 m5 c7 c8 _ _ _ _ R5.out R6.out).mono ?_; rintro e w5 ⟨rfl, m7, rfl⟩
  have HB5 := Lib.hid (below_drewN HB4.out m7)
  have D5 := Lib.hid (below_drewN D4.out m7)
  have HR5 := Lib.hid (HR4.out.up (drew_below w4 m7))
  have R55 := Lib.hid (R5.out.up (drew_below w4 m7))
  have R65 := Lib.hid (R6.out.up (drew_below w4 m7))
  have hlow := Lib.hid (evLow Hg.out)
  obtain ⟨x0, x1⟩ := hk.out _ D5.out
  go_wp2_with fail
  refine (evictListI_any A1 At A3 A5 3 3 mt ct n3 c3 3 3 room rk ts idx xs 0 _ HR5.out.a HR5.out.b HR5.out.c HR5.out.d hc2 (Nat.le_refl _) hzm).mono ?_; rintro e w6 ⟨hres, d6⟩
  clear x0 x1
  cases hbv : binsOk room [ts ++ [(idx, xs)]] with
  | true =>
    rw [hbv] at hlow
    have ts_ := Lib.hid hbv
    clear hbv
    rcases hres with ⟨hg, _⟩ | ⟨g', A10, m9, c10, hg, rfl, hown⟩
    · rw [hlow.out] at hg; cases hg
    have hm9 : m9 = 0 := by
      rw [hlow.out] at hg
      injection hg with hg
      subst hg
      have := own_len hown
      have h0 : (listG (fun _ => false) ts.length).length = 0 := listG_none.2 (fun _ _ => rfl)
      omega
    subst hm9
    clear hg hown
    have HRw := Lib.hid (HR5.out.up d6)
    have HBw := Lib.hid (below_to HB5.out d6)
    have DW := Lib.hid (below_to D5.out d6)
    generalize w6 = wr at HRw HBw DW ⊢
    have HRT := Lib.hid HRw.out.b
    have HRX := Lib.hid HRw.out.d
    have lmt : mt ≤ 1000 := by omega
    have keepS := Lib.hid (show ∀ W, Below wr.heap.size wr W → W.cell? ⟨w1.heap.size, 0, none⟩ = some (.int .i64 idx) ∧ W.cell? ⟨w1.heap.size, 1, none⟩ = some (.slice A5 3 3) from fun W hW => hk.out W (below_to DW.out hW))
    have K0 := keepS.out wr.drew (Below.refl _ _).drew
    have hlo : wr.heap.size ≤ wr.heap.size := Nat.le_refl _
    clear HR5 HB5 D5 R55 R65 HR4 HB4 D4 R5 R6 HR3 HB3 D3 HR2 HB2 d6
    go_wp2_with fail
    refine wp_region_mix (.take 0 (.take 1 (.take 2 (.take 3 (.take 4 (.take 5 (.take 7 (.take 9 (.fork 6 (.fork 8 (.bar 10 (.bar 11 (.bar 12 (.bar 13 (.take 14 (.take 15 (.take 16 .nil))))))) 10 (.bar 8 (.bar 11 (.bar 12 (.bar 13 (.take 14 (.take 15 (.take 16 .nil)))))))) 10 (.bar 6 (.bar 8 (.bar 11 (.bar 12 (.bar 13 (.take 14 (.take 15 (.take 16 .nil))))))))))))))))) (fun w' => w'.cell? ⟨w1.heap.size, 0, none⟩ = some (.int .i64 idx) ∧ w'.cell? ⟨w1.heap.size, 1, none⟩ = some (.slice A5 3 3)) (by kernel_rfl) (by kernel_rfl) K0 (fun _ => ?_)
    clear K0
    repeat (first | (refine wpMix_skip (by rfl) (by rfl) ?_; (try simp only [Act.put, List.setIfInBounds_toArray, List.set_cons_zero, List.set_cons_succ])) | (refine wpMix_take (v := ?_) (by rfl) (by rfl) (fun wS hSt => ?_) ?_; rotate_left; (focus ((try dsimp only at hSt); (go_simp <;> with_reducible rfl); done)); (try simp only [Act.put, List.setIfInBounds_toArray, List.set_cons_zero, List.set_cons_succ])))
    have HB0 := Lib.hid ((Below.refl wr.heap.size wr).drew)
    generalize wr.drew = u0 at HB0 ⊢
    refine wpMix_fork (by rfl) (by rfl) (fun K hK => ?_) (fun K hK => ?_)
    go_simp
    have HB1 := Lib.hid (HB0.out.alloc HB0.out.size (.cells #[] 26))
    have sz1 : (u0).heap.size < (World.alloc (u0) (.cells #[] 26)).heap.size := by simp
    have HE := Lib.hid (show (World.alloc (u0) (.cells #[] 26)).ownsRow wr.heap.size 26 2 (.slice (some ⟨(u0).heap.size, 0, none⟩) 0 0) 0 [] from World.ownsRow_made (u0) #[] 0 HB0.out.size (by unfold maxLen; omega) rfl)
    ((try dsimp only); refine hK.out _ _ (keepS.out _ HB1.out) (fun hSw => ?_); (try clear hSw); clear hK K; (try simp only [Act.put, List.setIfInBounds_toArray, List.set_cons_zero, List.set_cons_succ]))
    generalize (u0).heap.size = ge at HE sz1 ⊢
    generalize World.alloc (u0) (.cells #[] 26) = u1 at HB1 sz1 HE ⊢
    refine wpMix_fork (by rfl) (by rfl) (fun K hK => ?_) (fun K hK => ?_)
    skip
    rw [if_pos (by rfl)]
    obtain ⟨news, hsrc, htn⟩ := (HRT.out.below (HB1.out.mono hlo)).src
    refine wp_append_src _ _ _ 24 (by rfl) wr.heap.size 26 i0 _ 2 32 Try.underlying24 hi0 hz0 hz1 hz2 rfl (by omega) (.slice (some ⟨ge, 0, none⟩) 0 0) 0 [] (by rfl) HE.out At mt ct news (by rfl) hsrc htn.one (by unfold maxLen; omega) (by omega) HB1.out.size ?_
    intro v6 u2 hown6 hgrow6 hrow6
    rw [Nat.zero_add, List.nil_append] at hown6
    obtain ⟨A6m, c6m, rfl⟩ := own_shape hown6
    have Hown := Lib.hid hown6
    have HB2 := Lib.hid (HB1.out.grown hgrow6 HB1.out.size (fun j e => (HE.out.lt j e).1))
    have Htk := Lib.hid (htn.below (((Below.refl wr.heap.size (u1)).grown hgrow6 HB1.out.size (fun j e => (HE.out.lt j e).1)).mono hlo))
    have sz2 := hgrow6.size
    clear hown6 hrow6 hsrc htn hgrow6
    ((try dsimp only); refine hK.out _ _ (keepS.out _ HB2.out) (fun hSw => ?_); (try clear hSw); clear hK K; (try simp only [Act.put, List.setIfInBounds_toArray, List.set_cons_zero, List.set_cons_succ]))
    (refine wpMix_bar (by rfl) (fun K hK => ?_); go_simp)
    have HB3 := Lib.hid (HB2.out.alloc HB2.out.size (.cells #[.int .i64 idx, .slice A5 3 3] 26))
    have sz3 : (u2).heap.size < (World.alloc (u2) (.cells #[.int .i64 idx, .slice A5 3 3] 26)).heap.size := by simp
    have HXB := Lib.hid (Blk.new (u2) 26 #[.int .i64 idx, .slice A5 3 3])
    replace Hown := Lib.hid (own_keep Hown.out (w' := World.alloc (u2) (.cells #[.int .i64 idx, .slice A5 3 3] 26)) (fun b hb => Below.heap_alloc _ _ _ (Hown.out.lt b hb).2))
    replace Htk := Lib.hid (Htk.out.below (((Below.refl wr.heap.size (u2)).alloc HB2.out.size (.cells #[.int .i64 idx, .slice A5 3 3] 26)).mono hlo))
    ((try dsimp only); refine hK.out _ _ (keepS.out _ HB3.out) (fun hSw => ?_); (try clear hSw); clear hK K; (try simp only [Act.put, List.setIfInBounds_toArray, List.set_cons_zero, List.set_cons_succ]))
    generalize (u2).heap.size = gx at HXB sz2 sz3 ⊢
    generalize World.alloc (u2) (.cells #[.int .i64 idx, .slice A5 3 3] 26) = u3 at HB3 sz3 HXB Hown Htk ⊢
    have HBz := HB3
    have HX := Lib.hid (show Src u3 2 (some ⟨gx, 0, none⟩) 1 [.int .i64 idx, .slice A5 3 3] from ⟨rfl, fun _ => ⟨_, rfl, fun j u hu => by rw [addr_add, Nat.zero_add, HXB.out.cell]; simpa using hu⟩⟩)
    clear HB0 HB1 HB2 HB3 HE HXB sz1 sz2 sz3
    rotate_left
    go_simp
    have HB2 := Lib.hid (HB1.out.alloc HB1.out.size (.cells #[.int .i64 idx, .slice A5 3 3] 26))
    have sz2 : (u1).heap.size < (World.alloc (u1) (.cells #[.int .i64 idx, .slice A5 3 3] 26)).heap.size := by simp
    have HXB := Lib.hid (Blk.new (u1) 26 #[.int .i64 idx, .slice A5 3 3])
    replace HE := Lib.hid (own_keep HE.out (w' := World.alloc (u1) (.cells #[.int .i64 idx, .slice A5 3 3] 26)) (fun b hb => Below.heap_alloc _ _ _ (HE.out.lt b hb).2))
    ((try dsimp only); refine hK.out _ _ (keepS.out _ HB2.out) (fun hSw => ?_); (try clear hSw); clear hK K; (try simp only [Act.put, List.setIfInBounds_toArray, List.set_cons_zero, List.set_cons_succ]))
    generalize (u1).heap.size = gx at HXB sz1 sz2 ⊢
    generalize World.alloc (u1) (.cells #[.int .i64 idx, .slice A5 3 3] 26) = u2 at HB2 sz2 HE HXB ⊢
    refine wpMix_bar (by rfl) (fun K hK => ?_)
    rw [if_pos (by rfl)]
    obtain ⟨news, hsrc, htn⟩ := (HRT.out.below (HB2.out.mono hlo)).src
    refine wp_append_src _ _ _ 24 (by rfl) wr.heap.size 26 i0 _ 2 32 Try.underlying24 hi0 hz0 hz1 hz2 rfl (by omega) (.slice (some ⟨ge, 0, none⟩) 0 0) 0 [] (by rfl) HE.out At mt ct news (by rfl) hsrc htn.one (by unfold maxLen; omega) (by omega) HB2.out.size ?_
    intro v6 u3 hown6 hgrow6 hrow6
    rw [Nat.zero_add, List.nil_append] at hown6
    obtain ⟨A6m, c6m, rfl⟩ := own_shape hown6
    have Hown := Lib.hid hown6
    have HB3 := Lib.hid (HB2.out.grown hgrow6 HB2.out.size (fun j e => (HE.out.lt j e).1))
    have Htk := Lib.hid (htn.below (((Below.refl wr.heap.size (u2)).grown hgrow6 HB2.out.size (fun j e => (HE.out.lt j e).1)).mono hlo))
    replace HXB := Lib.hid (HXB.out.grown hgrow6 (fun e => by simp [Value.ownBlock] at e; omega))
    have sz3 := hgrow6.size
    clear hown6 hrow6 hsrc htn hgrow6
    ((try dsimp only); refine hK.out _ _ (keepS.out _ HB3.out) (fun hSw => ?_); (try clear hSw); clear hK K; (try simp only [Act.put, List.setIfInBounds_toArray, List.set_cons_zero, List.set_cons_succ]))
    have HBz := HB3
    have HX := Lib.hid (show Src u3 2 (some ⟨gx, 0, none⟩) 1 [.int .i64 idx, .slice A5 3 3] from ⟨rfl, fun _ => ⟨_, rfl, fun j u hu => by rw [addr_add, Nat.zero_add, HXB.out.cell]; simpa using hu⟩⟩)
    clear HB0 HB1 HB2 HB3 HE HXB sz1 sz2 sz3
    rotate_left
    go_simp
    have HB1 := Lib.hid (HB0.out.alloc HB0.out.size (.cells #[.int .i64 idx, .slice A5 3 3] 26))
    have sz1 : (u0).heap.size < (World.alloc (u0) (.cells #[.int .i64 idx, .slice A5 3 3] 26)).heap.size := by simp
    have HXB := Lib.hid (Blk.new (u0) 26 #[.int .i64 idx, .slice A5 3 3])
    ((try dsimp only); refine hK.out _ _ (keepS.out _ HB1.out) (fun hSw => ?_); (try clear hSw); clear hK K; (try simp only [Act.put, List.setIfInBounds_toArray, List.set_cons_zero, List.set_cons_succ]))
    generalize (u0).heap.size = gx at HXB sz1 ⊢
    generalize World.alloc (u0) (.cells #[.int .i64 idx, .slice A5 3 3] 26) = u1 at HB1 sz1 HXB ⊢
    (refine wpMix_bar (by rfl) (fun K hK => ?_); go_simp)
    have HB2 := Lib.hid (HB1.out.alloc HB1.out.size (.cells #[] 26))
    have sz2 : (u1).heap.size < (World.alloc (u1) (.cells #[] 26)).heap.size := by simp
    have HE := Lib.hid (show (World.alloc (u1) (.cells #[] 26)).ownsRow wr.heap.size 26 2 (.slice (some ⟨(u1).heap.size, 0, none⟩) 0 0) 0 [] from World.ownsRow_made (u1) #[] 0 HB1.out.size (by unfold maxLen; omega) rfl)
    replace HXB := Lib.hid (HXB.out.alloc (.cells #[] 26))
    ((try dsimp only); refine hK.out _ _ (keepS.out _ HB2.out) (fun hSw => ?_); (try clear hSw); clear hK K; (try simp only [Act.put, List.setIfInBounds_toArray, List.set_cons_zero, List.set_cons_succ]))
    generalize (u1).heap.size = ge at HE sz1 sz2 ⊢
    generalize World.alloc (u1) (.cells #[] 26) = u2 at HB2 sz2 HE HXB ⊢
    refine wpMix_bar (by rfl) (fun K hK => ?_)
    rw [if_pos (by rfl)]
    obtain ⟨news, hsrc, htn⟩ := (HRT.out.below (HB2.out.mono hlo)).src
    refine wp_append_src _ _ _ 24 (by rfl) wr.heap.size 26 i0 _ 2 32 Try.underlying24 hi0 hz0 hz1 hz2 rfl (by omega) (.slice (some ⟨ge, 0, none⟩) 0 0) 0 [] (by rfl) HE.out At mt ct news (by rfl) hsrc htn.one (by unfold maxLen; omega) (by omega) HB2.out.size ?_
    intro v6 u3 hown6 hgrow6 hrow6
    rw [Nat.zero_add, List.nil_append] at hown6
    obtain ⟨A6m, c6m, rfl⟩ := own_shape hown6
    have Hown := Lib.hid hown6
    have HB3 := Lib.hid (HB2.out.grown hgrow6 HB2.out.size (fun j e => (HE.out.lt j e).1))
    have Htk := Lib.hid (htn.below (((Below.refl wr.heap.size (u2)).grown hgrow6 HB2.out.size (fun j e => (HE.out.lt j e).1)).mono hlo))
    replace HXB := Lib.hid (HXB.out.grown hgrow6 (fun e => by simp [Value.ownBlock] at e; omega))
    have sz3 := hgrow6.size
    clear hown6 hrow6 hsrc htn hgrow6
    ((try dsimp only); refine hK.out _ _ (keepS.out _ HB3.out) (fun hSw => ?_); (try clear hSw); clear hK K; (try simp only [Act.put, List.setIfInBounds_toArray, List.set_cons_zero, List.set_cons_succ]))
    have HBz := HB3
    have HX := Lib.hid (show Src u3 2 (some ⟨gx, 0, none⟩) 1 [.int .i64 idx, .slice A5 3 3] from ⟨rfl, fun _ => ⟨_, rfl, fun j u hu => by rw [addr_add, Nat.zero_add, HXB.out.cell]; simpa using hu⟩⟩)
    clear HB0 HB1 HB2 HB3 HE HXB sz1 sz2 sz3
    rotate_left
    all_goals
      refine wpMix_bar (by rfl) (fun K hK => ?_)
      rw [if_pos (by rfl)]
      refine wp_append_src _ _ _ 24 (by rfl) wr.heap.size 26 i0 _ 2 32 Try.underlying24 hi0 hz0 hz1 hz2 rfl (by omega) (.slice A6m mt c6m) mt news (by rfl) Hown.out (some ⟨gx, 0, none⟩) 1 1 [.int .i64 idx, .slice A5 3 3] (by rfl) HX.out (by simp [Value.oneCell']) (by unfold maxLen; omega) (by omega) HBz.out.size ?_
      intro v7 w7 hown7 hgrow7 hrow7
      obtain ⟨A9, c9, rfl⟩ := own_shape hown7
      have L7 := (Below.refl wr.heap.size u3).grown hgrow7 HBz.out.size (fun j e => (Hown.out.lt j e).1)
      have HB7 := Lib.hid (HBz.out.trans L7)
      have Hr7 := Lib.hid (RdT.of_own hown7 ((Htk.out.below L7).append (TkCells.single (id := idx) (HRX.out.below HB7.out) (Nat.le_refl 3))) HB7.out.size (by omega))
      have hc7 := own_cap hown7
      clear L7 hown7 hgrow7 hrow7 Hown Htk HX HBz
      ((try dsimp only); refine hK.out _ _ (keepS.out _ HB7.out) (fun hSw => ?_); (try clear hSw); clear hK K; (try simp only [Act.put, List.setIfInBounds_toArray, List.set_cons_zero, List.set_cons_succ]))
      (refine wpMix_bar (by rfl) (fun K hK => ?_); go_simp)
      have HB8 := Lib.hid (HB7.out.alloc HB7.out.size (.cells #[.slice A9 (mt + 1) c9] 24))
      have HR8 := Lib.hid (RdB.one (Blk.new w7 24 #[.slice A9 (mt + 1) c9]) hc7 (Hr7.out.up (alloc_up w7 _)))
      ((try dsimp only); refine hK.out _ _ (keepS.out _ HB8.out) (fun hSw => ?_); (try clear hSw); clear hK K; (try simp only [Act.put, List.setIfInBounds_toArray, List.set_cons_zero, List.set_cons_succ]))
      (refine wpMix_bar (by rfl) (fun K hK => ?_); go_simp)
      refine (binsValidI_any A1 _ 3 3 1 1 room _ _ (HRw.out.a.up HB8.out) HR8.out (by have := HL2.out; simp; omega)).mono ?_; rintro e w9 ⟨rfl, hb9⟩
      rw [ts_.out]
      have HB9 := Lib.hid (below_to HB8.out hb9)
      clear hb9
      ((try dsimp only); refine hK.out _ _ (keepS.out _ HB9.out) (fun hSw => ?_); (try clear hSw); clear hK K; (try simp only [Act.put, List.setIfInBounds_toArray, List.set_cons_zero, List.set_cons_succ]))
      repeat (first | (refine wpMix_skip (by rfl) (by rfl) ?_; (try simp only [Act.put, List.setIfInBounds_toArray, List.set_cons_zero, List.set_cons_succ])) | (refine wpMix_take (v := ?_) (by rfl) (by rfl) (fun wS hSt => ?_) ?_; rotate_left; (focus ((try dsimp only at hSt); (go_simp <;> with_reducible rfl); done)); (try simp only [Act.put, List.setIfInBounds_toArray, List.set_cons_zero, List.set_cons_succ])))
      refine wpMix_nil ?_
      go_wp2
      go_ret
      exact ⟨rfl, below_to HBw.out HB9.out⟩

  | false =>
    rw [hbv] at hlow
    have ts_ := Lib.hid hbv
    clear hbv
    rcases hres with ⟨hg, rfl⟩ | ⟨g', A10, m9, c10, hg, rfl, hown⟩
    rotate_left
    · rw [hlow.out] at hg; cases hg
    clear hg
    have HRw := Lib.hid (HR5.out.up d6)
    have HBw := Lib.hid (below_to HB5.out d6)
    have DW := Lib.hid (below_to D5.out d6)
    generalize w6 = wr at HRw HBw DW ⊢
    have HRT := Lib.hid HRw.out.b
    have HRX := Lib.hid HRw.out.d
    have lmt : mt ≤ 1000 := by omega
    have keepS := Lib.hid (show ∀ W, Below wr.heap.size wr W → W.cell? ⟨w1.heap.size, 0, none⟩ = some (.int .i64 idx) ∧ W.cell? ⟨w1.heap.size, 1, none⟩ = some (.slice A5 3 3) from fun W hW => hk.out W (below_to DW.out hW))
    have K0 := keepS.out wr.drew (Below.refl _ _).drew
    have hlo : wr.heap.size ≤ wr.heap.size := Nat.le_refl _
    clear HR5 HB5 D5 R55 R65 HR4 HB4 D4 R5 R6 HR3 HB3 D3 HR2 HB2 d6
    go_wp2_with fail
    refine wp_region_mix (.take 0 (.take 1 (.take 2 (.take 3 (.take 4 (.take 5 (.take 7 (.take 9 (.fork 6 (.fork 8 (.bar 10 (.bar 11 (.bar 12 (.bar 13 (.take 14 (.take 15 (.take 16 .nil))))))) 10 (.bar 8 (.bar 11 (.bar 12 (.bar 13 (.take 14 (.take 15 (.take 16 .nil)))))))) 10 (.bar 6 (.bar 8 (.bar 11 (.bar 12 (.bar 13 (.take 14 (.take 15 (.take 16 .nil))))))))))))))))) (fun w' => w'.cell? ⟨w1.heap.size, 0, none⟩ = some (.int .i64 idx) ∧ w'.cell? ⟨w1.heap.size, 1, none⟩ = some (.slice A5 3 3)) (by kernel_rfl) (by kernel_rfl) K0 (fun _ => ?_)
    clear K0
    repeat (first | (refine wpMix_skip (by rfl) (by rfl) ?_; (try simp only [Act.put, List.setIfInBounds_toArray, List.set_cons_zero, List.set_cons_succ])) | (refine wpMix_take (v := ?_) (by rfl) (by rfl) (fun wS hSt => ?_) ?_; rotate_left; (focus ((try dsimp only at hSt); (go_simp <;> with_reducible rfl); done)); (try simp only [Act.put, List.setIfInBounds_toArray, List.set_cons_zero, List.set_cons_succ])))
    have HB0 := Lib.hid ((Below.refl wr.heap.size wr).drew)
    generalize wr.drew = u0 at HB0 ⊢
    refine wpMix_fork (by rfl) (by rfl) (fun K hK => ?_) (fun K hK => ?_)
    go_simp
    have HB1 := Lib.hid (HB0.out.alloc HB0.out.size (.cells #[] 26))
    have sz1 : (u0).heap.size < (World.alloc (u0) (.cells #[] 26)).heap.size := by simp
    have HE := Lib.hid (show (World.alloc (u0) (.cells #[] 26)).ownsRow wr.heap.size 26 2 (.slice (some ⟨(u0).heap.size, 0, none⟩) 0 0) 0 [] from World.ownsRow_made (u0) #[] 0 HB0.out.size (by unfold maxLen; omega) rfl)
    ((try dsimp only); refine hK.out _ _ (keepS.out _ HB1.out) (fun hSw => ?_); (try clear hSw); clear hK K; (try simp only [Act.put, List.setIfInBounds_toArray, List.set_cons_zero, List.set_cons_succ]))
    generalize (u0).heap.size = ge at HE sz1 ⊢
    generalize World.alloc (u0) (.cells #[] 26) = u1 at HB1 sz1 HE ⊢
    refine wpMix_fork (by rfl) (by rfl) (fun K hK => ?_) (fun K hK => ?_)
    skip
    rw [if_pos (by rfl)]
    obtain ⟨news, hsrc, htn⟩ := (HRT.out.below (HB1.out.mono hlo)).src
    refine wp_append_src _ _ _ 24 (by rfl) wr.heap.size 26 i0 _ 2 32 Try.underlying24 hi0 hz0 hz1 hz2 rfl (by omega) (.slice (some ⟨ge, 0, none⟩) 0 0) 0 [] (by rfl) HE.out At mt ct news (by rfl) hsrc htn.one (by unfold maxLen; omega) (by omega) HB1.out.size ?_
    intro v6 u2 hown6 hgrow6 hrow6
    rw [Nat.zero_add, List.nil_append] at hown6
    obtain ⟨A6m, c6m, rfl⟩ := own_shape hown6
    have Hown := Lib.hid hown6
    have HB2 := Lib.hid (HB1.out.grown hgrow6 HB1.out.size (fun j e => (HE.out.lt j e).1))
    have Htk := Lib.hid (htn.below (((Below.refl wr.heap.size (u1)).grown hgrow6 HB1.out.size (fun j e => (HE.out.lt j e).1)).mono hlo))
    have sz2 := hgrow6.size
    clear hown6 hrow6 hsrc htn hgrow6
    ((try dsimp only); refine hK.out _ _ (keepS.out _ HB2.out) (fun hSw => ?_); (try clear hSw); clear hK K; (try simp only [Act.put, List.setIfInBounds_toArray, List.set_cons_zero, List.set_cons_succ]))
    (refine wpMix_bar (by rfl) (fun K hK => ?_); go_simp)
    have HB3 := Lib.hid (HB2.out.alloc HB2.out.size (.cells #[.int .i64 idx, .slice A5 3 3] 26))
    have sz3 : (u2).heap.size < (World.alloc (u2) (.cells #[.int .i64 idx, .slice A5 3 3] 26)).heap.size := by simp
    have HXB := Lib.hid (Blk.new (u2) 26 #[.int .i64 idx, .slice A5 3 3])
    replace Hown := Lib.hid (own_keep Hown.out (w' := World.alloc (u2) (.cells #[.int .i64 idx, .slice A5 3 3] 26)) (fun b hb => Below.heap_alloc _ _ _ (Hown.out.lt b hb).2))
    replace Htk := Lib.hid (Htk.out.below (((Below.refl wr.heap.size (u2)).alloc HB2.out.size (.cells #[.int .i64 idx, .slice A5 3 3] 26)).mono hlo))
    ((try dsimp only); refine hK.out _ _ (keepS.out _ HB3.out) (fun hSw => ?_); (try clear hSw); clear hK K; (try simp only [Act.put, List.setIfInBounds_toArray, List.set_cons_zero, List.set_cons_succ]))
    generalize (u2).heap.size = gx at HXB sz2 sz3 ⊢
    generalize World.alloc (u2) (.cells #[.int .i64 idx, .slice A5 3 3] 26) = u3 at HB3 sz3 HXB Hown Htk ⊢
    have HBz := HB3
    have HX := Lib.hid (show Src u3 2 (some ⟨gx, 0, none⟩) 1 [.int .i64 idx, .slice A5 3 3] from ⟨rfl, fun _ => ⟨_, rfl, fun j u hu => by rw [addr_add, Nat.zero_add, HXB.out.cell]; simpa using hu⟩⟩)
    clear HB0 HB1 HB2 HB3 HE HXB sz1 sz2 sz3
    rotate_left
    go_simp
    have HB2 := Lib.hid (HB1.out.alloc HB1.out.size (.cells #[.int .i64 idx, .slice A5 3 3] 26))
    have sz2 : (u1).heap.size < (World.alloc (u1) (.cells #[.int .i64 idx, .slice A5 3 3] 26)).heap.size := by simp
    have HXB := Lib.hid (Blk.new (u1) 26 #[.int .i64 idx, .slice A5 3 3])
    replace HE := Lib.hid (own_keep HE.out (w' := World.alloc (u1) (.cells #[.int .i64 idx, .slice A5 3 3] 26)) (fun b hb => Below.heap_alloc _ _ _ (HE.out.lt b hb).2))
    ((try dsimp only); refine hK.out _ _ (keepS.out _ HB2.out) (fun hSw => ?_); (try clear hSw); clear hK K; (try simp only [Act.put, List.setIfInBounds_toArray, List.set_cons_zero, List.set_cons_succ]))
    generalize (u1).heap.size = gx at HXB sz1 sz2 ⊢
    generalize World.alloc (u1) (.cells #[.int .i64 idx, .slice A5 3 3] 26) = u2 at HB2 sz2 HE HXB ⊢
    refine wpMix_bar (by rfl) (fun K hK => ?_)
    rw [if_pos (by rfl)]
    obtain ⟨news, hsrc, htn⟩ := (HRT.out.below (HB2.out.mono hlo)).src
    refine wp_append_src _ _ _ 24 (by rfl) wr.heap.size 26 i0 _ 2 32 Try.underlying24 hi0 hz0 hz1 hz2 rfl (by omega) (.slice (some ⟨ge, 0, none⟩) 0 0) 0 [] (by rfl) HE.out At mt ct news (by rfl) hsrc htn.one (by unfold maxLen; omega) (by omega) HB2.out.size ?_
    intro v6 u3 hown6 hgrow6 hrow6
    rw [Nat.zero_add, List.nil_append] at hown6
    obtain ⟨A6m, c6m, rfl⟩ := own_shape hown6
    have Hown := Lib.hid hown6
    have HB3 := Lib.hid (HB2.out.grown hgrow6 HB2.out.size (fun j e => (HE.out.lt j e).1))
    have Htk := Lib.hid (htn.below (((Below.refl wr.heap.size (u2)).grown hgrow6 HB2.out.size (fun j e => (HE.out.lt j e).1)).mono hlo))
    replace HXB := Lib.hid (HXB.out.grown hgrow6 (fun e => by simp [Value.ownBlock] at e; omega))
    have sz3 := hgrow6.size
    clear hown6 hrow6 hsrc htn hgrow6
    ((try dsimp only); refine hK.out _ _ (keepS.out _ HB3.out) (fun hSw => ?_); (try clear hSw); clear hK K; (try simp only [Act.put, List.setIfInBounds_toArray, List.set_cons_zero, List.set_cons_succ]))
    have HBz := HB3
    have HX := Lib.hid (show Src u3 2 (some ⟨gx, 0, none⟩) 1 [.int .i64 idx, .slice A5 3 3] from ⟨rfl, fun _ => ⟨_, rfl, fun j u hu => by rw [addr_add, Nat.zero_add, HXB.out.cell]; simpa using hu⟩⟩)
    clear HB0 HB1 HB2 HB3 HE HXB sz1 sz2 sz3
    rotate_left
    go_simp
    have HB1 := Lib.hid (HB0.out.alloc HB0.out.size (.cells #[.int .i64 idx, .slice A5 3 3] 26))
    have sz1 : (u0).heap.size < (World.alloc (u0) (.cells #[.int .i64 idx, .slice A5 3 3] 26)).heap.size := by simp
    have HXB := Lib.hid (Blk.new (u0) 26 #[.int .i64 idx, .slice A5 3 3])
    ((try dsimp only); refine hK.out _ _ (keepS.out _ HB1.out) (fun hSw => ?_); (try clear hSw); clear hK K; (try simp only [Act.put, List.setIfInBounds_toArray, List.set_cons_zero, List.set_cons_succ]))
    generalize (u0).heap.size = gx at HXB sz1 ⊢
    generalize World.alloc (u0) (.cells #[.int .i64 idx, .slice A5 3 3] 26) = u1 at HB1 sz1 HXB ⊢
    (refine wpMix_bar (by rfl) (fun K hK => ?_); go_simp)
    have HB2 := Lib.hid (HB1.out.alloc HB1.out.size (.cells #[] 26))
    have sz2 : (u1).heap.size < (World.alloc (u1) (.cells #[] 26)).heap.size := by simp
    have HE := Lib.hid (show (World.alloc (u1) (.cells #[] 26)).ownsRow wr.heap.size 26 2 (.slice (some ⟨(u1).heap.size, 0, none⟩) 0 0) 0 [] from World.ownsRow_made (u1) #[] 0 HB1.out.size (by unfold maxLen; omega) rfl)
    replace HXB := Lib.hid (HXB.out.alloc (.cells #[] 26))
    ((try dsimp only); refine hK.out _ _ (keepS.out _ HB2.out) (fun hSw => ?_); (try clear hSw); clear hK K; (try simp only [Act.put, List.setIfInBounds_toArray, List.set_cons_zero, List.set_cons_succ]))
    generalize (u1).heap.size = ge at HE sz1 sz2 ⊢
    generalize World.alloc (u1) (.cells #[] 26) = u2 at HB2 sz2 HE HXB ⊢
    refine wpMix_bar (by rfl) (fun K hK => ?_)
    rw [if_pos (by rfl)]
    obtain ⟨news, hsrc, htn⟩ := (HRT.out.below (HB2.out.mono hlo)).src
    refine wp_append_src _ _ _ 24 (by rfl) wr.heap.size 26 i0 _ 2 32 Try.underlying24 hi0 hz0 hz1 hz2 rfl (by omega) (.slice (some ⟨ge, 0, none⟩) 0 0) 0 [] (by rfl) HE.out At mt ct news (by rfl) hsrc htn.one (by unfold maxLen; omega) (by omega) HB2.out.size ?_
    intro v6 u3 hown6 hgrow6 hrow6
    rw [Nat.zero_add, List.nil_append] at hown6
    obtain ⟨A6m, c6m, rfl⟩ := own_shape hown6
    have Hown := Lib.hid hown6
    have HB3 := Lib.hid (HB2.out.grown hgrow6 HB2.out.size (fun j e => (HE.out.lt j e).1))
    have Htk := Lib.hid (htn.below (((Below.refl wr.heap.size (u2)).grown hgrow6 HB2.out.size (fun j e => (HE.out.lt j e).1)).mono hlo))
    replace HXB := Lib.hid (HXB.out.grown hgrow6 (fun e => by simp [Value.ownBlock] at e; omega))
    have sz3 := hgrow6.size
    clear hown6 hrow6 hsrc htn hgrow6
    ((try dsimp only); refine hK.out _ _ (keepS.out _ HB3.out) (fun hSw => ?_); (try clear hSw); clear hK K; (try simp only [Act.put, List.setIfInBounds_toArray, List.set_cons_zero, List.set_cons_succ]))
    have HBz := HB3
    have HX := Lib.hid (show Src u3 2 (some ⟨gx, 0, none⟩) 1 [.int .i64 idx, .slice A5 3 3] from ⟨rfl, fun _ => ⟨_, rfl, fun j u hu => by rw [addr_add, Nat.zero_add, HXB.out.cell]; simpa using hu⟩⟩)
    clear HB0 HB1 HB2 HB3 HE HXB sz1 sz2 sz3
    rotate_left
    all_goals
      refine wpMix_bar (by rfl) (fun K hK => ?_)
      rw [if_pos (by rfl)]
      refine wp_append_src _ _ _ 24 (by rfl) wr.heap.size 26 i0 _ 2 32 Try.underlying24 hi0 hz0 hz1 hz2 rfl (by omega) (.slice A6m mt c6m) mt news (by rfl) Hown.out (some ⟨gx, 0, none⟩) 1 1 [.int .i64 idx, .slice A5 3 3] (by rfl) HX.out (by simp [Value.oneCell']) (by unfold maxLen; omega) (by omega) HBz.out.size ?_
      intro v7 w7 hown7 hgrow7 hrow7
      obtain ⟨A9, c9, rfl⟩ := own_shape hown7
      have L7 := (Below.refl wr.heap.size u3).grown hgrow7 HBz.out.size (fun j e => (Hown.out.lt j e).1)
      have HB7 := Lib.hid (HBz.out.trans L7)
      have Hr7 := Lib.hid (RdT.of_own hown7 ((Htk.out.below L7).append (TkCells.single (id := idx) (HRX.out.below HB7.out) (Nat.le_refl 3))) HB7.out.size (by omega))
      have hc7 := own_cap hown7
      clear L7 hown7 hgrow7 hrow7 Hown Htk HX HBz
      ((try dsimp only); refine hK.out _ _ (keepS.out _ HB7.out) (fun hSw => ?_); (try clear hSw); clear hK K; (try simp only [Act.put, List.setIfInBounds_toArray, List.set_cons_zero, List.set_cons_succ]))
      (refine wpMix_bar (by rfl) (fun K hK => ?_); go_simp)
      have HB8 := Lib.hid (HB7.out.alloc HB7.out.size (.cells #[.slice A9 (mt + 1) c9] 24))
      have HR8 := Lib.hid (RdB.one (Blk.new w7 24 #[.slice A9 (mt + 1) c9]) hc7 (Hr7.out.up (alloc_up w7 _)))
      ((try dsimp only); refine hK.out _ _ (keepS.out _ HB8.out) (fun hSw => ?_); (try clear hSw); clear hK K; (try simp only [Act.put, List.setIfInBounds_toArray, List.set_cons_zero, List.set_cons_succ]))
      (refine wpMix_bar (by rfl) (fun K hK => ?_); go_simp)
      refine (binsValidI_any A1 _ 3 3 1 1 room _ _ (HRw.out.a.up HB8.out) HR8.out (by have := HL2.out; simp; omega)).mono ?_; rintro e w9 ⟨rfl, hb9⟩
      rw [ts_.out]
      have HB9 := Lib.hid (below_to HB8.out hb9)
      clear hb9
      ((try dsimp only); refine hK.out _ _ (keepS.out _ HB9.out) (fun hSw => ?_); (try clear hSw); clear hK K; (try simp only [Act.put, List.setIfInBounds_toArray, List.set_cons_zero, List.set_cons_succ]))
      repeat (first | (refine wpMix_skip (by rfl) (by rfl) ?_; (try simp only [Act.put, List.setIfInBounds_toArray, List.set_cons_zero, List.set_cons_succ])) | (refine wpMix_take (v := ?_) (by rfl) (by rfl) (fun wS hSt => ?_) ?_; rotate_left; (focus ((try dsimp only at hSt); (go_simp <;> with_reducible rfl); done)); (try simp only [Act.put, List.setIfInBounds_toArray, List.set_cons_zero, List.set_cons_succ])))
      refine wpMix_nil ?_
      go_wp2
      go_ret
      exact ⟨rfl, below_to HBw.out HB9.out⟩


end Go.Proofs.Ytkcflajhmekcaaa
