/- The walk of the law FnZoneAt: a task comes to the emptiest zone. -/
import Derived.Test.YtgngmjlbeofjkaaAtPure
import Derived.Test.YtgngmjlbeofjkaaZoneAtSpec
import Derived.Test.YtgngmjlbeofjkaaDrawZoneAt
import Derived.Test.YtgngmjlbeofjkaaZoneCountsLaw
namespace Go.Proofs.Ytgngmjlbeofjkaa
open Go Go.RowKit
attribute [local go_sem ↓] Go.wp_at_zero Go.wp_at_succ

theorem RdB.one {w : World} {g m c : Nat} {t : TypeId} {A : Option Addr} {ts : List Tk} (h : Blk w g t #[.slice A m c]) (hc : m ≤ c) (hr : RdT w w.heap.size A m ts) : RdB w w.heap.size (some ⟨g, 0, none⟩) 1 [ts] :=
  ⟨rfl, by omega, fun _ => ⟨g, 0, rfl, h.lt, fun j hj => by
    obtain rfl : j = 0 := by omega
    exact ⟨A, m, c, h.cell 0, hc, hr⟩⟩⟩

set_option maxRecDepth 100000 in
set_option maxHeartbeats 3200000 in
theorem zoneAt_walk (A : Option Addr) (n c : Nat) (w : World) (h : RdU w w.heap.size A n) (hc : n ≤ c) (hcm : c ≤ 9223372036854775807) :
    Calls Try.prog 10 #[.slice A n c] w fun e w' => e = .returned (.bool true) ∧ Below w.heap.size w w' := by
  obtain ⟨i0, hi0, hz0, hz1, hz2⟩ := info_parts task_info
  by_cases kn : 1048576 < n
  · go_enter Try.func10, Try.ntmps10
    go_wp2
    go_ret
    exact ⟨rfl, Below.refl _ _⟩
  go_enter Try.func10, Try.ntmps10
  go_wp2_with fail
  refine (drawZoneAt_any A n c w h hc hcm).mono ?_; rintro e w1 ⟨A1, A2, A3, A4, A5, n2, n3, n4, c2, c3, c4, room, bs, zones, ids, idx, xs, rfl, D1, DX1, hn2, B1⟩
  clear h
  have hfl := D1.flat
  have l2 := Lib.hid D1.r.b.len
  have l3 := Lib.hid D1.r.c.len
  have lx := Lib.hid DX1.len
  have hk := Lib.hid (fun w' => box_keep w1 (.int .i64 idx) (.slice A5 3 3) (w' := w'))
  have d2 := alloc_up w1 (.cells #[.int .i64 idx, .slice A5 3 3] 46)
  have sz2 := World.size_alloc w1 (.cells #[.int .i64 idx, .slice A5 3 3] 46)
  have E2 := hk.out _ (Below.refl _ _)
  obtain ⟨x0, x1⟩ := E2
  go_wp2_with fail
  generalize w1.alloc (.cells #[.int .i64 idx, .slice A5 3 3] 46) = w2 at hk d2 sz2 x0 x1 ⊢
  rw [← sz2] at hk
  have SZ2 := Lib.hid sz2
  have D2 := D1.up d2
  have DX2 := DX1.up d2
  have B2 := below_to B1 d2
  clear D1 DX1 B1 d2 sz2
  refine (zoneAtI_any _ _ _ _ _ _ _ _ _ _ _ _ _ _ _ _ _ _ _ _ _ _ D2.r.a D2.r.b D2.r.c D2.r.d DX2 (by omega) (by omega)).mono ?_; rintro e w3 ⟨rfl, d3⟩
  have K3 := Lib.hid d3
  have D3 := D2.up d3
  have DX3 := DX2.up d3
  have B3 := below_to B2 d3
  clear x0 x1 d3 D2 DX2 B2
  obtain ⟨x0, x1⟩ := hk.out _ K3.out
  go_wp2_with fail
  refine (zoneAtS_any _ _ _ _ _ _ _ _ _ _ _ _ _ _ _ _ _ _ _ _ _ _ D3.r.a D3.r.b D3.r.c D3.r.d DX3 (by omega) (by omega)).mono ?_; rintro e w4 ⟨rfl, d4⟩
  have K4 := Lib.hid (below_to K3.out d4)
  have D4 := D3.up d4
  have DX4 := DX3.up d4
  have B4 := below_to B3 d4
  clear x0 x1 d4 D3 DX3 B3 K3
  rcases zoneAt_spec (room := room) (bs := bs) (zones := zones) (ids := ids) (t := (idx, xs)) with hno | ⟨hzok, hcok, at_, hat, hlt, hroom, hbest⟩
  · rw [hno]
    have HB4 := Lib.hid B4
    clear D4 DX4 B4 hno
    go_wp2
    go_ret
    exact ⟨rfl, HB4.out⟩
  · rw [hat]
    have HZ := Lib.hid hzok
    have HC := Lib.hid hcok
    have HRO := Lib.hid hroom
    have HBE := Lib.hid hbest
    have HLT := Lib.hid (show at_ < n2 by have := l2.out; omega)
    have hat0 : decide ((at_ : Int) < 0) = false := by simp
    clear hzok hcok hroom hbest hat hlt
    go_wp2_with fail
    refine (zoneCountsI_any _ _ _ _ _ _ _ _ _ _ _ _ _ _ _ _ _ D4.r.a D4.r.b D4.r.c D4.r.d (by omega)).mono ?_; rintro e w5 ⟨hI, d5⟩
    rw [if_pos HZ.out] at hI
    obtain ⟨g5, rfl, hg5, hb5⟩ := hI
    have K5 := Lib.hid (below_to K4.out d5)
    have D5 := Lib.hid (D4.up d5)
    have DX5 := Lib.hid (DX4.up d5)
    have B5 := Lib.hid (below_to B4 d5)
    have HB5 := Lib.hid hb5
    have lC := Lib.hid (countsP_len bs zones ids)
    clear d5 hb5 D4 DX4 B4 K4
    go_wp2_with fail
    go_loopw [11] (fun i wr => ∃ k : Nat, i = .int .i64 k ∧ k ≤ n2 ∧ Below w5.heap.size w5 wr) (fun i _ => n2 - (intOf i).toNat)
    case atStart => exact ⟨0, rfl, Nat.zero_le _, Below.refl _ _⟩
    case round =>
      obtain ⟨k, rfl, hk', hbel⟩ := hrel
      have HBEL := Lib.hid hbel
      have BW := Lib.hid (below_to B5.out hbel)
      have KW := Lib.hid (below_to K5.out hbel)
      have DW := Lib.hid (D5.out.up hbel)
      have DXW := Lib.hid (DX5.out.up hbel)
      clear hbel
      by_cases hlt : k < n2
      · obtain ⟨b, o, At, mt, ct, rfl, hb, hcc, hmc, hrd⟩ := DW.out.r.b.at_ hlt
        have HRT := Lib.hid hrd
        have HRX := Lib.hid DXW.out
        have hmt := Lib.hid hrd.len
        have lmt : mt ≤ 1000 := by have := bin_len (bs := bs) (k := k) (by have := l2.out; omega); have := hrd.len; omega
        obtain ⟨x0, x1⟩ := hk.out _ KW.out
        have lwr := SZ2.out
        have lk2 := KW.out.size
        have k0 : (0 : Int) ≤ (k : Int) := by omega
        have k1 : (k : Int) < (n2 : Int) := by omega
        have keepS := Lib.hid (show ∀ W, Below wr.heap.size wr W → W.cell? ⟨b, o + k, none⟩ = some (.slice At mt ct) ∧ W.cell? ⟨w1.heap.size, 0, none⟩ = some (.int .i64 idx) ∧ W.cell? ⟨w1.heap.size, 1, none⟩ = some (.slice A5 3 3) from fun W hW =>
          ⟨(hW.cell (p := ⟨b, o + k, none⟩) hb).trans hcc, (hW.cell (p := ⟨w1.heap.size, 0, none⟩) (by simp; omega)).trans x0, (hW.cell (p := ⟨w1.heap.size, 1, none⟩) (by simp; omega)).trans x1⟩)
        have K0 := keepS.out wr.drew (Below.refl _ _).drew
        have ts_ := Lib.hid (binsOk_one HC.out (i := k) (by have := l2.out; omega))
        clear hrd hcc x0 x1
        go_wp2_with fail
        refine wp_region_mix (.take 0 (.take 2 (.take 3 (.take 4 (.take 5 (.take 7 (.fork 1 (.fork 6 (.bar 8 (.bar 9 (.bar 10 (.bar 11 (.take 12 .nil))))) 8 (.bar 6 (.bar 9 (.bar 10 (.bar 11 (.take 12 .nil)))))) 8 (.bar 1 (.bar 6 (.bar 9 (.bar 10 (.bar 11 (.take 12 .nil))))))))))))) (fun w' => w'.cell? ⟨b, o + k, none⟩ = some (.slice At mt ct) ∧ w'.cell? ⟨w1.heap.size, 0, none⟩ = some (.int .i64 idx) ∧ w'.cell? ⟨w1.heap.size, 1, none⟩ = some (.slice A5 3 3)) (by kernel_rfl) (by kernel_rfl) K0 (fun _ => ?_)
        clear K0
        repeat (first | (refine wpMix_skip (by rfl) (by rfl) ?_; (try simp only [Act.put, List.setIfInBounds_toArray, List.set_cons_zero, List.set_cons_succ])) | (refine wpMix_take (v := ?_) (by rfl) (by rfl) (fun wS hSt => ?_) ?_; rotate_left; (focus ((try dsimp only at hSt); (go_simp <;> with_reducible rfl); done)); (try simp only [Act.put, List.setIfInBounds_toArray, List.set_cons_zero, List.set_cons_succ])))
        have hlo : wr.heap.size ≤ wr.heap.size := Nat.le_refl _
        have HB0 := Lib.hid ((Below.refl wr.heap.size wr).drew)
        generalize wr.drew = u0 at HB0 ⊢
        refine wpMix_fork (by rfl) (by rfl) (fun K hK => ?_) (fun K hK => ?_)
        go_simp
        have HB1 := Lib.hid (HB0.out.alloc HB0.out.size (.cells #[] 46))
        have sz1 : (u0).heap.size < (World.alloc (u0) (.cells #[] 46)).heap.size := by simp
        have HE := Lib.hid (show (World.alloc (u0) (.cells #[] 46)).ownsRow wr.heap.size 46 2 (.slice (some ⟨(u0).heap.size, 0, none⟩) 0 0) 0 [] from World.ownsRow_made (u0) #[] 0 HB0.out.size (by unfold maxLen; omega) rfl)
        ((try dsimp only); refine hK.out _ _ (keepS.out _ HB1.out) (fun hSw => ?_); (try clear hSw); clear hK K; (try simp only [Act.put, List.setIfInBounds_toArray, List.set_cons_zero, List.set_cons_succ]))
        generalize (u0).heap.size = ge at HE sz1 ⊢
        generalize World.alloc (u0) (.cells #[] 46) = u1 at HB1 sz1 HE ⊢
        refine wpMix_fork (by rfl) (by rfl) (fun K hK => ?_) (fun K hK => ?_)
        skip
        rw [if_pos (by rfl)]
        obtain ⟨news, hsrc, htn⟩ := (HRT.out.below (HB1.out.mono hlo)).src
        refine wp_append_src _ _ _ 53 (by rfl) wr.heap.size 46 i0 _ 2 32 Try.underlying53 hi0 hz0 hz1 hz2 rfl (by omega) (.slice (some ⟨ge, 0, none⟩) 0 0) 0 [] (by rfl) HE.out At mt ct news (by rfl) hsrc htn.one (by unfold maxLen; omega) (by omega) HB1.out.size ?_
        intro v6 u2 hown6 hgrow6 hrow6
        rw [Nat.zero_add, List.nil_append] at hown6
        obtain ⟨A6m, c6m, rfl⟩ := own_shape hown6
        have Hown := Lib.hid hown6
        have HB2 := Lib.hid (HB1.out.grown hgrow6 HB1.out.size (fun j e => (HE.out.lt j e).1))
        have Htk := Lib.hid (htn.below (((Below.refl wr.heap.size (u1)).grown hgrow6 HB1.out.size (fun j e => (HE.out.lt j e).1)).mono hlo))
        have sz2 := hgrow6.size
        clear hown6 hrow6 hsrc htn hgrow6
        ((try dsimp only); refine hK.out _ _ (keepS.out _ HB2.out) (fun hSw => ?_); (try clear hSw); clear hK K; (try simp only [Act.put, List.setIfInBounds_toArray, List.set_cons_zero, List.set_cons_succ]))
        (refine wpMix_bar (by rfl) (fun K hK => ?_); go_simp)
        have HB3 := Lib.hid (HB2.out.alloc HB2.out.size (.cells #[.int .i64 idx, .slice A5 3 3] 46))
        have sz3 : (u2).heap.size < (World.alloc (u2) (.cells #[.int .i64 idx, .slice A5 3 3] 46)).heap.size := by simp
        have HXB := Lib.hid (Blk.new (u2) 46 #[.int .i64 idx, .slice A5 3 3])
        replace Hown := Lib.hid (own_keep Hown.out (w' := World.alloc (u2) (.cells #[.int .i64 idx, .slice A5 3 3] 46)) (fun b hb => Below.heap_alloc _ _ _ (Hown.out.lt b hb).2))
        replace Htk := Lib.hid (Htk.out.below (((Below.refl wr.heap.size (u2)).alloc HB2.out.size (.cells #[.int .i64 idx, .slice A5 3 3] 46)).mono hlo))
        ((try dsimp only); refine hK.out _ _ (keepS.out _ HB3.out) (fun hSw => ?_); (try clear hSw); clear hK K; (try simp only [Act.put, List.setIfInBounds_toArray, List.set_cons_zero, List.set_cons_succ]))
        generalize (u2).heap.size = gx at HXB sz2 sz3 ⊢
        generalize World.alloc (u2) (.cells #[.int .i64 idx, .slice A5 3 3] 46) = u3 at HB3 sz3 HXB Hown Htk ⊢
        have HBz := HB3
        have HX := Lib.hid (show Src u3 2 (some ⟨gx, 0, none⟩) 1 [.int .i64 idx, .slice A5 3 3] from ⟨rfl, fun _ => ⟨_, rfl, fun j u hu => by rw [addr_add, Nat.zero_add, HXB.out.cell]; simpa using hu⟩⟩)
        clear HB0 HB1 HB2 HB3 HE HXB sz1 sz2 sz3
        rotate_left
        go_simp
        have HB2 := Lib.hid (HB1.out.alloc HB1.out.size (.cells #[.int .i64 idx, .slice A5 3 3] 46))
        have sz2 : (u1).heap.size < (World.alloc (u1) (.cells #[.int .i64 idx, .slice A5 3 3] 46)).heap.size := by simp
        have HXB := Lib.hid (Blk.new (u1) 46 #[.int .i64 idx, .slice A5 3 3])
        replace HE := Lib.hid (own_keep HE.out (w' := World.alloc (u1) (.cells #[.int .i64 idx, .slice A5 3 3] 46)) (fun b hb => Below.heap_alloc _ _ _ (HE.out.lt b hb).2))
        ((try dsimp only); refine hK.out _ _ (keepS.out _ HB2.out) (fun hSw => ?_); (try clear hSw); clear hK K; (try simp only [Act.put, List.setIfInBounds_toArray, List.set_cons_zero, List.set_cons_succ]))
        generalize (u1).heap.size = gx at HXB sz1 sz2 ⊢
        generalize World.alloc (u1) (.cells #[.int .i64 idx, .slice A5 3 3] 46) = u2 at HB2 sz2 HE HXB ⊢
        refine wpMix_bar (by rfl) (fun K hK => ?_)
        rw [if_pos (by rfl)]
        obtain ⟨news, hsrc, htn⟩ := (HRT.out.below (HB2.out.mono hlo)).src
        refine wp_append_src _ _ _ 53 (by rfl) wr.heap.size 46 i0 _ 2 32 Try.underlying53 hi0 hz0 hz1 hz2 rfl (by omega) (.slice (some ⟨ge, 0, none⟩) 0 0) 0 [] (by rfl) HE.out At mt ct news (by rfl) hsrc htn.one (by unfold maxLen; omega) (by omega) HB2.out.size ?_
        intro v6 u3 hown6 hgrow6 hrow6
        rw [Nat.zero_add, List.nil_append] at hown6
        obtain ⟨A6m, c6m, rfl⟩ := own_shape hown6
        have Hown := Lib.hid hown6
        have HB3 := Lib.hid (HB2.out.grown hgrow6 HB2.out.size (fun j e => (HE.out.lt j e).1))
        have Htk := Lib.hid (htn.below (((Below.refl wr.heap.size (u2)).grown hgrow6 HB2.out.size (fun j e => (HE.out.lt j e).1)).mono hlo))
        replace HXB := Lib.hid (HXB.out.grown hgrow6 (fun e => by simp [Value.ownBlock] at e; omega))
        have sz3 := hgrow6.size
        clear hown6 hrow6 hsrc htn hgrow6
        ((try dsimp only); refine hK.out _ _ (keepS.out _ HB3.out) (fun hSw => ?_); (try clear hSw); clear hK K; (try simp only [Act.put, List.setIfInBounds_toArray, List.set_cons_zero, List.set_cons_succ]))
        have HBz := HB3
        have HX := Lib.hid (show Src u3 2 (some ⟨gx, 0, none⟩) 1 [.int .i64 idx, .slice A5 3 3] from ⟨rfl, fun _ => ⟨_, rfl, fun j u hu => by rw [addr_add, Nat.zero_add, HXB.out.cell]; simpa using hu⟩⟩)
        clear HB0 HB1 HB2 HB3 HE HXB sz1 sz2 sz3
        rotate_left
        go_simp
        have HB1 := Lib.hid (HB0.out.alloc HB0.out.size (.cells #[.int .i64 idx, .slice A5 3 3] 46))
        have sz1 : (u0).heap.size < (World.alloc (u0) (.cells #[.int .i64 idx, .slice A5 3 3] 46)).heap.size := by simp
        have HXB := Lib.hid (Blk.new (u0) 46 #[.int .i64 idx, .slice A5 3 3])
        ((try dsimp only); refine hK.out _ _ (keepS.out _ HB1.out) (fun hSw => ?_); (try clear hSw); clear hK K; (try simp only [Act.put, List.setIfInBounds_toArray, List.set_cons_zero, List.set_cons_succ]))
        generalize (u0).heap.size = gx at HXB sz1 ⊢
        generalize World.alloc (u0) (.cells #[.int .i64 idx, .slice A5 3 3] 46) = u1 at HB1 sz1 HXB ⊢
        (refine wpMix_bar (by rfl) (fun K hK => ?_); go_simp)
        have HB2 := Lib.hid (HB1.out.alloc HB1.out.size (.cells #[] 46))
        have sz2 : (u1).heap.size < (World.alloc (u1) (.cells #[] 46)).heap.size := by simp
        have HE := Lib.hid (show (World.alloc (u1) (.cells #[] 46)).ownsRow wr.heap.size 46 2 (.slice (some ⟨(u1).heap.size, 0, none⟩) 0 0) 0 [] from World.ownsRow_made (u1) #[] 0 HB1.out.size (by unfold maxLen; omega) rfl)
        replace HXB := Lib.hid (HXB.out.alloc (.cells #[] 46))
        ((try dsimp only); refine hK.out _ _ (keepS.out _ HB2.out) (fun hSw => ?_); (try clear hSw); clear hK K; (try simp only [Act.put, List.setIfInBounds_toArray, List.set_cons_zero, List.set_cons_succ]))
        generalize (u1).heap.size = ge at HE sz1 sz2 ⊢
        generalize World.alloc (u1) (.cells #[] 46) = u2 at HB2 sz2 HE HXB ⊢
        refine wpMix_bar (by rfl) (fun K hK => ?_)
        rw [if_pos (by rfl)]
        obtain ⟨news, hsrc, htn⟩ := (HRT.out.below (HB2.out.mono hlo)).src
        refine wp_append_src _ _ _ 53 (by rfl) wr.heap.size 46 i0 _ 2 32 Try.underlying53 hi0 hz0 hz1 hz2 rfl (by omega) (.slice (some ⟨ge, 0, none⟩) 0 0) 0 [] (by rfl) HE.out At mt ct news (by rfl) hsrc htn.one (by unfold maxLen; omega) (by omega) HB2.out.size ?_
        intro v6 u3 hown6 hgrow6 hrow6
        rw [Nat.zero_add, List.nil_append] at hown6
        obtain ⟨A6m, c6m, rfl⟩ := own_shape hown6
        have Hown := Lib.hid hown6
        have HB3 := Lib.hid (HB2.out.grown hgrow6 HB2.out.size (fun j e => (HE.out.lt j e).1))
        have Htk := Lib.hid (htn.below (((Below.refl wr.heap.size (u2)).grown hgrow6 HB2.out.size (fun j e => (HE.out.lt j e).1)).mono hlo))
        replace HXB := Lib.hid (HXB.out.grown hgrow6 (fun e => by simp [Value.ownBlock] at e; omega))
        have sz3 := hgrow6.size
        clear hown6 hrow6 hsrc htn hgrow6
        ((try dsimp only); refine hK.out _ _ (keepS.out _ HB3.out) (fun hSw => ?_); (try clear hSw); clear hK K; (try simp only [Act.put, List.setIfInBounds_toArray, List.set_cons_zero, List.set_cons_succ]))
        have HBz := HB3
        have HX := Lib.hid (show Src u3 2 (some ⟨gx, 0, none⟩) 1 [.int .i64 idx, .slice A5 3 3] from ⟨rfl, fun _ => ⟨_, rfl, fun j u hu => by rw [addr_add, Nat.zero_add, HXB.out.cell]; simpa using hu⟩⟩)
        clear HB0 HB1 HB2 HB3 HE HXB sz1 sz2 sz3
        rotate_left
        all_goals
          refine wpMix_bar (by rfl) (fun K hK => ?_)
          rw [if_pos (by rfl)]
          refine wp_append_src _ _ _ 53 (by rfl) wr.heap.size 46 i0 _ 2 32 Try.underlying53 hi0 hz0 hz1 hz2 rfl (by omega) (.slice A6m mt c6m) mt news (by rfl) Hown.out (some ⟨gx, 0, none⟩) 1 1 [.int .i64 idx, .slice A5 3 3] (by rfl) HX.out (by simp [Value.oneCell']) (by unfold maxLen; omega) (by omega) HBz.out.size ?_
          intro v7 w7 hown7 hgrow7 hrow7
          obtain ⟨A7, c7, rfl⟩ := own_shape hown7
          have L7 := (Below.refl wr.heap.size u3).grown hgrow7 HBz.out.size (fun j e => (Hown.out.lt j e).1)
          have HB7 := Lib.hid (HBz.out.trans L7)
          have Hr7 := Lib.hid (RdT.of_own hown7 ((Htk.out.below L7).append (TkCells.single (id := idx) (HRX.out.below HB7.out) (Nat.le_refl 3))) HB7.out.size (by omega))
          have hc7 := (own_cap hown7).1
          clear L7 hown7 hgrow7 hrow7 Hown Htk HX HBz
          ((try dsimp only); refine hK.out _ _ (keepS.out _ HB7.out) (fun hSw => ?_); (try clear hSw); clear hK K; (try simp only [Act.put, List.setIfInBounds_toArray, List.set_cons_zero, List.set_cons_succ]))
          (refine wpMix_bar (by rfl) (fun K hK => ?_); go_simp)
          have HB8 := Lib.hid (HB7.out.alloc HB7.out.size (.cells #[.slice A7 (mt + 1) c7] 53))
          have HR8 := Lib.hid (RdB.one (Blk.new w7 53 #[.slice A7 (mt + 1) c7]) hc7 (Hr7.out.up (alloc_up w7 _)))
          ((try dsimp only); refine hK.out _ _ (keepS.out _ HB8.out) (fun hSw => ?_); (try clear hSw); clear hK K; (try simp only [Act.put, List.setIfInBounds_toArray, List.set_cons_zero, List.set_cons_succ]))
          (refine wpMix_bar (by rfl) (fun K hK => ?_); go_simp)
          refine (binsValidI_any A1 _ 3 3 1 1 room _ _ (D5.out.up (below_to HBEL.out HB8.out)).r.a HR8.out (by have := hmt.out; simp; omega)).mono ?_; rintro e w9 ⟨rfl, hb9⟩
          rw [ts_.out]
          have HB9 := Lib.hid (below_to HB8.out hb9)
          clear hb9
          ((try dsimp only); refine hK.out _ _ (keepS.out _ HB9.out) (fun hSw => ?_); (try clear hSw); clear hK K; (try simp only [Act.put, List.setIfInBounds_toArray, List.set_cons_zero, List.set_cons_succ]))
          repeat (first | (refine wpMix_skip (by rfl) (by rfl) ?_; (try simp only [Act.put, List.setIfInBounds_toArray, List.set_cons_zero, List.set_cons_succ])) | (refine wpMix_take (v := ?_) (by rfl) (by rfl) (fun wS hSt => ?_) ?_; rotate_left; (focus ((try dsimp only at hSt); (go_simp <;> with_reducible rfl); done)); (try simp only [Act.put, List.setIfInBounds_toArray, List.set_cons_zero, List.set_cons_succ])))
          refine wpMix_nil ?_
          have HBK := Lib.hid (below_to HBEL.out HB9.out)
          clear HB7 HB8 HR8 Hr7
          by_cases hro : roomB room bs xs k = true
          · rw [show roomB room bs (idx, xs).2 k = true from hro]
            obtain ⟨b3, o3, rfl, hb3, hc3⟩ := (D5.out.up HBK.out).r.c.at_ (k := k) (by have := zonesOk_len HZ.out; have := l2.out; have := l3.out; omega)
            obtain ⟨b4, o4, hA4, hb4, hc4⟩ := (D5.out.up HBK.out).r.c.at_ (k := at_) (by have := zonesOk_len HZ.out; have := l2.out; have := l3.out; have := HLT.out; omega)
            injection hA4 with hA4
            injection hA4 with e1 e2
            subst e1 e2
            obtain ⟨zi, hzi⟩ := Int.eq_ofNat_of_zero_le (zonesOk_zone HZ.out k).1
            obtain ⟨zb, hzb⟩ := Int.eq_ofNat_of_zero_le (zonesOk_zone HZ.out at_).1
            have zi3 : zi ≤ 3 := by have := (zonesOk_zone HZ.out k).2; omega
            have zb3 : zb ≤ 3 := by have := (zonesOk_zone HZ.out at_).2; omega
            have hci := counts_cell (HB5.out.below HBK.out HB5.out.lt) lC.out zi3
            have hcb := counts_cell (HB5.out.below HBK.out HB5.out.lt) lC.out zb3
            have hpq := HBE.out k (by have := l2.out; omega) hro
            unfold zcount at hpq
            rw [hzi, hzb, Int.toNat_natCast, Int.toNat_natCast] at hpq
            rw [hzi] at hc3
            rw [hzb] at hc4
            clear hzi hzb
            generalize (countsP bs zones ids)[zi]?.getD 0 = p at hci hpq
            generalize (countsP bs zones ids)[zb]?.getD 0 = q at hcb hpq
            have hpq1 : decide (p < q) = false := decide_eq_false (by omega)
            have m0 : (0 : Int) ≤ (at_ : Int) := by omega
            have m1 : (at_ : Int) < (n3 : Int) := by have := zonesOk_len HZ.out; have := l2.out; have := l3.out; have := HLT.out; omega
            have m2 : (0 : Int) ≤ (zi : Int) := by omega
            have m3 : (zi : Int) < 4 := by omega
            have m4 : (0 : Int) ≤ (zb : Int) := by omega
            have m5 : (zb : Int) < 4 := by omega
            have m7 : (k : Int) < (n3 : Int) := by have := zonesOk_len HZ.out; have := l2.out; have := l3.out; omega
            have K0 : w9.drew.cell? ⟨b3, o3 + k, none⟩ = some (.int .i64 (zi : Int)) ∧ w9.drew.cell? ⟨b3, o3 + at_, none⟩ = some (.int .i64 (zb : Int)) ∧ w9.drew.cell? ⟨g5, zi, none⟩ = some (.int .i64 p) ∧ w9.drew.cell? ⟨g5, zb, none⟩ = some (.int .i64 q) := ⟨hc3, hc4, hci, hcb⟩
            clear hc3 hc4 hci hcb hpq
            by_cases hka : k = at_
            · have hka1 : ((k : Int) == (at_ : Int)) = true := by simp [hka]
              have Hka := Lib.hid hka
              clear hka
              go_wp2_with fail
              refine wp_region_mix (.take 0 (.take 1 (.take 2 (.take 3 (.take 4 (.take 5 (.take 6 (.take 7 (.take 8 (.take 9 (.take 10 (.take 11 (.take 12 (.take 13 (.take 14 (.take 15 (.take 16 (.take 17 (.take 18 (.take 19 (.take 20 (.take 21 (.take 22 (.take 23 (.take 24 (.take 25 (.take 26 .nil))))))))))))))))))))))))))) (fun w' => w'.cell? ⟨b3, o3 + k, none⟩ = some (.int .i64 (zi : Int)) ∧ w'.cell? ⟨b3, o3 + at_, none⟩ = some (.int .i64 (zb : Int)) ∧ w'.cell? ⟨g5, zi, none⟩ = some (.int .i64 p) ∧ w'.cell? ⟨g5, zb, none⟩ = some (.int .i64 q)) (by kernel_rfl) (by kernel_rfl) K0 (fun _ => ?_)
              clear K0
              repeat (first | (refine wpMix_skip (by rfl) (by rfl) ?_; (try simp only [Act.put, List.setIfInBounds_toArray, List.set_cons_zero, List.set_cons_succ])) | (refine wpMix_take (v := ?_) (by rfl) (by rfl) (fun wS hSt => ?_) ?_; rotate_left; (focus ((try dsimp only at hSt); (go_simp <;> with_reducible rfl); done)); (try simp only [Act.put, List.setIfInBounds_toArray, List.set_cons_zero, List.set_cons_succ])))
              refine wpMix_nil ?_
              go_wp2
              go_roundw
              case rel => exact ⟨k + 1, by go_num, by omega, HBK.out.drew⟩
              case measure => simp [intOf]; omega
            · have hka1 : ((k : Int) == (at_ : Int)) = false := by simp; omega
              go_wp2_with fail
              refine wp_region_mix (.take 0 (.take 1 (.take 2 (.take 3 (.take 4 (.take 5 (.take 6 (.take 7 (.take 8 (.take 9 (.take 10 (.take 11 (.take 12 (.take 13 (.take 14 (.take 15 (.take 16 (.take 17 (.take 18 (.take 19 (.take 20 (.take 21 (.take 22 (.take 23 (.take 24 (.take 25 (.take 26 .nil))))))))))))))))))))))))))) (fun w' => w'.cell? ⟨b3, o3 + k, none⟩ = some (.int .i64 (zi : Int)) ∧ w'.cell? ⟨b3, o3 + at_, none⟩ = some (.int .i64 (zb : Int)) ∧ w'.cell? ⟨g5, zi, none⟩ = some (.int .i64 p) ∧ w'.cell? ⟨g5, zb, none⟩ = some (.int .i64 q)) (by kernel_rfl) (by kernel_rfl) K0 (fun _ => ?_)
              clear K0
              repeat (first | (refine wpMix_skip (by rfl) (by rfl) ?_; (try simp only [Act.put, List.setIfInBounds_toArray, List.set_cons_zero, List.set_cons_succ])) | (refine wpMix_take (v := ?_) (by rfl) (by rfl) (fun wS hSt => ?_) ?_; rotate_left; (focus ((try dsimp only at hSt); (go_simp <;> with_reducible rfl); done)); (try simp only [Act.put, List.setIfInBounds_toArray, List.set_cons_zero, List.set_cons_succ])))
              refine wpMix_nil ?_
              go_wp2
              go_roundw
              case rel => exact ⟨k + 1, by go_num, by omega, HBK.out.drew⟩
              case measure => simp [intOf]; omega
          · have hro : roomB room bs xs k = false := by simpa using hro
            rw [show roomB room bs (idx, xs).2 k = false from hro]
            have hka1 : ((k : Int) == (at_ : Int)) = false := by
              simp
              intro e
              have : k = at_ := by omega
              subst this
              have := HRO.out
              rw [show roomB room bs (idx, xs).2 k = roomB room bs xs k from rfl, hro] at this
              cases this
            clear hro
            go_wp2_with fail
            refine wp_region_mix (.take 0 (.take 1 (.take 2 (.take 3 (.take 4 (.take 5 (.take 6 (.take 7 (.take 8 (.take 9 (.take 10 (.take 11 (.take 12 (.take 13 (.take 14 (.take 15 (.take 16 (.take 17 (.take 18 (.take 19 (.take 20 (.take 21 (.take 22 (.take 23 (.take 24 (.take 25 (.take 26 .nil))))))))))))))))))))))))))) (fun _ => True) (by kernel_rfl) (by kernel_rfl) trivial (fun _ => ?_)
            repeat (first | (refine wpMix_skip (by rfl) (by rfl) ?_; (try simp only [Act.put, List.setIfInBounds_toArray, List.set_cons_zero, List.set_cons_succ])) | (refine wpMix_take (v := ?_) (by rfl) (by rfl) (fun wS hSt => ?_) ?_; rotate_left; (focus ((try dsimp only at hSt); (go_simp <;> with_reducible rfl); done)); (try simp only [Act.put, List.setIfInBounds_toArray, List.set_cons_zero, List.set_cons_succ])))
            refine wpMix_nil ?_
            go_wp2
            go_roundw
            case rel => exact ⟨k + 1, by go_num, by omega, HBK.out.drew⟩
            case measure => simp [intOf]; omega
      · have HB := Lib.hid BW.out
        go_wp2
        go_ret
        exact ⟨rfl, HB.out⟩
end Go.Proofs.Ytgngmjlbeofjkaa
