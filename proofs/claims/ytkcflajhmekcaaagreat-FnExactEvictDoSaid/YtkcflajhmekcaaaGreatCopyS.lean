/- Walk: the reference's l2Copy: tasks that share nothing. -/
import Derived.Test.YtkcflajhmekcaaaGreatOwnTs
namespace Go.Proofs.YtkcflajhmekcaaaGreat
open Go Go.RowKit
attribute [local go_sem ↓] Go.wp_at_zero Go.wp_at_succ

theorem take_tk {ts : List Tk} {k : Nat} (h : k < ts.length) : ts.take (k + 1) = ts.take k ++ [((ts[k]?.getD (0, [])).1, (ts[k]?.getD (0, [])).2)] := by
  rw [List.take_succ_eq_append_getElem h, List.getElem?_eq_getElem h]; rfl

set_option maxRecDepth 100000 in
set_option maxHeartbeats 1600000 in
theorem l2Copy_any (A : Option Addr) (n c : Nat) (ts : List Tk) (w : World) (h : RdT w w.heap.size A n ts) (hz : n ≤ 1048576) (hm : ∀ j, j < n → (ts[j]?.getD (0, [])).2.length ≤ 1048576) :
    Calls Tryz.prog 39 #[.slice A n c] w fun e w' => ∃ A' c', e = .returned (.slice A' n c') ∧ OwnTs w' w.heap.size (.slice A' n c') n ts ∧ Below w.heap.size w w' := by
  obtain ⟨i0, hi0, hz0, hz1, hz2⟩ := info_parts task_info
  obtain ⟨j0, hj0, jz0, jz1, jz2⟩ := info_parts ownI_info
  have hl := Lib.hid h.len
  have H := Lib.hid h
  have Hm := Lib.hid hm
  clear h hm
  have O0 := Lib.hid (show (w.alloc (.cells #[] 33)).ownsRow w.heap.size 33 2 (.slice (some ⟨w.heap.size, 0, none⟩) 0 0) 0 [] from World.ownsRow_made w #[] 0 (Nat.le_refl _) (by unfold maxLen; omega) rfl)
  have B0 := Lib.hid (upNew w (.cells #[] 33))
  go_enter Tryz.func39, Tryz.ntmps39
  go_wp2_with fail
  go_loopw [3, 4] (fun v i wr => ∃ (k : Nat) (A0 : Option Addr) (c0 : Nat) (vs : List Value) (nd : Nat → Value), i = .int .i64 k ∧ k ≤ n ∧ v = .slice A0 k c0 ∧ Below w.heap.size w wr ∧
    wr.ownsRow w.heap.size 33 2 (.slice A0 k c0) k vs ∧ NdTs wr w.heap.size k vs nd (ts.take k)) (fun _ i _ => n - (intOf i).toNat)
  case atStart => exact ⟨0, _, _, [], _, rfl, Nat.zero_le _, rfl, B0.out, O0.out, NdTs.nil⟩
  case round =>
    clear O0 B0
    obtain ⟨k, A0, c0, vs, nd, rfl, hk, rfl, hbel, hown, hnd⟩ := hrel
    by_cases hlt : k < n
    · obtain ⟨b1, o1, A3, m3, c3, rfl, lb1, hc1, hc3, hle3, hr3⟩ := (H.out.below hbel).at_ hlt
      have lm3 : m3 ≤ 1048576 := by rw [← hr3.len]; exact Hm.out k hlt
      have kk1 : (0 : Int) ≤ (k : Int) := by omega
      have kk2 : (k : Int) < (n : Int) := by omega
      have keepS := Lib.hid (show ∀ W, Below w.heap.size w W → W.cell? ⟨b1, o1 + k * 2, none⟩ = some (.int .i64 (ts[k]?.getD (0, [])).1) ∧ W.cell? ⟨b1, o1 + k * 2 + 1, none⟩ = some (.slice A3 m3 c3) from
        fun W hW => ⟨(hW.cell lb1).trans ((hbel.cell lb1).symm.trans hc1), (hW.cell lb1).trans ((hbel.cell lb1).symm.trans hc3)⟩)
      have HB0 := Lib.hid hbel.drew
      have Hown := Lib.hid (own_keep hown (w' := wr.drew) (fun b hb => rfl))
      have Hnd := Lib.hid (hnd.keep (w' := wr.drew) (fun b _ _ => rfl))
      have K0 := keepS.out _ HB0.out
      have Hr3 := Lib.hid (hr3.below (w' := wr.drew) (Below.refl _ _).drew)
      clear hown hnd hr3 hc1 hc3 hbel
      go_wp2_with fail
      refine wp_region_mix (.take 0 (.take 1 (.take 2 (.take 3 (.take 4 (.take 5 (.take 7 (.take 8 (.take 9 (.take 10 (.take 11 (.bar 6 (.bar 12 (.take 13 (.bar 14 (.bar 15 (.take 16 .nil))))))))))))))))) (fun w' => w'.cell? ⟨b1, o1 + k * 2, none⟩ = some (.int .i64 (ts[k]?.getD (0, [])).1) ∧ w'.cell? ⟨b1, o1 + k * 2 + 1, none⟩ = some (.slice A3 m3 c3)) (by kernel_rfl) (by kernel_rfl) K0 (fun _ => ?_)
      clear K0
      repeat (first | (refine wpMix_skip (by rfl) (by rfl) ?_; (try simp only [Act.put, List.setIfInBounds_toArray, List.set_cons_zero, List.set_cons_succ])) | (refine wpMix_take (v := ?_) (by rfl) (by rfl) (fun wS hSt => ?_) ?_; rotate_left; (focus ((try dsimp only at hSt); (go_simp <;> with_reducible rfl); done)); (try simp only [Act.put, List.setIfInBounds_toArray, List.set_cons_zero, List.set_cons_succ])))
      generalize wr.drew = u0 at HB0 Hown Hnd Hr3 ⊢
      (refine wpMix_bar (by rfl) (fun K hK => ?_); go_simp)
      have lu := HB0.out.size
      have HB1 := Lib.hid (HB0.out.alloc lu (.cells #[] 3))
      have HE := Lib.hid (show (u0.alloc (.cells #[] 3)).ownsRow u0.heap.size 3 1 (.slice (some ⟨u0.heap.size, 0, none⟩) 0 0) 0 [] from World.ownsRow_made u0 #[] 0 (Nat.le_refl _) (by unfold maxLen; omega) rfl)
      have Hs1 := Lib.hid (srcOfI (Hr3.out.below ((Below.refl w.heap.size u0).alloc lu (.cells #[] 3))))
      have lz1 : u0.heap.size ≤ (u0.alloc (.cells #[] 3)).heap.size := by rw [World.size_alloc]; omega
      ((try dsimp only); refine hK.out _ _ (keepS.out _ HB1.out) (fun hSw => ?_); (try clear hSw); clear hK K; (try simp only [Act.put, List.setIfInBounds_toArray, List.set_cons_zero, List.set_cons_succ]))
      refine wpMix_bar (by rfl) (fun K hK => ?_)
      rw [if_pos (by rfl)]
      refine wp_append_src _ _ _ 22 (by rfl) u0.heap.size 3 j0 _ 1 8 Tryz.underlying22 hj0 jz0 jz1 jz2 rfl (by omega) (.slice (some ⟨u0.heap.size, 0, none⟩) 0 0) 0 [] (by rfl) HE.out A3 m3 c3 _ (by rfl) Hs1.out (ints_cell1 _) (by unfold maxLen; omega) (by omega) lz1 ?_
      intro v6 w6 hown6 hgrow6 hrow6
      rw [Nat.zero_add, List.nil_append] at hown6
      obtain ⟨A6, c6, rfl⟩ := own_shape hown6
      have hk6 : ∀ b, b < u0.heap.size → w6.heap[b]? = u0.heap[b]? := fun b hb => (hgrow6.block b (by rw [World.size_alloc]; omega) (fun e => by have := (HE.out.lt b e.symm).1; omega)).trans (Below.heap_alloc _ _ _ hb)
      have Hx6 := Lib.hid hown6
      have Ho6 := Lib.hid (own_keep Hown.out (w' := w6) (fun b hb => hk6 b (Hown.out.lt b hb).2))
      have Hn6 := Lib.hid (Hnd.out.keep (w' := w6) (fun b _ hb => hk6 b hb))
      have HB6 := Lib.hid (HB1.out.grown hgrow6 HB1.out.size (fun j e => by have := (HE.out.lt j e).1; omega))
      clear hown6 hgrow6 hrow6 hk6 HE Hs1 HB1 Hr3 lz1
      ((try dsimp only); refine hK.out _ _ (keepS.out _ HB6.out) (fun hSw => ?_); (try clear hSw); clear hK K; (try simp only [Act.put, List.setIfInBounds_toArray, List.set_cons_zero, List.set_cons_succ]))
      repeat (first | (refine wpMix_skip (by rfl) (by rfl) ?_; (try simp only [Act.put, List.setIfInBounds_toArray, List.set_cons_zero, List.set_cons_succ])) | (refine wpMix_take (v := ?_) (by rfl) (by rfl) (fun wS hSt => ?_) ?_; rotate_left; (focus ((try dsimp only at hSt); (go_simp <;> with_reducible rfl); done)); (try simp only [Act.put, List.setIfInBounds_toArray, List.set_cons_zero, List.set_cons_succ])))
      (refine wpMix_bar (by rfl) (fun K hK => ?_); go_simp)
      have HB7 := Lib.hid (HB6.out.alloc HB6.out.size (.cells #[.int .i64 (ts[k]?.getD (0, [])).1, .slice A6 m3 c6] 33))
      have Ho7 := Lib.hid (own_keep Ho6.out (w' := w6.alloc (.cells #[.int .i64 (ts[k]?.getD (0, [])).1, .slice A6 m3 c6] 33)) (fun b hb => Below.heap_alloc _ _ _ (Ho6.out.lt b hb).2))
      have Hx7 := Lib.hid (own_keep Hx6.out (w' := w6.alloc (.cells #[.int .i64 (ts[k]?.getD (0, [])).1, .slice A6 m3 c6] 33)) (fun b hb => Below.heap_alloc _ _ _ (Hx6.out.lt b hb).2))
      have Hn7 := Lib.hid ((Hn6.out.keep (w' := w6.alloc (.cells #[.int .i64 (ts[k]?.getD (0, [])).1, .slice A6 m3 c6] 33)) (fun b _ hlt => Below.heap_alloc _ _ _ hlt)).snoc (w0 := u0) (id := (ts[k]?.getD (0, [])).1) Ho6.out.1 Hnd.out.old Hx7.out lu)
      have Hs7 := Lib.hid (own_src (own_built (w := w6) (base := 0) 33 (.int .i64 (ts[k]?.getD (0, [])).1) (.slice A6 m3 c6) (by omega)))
      ((try dsimp only); refine hK.out _ _ (keepS.out _ HB7.out) (fun hSw => ?_); (try clear hSw); clear hK K; (try simp only [Act.put, List.setIfInBounds_toArray, List.set_cons_zero, List.set_cons_succ]))
      refine wpMix_bar (by rfl) (fun K hK => ?_)
      rw [if_pos (by rfl)]
      refine wp_append_src _ _ _ 31 (by rfl) w.heap.size 33 i0 _ 2 32 Tryz.underlying31 hi0 hz0 hz1 hz2 rfl (by omega) (.slice A0 k c0) k vs (by rfl) Ho7.out (some ⟨w6.heap.size, 0, none⟩) 1 1 [.int .i64 (ts[k]?.getD (0, [])).1, .slice A6 m3 c6] (by rfl) Hs7.out (by simp [Value.oneCell']) (by unfold maxLen; omega) (by omega) HB7.out.size ?_
      intro v8 w8 hown8 hgrow8 hrow8
      obtain ⟨A8, c8, rfl⟩ := own_shape hown8
      have Hn8 := Lib.hid (Hn7.out.grown Ho7.out hgrow8)
      have HB8 := Lib.hid (HB7.out.grown hgrow8 HB7.out.size (fun j e => (Ho7.out.lt j e).1))
      have Ho8 := Lib.hid hown8
      clear hown8 hgrow8 hrow8 Hs7 Hn7 Hx7 Ho7 HB7 Hn6 Ho6 Hx6 HB6 Hown Hnd
      ((try dsimp only); refine hK.out _ _ (keepS.out _ HB8.out) (fun hSw => ?_); (try clear hSw); clear hK K; (try simp only [Act.put, List.setIfInBounds_toArray, List.set_cons_zero, List.set_cons_succ]))
      repeat (first | (refine wpMix_skip (by rfl) (by rfl) ?_; (try simp only [Act.put, List.setIfInBounds_toArray, List.set_cons_zero, List.set_cons_succ])) | (refine wpMix_take (v := ?_) (by rfl) (by rfl) (fun wS hSt => ?_) ?_; rotate_left; (focus ((try dsimp only at hSt); (go_simp <;> with_reducible rfl); done)); (try simp only [Act.put, List.setIfInBounds_toArray, List.set_cons_zero, List.set_cons_succ])))
      refine wpMix_nil ?_
      go_wp2_with fail
      go_roundw
      case measure => simp [intOf]; omega
      case rel => exact ⟨k + 1, A8, c8, _, _, by go_num, by omega, rfl, HB8.out, Ho8.out, by rw [take_tk (by have := hl.out; omega)]; exact Hn8.out⟩
    · obtain rfl : k = n := by omega
      have Hown := Lib.hid hown
      have Hnd := Lib.hid hnd
      clear hown hnd
      go_wp2_with fail
      go_ret
      exact ⟨A0, c0, rfl, ⟨vs, nd, Hown.out, by have := Hnd.out; rwa [List.take_of_length_le (by have := hl.out; omega)] at this⟩, hbel⟩
end Go.Proofs.YtkcflajhmekcaaaGreat
