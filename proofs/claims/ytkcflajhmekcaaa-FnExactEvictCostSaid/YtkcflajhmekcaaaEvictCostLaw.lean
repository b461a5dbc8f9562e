/- The walk of the law FnExactEvictCost: at every five arguments that can be read it returns true, and what was there stays. -/
import Derived.Test.YtkcflajhmekcaaaEvictLawKit
import Derived.Test.YtkcflajhmekcaaaMix
namespace Go.Proofs.Ytkcflajhmekcaaa
open Go Go.RowKit

set_option maxRecDepth 100000 in
set_option maxHeartbeats 3200000 in
theorem exactEvictCost_walk (A1 A2 A3 A4 : Option Addr) (n1 c1 n2 c2 n3 c3 n4 c4 : Nat) (room rk : List Int) (ts : List Tk) (id : Int) (xs : List Int) (r : Int) (w : World) (h : R5 w A1 A2 A3 A4 n1 n2 n3 n4 room ts rk xs) :
    Calls Try.prog 10 #[.slice A1 n1 c1, .slice A2 n2 c2, .slice A3 n3 c3, .agg #[.int .i64 id, .slice A4 n4 c4], .int .i64 r] w fun e w' => e = .returned (.bool true) ∧ Below w.heap.size w w' := by
  have l1 := Lib.hid h.a.len
  have l2 := Lib.hid h.b.len
  have l3 := Lib.hid h.c.len
  have l4 := Lib.hid h.d.len
  have b1 := h.a.le
  have b2 := h.b.le
  have b3 := h.c.le
  have b4 := h.d.le
  have B0 := evNewUp w (.cells #[.int .i64 id, .slice A4 n4 c4] 38)
  have hk := Lib.hid (fun w' => box_two 38 w (.int .i64 id) (.slice A4 n4 c4) (w' := w'))
  have sz : (w.alloc (.cells #[.int .i64 id, .slice A4 n4 c4] 38)).heap.size = w.heap.size + 1 := World.size_alloc _ _
  by_cases k1 : 1048576 < n1
  · go_enter Try.func10, Try.ntmps10
    go_wp2
    go_ret
    exact ⟨rfl, B0⟩
  by_cases k3 : 1048576 < n3
  · go_enter Try.func10, Try.ntmps10
    go_wp2
    go_ret
    exact ⟨rfl, B0⟩
  go_enter Try.func10, Try.ntmps10
  go_wp2_with fail
  generalize w.alloc (.cells #[.int .i64 id, .slice A4 n4 c4] 38) = W at B0 hk sz ⊢
  rw [← sz] at hk
  have SZ := Lib.hid sz
  clear sz
  refine (szTaskS_any _ _ _ _ _ _ (h.up B0).b (by omega) (by omega)).mono ?_; rintro e w1 ⟨r1, rfl, hr, d1⟩
  have B1 := below_to B0 d1
  have D1 := Lib.hid d1
  rcases hr with rfl | ⟨hr0, hre⟩
  · go_wp2
    go_ret
    exact ⟨rfl, B1⟩
  have Hre := Lib.hid (show totT ts ≤ 1048576 by omega)
  have hr0' : ¬ r1 < 0 := by omega
  have k2 : n2 ≤ 1048576 := by have := totT_ge ts; have := l2.out; omega
  have hr1 : r1 ≤ 1048576 := by omega
  clear hre d1
  obtain ⟨x0, x1⟩ := hk.out w1 D1.out
  go_wp2_with fail
  refine (szTask_any A4 n4 c4 id r1 w1 hr0 hr1 b4).mono ?_; rintro e w2 ⟨r2, rfl, hr2, d2⟩
  have B2 := below_to B1 d2
  have D2 := Lib.hid (below_to D1.out d2)
  rcases hr2 with rfl | ⟨hr20, hre2⟩
  · go_wp2
    go_ret
    exact ⟨rfl, B2⟩
  have hr20' : ¬ r2 < 0 := by omega
  have k4 : n4 ≤ 1048576 := by omega
  clear hre2 x0 x1 d2 hr0 hr0' hr1
  have K0 := hk.out w2.drew (D2.out.drew)
  -- the reference
  go_wp2_with fail
  refine wp_region_mix (.take 0 (.take 2 (.take 4 (.take 6 (.take 8 (.bar 1 (.bar 3 (.bar 5 (.bar 7 (.bar 9 (.take 10 .nil))))))))))) (fun w' => w'.cell? ⟨w.heap.size, 0, none⟩ = some (.int .i64 id) ∧ w'.cell? ⟨w.heap.size, 1, none⟩ = some (.slice A4 n4 c4)) (by kernel_rfl) (by kernel_rfl) K0 (fun _ => ?_)
  clear K0
  have B2' := B2.drew
  have D2' := Lib.hid D2.out.drew
  repeat (first | (refine wpMix_skip (by rfl) (by rfl) ?_; (try simp only [Act.put, List.setIfInBounds_toArray, List.set_cons_zero, List.set_cons_succ])) | (refine wpMix_take (v := ?_) (by rfl) (by rfl) (fun wS hSt => ?_) ?_; rotate_left; (focus ((try dsimp only at hSt); (go_simp <;> with_reducible rfl); done)); (try simp only [Act.put, List.setIfInBounds_toArray, List.set_cons_zero, List.set_cons_succ])))
  (refine wpMix_bar (by rfl) (fun K hK => ?_); go_simp)
  refine (toIntS_any _ _ _ _ _ (h.up B2').a (by omega)).mono ?_; rintro e w3 ⟨rfl, o1, d3⟩
  have B3 := below_to B2' d3
  have D3 := Lib.hid (below_to D2'.out d3)
  ((try dsimp only); refine hK.out _ _ (hk.out _ D3.out) (fun hSw => ?_); (try clear hSw); clear hK K; (try simp only [Act.put, List.setIfInBounds_toArray, List.set_cons_zero, List.set_cons_succ]))
  (refine wpMix_bar (by rfl) (fun K hK => ?_); go_simp)
  refine (toTaskS_any _ _ _ _ _ (h.up B3).b Hre.out).mono ?_; rintro e w4 ⟨rfl, o2, d4⟩
  have B4 := below_to B3 d4
  have D4 := Lib.hid (below_to D3.out d4)
  ((try dsimp only); refine hK.out _ _ (hk.out _ D4.out) (fun hSw => ?_); (try clear hSw); clear hK K; (try simp only [Act.put, List.setIfInBounds_toArray, List.set_cons_zero, List.set_cons_succ]))
  (refine wpMix_bar (by rfl) (fun K hK => ?_); go_simp)
  refine (toIntS_any _ _ _ _ _ (h.up B4).c (by omega)).mono ?_; rintro e w5 ⟨rfl, o3, d5⟩
  have B5 := below_to B4 d5
  have D5 := Lib.hid (below_to D4.out d5)
  ((try dsimp only); refine hK.out _ _ (hk.out _ D5.out) (fun hSw => ?_); (try clear hSw); clear hK K; (try simp only [Act.put, List.setIfInBounds_toArray, List.set_cons_zero, List.set_cons_succ]))
  (refine wpMix_bar (by rfl) (fun K hK => ?_); go_simp)
  refine (toTask_any A4 n4 c4 id xs w5 (h.up B5).d k4).mono ?_; rintro e w6 ⟨g6, rfl, o4, d6⟩
  have B6 := below_to B5 d6
  have D6 := Lib.hid (below_to D5.out d6)
  have y : R5 w6 _ _ _ _ n1 n2 n3 n4 room ts rk xs := ⟨(o1.rd' l1.out b1).up (below_to (below_to d4 d5) d6), (o2.rd' l2.out b2).up (below_to d5 d6), (o3.rd' l3.out b3).up d6, o4.rd' l4.out b4⟩
  ((try dsimp only); refine hK.out _ _ (hk.out _ D6.out) (fun hSw => ?_); (try clear hSw); clear hK K; (try simp only [Act.put, List.setIfInBounds_toArray, List.set_cons_zero, List.set_cons_succ]))
  (refine wpMix_bar (by rfl) (fun K hK => ?_); go_simp)
  refine (evictCostS_any _ _ _ _ _ _ _ _ _ _ _ _ _ _ _ _ _ _ _ y.a y.b y.c y.d (Nat.le_refl _) (Nat.le_refl _) k2).mono ?_; rintro e w8 ⟨rfl, d8⟩
  have B8 := below_to B6 d8
  have D8 := Lib.hid (below_to D6.out d8)
  clear y d8 o1 o2 o3 o4 d3 d4 d5 d6 B2 B3 B4 B5 B6 B2'
  ((try dsimp only); refine hK.out _ _ (hk.out _ D8.out) (fun hSw => ?_); (try clear hSw); clear hK K; (try simp only [Act.put, List.setIfInBounds_toArray, List.set_cons_zero, List.set_cons_succ]))
  repeat (first | (refine wpMix_skip (by rfl) (by rfl) ?_; (try simp only [Act.put, List.setIfInBounds_toArray, List.set_cons_zero, List.set_cons_succ])) | (refine wpMix_take (v := ?_) (by rfl) (by rfl) (fun wS hSt => ?_) ?_; rotate_left; (focus ((try dsimp only at hSt); (go_simp <;> with_reducible rfl); done)); (try simp only [Act.put, List.setIfInBounds_toArray, List.set_cons_zero, List.set_cons_succ])))
  refine wpMix_nil ?_
  -- the program's own copies
  go_wp2_with fail
  refine (toIntS_any _ _ _ _ _ (h.up B8).a (by omega)).mono ?_; rintro e w9 ⟨rfl, o1, d9⟩
  have B9 := below_to B8 d9
  have D9 := Lib.hid (below_to D8.out d9)
  go_wp2_with fail
  refine (toTaskS_any _ _ _ _ _ (h.up B9).b Hre.out).mono ?_; rintro e w10 ⟨rfl, o2, d10⟩
  have B10 := below_to B9 d10
  have D10 := Lib.hid (below_to D9.out d10)
  go_wp2_with fail
  refine (toIntS_any _ _ _ _ _ (h.up B10).c (by omega)).mono ?_; rintro e w12 ⟨rfl, o3, d12⟩
  have B12 := below_to B10 d12
  have D12 := Lib.hid (below_to D10.out d12)
  obtain ⟨x0, x1⟩ := hk.out w12 D12.out
  go_wp2_with fail
  refine (toTask_any A4 n4 c4 id xs w12 (h.up B12).d k4).mono ?_; rintro e w13 ⟨g13, rfl, o4, d13⟩
  have B13 := below_to B12 d13
  have D13 := Lib.hid (below_to D12.out d13)
  clear x0 x1
  -- the box of the program's task
  have hq := Lib.hid (fun w' => box_two 26 w13 (.int .i64 id) (.slice (some ⟨g13, 0, none⟩) n4 n4) (w' := w'))
  have sz := World.size_alloc w13 (.cells #[.int .i64 id, .slice (some ⟨g13, 0, none⟩) n4 n4] 26)
  have d14 := evNewUp w13 (.cells #[.int .i64 id, .slice (some ⟨g13, 0, none⟩) n4 n4] 26)
  have E14 := hq.out _ (Below.refl _ _)
  obtain ⟨e0, e1⟩ := E14
  go_wp2_with fail
  generalize w13.alloc (.cells #[.int .i64 id, .slice (some ⟨g13, 0, none⟩) n4 n4] 26) = w14 at hq sz d14 e0 e1 ⊢
  rw [← sz] at hq
  have B14 := below_to B13 d14
  have D14 := Lib.hid (below_to D13.out d14)
  have x : R5 w14 _ _ _ _ n1 n2 n3 n4 room ts rk xs := ⟨(o1.rd' l1.out b1).up (below_to (below_to (below_to d10 d12) d13) d14), (o2.rd' l2.out b2).up (below_to (below_to d12 d13) d14), (o3.rd' l3.out b3).up (below_to d13 d14), (o4.rd' l4.out b4).up d14⟩
  clear o1 o2 o3 o4 d9 d10 d12 d13 d14 B8 B9 B10 B12 B13 e0 e1 sz
  refine (evictCostI_any _ _ _ _ _ _ _ _ _ _ _ _ _ _ _ _ _ _ _ x.a x.b x.c x.d (Nat.le_refl _) (Nat.le_refl _) k2).mono ?_; rintro e w15 ⟨rfl, d15⟩
  have B15 := below_to B14 d15
  have D15 := Lib.hid (below_to D14.out d15)
  have Q15 := Lib.hid d15
  have x15 := x.up d15
  clear x d15 B14
  generalize costP room ts rk (id, xs) r = za
  -- the arguments are as they were
  go_wp2_with fail
  refine (toIntS_any _ _ _ _ _ (h.up B15).a (by omega)).mono ?_; rintro e w16 ⟨rfl, o1, d16⟩
  have B16 := below_to B15 d16
  have x16 := x15.up d16
  go_wp2_with fail
  refine (eqIntS_any _ _ _ _ _ _ _ _ _ x16.a (o1.rd' l1.out b1)).mono ?_; rintro e w17 ⟨rfl, m17, rfl⟩
  have d17 := below_to d16 (drew_below w16 m17)
  have B17 := below_to B15 d17
  have x17 := x15.up d17
  clear o1 d16 x16 B16
  go_wp2_with fail
  refine (toTaskS_any _ _ _ _ _ (h.up B17).b Hre.out).mono ?_; rintro e w18 ⟨rfl, o2, d18⟩
  have x18 := x17.up d18
  go_wp2_with fail
  refine (eqTaskS_any _ _ _ _ _ _ _ x18.b (o2.rd' l2.out b2)).mono ?_; rintro e w19 ⟨rfl, d19⟩
  have d19' := below_to (below_to d17 d18) d19
  have B19 := below_to B15 d19'
  have x19 := x15.up d19'
  clear o2 d18 x18 d19 x17 d17 B17
  go_wp2_with fail
  refine (toIntS_any _ _ _ _ _ (h.up B19).c (by omega)).mono ?_; rintro e w20 ⟨rfl, o3, d20⟩
  have x20 := x19.up d20
  go_wp2_with fail
  refine (eqIntS_any _ _ _ _ _ _ _ _ _ x20.c (o3.rd' l3.out b3)).mono ?_; rintro e w21 ⟨rfl, m21, rfl⟩
  have d23 := below_to (below_to d19' d20) (drew_below w20 m21)
  have B23 := Lib.hid (below_to B15 d23)
  have X55 := Lib.hid (x15.up d23).d
  have Q23 := Lib.hid (below_to Q15.out d23)
  have D23 := Lib.hid (below_to D15.out d23)
  clear o3 d20 x20 x19 d19' B19 B15 x15 d23
  generalize w20.drewN m21 = w23 at B23 X55 Q23 D23 ⊢
  have K0 : ((w23.drew.cell? ⟨w.heap.size, 0, none⟩ = some (.int .i64 id) ∧ w23.drew.cell? ⟨w.heap.size, 1, none⟩ = some (.slice A4 n4 c4)) ∧ w23.drew.cell? ⟨w13.heap.size, 0, none⟩ = some (.int .i64 id) ∧ w23.drew.cell? ⟨w13.heap.size, 1, none⟩ = some (.slice (some ⟨g13, 0, none⟩) n4 n4)) := ⟨hk.out _ D23.out.drew, hq.out _ Q23.out.drew⟩
  go_wp2_with fail
  refine wp_region_mix (.take 0 (.take 1 (.bar 2 (.bar 3 (.take 4 .nil))))) (fun w' => (w'.cell? ⟨w.heap.size, 0, none⟩ = some (.int .i64 id) ∧ w'.cell? ⟨w.heap.size, 1, none⟩ = some (.slice A4 n4 c4)) ∧ w'.cell? ⟨w13.heap.size, 0, none⟩ = some (.int .i64 id) ∧ w'.cell? ⟨w13.heap.size, 1, none⟩ = some (.slice (some ⟨g13, 0, none⟩) n4 n4)) (by kernel_rfl) (by kernel_rfl) K0 (fun _ => ?_)
  clear K0
  repeat (first | (refine wpMix_skip (by rfl) (by rfl) ?_; (try simp only [Act.put, List.setIfInBounds_toArray, List.set_cons_zero, List.set_cons_succ])) | (refine wpMix_take (v := ?_) (by rfl) (by rfl) (fun wS hSt => ?_) ?_; rotate_left; (focus ((try dsimp only at hSt); (go_simp <;> with_reducible rfl); done)); (try simp only [Act.put, List.setIfInBounds_toArray, List.set_cons_zero, List.set_cons_succ])))
  (refine wpMix_bar (by rfl) (fun K hK => ?_); go_simp)
  refine (toTask_any A4 n4 c4 id xs w23.drew (h.up B23.out.drew).d k4).mono ?_; rintro e w24 ⟨g24, rfl, o5, d24⟩
  ((try dsimp only); refine hK.out _ _ (⟨hk.out _ (below_to D23.out.drew d24), hq.out _ (below_to Q23.out.drew d24)⟩) (fun hSw => ?_); (try clear hSw); clear hK K; (try simp only [Act.put, List.setIfInBounds_toArray, List.set_cons_zero, List.set_cons_succ]))
  (refine wpMix_bar (by rfl) (fun K hK => ?_); go_simp)
  refine (eqTask_any _ _ _ _ _ _ _ _ (X55.out.up (below_to (Below.refl _ _).drew d24)) (o5.rd' l4.out b4)).mono ?_; rintro e w25 ⟨rfl, d25⟩
  have B25 := Lib.hid (below_to (below_to B23.out.drew d24) d25)
  ((try dsimp only); refine hK.out _ _ (⟨hk.out _ (below_to (below_to D23.out.drew d24) d25), hq.out _ (below_to (below_to Q23.out.drew d24) d25)⟩) (fun hSw => ?_); (try clear hSw); clear hK K; (try simp only [Act.put, List.setIfInBounds_toArray, List.set_cons_zero, List.set_cons_succ]))
  repeat (first | (refine wpMix_skip (by rfl) (by rfl) ?_; (try simp only [Act.put, List.setIfInBounds_toArray, List.set_cons_zero, List.set_cons_succ])) | (refine wpMix_take (v := ?_) (by rfl) (by rfl) (fun wS hSt => ?_) ?_; rotate_left; (focus ((try dsimp only at hSt); (go_simp <;> with_reducible rfl); done)); (try simp only [Act.put, List.setIfInBounds_toArray, List.set_cons_zero, List.set_cons_succ])))
  refine wpMix_nil ?_
  go_wp2
  go_ret
  exact ⟨rfl, B25.out⟩
end Go.Proofs.Ytkcflajhmekcaaa
