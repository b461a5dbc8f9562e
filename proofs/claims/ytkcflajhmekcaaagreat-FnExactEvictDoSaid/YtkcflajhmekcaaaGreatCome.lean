/- Walks: whether a further task can come to nodes: l11Ok, canCome, hasRoom, withRoom. -/
import Derived.Test.YtkcflajhmekcaaaGreatAllOwn
import Derived.Test.YtkcflajhmekcaaaGreatMix
import Derived.Deep.RegionLaw
import Derived.Deep.RegionWith
import Derived.Deep.DrawnRows
import Derived.Outline
namespace Go.Proofs.YtkcflajhmekcaaaGreat
open Go.RowKit
attribute [local go_sem ↓] Go.wp_at_zero Go.wp_at_succ

/-- A further task can come. -/
def comeOk (room : List Int) (bs : List (List Tk)) (t : Tk) : Bool := binsOk room bs && tasksOk room (bs.flatten ++ [t])

theorem TkCells.single {w : World} {B : Nat} {A : Option Addr} {n c : Nat} {id : Int} {xs : List Int} (h : RdI w B A n xs) (hc : n ≤ c) : TkCells w B [.int .i64 id, .slice A n c] [(id, xs)] :=
  ⟨rfl, fun j hj => by obtain rfl : j = 0 := by simp at hj; omega
                       exact ⟨A, n, c, rfl, rfl, hc, h⟩⟩
/-- A boxed task stays. -/
theorem box_keep (w : World) (v0 v1 : Value) {w' : World} (hb : Below (w.heap.size + 1) (w.alloc (.cells #[v0, v1] 33)) w') : w'.cell? ⟨w.heap.size, 0, none⟩ = some v0 ∧ w'.cell? ⟨w.heap.size, 1, none⟩ = some v1 := by
  constructor
  · rw [hb.cell (by simp)]; exact (Blk.new w _ _).cell 0
  · rw [hb.cell (by simp)]; exact (Blk.new w _ _).cell 1

set_option maxRecDepth 100000 in
set_option maxHeartbeats 1600000 in
theorem l11Ok_any (A1 A2 A3 : Option Addr) (n1 c1 n2 c2 n3 c3 : Nat) (room : List Int) (bs : List (List Tk)) (id : Int) (xs : List Int) (w : World) (h1 : RdI w w.heap.size A1 n1 room) (h2 : RdB w w.heap.size A2 n2 bs) (h3 : RdI w w.heap.size A3 n3 xs)
    (hc3 : n3 ≤ c3) (hz : bs.flatten.length ≤ 1048576) :
    Calls Tryz.prog 47 #[.slice A1 n1 c1, .slice A2 n2 c2, .agg #[.int .i64 id, .slice A3 n3 c3]] w fun e w' => e = .returned (.bool (comeOk room bs (id, xs))) ∧ Below w.heap.size w w' := by
  obtain ⟨i0, hi0, hz0, hz1, hz2⟩ := info_parts task_info
  have H1 := Lib.hid h1
  have H2 := Lib.hid h2
  have H3 := Lib.hid h3
  clear h1 h2 h3
  have B0 := Lib.hid (new_up w (.cells #[.int .i64 id, .slice A3 n3 c3] 33))
  have hk := Lib.hid (fun w' => box_keep w (.int .i64 id) (.slice A3 n3 c3) (w' := w'))
  have sz : (w.alloc (.cells #[.int .i64 id, .slice A3 n3 c3] 33)).heap.size = w.heap.size + 1 := World.size_alloc _ _
  have hv := binsValidS_any A1 A2 n1 c1 n2 c2 room bs
  have Hv := Lib.hid hv
  clear hv
  by_cases hok : binsOk room bs = true
  · have HL := Lib.hid (binsOk_len hok)
    have Hok := Lib.hid hok
    go_enter Tryz.func47, Tryz.ntmps47
    go_wp2_with fail
    generalize hW : w.alloc (.cells #[.int .i64 id, .slice A3 n3 c3] 33) = W at hk B0 sz ⊢
    have ecall := Lib.hid (show ∀ w', Below w.heap.size w w' → Calls Tryz.prog 70 #[.slice A1 n1 c1, .slice A2 n2 c2] w' fun e w'' => e = .returned (.bool true) ∧ Below w'.heap.size w' w'' from fun w' hb => by
      have := Hv.out w' (H1.out.up hb) (H2.out.up hb) (by omega); rwa [hok] at this)
    have HS := Lib.hid sz
    rw [← sz] at hk
    have K0 := hk.out W.drew (Below.refl _ _).drew
    clear hW sz hok
    refine wp_region_mix (.take 0 (.take 1 (.bar 2 (.take 3 (.take 4 (.take 5 (.take 7 (.fork 6 (.bar 8 (.bar 9 (.bar 10 (.take 11 (.take 12 .nil))))) 8 (.bar 6 (.bar 9 (.bar 10 (.take 11 (.take 12 .nil))))))))))))) (fun w' => w'.cell? ⟨w.heap.size, 0, none⟩ = some (.int .i64 id) ∧ w'.cell? ⟨w.heap.size, 1, none⟩ = some (.slice A3 n3 c3)) (by kernel_rfl) (by kernel_rfl) K0 (fun _ => ?_)
    clear K0
    repeat (first | (refine wpMix_skip (by rfl) (by rfl) ?_; (try simp only [Act.put, List.setIfInBounds_toArray, List.set_cons_zero, List.set_cons_succ])) | (refine wpMix_take (v := ?_) (by rfl) (by rfl) (fun wS hSt => ?_) ?_; rotate_left; (focus ((try dsimp only at hSt); (go_simp <;> with_reducible rfl); done)); (try simp only [Act.put, List.setIfInBounds_toArray, List.set_cons_zero, List.set_cons_succ])))
    (refine wpMix_bar (by rfl) (fun K hK => ?_); go_simp)
    refine (ecall.out _ B0.out.drew).mono ?_; rintro e w1 ⟨rfl, hb1⟩
    have HB1 := Lib.hid (below_to B0.out.drew hb1)
    have HQ1 := Lib.hid (show Below W.heap.size W w1 from below_to (Below.refl _ _).drew hb1)
    clear hb1
    ((try dsimp only); refine hK.out _ _ (hk.out w1 HQ1.out) (fun hSw => ?_); (try clear hSw); clear hK K; (try simp only [Act.put, List.setIfInBounds_toArray, List.set_cons_zero, List.set_cons_succ]))
    repeat (first | (refine wpMix_skip (by rfl) (by rfl) ?_; (try simp only [Act.put, List.setIfInBounds_toArray, List.set_cons_zero, List.set_cons_succ])) | (refine wpMix_take (v := ?_) (by rfl) (by rfl) (fun wS hSt => ?_) ?_; rotate_left; (focus ((try dsimp only at hSt); (go_simp <;> with_reducible rfl); done)); (try simp only [Act.put, List.setIfInBounds_toArray, List.set_cons_zero, List.set_cons_succ])))
    refine wpMix_fork (by rfl) (by rfl) (fun K hK => ?_) (fun K hK => ?_)
    go_simp
    refine (l2All_own A2 n2 c2 bs w1 (H2.out.up HB1.out) (by omega)).mono ?_; rintro e w2 ⟨A4, m, c4, vs, rfl, hm, hown, htk, hlen, hb2⟩
    have l12 := hb2.size
    have HQ2 := Lib.hid (below_to HQ1.out hb2)
    have lm : m ≤ 1048576 := by omega
    have Hown := Lib.hid (own_keep hown (w' := w2.alloc (.cells #[.int .i64 id, .slice A3 n3 c3] 33)) (fun b hb => Below.heap_alloc _ _ _ (hown.lt b hb).2))
    have Hx := Lib.hid (own_src (own_built (w := w2) (base := 0) 33 (.int .i64 id) (.slice A3 n3 c3) (by omega)))
    have HQ3 := Lib.hid (HQ2.out.alloc HQ2.out.size (.cells #[.int .i64 id, .slice A3 n3 c3] 33))
    have HB3 := Lib.hid (below_to HB1.out (hb2.alloc hb2.size (.cells #[.int .i64 id, .slice A3 n3 c3] 33)))
    have Htk := Lib.hid (show TkCells (w2.alloc (.cells #[.int .i64 id, .slice A3 n3 c3] 33)) w1.heap.size vs bs.flatten from htk.keep (fun p hp => (alloc_up w2 _).cell (by omega)) (Nat.le_refl _))
    have l13 : w1.heap.size ≤ (w2.alloc (.cells #[.int .i64 id, .slice A3 n3 c3] 33)).heap.size := by simp; omega
    have l14 : W.heap.size ≤ w1.heap.size := HQ1.out.size
    clear hown htk hlen hm
    ((try dsimp only); refine hK.out _ _ (hk.out w2 HQ2.out) (fun hSw => ?_); (try clear hSw); clear hK K; (try simp only [Act.put, List.setIfInBounds_toArray, List.set_cons_zero, List.set_cons_succ]))
    clear hb2
    (refine wpMix_bar (by rfl) (fun K hK => ?_); go_simp)
    ((try dsimp only); refine hK.out _ _ (hk.out _ HQ3.out) (fun hSw => ?_); (try clear hSw); clear hK K; (try simp only [Act.put, List.setIfInBounds_toArray, List.set_cons_zero, List.set_cons_succ]))
    generalize w2.alloc (.cells #[.int .i64 id, .slice A3 n3 c3] 33) = wz at Hown Hx HQ3 HB3 Htk l13 ⊢
    generalize w2.heap.size = gx at Hx ⊢
    generalize w1.heap.size = lo at Hown Htk l13 l14
    rotate_left
    go_simp
    have HQ2 := Lib.hid (HQ1.out.alloc HQ1.out.size (.cells #[.int .i64 id, .slice A3 n3 c3] 33))
    ((try dsimp only); refine hK.out _ _ (hk.out _ HQ2.out) (fun hSw => ?_); (try clear hSw); clear hK K; (try simp only [Act.put, List.setIfInBounds_toArray, List.set_cons_zero, List.set_cons_succ]))
    (refine wpMix_bar (by rfl) (fun K hK => ?_); go_simp)
    have HB2 := Lib.hid (below_to HB1.out (alloc_up w1 (.cells #[.int .i64 id, .slice A3 n3 c3] 33)))
    refine (l2All_own A2 n2 c2 bs _ (H2.out.up HB2.out) (by omega)).mono ?_; rintro e w2 ⟨A4, m, c4, vs, rfl, hm, hown, htk, hlen, hb2⟩
    have lm : m ≤ 1048576 := by omega
    have Hown := Lib.hid hown
    have Hx := Lib.hid (own_src (own_keep (own_built (w := w1) (base := 0) 33 (.int .i64 id) (.slice A3 n3 c3) (by omega)) (w' := w2) (fun b hb => hb2.block b (by simp [Value.ownBlock] at hb; subst hb; simp))))
    have HQ3 := Lib.hid (below_to HQ2.out hb2)
    have HB3 := Lib.hid (below_to HB2.out hb2)
    have Htk := Lib.hid htk
    have l13 := hb2.size
    have l14 : W.heap.size ≤ (w1.alloc (.cells #[.int .i64 id, .slice A3 n3 c3] 33)).heap.size := by have := HQ1.out.size; simp; omega
    clear hown htk hlen hm hb2
    ((try dsimp only); refine hK.out _ _ (hk.out _ HQ3.out) (fun hSw => ?_); (try clear hSw); clear hK K; (try simp only [Act.put, List.setIfInBounds_toArray, List.set_cons_zero, List.set_cons_succ]))
    generalize w2 = wz at Hown Hx HQ3 HB3 Htk l13 ⊢
    generalize (w1.alloc (.cells #[.int .i64 id, .slice A3 n3 c3] 33)).heap.size = lo at Hown Htk l13 l14
    generalize w1.heap.size = gx at Hx ⊢
    rotate_left
    all_goals
      refine wpMix_bar (by rfl) (fun K hK => ?_)
      rw [if_pos (by rfl)]
      refine wp_append_src _ _ _ 31 (by rfl) lo 33 i0 _ 2 32 Tryz.underlying31 hi0 hz0 hz1 hz2 rfl (by omega) (.slice A4 m c4) m vs (by rfl) Hown.out (some ⟨gx, 0, none⟩) 1 1 [.int .i64 id, .slice A3 n3 c3] (by rfl) Hx.out (by simp [Value.oneCell']) (by unfold maxLen; omega) (by omega) l13 ?_
      intro v6 w6 hown6 hgrow6 hrow6
      obtain ⟨A6, c6, rfl⟩ := own_shape hown6
      have HQ6 := Lib.hid (HQ3.out.grown hgrow6 HQ3.out.size (fun j e => by have := (Hown.out.lt j e).1; omega))
      have HB6 := Lib.hid (HB3.out.grown hgrow6 HB3.out.size (fun j e => by have := (Hown.out.lt j e).1; have := HS.out; omega))
      have L6 := (Below.refl lo wz).grown hgrow6 l13 (fun j e => (Hown.out.lt j e).1)
      have Htk6 := Lib.hid ((Htk.out.below L6).append (TkCells.single (id := id) ((H3.out.below HB6.out).more (show w.heap.size ≤ lo by have := HS.out; omega)) hc3))
      have Hr6 := Lib.hid (RdT.of_own hown6 Htk6.out (by have := L6.size; omega) (by omega))
      clear hown6 hgrow6 hrow6 L6
      ((try dsimp only); refine hK.out _ _ (hk.out _ HQ6.out) (fun hSw => ?_); (try clear hSw); clear hK K; (try simp only [Act.put, List.setIfInBounds_toArray, List.set_cons_zero, List.set_cons_succ]))
      repeat (first | (refine wpMix_skip (by rfl) (by rfl) ?_; (try simp only [Act.put, List.setIfInBounds_toArray, List.set_cons_zero, List.set_cons_succ])) | (refine wpMix_take (v := ?_) (by rfl) (by rfl) (fun wS hSt => ?_) ?_; rotate_left; (focus ((try dsimp only at hSt); (go_simp <;> with_reducible rfl); done)); (try simp only [Act.put, List.setIfInBounds_toArray, List.set_cons_zero, List.set_cons_succ])))
      (refine wpMix_bar (by rfl) (fun K hK => ?_); go_simp)
      refine (tasksValidS_any _ _ _ _ _ _ _ _ w6 (H1.out.up HB6.out) Hr6.out).mono ?_; rintro e w7 ⟨rfl, m7, rfl⟩
      ((try dsimp only); refine hK.out _ _ (hk.out _ (below_drewN HQ6.out m7)) (fun hSw => ?_); (try clear hSw); clear hK K; (try simp only [Act.put, List.setIfInBounds_toArray, List.set_cons_zero, List.set_cons_succ]))
      repeat (first | (refine wpMix_skip (by rfl) (by rfl) ?_; (try simp only [Act.put, List.setIfInBounds_toArray, List.set_cons_zero, List.set_cons_succ])) | (refine wpMix_take (v := ?_) (by rfl) (by rfl) (fun wS hSt => ?_) ?_; rotate_left; (focus ((try dsimp only at hSt); (go_simp <;> with_reducible rfl); done)); (try simp only [Act.put, List.setIfInBounds_toArray, List.set_cons_zero, List.set_cons_succ])))
      refine wpMix_nil ?_
      go_wp2
      go_ret
      exact ⟨ret_bool (by simp [comeOk, Hok.out]), below_drewN HB6.out _⟩
  · have hok : binsOk room bs = false := by simpa using hok
    go_enter Tryz.func47, Tryz.ntmps47
    go_wp2_with fail
    generalize hW : w.alloc (.cells #[.int .i64 id, .slice A3 n3 c3] 33) = W at hk B0 sz ⊢
    have ecall := Lib.hid (show ∀ w', Below w.heap.size w w' → Calls Tryz.prog 70 #[.slice A1 n1 c1, .slice A2 n2 c2] w' fun e w'' => e = .returned (.bool false) ∧ Below w'.heap.size w' w'' from fun w' hb => by
      have := Hv.out w' (H1.out.up hb) (H2.out.up hb) (by omega); rwa [hok] at this)
    have HS := Lib.hid sz
    have Hok := Lib.hid hok
    clear hW sz hok
    refine wp_region_mix (.take 0 (.take 1 (.bar 2 (.take 3 (.take 4 (.take 5 (.take 6 (.take 7 (.take 8 (.take 9 (.take 10 (.take 11 (.take 12 .nil))))))))))))) (fun _ => True) (by kernel_rfl) (by kernel_rfl) trivial (fun _ => ?_)
    repeat (first | (refine wpMix_skip (by rfl) (by rfl) ?_; (try simp only [Act.put, List.setIfInBounds_toArray, List.set_cons_zero, List.set_cons_succ])) | (refine wpMix_take (v := ?_) (by rfl) (by rfl) (fun wS hSt => ?_) ?_; rotate_left; (focus ((try dsimp only at hSt); (go_simp <;> with_reducible rfl); done)); (try simp only [Act.put, List.setIfInBounds_toArray, List.set_cons_zero, List.set_cons_succ])))
    (refine wpMix_bar (by rfl) (fun K hK => ?_); go_simp)
    refine (ecall.out _ B0.out.drew).mono ?_; rintro e w1 ⟨rfl, hb1⟩
    have HB1 := Lib.hid (below_to B0.out.drew hb1)
    clear hb1
    ((try dsimp only); refine hK.out _ _ (trivial) (fun hSw => ?_); (try clear hSw); clear hK K; (try simp only [Act.put, List.setIfInBounds_toArray, List.set_cons_zero, List.set_cons_succ]))
    repeat (first | (refine wpMix_skip (by rfl) (by rfl) ?_; (try simp only [Act.put, List.setIfInBounds_toArray, List.set_cons_zero, List.set_cons_succ])) | (refine wpMix_take (v := ?_) (by rfl) (by rfl) (fun wS hSt => ?_) ?_; rotate_left; (focus ((try dsimp only at hSt); (go_simp <;> with_reducible rfl); done)); (try simp only [Act.put, List.setIfInBounds_toArray, List.set_cons_zero, List.set_cons_succ])))
    refine wpMix_nil ?_
    go_wp2
    go_ret
    exact ⟨ret_bool (by simp [comeOk, Hok.out]), HB1.out⟩
set_option maxRecDepth 100000 in
set_option maxHeartbeats 1600000 in
theorem canCome_any (A1 A2 A3 : Option Addr) (n1 c1 n2 c2 n3 c3 : Nat) (room : List Int) (bs : List (List Tk)) (id : Int) (xs : List Int) (w : World) (h1 : RdI w w.heap.size A1 n1 room) (h2 : RdB w w.heap.size A2 n2 bs) (h3 : RdI w w.heap.size A3 n3 xs)
    (hc3 : n3 ≤ c3) (hz : bs.flatten.length ≤ 1048576) :
    Calls Tryz.prog 29 #[.slice A1 n1 c1, .slice A2 n2 c2, .agg #[.int .i64 id, .slice A3 n3 c3]] w fun e w' => e = .returned (.bool (comeOk room bs (id, xs))) ∧ Below w.heap.size w w' := by
  obtain ⟨i0, hi0, hz0, hz1, hz2⟩ := info_parts task_info
  have H1 := Lib.hid h1
  have H2 := Lib.hid h2
  have H3 := Lib.hid h3
  clear h1 h2 h3
  have B0 := Lib.hid (new_up w (.cells #[.int .i64 id, .slice A3 n3 c3] 33))
  have hk := Lib.hid (fun w' => box_keep w (.int .i64 id) (.slice A3 n3 c3) (w' := w'))
  have sz : (w.alloc (.cells #[.int .i64 id, .slice A3 n3 c3] 33)).heap.size = w.heap.size + 1 := World.size_alloc _ _
  have hv := binsValidI_any A1 A2 n1 c1 n2 c2 room bs
  have Hv := Lib.hid hv
  clear hv
  by_cases hok : binsOk room bs = true
  · have HL := Lib.hid (binsOk_len hok)
    have Hok := Lib.hid hok
    go_enter Tryz.func29, Tryz.ntmps29
    go_wp2_with fail
    generalize hW : w.alloc (.cells #[.int .i64 id, .slice A3 n3 c3] 33) = W at hk B0 sz ⊢
    have ecall := Lib.hid (show ∀ w', Below w.heap.size w w' → Calls Tryz.prog 24 #[.slice A1 n1 c1, .slice A2 n2 c2] w' fun e w'' => e = .returned (.bool true) ∧ Below w'.heap.size w' w'' from fun w' hb => by
      have := Hv.out w' (H1.out.up hb) (H2.out.up hb) (by omega); rwa [hok] at this)
    have HS := Lib.hid sz
    rw [← sz] at hk
    have K0 := hk.out W.drew (Below.refl _ _).drew
    clear hW sz hok
    refine wp_region_mix (.take 0 (.take 1 (.bar 2 (.take 3 (.take 4 (.take 5 (.take 7 (.fork 6 (.bar 8 (.bar 9 (.bar 10 (.take 11 (.take 12 .nil))))) 8 (.bar 6 (.bar 9 (.bar 10 (.take 11 (.take 12 .nil))))))))))))) (fun w' => w'.cell? ⟨w.heap.size, 0, none⟩ = some (.int .i64 id) ∧ w'.cell? ⟨w.heap.size, 1, none⟩ = some (.slice A3 n3 c3)) (by kernel_rfl) (by kernel_rfl) K0 (fun _ => ?_)
    clear K0
    repeat (first | (refine wpMix_skip (by rfl) (by rfl) ?_; (try simp only [Act.put, List.setIfInBounds_toArray, List.set_cons_zero, List.set_cons_succ])) | (refine wpMix_take (v := ?_) (by rfl) (by rfl) (fun wS hSt => ?_) ?_; rotate_left; (focus ((try dsimp only at hSt); (go_simp <;> with_reducible rfl); done)); (try simp only [Act.put, List.setIfInBounds_toArray, List.set_cons_zero, List.set_cons_succ])))
    (refine wpMix_bar (by rfl) (fun K hK => ?_); go_simp)
    refine (ecall.out _ B0.out.drew).mono ?_; rintro e w1 ⟨rfl, hb1⟩
    have HB1 := Lib.hid (below_to B0.out.drew hb1)
    have HQ1 := Lib.hid (show Below W.heap.size W w1 from below_to (Below.refl _ _).drew hb1)
    clear hb1
    ((try dsimp only); refine hK.out _ _ (hk.out w1 HQ1.out) (fun hSw => ?_); (try clear hSw); clear hK K; (try simp only [Act.put, List.setIfInBounds_toArray, List.set_cons_zero, List.set_cons_succ]))
    repeat (first | (refine wpMix_skip (by rfl) (by rfl) ?_; (try simp only [Act.put, List.setIfInBounds_toArray, List.set_cons_zero, List.set_cons_succ])) | (refine wpMix_take (v := ?_) (by rfl) (by rfl) (fun wS hSt => ?_) ?_; rotate_left; (focus ((try dsimp only at hSt); (go_simp <;> with_reducible rfl); done)); (try simp only [Act.put, List.setIfInBounds_toArray, List.set_cons_zero, List.set_cons_succ])))
    refine wpMix_fork (by rfl) (by rfl) (fun K hK => ?_) (fun K hK => ?_)
    go_simp
    refine (concat_any A2 n2 c2 bs w1 (H2.out.up HB1.out) (by omega)).mono ?_; rintro e w2 ⟨A4, m, c4, vs, rfl, hown, htk, hrd, hb2⟩
    have l12 := hb2.size
    have HQ2 := Lib.hid (below_to HQ1.out hb2)
    have lm : m ≤ 1048576 := by have := hrd.len; omega
    have Hown := Lib.hid (own_keep hown (w' := w2.alloc (.cells #[.int .i64 id, .slice A3 n3 c3] 33)) (fun b hb => Below.heap_alloc _ _ _ (hown.lt b hb).2))
    have Hx := Lib.hid (own_src (own_built (w := w2) (base := 0) 33 (.int .i64 id) (.slice A3 n3 c3) (by omega)))
    have HQ3 := Lib.hid (HQ2.out.alloc HQ2.out.size (.cells #[.int .i64 id, .slice A3 n3 c3] 33))
    have HB3 := Lib.hid (below_to HB1.out (hb2.alloc hb2.size (.cells #[.int .i64 id, .slice A3 n3 c3] 33)))
    have Htk := Lib.hid (show TkCells (w2.alloc (.cells #[.int .i64 id, .slice A3 n3 c3] 33)) w1.heap.size vs bs.flatten from htk.keep (fun p hp => (alloc_up w2 _).cell (by omega)) (Nat.le_refl _))
    have l13 : w1.heap.size ≤ (w2.alloc (.cells #[.int .i64 id, .slice A3 n3 c3] 33)).heap.size := by simp; omega
    have l14 : W.heap.size ≤ w1.heap.size := HQ1.out.size
    clear hown htk hrd
    ((try dsimp only); refine hK.out _ _ (hk.out w2 HQ2.out) (fun hSw => ?_); (try clear hSw); clear hK K; (try simp only [Act.put, List.setIfInBounds_toArray, List.set_cons_zero, List.set_cons_succ]))
    clear hb2
    (refine wpMix_bar (by rfl) (fun K hK => ?_); go_simp)
    ((try dsimp only); refine hK.out _ _ (hk.out _ HQ3.out) (fun hSw => ?_); (try clear hSw); clear hK K; (try simp only [Act.put, List.setIfInBounds_toArray, List.set_cons_zero, List.set_cons_succ]))
    generalize w2.alloc (.cells #[.int .i64 id, .slice A3 n3 c3] 33) = wz at Hown Hx HQ3 HB3 Htk l13 ⊢
    generalize w2.heap.size = gx at Hx ⊢
    generalize w1.heap.size = lo at Hown Htk l13 l14
    rotate_left
    go_simp
    have HQ2 := Lib.hid (HQ1.out.alloc HQ1.out.size (.cells #[.int .i64 id, .slice A3 n3 c3] 33))
    ((try dsimp only); refine hK.out _ _ (hk.out _ HQ2.out) (fun hSw => ?_); (try clear hSw); clear hK K; (try simp only [Act.put, List.setIfInBounds_toArray, List.set_cons_zero, List.set_cons_succ]))
    (refine wpMix_bar (by rfl) (fun K hK => ?_); go_simp)
    have HB2 := Lib.hid (below_to HB1.out (alloc_up w1 (.cells #[.int .i64 id, .slice A3 n3 c3] 33)))
    refine (concat_any A2 n2 c2 bs _ (H2.out.up HB2.out) (by omega)).mono ?_; rintro e w2 ⟨A4, m, c4, vs, rfl, hown, htk, hrd, hb2⟩
    have lm : m ≤ 1048576 := by have := hrd.len; omega
    have Hown := Lib.hid hown
    have Hx := Lib.hid (own_src (own_keep (own_built (w := w1) (base := 0) 33 (.int .i64 id) (.slice A3 n3 c3) (by omega)) (w' := w2) (fun b hb => hb2.block b (by simp [Value.ownBlock] at hb; subst hb; simp))))
    have HQ3 := Lib.hid (below_to HQ2.out hb2)
    have HB3 := Lib.hid (below_to HB2.out hb2)
    have Htk := Lib.hid htk
    have l13 := hb2.size
    have l14 : W.heap.size ≤ (w1.alloc (.cells #[.int .i64 id, .slice A3 n3 c3] 33)).heap.size := by have := HQ1.out.size; simp; omega
    clear hown htk hrd hb2
    ((try dsimp only); refine hK.out _ _ (hk.out _ HQ3.out) (fun hSw => ?_); (try clear hSw); clear hK K; (try simp only [Act.put, List.setIfInBounds_toArray, List.set_cons_zero, List.set_cons_succ]))
    generalize w2 = wz at Hown Hx HQ3 HB3 Htk l13 ⊢
    generalize (w1.alloc (.cells #[.int .i64 id, .slice A3 n3 c3] 33)).heap.size = lo at Hown Htk l13 l14
    generalize w1.heap.size = gx at Hx ⊢
    rotate_left
    all_goals
      refine wpMix_bar (by rfl) (fun K hK => ?_)
      rw [if_pos (by rfl)]
      refine wp_append_src _ _ _ 31 (by rfl) lo 33 i0 _ 2 32 Tryz.underlying31 hi0 hz0 hz1 hz2 rfl (by omega) (.slice A4 m c4) m vs (by rfl) Hown.out (some ⟨gx, 0, none⟩) 1 1 [.int .i64 id, .slice A3 n3 c3] (by rfl) Hx.out (by simp [Value.oneCell']) (by unfold maxLen; omega) (by omega) l13 ?_
      intro v6 w6 hown6 hgrow6 hrow6
      obtain ⟨A6, c6, rfl⟩ := own_shape hown6
      have HQ6 := Lib.hid (HQ3.out.grown hgrow6 HQ3.out.size (fun j e => by have := (Hown.out.lt j e).1; omega))
      have HB6 := Lib.hid (HB3.out.grown hgrow6 HB3.out.size (fun j e => by have := (Hown.out.lt j e).1; have := HS.out; omega))
      have L6 := (Below.refl lo wz).grown hgrow6 l13 (fun j e => (Hown.out.lt j e).1)
      have Htk6 := Lib.hid ((Htk.out.below L6).append (TkCells.single (id := id) ((H3.out.below HB6.out).more (show w.heap.size ≤ lo by have := HS.out; omega)) hc3))
      have Hr6 := Lib.hid (RdT.of_own hown6 Htk6.out (by have := L6.size; omega) (by omega))
      clear hown6 hgrow6 hrow6 L6
      ((try dsimp only); refine hK.out _ _ (hk.out _ HQ6.out) (fun hSw => ?_); (try clear hSw); clear hK K; (try simp only [Act.put, List.setIfInBounds_toArray, List.set_cons_zero, List.set_cons_succ]))
      repeat (first | (refine wpMix_skip (by rfl) (by rfl) ?_; (try simp only [Act.put, List.setIfInBounds_toArray, List.set_cons_zero, List.set_cons_succ])) | (refine wpMix_take (v := ?_) (by rfl) (by rfl) (fun wS hSt => ?_) ?_; rotate_left; (focus ((try dsimp only at hSt); (go_simp <;> with_reducible rfl); done)); (try simp only [Act.put, List.setIfInBounds_toArray, List.set_cons_zero, List.set_cons_succ])))
      (refine wpMix_bar (by rfl) (fun K hK => ?_); go_simp)
      refine (tasksValidI_any _ _ _ _ _ _ _ _ w6 (H1.out.up HB6.out) Hr6.out).mono ?_; rintro e w7 ⟨rfl, hb7⟩
      have HQ7 := Lib.hid (below_to HQ6.out hb7)
      have HB7 := Lib.hid (below_to HB6.out hb7)
      clear hb7
      ((try dsimp only); refine hK.out _ _ (hk.out _ HQ7.out) (fun hSw => ?_); (try clear hSw); clear hK K; (try simp only [Act.put, List.setIfInBounds_toArray, List.set_cons_zero, List.set_cons_succ]))
      repeat (first | (refine wpMix_skip (by rfl) (by rfl) ?_; (try simp only [Act.put, List.setIfInBounds_toArray, List.set_cons_zero, List.set_cons_succ])) | (refine wpMix_take (v := ?_) (by rfl) (by rfl) (fun wS hSt => ?_) ?_; rotate_left; (focus ((try dsimp only at hSt); (go_simp <;> with_reducible rfl); done)); (try simp only [Act.put, List.setIfInBounds_toArray, List.set_cons_zero, List.set_cons_succ])))
      refine wpMix_nil ?_
      go_wp2
      go_ret
      exact ⟨ret_bool (by simp [comeOk, Hok.out]), HB7.out⟩
  · have hok : binsOk room bs = false := by simpa using hok
    go_enter Tryz.func29, Tryz.ntmps29
    go_wp2_with fail
    generalize hW : w.alloc (.cells #[.int .i64 id, .slice A3 n3 c3] 33) = W at hk B0 sz ⊢
    have ecall := Lib.hid (show ∀ w', Below w.heap.size w w' → Calls Tryz.prog 24 #[.slice A1 n1 c1, .slice A2 n2 c2] w' fun e w'' => e = .returned (.bool false) ∧ Below w'.heap.size w' w'' from fun w' hb => by
      have := Hv.out w' (H1.out.up hb) (H2.out.up hb) (by omega); rwa [hok] at this)
    have HS := Lib.hid sz
    have Hok := Lib.hid hok
    clear hW sz hok
    refine wp_region_mix (.take 0 (.take 1 (.bar 2 (.take 3 (.take 4 (.take 5 (.take 6 (.take 7 (.take 8 (.take 9 (.take 10 (.take 11 (.take 12 .nil))))))))))))) (fun _ => True) (by kernel_rfl) (by kernel_rfl) trivial (fun _ => ?_)
    repeat (first | (refine wpMix_skip (by rfl) (by rfl) ?_; (try simp only [Act.put, List.setIfInBounds_toArray, List.set_cons_zero, List.set_cons_succ])) | (refine wpMix_take (v := ?_) (by rfl) (by rfl) (fun wS hSt => ?_) ?_; rotate_left; (focus ((try dsimp only at hSt); (go_simp <;> with_reducible rfl); done)); (try simp only [Act.put, List.setIfInBounds_toArray, List.set_cons_zero, List.set_cons_succ])))
    (refine wpMix_bar (by rfl) (fun K hK => ?_); go_simp)
    refine (ecall.out _ B0.out.drew).mono ?_; rintro e w1 ⟨rfl, hb1⟩
    have HB1 := Lib.hid (below_to B0.out.drew hb1)
    clear hb1
    ((try dsimp only); refine hK.out _ _ (trivial) (fun hSw => ?_); (try clear hSw); clear hK K; (try simp only [Act.put, List.setIfInBounds_toArray, List.set_cons_zero, List.set_cons_succ]))
    repeat (first | (refine wpMix_skip (by rfl) (by rfl) ?_; (try simp only [Act.put, List.setIfInBounds_toArray, List.set_cons_zero, List.set_cons_succ])) | (refine wpMix_take (v := ?_) (by rfl) (by rfl) (fun wS hSt => ?_) ?_; rotate_left; (focus ((try dsimp only at hSt); (go_simp <;> with_reducible rfl); done)); (try simp only [Act.put, List.setIfInBounds_toArray, List.set_cons_zero, List.set_cons_succ])))
    refine wpMix_nil ?_
    go_wp2
    go_ret
    exact ⟨ret_bool (by simp [comeOk, Hok.out]), HB1.out⟩


theorem RdB.one {w : World} {g m c : Nat} {t : TypeId} {A : Option Addr} {ts : List Tk} (h : Blk w g t #[.slice A m c]) (hc : m ≤ c) (hr : RdT w w.heap.size A m ts) : RdB w w.heap.size (some ⟨g, 0, none⟩) 1 [ts] :=
  ⟨rfl, by omega, fun _ => ⟨g, 0, rfl, h.lt, fun j hj => by
    obtain rfl : j = 0 := by omega
    exact ⟨A, m, c, h.cell 0, hc, hr⟩⟩⟩

end Go.Proofs.YtkcflajhmekcaaaGreat
