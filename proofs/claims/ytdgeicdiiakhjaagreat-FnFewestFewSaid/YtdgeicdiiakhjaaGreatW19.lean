/- Several texts in one. -/
import Derived.Test.YtdgeicdiiakhjaaGreatW18
import Derived.Test.YtdgeicdiiakhjaaGreatW6
import Derived.Test.YtdgeicdiiakhjaaGreatW1
namespace Go.Proofs.YtdgeicdiiakhjaaGreat
set_option linter.unusedSimpArgs false
set_option linter.unusedVariables false
open Go Go.RowKit
attribute [local go_sem ↓] Go.wp_at_zero Go.wp_at_succ

set_option maxRecDepth 100000 in
set_option maxHeartbeats 3200000 in
theorem l11Put_any (A A3 : Option Addr) (n c m3 c3 k : Nat) (bs : List (List Tk)) (id : Int) (xs : List Int) (w : World) (h : RdB w w.heap.size A n bs) (hn : n ≤ 1000) (hb : ∀ j, j < n → (bs[j]?.getD []).length ≤ 1048576 ∧ ∀ a, a < (bs[j]?.getD []).length → ((bs[j]?.getD [])[a]?.getD (0, [])).2.length ≤ 1048576)
    (hk : k < n) (hx : RdI w w.heap.size A3 m3 xs) (hm : m3 ≤ 1000) :
    Calls Tryz.prog 48 #[.slice A n c, .int .i64 (k : Int), .agg #[.int .i64 id, .slice A3 m3 c3]] w fun e w' => ∃ A' c', e = .returned (.slice A' n c') ∧ OwnBR w' w.heap.size (.slice A' n c') n (putAt bs k (id, xs)) ∧ Below w.heap.size w w' := by
  obtain ⟨i0, hi0, hz0, hz1, hz2⟩ := info_parts ownI_info
  obtain ⟨t0, ht0, htz0, htz1, htz2⟩ := info_parts task_info
  have B1 := qh (alloc_up w (.cells #[.int .i64 id, .slice A3 m3 c3] 43))
  have P1 := qh (Blk.new w 43 #[.int .i64 id, .slice A3 m3 c3])
  have R1 := qh (h.up B1.out)
  have X1 := qh (hx.up B1.out)
  have Hb := qh hb
  have s1 : (w.alloc (.cells #[.int .i64 id, .slice A3 m3 c3] 43)).heap.size = w.heap.size + 1 := World.size_alloc _ _
  clear h hx hb
  have k1 : (0 : Int) ≤ (k : Int) := by omega
  have k2 : (k : Int) < (n : Int) := by omega
  go_enter Tryz.func48, Tryz.ntmps48
  go_wp2_with fail
  generalize w.alloc (.cells #[.int .i64 id, .slice A3 m3 c3] 43) = w1 at B1 P1 R1 X1 s1 ⊢
  refine (l2Bins_any A n c bs w1 R1.out hn Hb.out).mono ?_; rintro e w2 ⟨A2, c2, rfl, ⟨vs, ho2, hn2⟩, hb2⟩
  have B2 := qh (B1.out.trans (hb2.mono B1.out.size))
  have P2 := qh (P1.out.below hb2 P1.out.lt)
  have X2 := qh (X1.out.up hb2)
  have l2 := hb2.size
  have O0 := qh (World.ownsRow.drew ho2)
  have N0 := qh (hn2.keepTI (KeepTI.drew w2))
  have B0 := qh B2.out.drew
  have P0 := qh P2.out.drew
  have HX0 := qh (show RdI w2.drew w2.drew.heap.size A3 m3 xs from X2.out)
  clear ho2 hn2 hb2 R1 X1 B1 P1 B2 P2 X2
  go_wp2_with fail
  have l0 : w1.heap.size ≤ w2.drew.heap.size := l2
  have K0 : w2.drew.cell? ⟨w.heap.size, 0, none⟩ = some (.int .i64 id) ∧ w2.drew.cell? ⟨w.heap.size, 1, none⟩ = some (.slice A3 m3 c3) := ⟨P0.out.cell 0, P0.out.cell 1⟩
  refine wp_region_mix (.take 0 (.take 1 (.take 3 (.take 4 (.fork 2 (.fork 5 (.take 6 (.bar 7 (.bar 8 .nil))) 7 (.bar 5 (.take 6 (.bar 8 .nil)))) 7 (.bar 2 (.bar 5 (.take 6 (.bar 8 .nil))))))))) (fun w' => w'.cell? ⟨w.heap.size, 0, none⟩ = some (.int .i64 id) ∧ w'.cell? ⟨w.heap.size, 1, none⟩ = some (.slice A3 m3 c3)) (by kernel_rfl) (by kernel_rfl) K0 (fun _ => ?_)
  repeat ((first | refine wpMix_skip (by rfl) (by rfl) ?_ | (refine wpMix_take (v := ?_) (by rfl) (by rfl) (fun wS hSt => ?_) ?_; rotate_left; (focus ((try dsimp only at hSt); (go_simp <;> with_reducible rfl); done)))); (try simp only [Act.put, pS, pZ, pC]))
  generalize w2.drew = u0 at K0 O0 N0 B0 P0 HX0 l0 ⊢
  have lP := P0.out.lt
  have hS := qh (fun w' (hb : Below u0.heap.size u0 w') => (⟨(hb.cell (p := ⟨w.heap.size, 0, none⟩) lP).trans K0.1, (hb.cell (p := ⟨w.heap.size, 1, none⟩) lP).trans K0.2⟩ : w'.cell? ⟨w.heap.size, 0, none⟩ = some (.int .i64 id) ∧ w'.cell? ⟨w.heap.size, 1, none⟩ = some (.slice A3 m3 c3)))
  have HB0 := qh (Below.refl u0.heap.size u0)
  refine wpMix_fork (by rfl) (by rfl) (fun K hK => ?_) (fun K hK => ?_)
  go_simp
  have HB1 := qh (HB0.out.alloc HB0.out.size (.cells #[] 3))
  have HE := qh (show (u0.alloc (.cells #[] 3)).ownsRow u0.heap.size 3 1 (.slice (some ⟨u0.heap.size, 0, none⟩) 0 0) 0 [] from World.ownsRow_lit (base := u0.heap.size) (e := 3) (size := 1) u0 #[] 0 HB0.out.size (by unfold maxLen; omega) rfl)
  ((try dsimp only); refine nxK hK _ _ (hS.out _ HB1.out) ?_; clear hK K; (try simp only [Act.put, pS, pZ, pC]))
  generalize u0.alloc (.cells #[] 3) = u1 at HB1 HE ⊢
  refine wpMix_fork (by rfl) (by rfl) (fun K hK => ?_) (fun K hK => ?_)
  rw [if_pos (by rfl)]
  have S1 := qh (srcOfI (HX0.out.below HB1.out))
  refine wp_append_src _ _ _ 23 (by rfl) u0.heap.size 3 i0 _ 1 8 Tryz.underlying23 hi0 hz0 hz1 hz2 rfl (by omega) (.slice (some ⟨u0.heap.size, 0, none⟩) 0 0) 0 [] (by rfl) HE.out A3 m3 c3 _ (by rfl) S1.out (ints_cell1 xs) (by unfold maxLen; omega) (by omega) HB1.out.size ?_
  intro v6 u2 hown6 hgrow6 hrow6
  rw [Nat.zero_add, List.nil_append] at hown6
  obtain ⟨A6, c6, rfl⟩ := own_shape hown6
  have HB2 := qh (HB1.out.grown hgrow6 HB1.out.size (fun j e => (HE.out.lt j e).1))
  have HI := qh hown6
  clear hown6 hgrow6 hrow6 S1 HE
  ((try dsimp only); refine nxK hK _ _ (hS.out _ HB2.out) ?_; clear hK K; (try simp only [Act.put, pS, pZ, pC]))
  repeat ((first | refine wpMix_skip (by rfl) (by rfl) ?_ | (refine wpMix_take (v := ?_) (by rfl) (by rfl) (fun wS hSt => ?_) ?_; rotate_left; (focus ((try dsimp only at hSt); (go_simp <;> with_reducible rfl); done)))); (try simp only [Act.put, pS, pZ, pC]))
  (refine wpMix_bar (by rfl) (fun K hK => ?_); go_simp)
  have HB3 := qh (HB2.out.alloc HB2.out.size (.cells #[.int .i64 0, .slice none 0 0] 43))
  have HY := qh (Blk.new u2 43 #[.int .i64 0, .slice none 0 0])
  have ly0 := HB2.out.size
  replace HI := qh (own_alloc HI.out (.cells #[.int .i64 0, .slice none 0 0] 43))
  ((try dsimp only); refine nxK hK _ _ (hS.out _ HB3.out) ?_; clear hK K; (try simp only [Act.put, pS, pZ, pC]))
  generalize hgy : u2.heap.size = gy at HY ⊢
  have ly : u0.heap.size ≤ gy := by rw [← hgy]; exact ly0
  clear hgy ly0
  generalize u2.alloc (.cells #[.int .i64 0, .slice none 0 0] 43) = u3 at HB3 HY HI ⊢
  have x0 := HY.out.cell 0
  have x1 := HY.out.cell 1
  simp only [gT, gZ, gS] at x0 x1
  have x2 := HY.out.frozen 0
  have x3 := HY.out.frozen 1
  (refine wpMix_bar (by rfl) (fun K hK => ?_); go_simp)
  have HYz := qh ((HY.out.set_ 0 (.int .i64 id)).set_ 1 (.slice A6 m3 c6))
  have HBz := qh ((HB3.out.setCell (p := ⟨gy, 0, none⟩) (by show u0.heap.size ≤ gy; omega) (.int .i64 id)).setCell (p := ⟨gy, 1, none⟩) (by show u0.heap.size ≤ gy; omega) (.slice A6 m3 c6))
  have HIz := qh (own_keep HI.out (w' := (u3.setCell ⟨gy, 0, none⟩ (.int .i64 id)).setCell ⟨gy, 1, none⟩ (.slice A6 m3 c6)) (fun b hb => (Below.heap_setCell _ _ _ b (fun e => own_blk_ne HI.out HY.out (by decide) (by rw [hb, e]))).trans (Below.heap_setCell _ _ _ b (fun e => own_blk_ne HI.out HY.out (by decide) (by rw [hb, e])))))
  clear x0 x1 x2 x3 HY HI HB0 HB1 HB2 HB3
  ((try dsimp only); refine nxK hK _ _ (hS.out _ HBz.out) ?_; clear hK K; (try simp only [Act.put, pS, pZ, pC]))
  generalize (u3.setCell ⟨gy, 0, none⟩ (.int .i64 id)).setCell ⟨gy, 1, none⟩ (.slice A6 m3 c6) = wz at HYz HBz HIz ⊢
  refine wpMix_nil ?_
  rotate_left
  go_simp
  have HB2 := qh (HB1.out.alloc HB1.out.size (.cells #[.int .i64 0, .slice none 0 0] 43))
  have HY := qh (Blk.new u1 43 #[.int .i64 0, .slice none 0 0])
  have ly0 := HB1.out.size
  replace HE := qh (own_alloc HE.out (.cells #[.int .i64 0, .slice none 0 0] 43))
  ((try dsimp only); refine nxK hK _ _ (hS.out _ HB2.out) ?_; clear hK K; (try simp only [Act.put, pS, pZ, pC]))
  generalize hgy : u1.heap.size = gy at HY ⊢
  have ly : u0.heap.size ≤ gy := by rw [← hgy]; exact ly0
  clear hgy ly0
  generalize u1.alloc (.cells #[.int .i64 0, .slice none 0 0] 43) = u2 at HB2 HY HE ⊢
  refine wpMix_bar (by rfl) (fun K hK => ?_)
  rw [if_pos (by rfl)]
  have S1 := qh (srcOfI (HX0.out.below HB2.out))
  refine wp_append_src _ _ _ 23 (by rfl) u0.heap.size 3 i0 _ 1 8 Tryz.underlying23 hi0 hz0 hz1 hz2 rfl (by omega) (.slice (some ⟨u0.heap.size, 0, none⟩) 0 0) 0 [] (by rfl) HE.out A3 m3 c3 _ (by rfl) S1.out (ints_cell1 xs) (by unfold maxLen; omega) (by omega) HB2.out.size ?_
  intro v6 u3 hown6 hgrow6 hrow6
  rw [Nat.zero_add, List.nil_append] at hown6
  obtain ⟨A6, c6, rfl⟩ := own_shape hown6
  have HB3 := qh (HB2.out.grown hgrow6 HB2.out.size (fun j e => (HE.out.lt j e).1))
  replace HY := qh (HY.out.grown hgrow6 (fun e => own_blk_ne HE.out HY.out (by decide) e.symm))
  have HI := qh hown6
  clear hown6 hgrow6 hrow6 S1 HE
  ((try dsimp only); refine nxK hK _ _ (hS.out _ HB3.out) ?_; clear hK K; (try simp only [Act.put, pS, pZ, pC]))
  repeat ((first | refine wpMix_skip (by rfl) (by rfl) ?_ | (refine wpMix_take (v := ?_) (by rfl) (by rfl) (fun wS hSt => ?_) ?_; rotate_left; (focus ((try dsimp only at hSt); (go_simp <;> with_reducible rfl); done)))); (try simp only [Act.put, pS, pZ, pC]))
  have x0 := HY.out.cell 0
  have x1 := HY.out.cell 1
  simp only [gT, gZ, gS] at x0 x1
  have x2 := HY.out.frozen 0
  have x3 := HY.out.frozen 1
  (refine wpMix_bar (by rfl) (fun K hK => ?_); go_simp)
  have HYz := qh ((HY.out.set_ 0 (.int .i64 id)).set_ 1 (.slice A6 m3 c6))
  have HBz := qh ((HB3.out.setCell (p := ⟨gy, 0, none⟩) (by show u0.heap.size ≤ gy; omega) (.int .i64 id)).setCell (p := ⟨gy, 1, none⟩) (by show u0.heap.size ≤ gy; omega) (.slice A6 m3 c6))
  have HIz := qh (own_keep HI.out (w' := (u3.setCell ⟨gy, 0, none⟩ (.int .i64 id)).setCell ⟨gy, 1, none⟩ (.slice A6 m3 c6)) (fun b hb => (Below.heap_setCell _ _ _ b (fun e => own_blk_ne HI.out HY.out (by decide) (by rw [hb, e]))).trans (Below.heap_setCell _ _ _ b (fun e => own_blk_ne HI.out HY.out (by decide) (by rw [hb, e])))))
  clear x0 x1 x2 x3 HY HI HB0 HB1 HB2 HB3
  ((try dsimp only); refine nxK hK _ _ (hS.out _ HBz.out) ?_; clear hK K; (try simp only [Act.put, pS, pZ, pC]))
  generalize (u3.setCell ⟨gy, 0, none⟩ (.int .i64 id)).setCell ⟨gy, 1, none⟩ (.slice A6 m3 c6) = wz at HYz HBz HIz ⊢
  refine wpMix_nil ?_
  rotate_left
  go_simp
  have HB1 := qh (HB0.out.alloc HB0.out.size (.cells #[.int .i64 0, .slice none 0 0] 43))
  have HY := qh (Blk.new u0 43 #[.int .i64 0, .slice none 0 0])
  have ly0 := HB0.out.size
  ((try dsimp only); refine nxK hK _ _ (hS.out _ HB1.out) ?_; clear hK K; (try simp only [Act.put, pS, pZ, pC]))
  generalize hgy : u0.heap.size = gy at HY ⊢
  have ly : u0.heap.size ≤ gy := by rw [← hgy]; exact ly0
  clear hgy ly0
  generalize u0.alloc (.cells #[.int .i64 0, .slice none 0 0] 43) = u1 at HB1 HY ⊢
  (refine wpMix_bar (by rfl) (fun K hK => ?_); go_simp)
  have HB2 := qh (HB1.out.alloc HB1.out.size (.cells #[] 3))
  have HE := qh (show (u1.alloc (.cells #[] 3)).ownsRow u0.heap.size 3 1 (.slice (some ⟨u1.heap.size, 0, none⟩) 0 0) 0 [] from World.ownsRow_lit (base := u0.heap.size) (e := 3) (size := 1) u1 #[] 0 HB1.out.size (by unfold maxLen; omega) rfl)
  replace HY := qh (HY.out.alloc (.cells #[] 3))
  ((try dsimp only); refine nxK hK _ _ (hS.out _ HB2.out) ?_; clear hK K; (try simp only [Act.put, pS, pZ, pC]))
  generalize u1.heap.size = ge at HE ⊢
  generalize u1.alloc (.cells #[] 3) = u2 at HB2 HE HY ⊢
  refine wpMix_bar (by rfl) (fun K hK => ?_)
  rw [if_pos (by rfl)]
  have S1 := qh (srcOfI (HX0.out.below HB2.out))
  refine wp_append_src _ _ _ 23 (by rfl) u0.heap.size 3 i0 _ 1 8 Tryz.underlying23 hi0 hz0 hz1 hz2 rfl (by omega) (.slice (some ⟨ge, 0, none⟩) 0 0) 0 [] (by rfl) HE.out A3 m3 c3 _ (by rfl) S1.out (ints_cell1 xs) (by unfold maxLen; omega) (by omega) HB2.out.size ?_
  intro v6 u3 hown6 hgrow6 hrow6
  rw [Nat.zero_add, List.nil_append] at hown6
  obtain ⟨A6, c6, rfl⟩ := own_shape hown6
  have HB3 := qh (HB2.out.grown hgrow6 HB2.out.size (fun j e => (HE.out.lt j e).1))
  replace HY := qh (HY.out.grown hgrow6 (fun e => own_blk_ne HE.out HY.out (by decide) e.symm))
  have HI := qh hown6
  clear hown6 hgrow6 hrow6 S1 HE
  ((try dsimp only); refine nxK hK _ _ (hS.out _ HB3.out) ?_; clear hK K; (try simp only [Act.put, pS, pZ, pC]))
  repeat ((first | refine wpMix_skip (by rfl) (by rfl) ?_ | (refine wpMix_take (v := ?_) (by rfl) (by rfl) (fun wS hSt => ?_) ?_; rotate_left; (focus ((try dsimp only at hSt); (go_simp <;> with_reducible rfl); done)))); (try simp only [Act.put, pS, pZ, pC]))
  have x0 := HY.out.cell 0
  have x1 := HY.out.cell 1
  simp only [gT, gZ, gS] at x0 x1
  have x2 := HY.out.frozen 0
  have x3 := HY.out.frozen 1
  (refine wpMix_bar (by rfl) (fun K hK => ?_); go_simp)
  have HYz := qh ((HY.out.set_ 0 (.int .i64 id)).set_ 1 (.slice A6 m3 c6))
  have HBz := qh ((HB3.out.setCell (p := ⟨gy, 0, none⟩) (by show u0.heap.size ≤ gy; omega) (.int .i64 id)).setCell (p := ⟨gy, 1, none⟩) (by show u0.heap.size ≤ gy; omega) (.slice A6 m3 c6))
  have HIz := qh (own_keep HI.out (w' := (u3.setCell ⟨gy, 0, none⟩ (.int .i64 id)).setCell ⟨gy, 1, none⟩ (.slice A6 m3 c6)) (fun b hb => (Below.heap_setCell _ _ _ b (fun e => own_blk_ne HI.out HY.out (by decide) (by rw [hb, e]))).trans (Below.heap_setCell _ _ _ b (fun e => own_blk_ne HI.out HY.out (by decide) (by rw [hb, e])))))
  clear x0 x1 x2 x3 HY HI HB0 HB1 HB2 HB3
  ((try dsimp only); refine nxK hK _ _ (hS.out _ HBz.out) ?_; clear hK K; (try simp only [Act.put, pS, pZ, pC]))
  generalize (u3.setCell ⟨gy, 0, none⟩ (.int .i64 id)).setCell ⟨gy, 1, none⟩ (.slice A6 m3 c6) = wz at HYz HBz HIz ⊢
  refine wpMix_nil ?_
  rotate_left
  all_goals
    clear hS K0 lP HX0
    have Hold := qh (N0.out.old k)
    have q1 : ((k : Int) < 0) = False := by simp
    have O1 := qh (own_up' O0.out HBz.out)
    have N1 := qh (N0.out.keepTI (KeepTI.up HBz.out))
    have Bz := qh (B0.out.trans (HBz.out.mono (by have := B0.out.size; omega)))
    have lz := HBz.out.size
    have li := HIz.out.lt
    clear O0 N0 B0 P0 HBz
    obtain ⟨At, mt, ct, vt, e3, e4, e5⟩ := N1.out.2.2.1 k hk
    have hlt : mt ≤ 1048576 := by have := (Hb.out k hk).1; have := e5.1; omega
    obtain ⟨gb, cap, hv, hgb1, hgb2⟩ := O1.out.form (by omega)
    injection hv with hv1 hv2 hv3
    subst hv1 hv3
    have u1 := O1.out.cells (g := gb) rfl k _ e3
    rw [addr_add, Nat.zero_add] at u1
    obtain ⟨_, curU, eU, _, hbU⟩ := own_row O1.out (by omega)
    injection eU with eU
    injection eU with eU
    subst eU
    have E3 := qh e3
    have hdist := qh (show (Value.slice At mt ct).ownBlock ≠ some gy from fun e => by have := Hold.out _ e3 gy e; omega)
    have O8 := qh (World.ownsRow.drew O1.out)
    have N8 := qh (N1.out.keepTI (KeepTI.drew wz))
    have R8 := qh (World.ownsRow.drew e4)
    have V8 := qh (e5.keepTI (KeepTI.drew wz))
    have I8 := qh (World.ownsRow.drew HIz.out)
    have Y8 := qh HYz.out.drew
    have B8 := qh Bz.out.drew
    have U8 := qh (show Blk wz.drew gb _ _ from hbU)
    have K1 : wz.drew.cell? ⟨gb, k, none⟩ = some (.slice At mt ct) ∧ wz.drew.cell? ⟨gy, 0, none⟩ = some (.int .i64 id) ∧ wz.drew.cell? ⟨gy, 1, none⟩ = some (.slice A6 m3 c6) := ⟨u1, Y8.out.cell 0, Y8.out.cell 1⟩
    have l8 : w1.heap.size ≤ wz.drew.heap.size := by show w1.heap.size ≤ wz.heap.size; omega
    have lg8 : gb < wz.drew.heap.size := hgb2
    have ly8 : gy < wz.drew.heap.size := Y8.out.lt
    clear e3 e4 e5 u1 hbU O1 N1 HIz HYz Bz
    go_wp2_with fail
    refine wp_region_mixL (.take 0 (.take 1 (.take 2 (.take 3 (.take 4 (.take 6 (.take 5 (.bar 7 (.bar 8 (.take 9 (.last 10 .nil))))))))))) [10] (fun w' => w'.cell? ⟨gb, k, none⟩ = some (.slice At mt ct) ∧ w'.cell? ⟨gy, 0, none⟩ = some (.int .i64 id) ∧ w'.cell? ⟨gy, 1, none⟩ = some (.slice A6 m3 c6)) (by kernel_rfl) (by kernel_rfl) K1 (fun _ => ?_)
    repeat ((first | refine wpMixL_skip (by rfl) (by rfl) ?_ | (refine wpMixL_take (v := ?_) (by rfl) (by rfl) (fun wS hSt => ?_) ?_; rotate_left; (focus ((try dsimp only at hSt); (go_simp <;> with_reducible rfl); done)))); (try simp only [Act.put, pS, pZ, pC]))
    generalize wz.drew = z0 at K1 O8 N8 R8 V8 I8 Y8 B8 U8 l8 lg8 ly8 ⊢
    have hS := qh (fun (w' : World) (hb : ∀ b, b = gb ∨ b = gy → w'.heap[b]? = z0.heap[b]?) => (⟨(World.cell?_of_block (a := ⟨gb, k, none⟩) (hb gb (.inl rfl))).trans K1.1, (World.cell?_of_block (a := ⟨gy, 0, none⟩) (hb gy (.inr rfl))).trans K1.2.1, (World.cell?_of_block (a := ⟨gy, 1, none⟩) (hb gy (.inr rfl))).trans K1.2.2⟩ : w'.cell? ⟨gb, k, none⟩ = some (.slice At mt ct) ∧ w'.cell? ⟨gy, 0, none⟩ = some (.int .i64 id) ∧ w'.cell? ⟨gy, 1, none⟩ = some (.slice A6 m3 c6)))
    clear K1
    (refine wpMixL_bar (by rfl) (fun K hK => ?_); go_simp)
    have D2 := qh (alloc_up z0 (.cells #[.int .i64 id, .slice A6 m3 c6] 43))
    have X2 := qh (lit2 z0 43 (.int .i64 id) (.slice A6 m3 c6))
    have O2 := qh (own_up' O8.out D2.out)
    have N2 := qh (N8.out.keepTI (KeepTI.up D2.out))
    have R2 := qh (own_up' R8.out D2.out)
    have V2 := qh (V8.out.keepTI (KeepTI.up D2.out))
    have I2 := qh (own_up' I8.out D2.out)
    have U2 := qh (U8.out.below D2.out lg8)
    have Y2 := qh (Y8.out.below D2.out ly8)
    have B2 := qh (B8.out.trans (D2.out.mono (by have := B8.out.size; omega)))
    have hS2 := qh (fun b (hb : b = gb ∨ b = gy) => D2.out.block b (by rcases hb with rfl | rfl <;> omega))
    have l2' : w1.heap.size ≤ (z0.alloc (.cells #[.int .i64 id, .slice A6 m3 c6] 43)).heap.size := by have := D2.out.size; omega
    ((try dsimp only); refine nxK hK _ _ (hS.out _ hS2.out) ?_; clear hK K; (try simp only [Act.put, pS, pZ, pC]))
    clear D2 O8 N8 R8 V8 I8 U8 Y8 B8
    generalize z0.heap.size = gx at X2 ⊢
    generalize z0.alloc (.cells #[.int .i64 id, .slice A6 m3 c6] 43) = z1 at X2 O2 N2 R2 V2 I2 U2 Y2 B2 hS2 l2' ⊢
    refine wpMixL_bar (by rfl) (fun K hK => ?_)
    rw [if_pos (by rfl)]
    refine wp_append_src _ _ _ 24 (by rfl) w1.heap.size 43 t0 _ 2 32 Tryz.underlying24 ht0 htz0 htz1 htz2 rfl (by omega) (.slice At mt ct) mt vt (by rfl) R2.out (some ⟨gx, 0, none⟩) 1 1 [.int .i64 id, .slice A6 m3 c6] (by rfl) X2.out (one2 _ _ rfl rfl) (by unfold maxLen; omega) (by omega) l2' ?_
    intro v6 z2 hown6 hgrow6 hrow6
    obtain ⟨A7, c7, rfl⟩ := own_shape hown6
    have I3 := qh (own_keep I2.out (w' := z2) (fun b hb => hgrow6.block b (I2.out.lt b hb).2 (fun e => own_types R2.out I2.out (by decide) e.symm hb)))
    have O3 := qh (own_keep O2.out (w' := z2) (fun b hb => hgrow6.block b (O2.out.lt b hb).2 (fun e => own_types R2.out O2.out (by decide) e.symm hb)))
    have U3 := qh (U2.out.grown hgrow6 (fun e => own_blk_ne R2.out U2.out (by decide) e.symm))
    have B3 := qh (B2.out.grown hgrow6 (by have := B2.out.size; omega) (fun j e => by have := (R2.out.lt j e).1; omega))
    have V3 := qh (((V2.out.grown R2.out (by decide) hgrow6).low (base' := w1.heap.size) (Nat.le_refl _)).snoc (id := id) (own_lo I3.out (by have := B2.out.size; omega)))
    have N3 := qh (N2.out.grow hk E3.out R2.out hgrow6 hown6 V3.out hrow6)
    have hS3 := qh (show ∀ b, b = gb ∨ b = gy → z2.heap[b]? = z0.heap[b]? from fun b hb => (hgrow6.block b (hb.elim (fun e => e ▸ U2.out.lt) (fun e => e ▸ Y2.out.lt)) (fun e => by
      rcases hb with rfl | rfl
      · exact own_blk_ne R2.out U2.out (by decide) e.symm
      · exact (hdist.out) e.symm)).trans (hS2.out b hb))
    ((try dsimp only); refine nxK hK _ _ (hS.out _ hS3.out) ?_; clear hK K; (try simp only [Act.put, pS, pZ, pC]))
    repeat ((first | refine wpMixL_skip (by rfl) (by rfl) ?_ | (refine wpMixL_take (v := ?_) (by rfl) (by rfl) (fun wS hSt => ?_) ?_; rotate_left; (focus ((try dsimp only at hSt); (go_simp <;> with_reducible rfl); done)))); (try simp only [Act.put, pS, pZ, pC]))
    have s0 : z2.cell? ⟨gb, k, none⟩ = some (.slice At mt ct) := (hS.out _ hS3.out).1
    have f0 := U3.out.frozen k
    (refine wpMixL_last (by rfl) (fun K hK => ?_); go_simp)
    ((try dsimp only); refine hK.out _ _ ?_; clear hK K; (try simp only [Act.put, pS, pZ, pC]))
    refine wpMixL_nil ?_
    have OF := qh (own_set O3.out k (.slice A7 (mt + 1) c7))
    have NF := qh (N3.out.keepTI (KeepTI.set_ U3.out (by decide) (by decide) k (.slice A7 (mt + 1) c7)))
    have BF := qh (B3.out.setCell (p := ⟨gb, k, none⟩) (by show w.heap.size ≤ gb; omega) (.slice A7 (mt + 1) c7))
    clear s0 f0
    go_wp2_with fail
    go_ret
    exact ⟨_, _, rfl, ⟨_, own_lo OF.out (by omega), NF.out.low (by omega)⟩, BF.out⟩
end Go.Proofs.YtdgeicdiiakhjaaGreat

namespace Go.Proofs.YtdgeicdiiakhjaaGreat
set_option linter.unusedSimpArgs false
set_option linter.unusedVariables false
open Go Go.RowKit
attribute [local go_sem ↓] Go.wp_at_zero Go.wp_at_succ

set_option maxRecDepth 100000 in
set_option maxHeartbeats 3200000 in
theorem l11PutN_any (A A3 : Option Addr) (n c m3 c3 : Nat) (bs : List (List Tk)) (id : Int) (xs : List Int) (w : World) (h : RdB w w.heap.size A n bs) (hn : n ≤ 1000) (hb : ∀ j, j < n → (bs[j]?.getD []).length ≤ 1048576 ∧ ∀ a, a < (bs[j]?.getD []).length → ((bs[j]?.getD [])[a]?.getD (0, [])).2.length ≤ 1048576)
    (hx : RdI w w.heap.size A3 m3 xs) (hm : m3 ≤ 1000) :
    Calls Tryz.prog 48 #[.slice A n c, .int .i64 (-1), .agg #[.int .i64 id, .slice A3 m3 c3]] w fun e w' => ∃ A' c', e = .returned (.slice A' (n + 1) c') ∧ OwnBR w' w.heap.size (.slice A' (n + 1) c') (n + 1) (bs ++ [[(id, xs)]]) ∧ Below w.heap.size w w' := by
  obtain ⟨i0, hi0, hz0, hz1, hz2⟩ := info_parts ownI_info
  obtain ⟨t0, ht0, htz0, htz1, htz2⟩ := info_parts task_info
  have B1 := qh (alloc_up w (.cells #[.int .i64 id, .slice A3 m3 c3] 43))
  have P1 := qh (Blk.new w 43 #[.int .i64 id, .slice A3 m3 c3])
  have R1 := qh (h.up B1.out)
  have X1 := qh (hx.up B1.out)
  have Hb := qh hb
  have s1 : (w.alloc (.cells #[.int .i64 id, .slice A3 m3 c3] 43)).heap.size = w.heap.size + 1 := World.size_alloc _ _
  clear h hx hb
  obtain ⟨ib, hib, hbz0, hbz1, hbz2⟩ := info_parts row_info
  go_enter Tryz.func48, Tryz.ntmps48
  go_wp2_with fail
  generalize w.alloc (.cells #[.int .i64 id, .slice A3 m3 c3] 43) = w1 at B1 P1 R1 X1 s1 ⊢
  refine (l2Bins_any A n c bs w1 R1.out hn Hb.out).mono ?_; rintro e w2 ⟨A2, c2, rfl, ⟨vs, ho2, hn2⟩, hb2⟩
  have B2 := qh (B1.out.trans (hb2.mono B1.out.size))
  have P2 := qh (P1.out.below hb2 P1.out.lt)
  have X2 := qh (X1.out.up hb2)
  have l2 := hb2.size
  have O0 := qh (World.ownsRow.drew ho2)
  have N0 := qh (hn2.keepTI (KeepTI.drew w2))
  have B0 := qh B2.out.drew
  have P0 := qh P2.out.drew
  have HX0 := qh (show RdI w2.drew w2.drew.heap.size A3 m3 xs from X2.out)
  clear ho2 hn2 hb2 R1 X1 B1 P1 B2 P2 X2
  go_wp2_with fail
  have l0 : w1.heap.size ≤ w2.drew.heap.size := l2
  have K0 : w2.drew.cell? ⟨w.heap.size, 0, none⟩ = some (.int .i64 id) ∧ w2.drew.cell? ⟨w.heap.size, 1, none⟩ = some (.slice A3 m3 c3) := ⟨P0.out.cell 0, P0.out.cell 1⟩
  refine wp_region_mix (.take 0 (.take 1 (.take 3 (.take 4 (.fork 2 (.fork 5 (.take 6 (.bar 7 (.bar 8 .nil))) 7 (.bar 5 (.take 6 (.bar 8 .nil)))) 7 (.bar 2 (.bar 5 (.take 6 (.bar 8 .nil))))))))) (fun w' => w'.cell? ⟨w.heap.size, 0, none⟩ = some (.int .i64 id) ∧ w'.cell? ⟨w.heap.size, 1, none⟩ = some (.slice A3 m3 c3)) (by kernel_rfl) (by kernel_rfl) K0 (fun _ => ?_)
  repeat ((first | refine wpMix_skip (by rfl) (by rfl) ?_ | (refine wpMix_take (v := ?_) (by rfl) (by rfl) (fun wS hSt => ?_) ?_; rotate_left; (focus ((try dsimp only at hSt); (go_simp <;> with_reducible rfl); done)))); (try simp only [Act.put, pS, pZ, pC]))
  generalize w2.drew = u0 at K0 O0 N0 B0 P0 HX0 l0 ⊢
  have lP := P0.out.lt
  have hS := qh (fun w' (hb : Below u0.heap.size u0 w') => (⟨(hb.cell (p := ⟨w.heap.size, 0, none⟩) lP).trans K0.1, (hb.cell (p := ⟨w.heap.size, 1, none⟩) lP).trans K0.2⟩ : w'.cell? ⟨w.heap.size, 0, none⟩ = some (.int .i64 id) ∧ w'.cell? ⟨w.heap.size, 1, none⟩ = some (.slice A3 m3 c3)))
  have HB0 := qh (Below.refl u0.heap.size u0)
  refine wpMix_fork (by rfl) (by rfl) (fun K hK => ?_) (fun K hK => ?_)
  go_simp
  have HB1 := qh (HB0.out.alloc HB0.out.size (.cells #[] 3))
  have HE := qh (show (u0.alloc (.cells #[] 3)).ownsRow u0.heap.size 3 1 (.slice (some ⟨u0.heap.size, 0, none⟩) 0 0) 0 [] from World.ownsRow_lit (base := u0.heap.size) (e := 3) (size := 1) u0 #[] 0 HB0.out.size (by unfold maxLen; omega) rfl)
  ((try dsimp only); refine nxK hK _ _ (hS.out _ HB1.out) ?_; clear hK K; (try simp only [Act.put, pS, pZ, pC]))
  generalize u0.alloc (.cells #[] 3) = u1 at HB1 HE ⊢
  refine wpMix_fork (by rfl) (by rfl) (fun K hK => ?_) (fun K hK => ?_)
  rw [if_pos (by rfl)]
  have S1 := qh (srcOfI (HX0.out.below HB1.out))
  refine wp_append_src _ _ _ 23 (by rfl) u0.heap.size 3 i0 _ 1 8 Tryz.underlying23 hi0 hz0 hz1 hz2 rfl (by omega) (.slice (some ⟨u0.heap.size, 0, none⟩) 0 0) 0 [] (by rfl) HE.out A3 m3 c3 _ (by rfl) S1.out (ints_cell1 xs) (by unfold maxLen; omega) (by omega) HB1.out.size ?_
  intro v6 u2 hown6 hgrow6 hrow6
  rw [Nat.zero_add, List.nil_append] at hown6
  obtain ⟨A6, c6, rfl⟩ := own_shape hown6
  have HB2 := qh (HB1.out.grown hgrow6 HB1.out.size (fun j e => (HE.out.lt j e).1))
  have HI := qh hown6
  clear hown6 hgrow6 hrow6 S1 HE
  ((try dsimp only); refine nxK hK _ _ (hS.out _ HB2.out) ?_; clear hK K; (try simp only [Act.put, pS, pZ, pC]))
  repeat ((first | refine wpMix_skip (by rfl) (by rfl) ?_ | (refine wpMix_take (v := ?_) (by rfl) (by rfl) (fun wS hSt => ?_) ?_; rotate_left; (focus ((try dsimp only at hSt); (go_simp <;> with_reducible rfl); done)))); (try simp only [Act.put, pS, pZ, pC]))
  (refine wpMix_bar (by rfl) (fun K hK => ?_); go_simp)
  have HB3 := qh (HB2.out.alloc HB2.out.size (.cells #[.int .i64 0, .slice none 0 0] 43))
  have HY := qh (Blk.new u2 43 #[.int .i64 0, .slice none 0 0])
  have ly0 := HB2.out.size
  replace HI := qh (own_alloc HI.out (.cells #[.int .i64 0, .slice none 0 0] 43))
  ((try dsimp only); refine nxK hK _ _ (hS.out _ HB3.out) ?_; clear hK K; (try simp only [Act.put, pS, pZ, pC]))
  generalize hgy : u2.heap.size = gy at HY ⊢
  have ly : u0.heap.size ≤ gy := by rw [← hgy]; exact ly0
  clear hgy ly0
  generalize u2.alloc (.cells #[.int .i64 0, .slice none 0 0] 43) = u3 at HB3 HY HI ⊢
  have x0 := HY.out.cell 0
  have x1 := HY.out.cell 1
  simp only [gT, gZ, gS] at x0 x1
  have x2 := HY.out.frozen 0
  have x3 := HY.out.frozen 1
  (refine wpMix_bar (by rfl) (fun K hK => ?_); go_simp)
  have HYz := qh ((HY.out.set_ 0 (.int .i64 id)).set_ 1 (.slice A6 m3 c6))
  have HBz := qh ((HB3.out.setCell (p := ⟨gy, 0, none⟩) (by show u0.heap.size ≤ gy; omega) (.int .i64 id)).setCell (p := ⟨gy, 1, none⟩) (by show u0.heap.size ≤ gy; omega) (.slice A6 m3 c6))
  have HIz := qh (own_keep HI.out (w' := (u3.setCell ⟨gy, 0, none⟩ (.int .i64 id)).setCell ⟨gy, 1, none⟩ (.slice A6 m3 c6)) (fun b hb => (Below.heap_setCell _ _ _ b (fun e => own_blk_ne HI.out HY.out (by decide) (by rw [hb, e]))).trans (Below.heap_setCell _ _ _ b (fun e => own_blk_ne HI.out HY.out (by decide) (by rw [hb, e])))))
  clear x0 x1 x2 x3 HY HI HB0 HB1 HB2 HB3
  ((try dsimp only); refine nxK hK _ _ (hS.out _ HBz.out) ?_; clear hK K; (try simp only [Act.put, pS, pZ, pC]))
  generalize (u3.setCell ⟨gy, 0, none⟩ (.int .i64 id)).setCell ⟨gy, 1, none⟩ (.slice A6 m3 c6) = wz at HYz HBz HIz ⊢
  refine wpMix_nil ?_
  rotate_left
  go_simp
  have HB2 := qh (HB1.out.alloc HB1.out.size (.cells #[.int .i64 0, .slice none 0 0] 43))
  have HY := qh (Blk.new u1 43 #[.int .i64 0, .slice none 0 0])
  have ly0 := HB1.out.size
  replace HE := qh (own_alloc HE.out (.cells #[.int .i64 0, .slice none 0 0] 43))
  ((try dsimp only); refine nxK hK _ _ (hS.out _ HB2.out) ?_; clear hK K; (try simp only [Act.put, pS, pZ, pC]))
  generalize hgy : u1.heap.size = gy at HY ⊢
  have ly : u0.heap.size ≤ gy := by rw [← hgy]; exact ly0
  clear hgy ly0
  generalize u1.alloc (.cells #[.int .i64 0, .slice none 0 0] 43) = u2 at HB2 HY HE ⊢
  refine wpMix_bar (by rfl) (fun K hK => ?_)
  rw [if_pos (by rfl)]
  have S1 := qh (srcOfI (HX0.out.below HB2.out))
  refine wp_append_src _ _ _ 23 (by rfl) u0.heap.size 3 i0 _ 1 8 Tryz.underlying23 hi0 hz0 hz1 hz2 rfl (by omega) (.slice (some ⟨u0.heap.size, 0, none⟩) 0 0) 0 [] (by rfl) HE.out A3 m3 c3 _ (by rfl) S1.out (ints_cell1 xs) (by unfold maxLen; omega) (by omega) HB2.out.size ?_
  intro v6 u3 hown6 hgrow6 hrow6
  rw [Nat.zero_add, List.nil_append] at hown6
  obtain ⟨A6, c6, rfl⟩ := own_shape hown6
  have HB3 := qh (HB2.out.grown hgrow6 HB2.out.size (fun j e => (HE.out.lt j e).1))
  replace HY := qh (HY.out.grown hgrow6 (fun e => own_blk_ne HE.out HY.out (by decide) e.symm))
  have HI := qh hown6
  clear hown6 hgrow6 hrow6 S1 HE
  ((try dsimp only); refine nxK hK _ _ (hS.out _ HB3.out) ?_; clear hK K; (try simp only [Act.put, pS, pZ, pC]))
  repeat ((first | refine wpMix_skip (by rfl) (by rfl) ?_ | (refine wpMix_take (v := ?_) (by rfl) (by rfl) (fun wS hSt => ?_) ?_; rotate_left; (focus ((try dsimp only at hSt); (go_simp <;> with_reducible rfl); done)))); (try simp only [Act.put, pS, pZ, pC]))
  have x0 := HY.out.cell 0
  have x1 := HY.out.cell 1
  simp only [gT, gZ, gS] at x0 x1
  have x2 := HY.out.frozen 0
  have x3 := HY.out.frozen 1
  (refine wpMix_bar (by rfl) (fun K hK => ?_); go_simp)
  have HYz := qh ((HY.out.set_ 0 (.int .i64 id)).set_ 1 (.slice A6 m3 c6))
  have HBz := qh ((HB3.out.setCell (p := ⟨gy, 0, none⟩) (by show u0.heap.size ≤ gy; omega) (.int .i64 id)).setCell (p := ⟨gy, 1, none⟩) (by show u0.heap.size ≤ gy; omega) (.slice A6 m3 c6))
  have HIz := qh (own_keep HI.out (w' := (u3.setCell ⟨gy, 0, none⟩ (.int .i64 id)).setCell ⟨gy, 1, none⟩ (.slice A6 m3 c6)) (fun b hb => (Below.heap_setCell _ _ _ b (fun e => own_blk_ne HI.out HY.out (by decide) (by rw [hb, e]))).trans (Below.heap_setCell _ _ _ b (fun e => own_blk_ne HI.out HY.out (by decide) (by rw [hb, e])))))
  clear x0 x1 x2 x3 HY HI HB0 HB1 HB2 HB3
  ((try dsimp only); refine nxK hK _ _ (hS.out _ HBz.out) ?_; clear hK K; (try simp only [Act.put, pS, pZ, pC]))
  generalize (u3.setCell ⟨gy, 0, none⟩ (.int .i64 id)).setCell ⟨gy, 1, none⟩ (.slice A6 m3 c6) = wz at HYz HBz HIz ⊢
  refine wpMix_nil ?_
  rotate_left
  go_simp
  have HB1 := qh (HB0.out.alloc HB0.out.size (.cells #[.int .i64 0, .slice none 0 0] 43))
  have HY := qh (Blk.new u0 43 #[.int .i64 0, .slice none 0 0])
  have ly0 := HB0.out.size
  ((try dsimp only); refine nxK hK _ _ (hS.out _ HB1.out) ?_; clear hK K; (try simp only [Act.put, pS, pZ, pC]))
  generalize hgy : u0.heap.size = gy at HY ⊢
  have ly : u0.heap.size ≤ gy := by rw [← hgy]; exact ly0
  clear hgy ly0
  generalize u0.alloc (.cells #[.int .i64 0, .slice none 0 0] 43) = u1 at HB1 HY ⊢
  (refine wpMix_bar (by rfl) (fun K hK => ?_); go_simp)
  have HB2 := qh (HB1.out.alloc HB1.out.size (.cells #[] 3))
  have HE := qh (show (u1.alloc (.cells #[] 3)).ownsRow u0.heap.size 3 1 (.slice (some ⟨u1.heap.size, 0, none⟩) 0 0) 0 [] from World.ownsRow_lit (base := u0.heap.size) (e := 3) (size := 1) u1 #[] 0 HB1.out.size (by unfold maxLen; omega) rfl)
  replace HY := qh (HY.out.alloc (.cells #[] 3))
  ((try dsimp only); refine nxK hK _ _ (hS.out _ HB2.out) ?_; clear hK K; (try simp only [Act.put, pS, pZ, pC]))
  generalize u1.heap.size = ge at HE ⊢
  generalize u1.alloc (.cells #[] 3) = u2 at HB2 HE HY ⊢
  refine wpMix_bar (by rfl) (fun K hK => ?_)
  rw [if_pos (by rfl)]
  have S1 := qh (srcOfI (HX0.out.below HB2.out))
  refine wp_append_src _ _ _ 23 (by rfl) u0.heap.size 3 i0 _ 1 8 Tryz.underlying23 hi0 hz0 hz1 hz2 rfl (by omega) (.slice (some ⟨ge, 0, none⟩) 0 0) 0 [] (by rfl) HE.out A3 m3 c3 _ (by rfl) S1.out (ints_cell1 xs) (by unfold maxLen; omega) (by omega) HB2.out.size ?_
  intro v6 u3 hown6 hgrow6 hrow6
  rw [Nat.zero_add, List.nil_append] at hown6
  obtain ⟨A6, c6, rfl⟩ := own_shape hown6
  have HB3 := qh (HB2.out.grown hgrow6 HB2.out.size (fun j e => (HE.out.lt j e).1))
  replace HY := qh (HY.out.grown hgrow6 (fun e => own_blk_ne HE.out HY.out (by decide) e.symm))
  have HI := qh hown6
  clear hown6 hgrow6 hrow6 S1 HE
  ((try dsimp only); refine nxK hK _ _ (hS.out _ HB3.out) ?_; clear hK K; (try simp only [Act.put, pS, pZ, pC]))
  repeat ((first | refine wpMix_skip (by rfl) (by rfl) ?_ | (refine wpMix_take (v := ?_) (by rfl) (by rfl) (fun wS hSt => ?_) ?_; rotate_left; (focus ((try dsimp only at hSt); (go_simp <;> with_reducible rfl); done)))); (try simp only [Act.put, pS, pZ, pC]))
  have x0 := HY.out.cell 0
  have x1 := HY.out.cell 1
  simp only [gT, gZ, gS] at x0 x1
  have x2 := HY.out.frozen 0
  have x3 := HY.out.frozen 1
  (refine wpMix_bar (by rfl) (fun K hK => ?_); go_simp)
  have HYz := qh ((HY.out.set_ 0 (.int .i64 id)).set_ 1 (.slice A6 m3 c6))
  have HBz := qh ((HB3.out.setCell (p := ⟨gy, 0, none⟩) (by show u0.heap.size ≤ gy; omega) (.int .i64 id)).setCell (p := ⟨gy, 1, none⟩) (by show u0.heap.size ≤ gy; omega) (.slice A6 m3 c6))
  have HIz := qh (own_keep HI.out (w' := (u3.setCell ⟨gy, 0, none⟩ (.int .i64 id)).setCell ⟨gy, 1, none⟩ (.slice A6 m3 c6)) (fun b hb => (Below.heap_setCell _ _ _ b (fun e => own_blk_ne HI.out HY.out (by decide) (by rw [hb, e]))).trans (Below.heap_setCell _ _ _ b (fun e => own_blk_ne HI.out HY.out (by decide) (by rw [hb, e])))))
  clear x0 x1 x2 x3 HY HI HB0 HB1 HB2 HB3
  ((try dsimp only); refine nxK hK _ _ (hS.out _ HBz.out) ?_; clear hK K; (try simp only [Act.put, pS, pZ, pC]))
  generalize (u3.setCell ⟨gy, 0, none⟩ (.int .i64 id)).setCell ⟨gy, 1, none⟩ (.slice A6 m3 c6) = wz at HYz HBz HIz ⊢
  refine wpMix_nil ?_
  rotate_left
  all_goals
    clear hS K0 lP HX0
    have Hold := qh N0.out.old
    have q1 : ((-1 : Int) < 0) = True := by simp
    have O1 := qh (own_up' O0.out HBz.out)
    have N1 := qh (N0.out.keepTI (KeepTI.up HBz.out))
    have Bz := qh (B0.out.trans (HBz.out.mono (by have := B0.out.size; omega)))
    have lz := HBz.out.size
    have li := HIz.out.lt
    clear O0 N0 B0 P0 HBz
    have y0 : wz.cell? ⟨gy, 0, none⟩ = some (.int .i64 id) := HYz.out.cell 0
    have y1 : wz.cell? ⟨gy, 1, none⟩ = some (.slice A6 m3 c6) := HYz.out.cell 1
    have D2 := alloc_up wz (.cells #[.int .i64 id, .slice A6 m3 c6] 43)
    have D3 := (alloc_up (wz.alloc (.cells #[.int .i64 id, .slice A6 m3 c6] 43)) (.cells #[.slice (some ⟨wz.heap.size, 0, none⟩) 1 1] 24))
    have D := qh (D2.trans (D3.mono D2.size))
    have lw : w1.heap.size ≤ wz.heap.size := by omega
    have R2 := qh (own_up' (own_built (w := wz) (base := w1.heap.size) 43 (.int .i64 id) (.slice A6 m3 c6) lw) D3)
    have V2 := qh ((NdR.nil (w := ((wz.alloc (.cells #[.int .i64 id, .slice A6 m3 c6] 43)).alloc (.cells #[.slice (some ⟨wz.heap.size, 0, none⟩) 1 1] 24))) (base := w1.heap.size)).snoc (id := id) (own_lo (own_up' HIz.out D.out) (by omega)))
    have O2 := qh (own_up' O1.out D.out)
    have N2 := qh (N1.out.keepTI (KeepTI.up D.out))
    have B2 := qh (Bz.out.trans (D.out.mono (by have := Bz.out.size; omega)))
    have X2 := qh (show Src ((wz.alloc (.cells #[.int .i64 id, .slice A6 m3 c6] 43)).alloc (.cells #[.slice (some ⟨wz.heap.size, 0, none⟩) 1 1] 24)) 1 (some ⟨wz.heap.size + 1, 0, none⟩) 1 [.slice (some ⟨wz.heap.size, 0, none⟩) 1 1] from by have := lit1 (wz.alloc (.cells #[.int .i64 id, .slice A6 m3 c6] 43)) 24 (.slice (some ⟨wz.heap.size, 0, none⟩) 1 1); rwa [World.size_alloc] at this)
    have l2' : w1.heap.size ≤ ((wz.alloc (.cells #[.int .i64 id, .slice A6 m3 c6] 43)).alloc (.cells #[.slice (some ⟨wz.heap.size, 0, none⟩) 1 1] 24)).heap.size := by have := D.out.size; omega
    have hdj := qh (fun (j : Nat) (u : Value) (hu : vs[j]? = some u) (b : Nat) (hb : u.ownBlock = some b) => (show (Value.slice (some ⟨wz.heap.size, 0, none⟩) 1 1).ownBlock ≠ some b from fun e => by have h1 := N1.out.old j u hu b hb; simp [Value.ownBlock] at e; omega))
    clear D2 D3 Bz
    go_wp2_with (at_builtin; go_loud (refine wpList_append_src _ rfl _ _ 27 rfl w1.heap.size 24 ib _ 1 24 Tryz.underlying27 hib hbz0 hbz1 hbz2 rfl (by omega) (.slice A2 n c2) n vs rfl O2.out (some ⟨wz.heap.size + 1, 0, none⟩) 1 1 [.slice (some ⟨wz.heap.size, 0, none⟩) 1 1] rfl X2.out (by simp [Value.oneCell']) (by unfold maxLen; omega) (by omega) l2' ?_; intro v6 z2 hown6 hgrow6 hrow6))
    obtain ⟨A7, c7, rfl⟩ := own_shape hown6
    have KT := KeepTI.grown O2.out hgrow6 (by decide) (by decide)
    have N3 := qh ((N2.out.keepTI KT).snoc (own_keepTI R2.out (.inr rfl) KT) (V2.out.keepTI KT) hdj.out)
    have B3 := qh (B2.out.grown hgrow6 (by have := B2.out.size; omega) (fun j e => by have := (O2.out.lt j e).1; omega))
    have OF := qh hown6
    clear hown6 hgrow6 hrow6 KT
    try go_wp2_with fail
    go_ret
    exact ⟨_, _, rfl, ⟨_, own_lo OF.out (by omega), N3.out.low (by omega)⟩, B3.out⟩
end Go.Proofs.YtdgeicdiiakhjaaGreat

namespace Go.Proofs.YtdgeicdiiakhjaaGreat
set_option linter.unusedVariables false

/-- l4Before. -/
def befP (a b : Tk) : Bool := decide (b.2.sum < a.2.sum) || (decide (a.2.sum = b.2.sum) && decide (a.1 < b.1))
theorem bef_iff {a b : Tk} : befP a b = true ↔ b.2.sum < a.2.sum ∨ (a.2.sum = b.2.sum ∧ a.1 < b.1) := by
  simp [befP, Bool.or_eq_true, Bool.and_eq_true]
theorem bef_asymm {a b : Tk} (h : befP a b = true) : befP b a = false := by
  rw [Bool.eq_false_iff]
  intro h'
  rw [bef_iff] at h h'
  omega
theorem bef_trans {a b c : Tk} (h : befP a b = true) (h' : befP b c = true) : befP a c = true := by
  rw [bef_iff] at h h' ⊢
  omega
theorem bef_irr (a : Tk) : befP a a = false := by
  rw [Bool.eq_false_iff]
  intro h
  rw [bef_iff] at h
  omega
theorem bef_total {a b : Tk} (h : a.1 ≠ b.1) : befP a b = true ∨ befP b a = true := by
  rw [bef_iff, bef_iff]
  omega
/-- In their order. -/
def InOrder (ts : List Tk) : Prop := ts.Pairwise (fun a b => befP a b = true)
/-- l4Put. -/
def putP : List Tk → Tk → List Tk
  | [], x => [x]
  | y :: ts, x => if befP x y = true then x :: y :: ts else y :: putP ts x
/-- TasksSort. -/
def sortP (ts : List Tk) : List Tk := ts.foldl putP []
theorem put_perm : ∀ (ts : List Tk) (x : Tk), (putP ts x).Perm (x :: ts)
  | [], x => List.Perm.refl _
  | y :: ts, x => by
    unfold putP
    split
    · exact List.Perm.refl _
    · exact ((put_perm ts x).cons y).trans (List.Perm.swap x y ts)
theorem put_len (ts : List Tk) (x : Tk) : (putP ts x).length = ts.length + 1 := by rw [(put_perm ts x).length_eq, List.length_cons]
theorem put_order : ∀ {ts : List Tk} {x : Tk}, InOrder ts → (∀ y ∈ ts, y.1 ≠ x.1) → InOrder (putP ts x)
  | [], x, _, _ => List.pairwise_singleton _ _
  | y :: ts, x, h, hd => by
    have h' := List.pairwise_cons.1 h
    unfold putP
    split
    · rename_i hb
      refine List.pairwise_cons.2 ⟨fun z hz => ?_, h⟩
      rcases List.mem_cons.1 hz with rfl | hz
      · exact hb
      · exact bef_trans hb (h'.1 z hz)
    · rename_i hb
      refine List.pairwise_cons.2 ⟨fun z hz => ?_, put_order h'.2 (fun z hz => hd z (List.mem_cons_of_mem _ hz))⟩
      rcases List.mem_cons.1 ((put_perm ts x).subset hz) with rfl | hz
      · exact (bef_total (hd y (List.mem_cons_self ..))).resolve_right hb
      · exact h'.1 z hz
theorem fold_perm : ∀ (ts acc : List Tk), (ts.foldl putP acc).Perm (acc ++ ts)
  | [], acc => by simp
  | x :: ts, acc => by
    rw [List.foldl_cons]
    refine (fold_perm ts (putP acc x)).trans ?_
    refine ((put_perm acc x).append_right ts).trans ?_
    exact (List.perm_middle (l₁ := acc) (l₂ := ts) (a := x)).symm
theorem sort_perm (ts : List Tk) : (sortP ts).Perm ts := by simpa [sortP] using fold_perm ts []
theorem fold_order : ∀ {ts acc : List Tk}, InOrder acc → ((acc ++ ts).map (·.1)).Nodup → InOrder (ts.foldl putP acc)
  | [], acc, h, _ => h
  | x :: ts, acc, h, hd => by
    rw [List.foldl_cons]
    refine fold_order (put_order h (fun y hy he => ?_)) ?_
    · rw [List.map_append, List.nodup_append] at hd
      exact hd.2.2 y.1 (List.mem_map_of_mem hy) x.1 (by simp) he
    · refine (List.Perm.nodup_iff (List.Perm.map _ ?_)).2 hd
      exact ((put_perm acc x).append_right ts).trans (List.perm_middle (l₁ := acc) (l₂ := ts) (a := x)).symm
theorem sort_order {ts : List Tk} (hd : (ts.map (·.1)).Nodup) : InOrder (sortP ts) := fold_order List.Pairwise.nil (by simpa using hd)
/-- There is one list in order only. -/
theorem order_unique : ∀ {a b : List Tk}, a.Perm b → InOrder a → InOrder b → a = b
  | [], b, h, _, _ => by rw [List.Perm.eq_nil (h.symm)]
  | x :: a, [], h, _, _ => by have := h.length_eq; simp at this
  | x :: a, y :: b, h, ha, hb => by
    have ha' := List.pairwise_cons.1 ha
    have hb' := List.pairwise_cons.1 hb
    have hxy : x = y := by
      rcases List.mem_cons.1 (h.subset (List.mem_cons_self ..)) with e | hx
      · exact e
      · rcases List.mem_cons.1 (h.symm.subset (List.mem_cons_self ..)) with e | hy
        · exact e.symm
        · have h1 := hb'.1 x hx
          have h2 := ha'.1 y hy
          rw [bef_asymm h1] at h2
          cases h2
    subst hxy
    rw [order_unique (List.Perm.cons_inv h) ha'.2 hb'.2]
theorem sort_same {a b : List Tk} (h : a.Perm b) (hd : (a.map (·.1)).Nodup) : sortP a = sortP b :=
  order_unique ((sort_perm a).trans (h.trans (sort_perm b).symm)) (sort_order hd) (sort_order ((List.Perm.nodup_iff (h.map _)).1 hd))
theorem sort_len (ts : List Tk) : (sortP ts).length = ts.length := (sort_perm ts).length_eq
end Go.Proofs.YtdgeicdiiakhjaaGreat
