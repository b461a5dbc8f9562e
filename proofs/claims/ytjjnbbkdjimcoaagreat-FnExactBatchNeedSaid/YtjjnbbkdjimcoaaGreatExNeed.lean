/- Walk: the exact law FnExactBatchNeed. (Printed by gen_exba.py.) -/
import Derived.Test.YtjjnbbkdjimcoaaGreatExKitB
import Derived.Test.YtjjnbbkdjimcoaaGreatBaKit
import Derived.Test.YtjjnbbkdjimcoaaGreatBatchU
import Derived.Test.YtjjnbbkdjimcoaaGreatBatchE
import Derived.Deep.CutBlock
import Derived.Deep.DeepCutAuto
namespace Go.Proofs.YtjjnbbkdjimcoaaGreat
set_option linter.unusedVariables false
open Go Go.RowKit
attribute [local go_sem ↓] Go.wp_at_zero Go.wp_at_succ

set_option maxRecDepth 100000 in
set_option maxHeartbeats 12800000 in
theorem exactBatchNeed_walk (A1 A2 A3 : Option Addr) (n1 c1 n2 c2 n3 c3 : Nat) (room : List Int) (us : List Un) (ts : List Tk) (w : World) (h : RdC w A1 A2 n1 n2 room us) (hq : RdT w w.heap.size A3 n3 ts) :
    Calls Tryz.prog 6 #[.agg #[.slice A1 n1 c1, .slice A2 n2 c2], .slice A3 n3 c3] w fun e w' => e = .returned (.bool true) ∧ Below w.heap.size w w' := by
  have B_1 := qh (alloc_up w (.cells #[.slice A1 n1 c1, .slice A2 n2 c2] 49))
  have PC_1 := qh (Blk.new w 49 #[.slice A1 n1 c1, .slice A2 n2 c2])
  have Hl1 := qh h.a.len
  have Hl2 := qh h.b.len
  have Hl3 := qh hq.1
  have le1 := h.a.le
  have le2 := h.b.le
  have Hh := qh h
  have Hq0 := qh hq
  obtain ⟨q, hp⟩ : ∃ q, needP room us ts = q := ⟨_, rfl⟩
  have Hp := qh hp
  clear hp
  have hne : (q != q) = false := by simp
  clear h hq
  go_enter Tryz.func6, Tryz.ntmps6
  have yPC0 := PC_1.out.cell 0
  have yPC1 := PC_1.out.cell 1
  simp only [gT, gZ, gS] at yPC0 yPC1
  go_wp2_with fail
  generalize w.alloc (.cells #[.slice A1 n1 c1, .slice A2 n2 c2] 49) = z1 at B_1 PC_1 yPC0 yPC1 ⊢
  refine (szCluster_any A1 A2 n1 c1 n2 c2 room us 1048576 z1 (Hh.out.up B_1.out) (by omega) (by omega)).mono ?_; rintro e v2 ⟨r1, rfl, hr1, hb⟩
  have B_2 := qh (below_to B_1.out hb)
  have PC_2 := qh (PC_1.out.below hb PC_1.out.lt)
  clear hb yPC0 yPC1 B_1 PC_1
  rcases hr1 with rfl | ⟨hr1, he1⟩
  · skip
    have yPC0 := PC_2.out.cell 0
    have yPC1 := PC_2.out.cell 1
    simp only [gT, gZ, gS] at yPC0 yPC1
    go_wp2_with fail
    go_ret
    exact ⟨rfl, B_2.out⟩
  have hr1n : ¬ r1 < 0 := by omega
  have hr1m : r1 ≤ 1048576 := by omega
  have He1 := qh he1
  clear he1
  have yPC0 := PC_2.out.cell 0
  have yPC1 := PC_2.out.cell 1
  simp only [gT, gZ, gS] at yPC0 yPC1
  go_wp2_with fail
  refine (szTaskS_any A3 n3 c3 ts r1 v2 (Hq0.out.up B_2.out) hr1 hr1m).mono ?_; rintro e v3 ⟨r2, rfl, hr2, hb⟩
  have B_3 := qh (below_to B_2.out hb)
  have PC_3 := qh (PC_2.out.below hb PC_2.out.lt)
  clear hb yPC0 yPC1 B_2 PC_2
  rcases hr2 with rfl | ⟨hr2, he2⟩
  · skip
    have yPC0 := PC_3.out.cell 0
    have yPC1 := PC_3.out.cell 1
    simp only [gT, gZ, gS] at yPC0 yPC1
    go_wp2_with fail
    go_ret
    exact ⟨rfl, B_3.out⟩
  have hr2n : ¬ r2 < 0 := by omega
  have Ht := qh (show n1 + totB (us.map (·.2)) ≤ 1048576 by have := He1.out; omega)
  have HtQ := qh (show totT ts ≤ 1048576 by omega)
  have ln1 : n1 ≤ 1048576 := by have := Ht.out; omega
  have ln3 : n3 ≤ 1048576 := by have := totT_ge ts; have := HtQ.out; have := Hl3.out; omega
  have hfl := totB_flat (us.map (·.2))
  have hml : (us.map (·.2)).length = us.length := List.length_map _
  have Hv := qh (show ShV us from ⟨by have := Ht.out; omega, by have := Ht.out; omega⟩)
  have ln2 : n2 ≤ 1048576 := by have := Hv.out.1; have := Hl2.out; omega
  clear he2 hfl hml
  have yPC0 := PC_3.out.cell 0
  have yPC1 := PC_3.out.cell 1
  simp only [gT, gZ, gS] at yPC0 yPC1
  go_wp2_with fail
  refine (toCluster_any A1 A2 n1 c1 n2 c2 room us v3 (Hh.out.up B_3.out) Ht.out).mono ?_; rintro e v4 ⟨k1, k2, rfl, o1, o2, hb⟩
  have B_4 := qh (below_to B_3.out hb)
  have PC_4 := qh (PC_3.out.below hb PC_3.out.lt)
  have M_4 := qh (show RdC v4 (some ⟨k1, 0, none⟩) (some ⟨k2, 0, none⟩) n1 n2 room us from ⟨o1.rd' Hl1.out (by omega), o2.rd Hl2.out (by omega)⟩)
  clear hb yPC0 yPC1 B_3 PC_3
  clear o1 o2
  have yPC0 := PC_4.out.cell 0
  have yPC1 := PC_4.out.cell 1
  simp only [gT, gZ, gS] at yPC0 yPC1
  go_wp2_with fail
  refine (toTaskS_any A3 n3 c3 ts v4 (Hq0.out.up B_4.out) HtQ.out).mono ?_; rintro e v5 ⟨rfl, o3, hb⟩
  have B_5 := qh (below_to B_4.out hb)
  have PC_5 := qh (PC_4.out.below hb PC_4.out.lt)
  have M_5 := qh (M_4.out.up hb)
  have N_5 := qh (o3.rd2 Hl3.out (by omega))
  clear hb yPC0 yPC1 B_4 PC_4 M_4
  clear o3
  have yPC0 := PC_5.out.cell 0
  have yPC1 := PC_5.out.cell 1
  simp only [gT, gZ, gS] at yPC0 yPC1
  go_wp2_with fail
  refine (batchNeedS_any (some ⟨k1, 0, none⟩) (some ⟨k2, 0, none⟩) (some ⟨v4.heap.size, 0, none⟩) n1 n1 n2 n2 n3 n3 room us ts v5 M_5.out Hv.out N_5.out).mono ?_; rintro e v6 ⟨he, hb⟩
  rw [Hp.out] at he
  subst he
  have B_6 := qh (below_to B_5.out hb)
  have PC_6 := qh (PC_5.out.below hb PC_5.out.lt)
  have M_6 := qh (M_5.out.up hb)
  have N_6 := qh (N_5.out.up hb)
  clear hb yPC0 yPC1 B_5 PC_5 M_5 N_5
  clear M_6 N_6
  have yPC0 := PC_6.out.cell 0
  have yPC1 := PC_6.out.cell 1
  simp only [gT, gZ, gS] at yPC0 yPC1
  go_wp2_with fail
  refine (toCluster_any A1 A2 n1 c1 n2 c2 room us v6 (Hh.out.up B_6.out) Ht.out).mono ?_; rintro e v7 ⟨g1, g2, rfl, o1, o2, hb⟩
  have l34 := hb.size
  have B_7 := qh (below_to B_6.out hb)
  have PC_7 := qh (PC_6.out.below hb PC_6.out.lt)
  have XI_7 := qh (Hl1.out ▸ o1.sw)
  have XN_7 := qh (Hl2.out ▸ o2.sw (by have := Ht.out; omega))
  have M_7 := qh (show RdC v7 (some ⟨g1, 0, none⟩) (some ⟨g2, 0, none⟩) n1 n2 room us from ⟨o1.rd' Hl1.out (by omega), o2.rd Hl2.out (by omega)⟩)
  clear hb yPC0 yPC1 B_6 PC_6
  clear o1 o2
  have al := alloc_up v7 (.cells #[.slice (some ⟨g1, 0, none⟩) n1 n1, .slice (some ⟨g2, 0, none⟩) n2 n2] 26)
  have B_8 := qh (below_to B_7.out al)
  have PC_8 := qh (PC_7.out.below al PC_7.out.lt)
  have XI_8 := qh (XI_7.out.up al)
  have XN_8 := qh (XN_7.out.up al)
  have M_8 := qh (M_7.out.up al)
  have hq := Blk.new v7 26 #[.slice (some ⟨g1, 0, none⟩) n1 n1, .slice (some ⟨g2, 0, none⟩) n2 n2]
  have Q0_8 := qh hq
  clear al hq B_7 PC_7 XI_7 XN_7 M_7
  have yPC0 := PC_8.out.cell 0
  have yPC1 := PC_8.out.cell 1
  have yQ00 := Q0_8.out.cell 0
  have yQ01 := Q0_8.out.cell 1
  simp only [gT, gZ, gS] at yPC0 yPC1 yQ00 yQ01
  go_wp2_with fail
  generalize v7.alloc (.cells #[.slice (some ⟨g1, 0, none⟩) n1 n1, .slice (some ⟨g2, 0, none⟩) n2 n2] 26) = z8 at B_8 PC_8 XI_8 XN_8 M_8 Q0_8 yPC0 yPC1 yQ00 yQ01 ⊢
  refine (toTaskS_any A3 n3 c3 ts z8 (Hq0.out.up B_8.out) HtQ.out).mono ?_; rintro e v9 ⟨rfl, o3, hb⟩
  have l56 := Q0_8.out.lt
  have l5 := hb.size
  have B_9 := qh (below_to B_8.out hb)
  have PC_9 := qh (PC_8.out.below hb PC_8.out.lt)
  have XI_9 := qh (XI_8.out.up hb)
  have XN_9 := qh (XN_8.out.up hb)
  have M_9 := qh (M_8.out.up hb)
  have Q0_9 := qh (Q0_8.out.below hb Q0_8.out.lt)
  have XT_9 := qh (Hl3.out ▸ o3.sw (fun j hj => Nat.le_trans (totT_need hj) HtQ.out))
  have N_9 := qh (o3.rd2 Hl3.out (by omega))
  clear hb yPC0 yPC1 yQ00 yQ01 B_8 PC_8 XI_8 XN_8 M_8 Q0_8
  clear o3
  have yPC0 := PC_9.out.cell 0
  have yPC1 := PC_9.out.cell 1
  have yQ00 := Q0_9.out.cell 0
  have yQ01 := Q0_9.out.cell 1
  simp only [gT, gZ, gS] at yPC0 yPC1 yQ00 yQ01
  go_wp2_with fail
  refine (batchNeedI_any (some ⟨g1, 0, none⟩) (some ⟨g2, 0, none⟩) (some ⟨z8.heap.size, 0, none⟩) n1 n1 n2 n2 n3 n3 room us ts v9 M_9.out Hv.out N_9.out).mono ?_; rintro e v10 ⟨he, hb⟩
  rw [Hp.out] at he
  subst he
  have B_10 := qh (below_to B_9.out hb)
  have PC_10 := qh (PC_9.out.below hb PC_9.out.lt)
  have XI_10 := qh (XI_9.out.up hb)
  have XN_10 := qh (XN_9.out.up hb)
  have M_10 := qh (M_9.out.up hb)
  have Q0_10 := qh (Q0_9.out.below hb Q0_9.out.lt)
  have XT_10 := qh (XT_9.out.up hb)
  have N_10 := qh (N_9.out.up hb)
  clear hb yPC0 yPC1 yQ00 yQ01 B_9 PC_9 XI_9 XN_9 M_9 Q0_9 XT_9 N_9
  clear XI_10 XN_10 XT_10
  go_upto_region 14 with fail
  have U0 := (Below.refl v10.heap.size v10).drew
  have B_11 := qh (below_to B_10.out U0)
  have PC_11 := qh (PC_10.out.below U0 PC_10.out.lt)
  have M_11 := qh (M_10.out.up U0)
  have Q0_11 := qh (Q0_10.out.below U0 Q0_10.out.lt)
  have N_11 := qh (N_10.out.up U0)
  have K0 : v10.drew.cell? ⟨v7.heap.size, 0, none⟩ = some (.slice (some ⟨g1, 0, none⟩) n1 n1) ∧ v10.drew.cell? ⟨v7.heap.size, 1, none⟩ = some (.slice (some ⟨g2, 0, none⟩) n2 n2) ∧ v10.drew.cell? ⟨w.heap.size, 0, none⟩ = some (.slice A1 n1 c1) ∧ v10.drew.cell? ⟨w.heap.size, 1, none⟩ = some (.slice A2 n2 c2) := ⟨Q0_11.out.cell 0, Q0_11.out.cell 1, PC_11.out.cell 0, PC_11.out.cell 1⟩
  refine wp_region_mix (.take 0 (.take 1 (.bar 2 (.bar 3 (.take 4 .nil))))) (fun w' => w'.cell? ⟨v7.heap.size, 0, none⟩ = some (.slice (some ⟨g1, 0, none⟩) n1 n1) ∧ w'.cell? ⟨v7.heap.size, 1, none⟩ = some (.slice (some ⟨g2, 0, none⟩) n2 n2) ∧ w'.cell? ⟨w.heap.size, 0, none⟩ = some (.slice A1 n1 c1) ∧ w'.cell? ⟨w.heap.size, 1, none⟩ = some (.slice A2 n2 c2)) (by kernel_rfl) (by kernel_rfl) K0 (fun _ => ?_)
  clear K0 U0 B_10 PC_10 M_10 Q0_10 N_10
  generalize v10.drew = d11 at B_11 PC_11 M_11 Q0_11 N_11 ⊢
  repeat ((first | refine wpMix_skip (by rfl) (by rfl) ?_ | (refine wpMix_take (v := ?_) (by rfl) (by rfl) (fun wS hSt => ?_) ?_; rotate_left; (focus ((try dsimp only at hSt); (go_simp <;> with_reducible rfl); done)))); (try simp only [Act.put, pS, pZ, pC]))
  (refine wpMix_bar (by rfl) (fun K hK => ?_); go_simp)
  refine (toCluster_any A1 A2 n1 c1 n2 c2 room us d11 (Hh.out.up B_11.out) Ht.out).mono ?_; rintro e v12 ⟨k3, k4, rfl, o1, o2, hb⟩
  have B_12 := qh (below_to B_11.out hb)
  have PC_12 := qh (PC_11.out.below hb PC_11.out.lt)
  have M_12 := qh (M_11.out.up hb)
  have Q0_12 := qh (Q0_11.out.below hb Q0_11.out.lt)
  have N_12 := qh (N_11.out.up hb)
  have T_12 := qh (show RdC v12 (some ⟨k3, 0, none⟩) (some ⟨k4, 0, none⟩) n1 n2 room us from ⟨o1.rd' Hl1.out (by omega), o2.rd Hl2.out (by omega)⟩)
  clear o1 o2
  ((try dsimp only); refine nxK hK _ _ (⟨Q0_12.out.cell 0, Q0_12.out.cell 1, PC_12.out.cell 0, PC_12.out.cell 1⟩) ?_; clear hK K; (try simp only [Act.put, pS, pZ, pC]))
  clear hb B_11 PC_11 M_11 Q0_11 N_11
  (refine wpMix_bar (by rfl) (fun K hK => ?_); go_simp)
  refine (eqCluster_any (some ⟨g1, 0, none⟩) (some ⟨g2, 0, none⟩) (some ⟨k3, 0, none⟩) (some ⟨k4, 0, none⟩) n1 n2 n1 n2 n1 n2 room us v12 M_12.out T_12.out).mono ?_; rintro e v13 ⟨rfl, hb⟩
  have B_13 := qh (below_to B_12.out hb)
  have PC_13 := qh (PC_12.out.below hb PC_12.out.lt)
  have M_13 := qh (M_12.out.up hb)
  have Q0_13 := qh (Q0_12.out.below hb Q0_12.out.lt)
  have N_13 := qh (N_12.out.up hb)
  have T_13 := qh (T_12.out.up hb)
  ((try dsimp only); refine nxK hK _ _ (⟨Q0_13.out.cell 0, Q0_13.out.cell 1, PC_13.out.cell 0, PC_13.out.cell 1⟩) ?_; clear hK K; (try simp only [Act.put, pS, pZ, pC]))
  clear hb B_12 PC_12 M_12 Q0_12 N_12 T_12
  repeat ((first | refine wpMix_skip (by rfl) (by rfl) ?_ | (refine wpMix_take (v := ?_) (by rfl) (by rfl) (fun wS hSt => ?_) ?_; rotate_left; (focus ((try dsimp only at hSt); (go_simp <;> with_reducible rfl); done)))); (try simp only [Act.put, pS, pZ, pC]))
  refine wpMix_nil ?_
  clear M_13 T_13
  have yPC0 := PC_13.out.cell 0
  have yPC1 := PC_13.out.cell 1
  have yQ00 := Q0_13.out.cell 0
  have yQ01 := Q0_13.out.cell 1
  simp only [gT, gZ, gS] at yPC0 yPC1 yQ00 yQ01
  go_wp2_with fail
  refine (toTaskS_any A3 n3 c3 ts v13 (Hq0.out.up B_13.out) HtQ.out).mono ?_; rintro e v14 ⟨rfl, o3, hb⟩
  have B_14 := qh (below_to B_13.out hb)
  have PC_14 := qh (PC_13.out.below hb PC_13.out.lt)
  have Q0_14 := qh (Q0_13.out.below hb Q0_13.out.lt)
  have N_14 := qh (N_13.out.up hb)
  have T_14 := qh (o3.rd2 Hl3.out (by omega))
  clear hb yPC0 yPC1 yQ00 yQ01 B_13 PC_13 Q0_13 N_13
  clear o3
  have yPC0 := PC_14.out.cell 0
  have yPC1 := PC_14.out.cell 1
  have yQ00 := Q0_14.out.cell 0
  have yQ01 := Q0_14.out.cell 1
  simp only [gT, gZ, gS] at yPC0 yPC1 yQ00 yQ01
  go_wp2_with fail
  refine (eqTaskS_any (some ⟨z8.heap.size, 0, none⟩) _ n3 n3 n3 ts v14 N_14.out T_14.out).mono ?_; rintro e v15 ⟨rfl, hb⟩
  have B_15 := qh (below_to B_14.out hb)
  have PC_15 := qh (PC_14.out.below hb PC_14.out.lt)
  have Q0_15 := qh (Q0_14.out.below hb Q0_14.out.lt)
  have N_15 := qh (N_14.out.up hb)
  have T_15 := qh (T_14.out.up hb)
  clear hb yPC0 yPC1 yQ00 yQ01 B_14 PC_14 Q0_14 N_14 T_14
  clear N_15 T_15
  go_wp2_with fail
  go_ret
  exact ⟨rfl, B_15.out⟩
end Go.Proofs.YtjjnbbkdjimcoaaGreat
