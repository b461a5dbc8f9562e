/- Walk: the law FnBatch. (Printed by gen_balaws.py.) -/
import Derived.Test.YtjjnbbkdjimcoaaGreatDrawBa
import Derived.Test.YtjjnbbkdjimcoaaGreatJ14
import Derived.Test.YtjjnbbkdjimcoaaGreatBaKit
import Derived.Test.YtjjnbbkdjimcoaaGreatBatchU
import Derived.Test.YtjjnbbkdjimcoaaGreatBatchE
import Derived.Test.YtjjnbbkdjimcoaaGreatRqRows
import Derived.Test.YtjjnbbkdjimcoaaGreatBatchD
import Derived.Deep.CutBlock
import Derived.Deep.DeepCutAuto
import Derived.Test.YtjjnbbkdjimcoaaGreatJ3
namespace Go.Proofs.YtjjnbbkdjimcoaaGreat
set_option linter.unusedVariables false
open Go Go.RowKit
attribute [local go_sem ↓] Go.wp_at_zero Go.wp_at_succ

set_option maxRecDepth 100000 in
set_option maxHeartbeats 6400000 in
theorem batch_walk (A : Option Addr) (n c : Nat) (w : World) (h : RdU w w.heap.size A n) (hc : n ≤ c) (hcm : c ≤ 9223372036854775807) :
    Calls Tryz.prog 10 #[.slice A n c] w fun e w' => e = .returned (.bool true) ∧ Below w.heap.size w w' := by
  by_cases kn : 1048576 < n
  · go_enter Tryz.func10, Tryz.ntmps10
    go_wp2
    go_ret
    exact ⟨rfl, Below.refl _ _⟩
  go_enter Tryz.func10, Tryz.ntmps10
  go_wp2_with fail
  refine (drawBatchDo_any A n c w h hc hcm).mono ?_; rintro e v1 ⟨A1, m1, c1, A2, m2, c2, room, us, At, nt, ct, ts, gv, rfl, hcr, hs, hm1, hc1, hc2, ht, hnt, hct, hb⟩
  have B_1 := qh (hb)
  have C_1 := qh (hcr)
  have T_1 := qh (ht)
  clear hb
  have hlt := ht.len
  clear hcr ht h
  have Hs := qh hs
  have Hlt := qh hlt
  clear hs hlt
  have al := alloc_up v1 (.cells #[.slice A1 m1 c1, .slice A2 m2 c2] 26)
  have B_2 := qh (below_to B_1.out al)
  have C_2 := qh (C_1.out.up al)
  have T_2 := qh (T_1.out.up al)
  have hq := Blk.new v1 26 #[.slice A1 m1 c1, .slice A2 m2 c2]
  have Bc_2 := qh hq
  clear al hq B_1 C_1 T_1
  obtain ⟨ro, uo, co, hp⟩ : ∃ ro uo co, batP room us ts gv = (ro, uo, co) := ⟨_, _, _, rfl⟩
  have hq := bat_sh (room := room) (us := us) (ts := ts) (g := gv)
  rw [hp] at hq
  dsimp only at hq
  have Hp := qh hp
  have Hq := qh hq
  clear hp hq
  have yBc0 := Bc_2.out.cell 0
  have yBc1 := Bc_2.out.cell 1
  simp only [gT, gZ, gS] at yBc0 yBc1
  go_wp2_with fail
  generalize v1.alloc (.cells #[.slice A1 m1 c1, .slice A2 m2 c2] 26) = z2 at B_2 C_2 T_2 Bc_2 yBc0 yBc1 ⊢
  refine (batchDoI_any A1 A2 At m1 c1 m2 c2 nt ct gv room us ts z2 C_2.out Hs.out.v T_2.out).mono ?_; rintro e v3 ⟨A4, m4, c4, A5, m5, c5, A8, m8, c8, hi, he, hoc, hco, hb, _, _, _⟩
  simp only [Hp.out] at hoc hco
  subst he
  have hl := hoc.len
  have hl2 := hoc.lenU
  have hlk := own_len hco
  have B_3 := qh (below_to B_2.out hb)
  have C_3 := qh (C_2.out.up hb)
  have T_3 := qh (T_2.out.up hb)
  have Bc_3 := qh (Bc_2.out.below hb Bc_2.out.lt)
  have D_3 := qh (hoc.rd (by have := Hq.out.2; omega) Hq.out.1)
  have K_3 := qh (own_rdI hco (own_le hco))
  clear hb yBc0 yBc1 B_2 C_2 T_2 Bc_2
  clear hoc hco
  have al := alloc_up v3 (.cells #[.slice A4 m4 c4, .slice A5 m5 c5] 26)
  have B_4 := qh (below_to B_3.out al)
  have C_4 := qh (C_3.out.up al)
  have T_4 := qh (T_3.out.up al)
  have Bc_4 := qh (Bc_3.out.below al Bc_3.out.lt)
  have D_4 := qh (D_3.out.up al)
  have K_4 := qh (K_3.out.up al)
  have hq := Blk.new v3 26 #[.slice A4 m4 c4, .slice A5 m5 c5]
  have Bo_4 := qh hq
  clear al hq B_3 C_3 T_3 Bc_3 D_3 K_3
  have yBc0 := Bc_4.out.cell 0
  have yBc1 := Bc_4.out.cell 1
  have yBo0 := Bo_4.out.cell 0
  have yBo1 := Bo_4.out.cell 1
  simp only [gT, gZ, gS] at yBc0 yBc1 yBo0 yBo1
  go_wp2_with fail
  generalize v3.alloc (.cells #[.slice A4 m4 c4, .slice A5 m5 c5] 26) = z4 at B_4 C_4 T_4 Bc_4 D_4 K_4 Bo_4 yBc0 yBc1 yBo0 yBo1 ⊢
  refine (batchDoS_any A1 A2 At m1 c1 m2 c2 nt ct gv room us ts z4 C_4.out Hs.out.v T_4.out).mono ?_; rintro e v5 ⟨A6, m6, c6, A7, m7, c7, A9, m9, c9, he, hrc, hri, hb⟩
  simp only [Hp.out] at hrc hri
  subst he
  obtain rfl : m6 = m4 := by have := hrc.len; omega
  obtain rfl : m7 = m5 := by have := hrc.len; omega
  obtain rfl : m8 = m9 := by have := hri.len; omega
  have B_5 := qh (below_to B_4.out hb)
  have C_5 := qh (C_4.out.up hb)
  have T_5 := qh (T_4.out.up hb)
  have Bc_5 := qh (Bc_4.out.below hb Bc_4.out.lt)
  have D_5 := qh (D_4.out.up hb)
  have K_5 := qh (K_4.out.up hb)
  have Bo_5 := qh (Bo_4.out.below hb Bo_4.out.lt)
  have E_5 := qh (hrc.rd)
  have L_5 := qh (hri)
  clear hb yBc0 yBc1 yBo0 yBo1 B_4 C_4 T_4 Bc_4 D_4 K_4 Bo_4
  have Hlk := qh hlk
  clear hrc hri hl hl2 hlk
  have al := alloc_up v5 (.cells #[.slice A6 m6 c6, .slice A7 m7 c7] 26)
  have B_6 := qh (below_to B_5.out al)
  have C_6 := qh (C_5.out.up al)
  have T_6 := qh (T_5.out.up al)
  have Bc_6 := qh (Bc_5.out.below al Bc_5.out.lt)
  have D_6 := qh (D_5.out.up al)
  have K_6 := qh (K_5.out.up al)
  have Bo_6 := qh (Bo_5.out.below al Bo_5.out.lt)
  have E_6 := qh (E_5.out.up al)
  have L_6 := qh (L_5.out.up al)
  have hq := Blk.new v5 26 #[.slice A6 m6 c6, .slice A7 m7 c7]
  have Bw_6 := qh hq
  clear al hq B_5 C_5 T_5 Bc_5 D_5 K_5 Bo_5 E_5 L_5
  have yBc0 := Bc_6.out.cell 0
  have yBc1 := Bc_6.out.cell 1
  have yBo0 := Bo_6.out.cell 0
  have yBo1 := Bo_6.out.cell 1
  have yBw0 := Bw_6.out.cell 0
  have yBw1 := Bw_6.out.cell 1
  simp only [gT, gZ, gS] at yBc0 yBc1 yBo0 yBo1 yBw0 yBw1
  go_wp2_with fail
  generalize v5.alloc (.cells #[.slice A6 m6 c6, .slice A7 m7 c7] 26) = z6 at B_6 C_6 T_6 Bc_6 D_6 K_6 Bo_6 E_6 L_6 Bw_6 yBc0 yBc1 yBo0 yBo1 yBw0 yBw1 ⊢
  refine (sameInts_any A8 A9 m8 c8 c9 _ _ _ z6 K_6.out L_6.out).mono ?_; rintro e v7 ⟨rfl, mq, hw⟩
  have hb := drew_below z6 mq
  rw [hw] at hb
  clear hw
  have B_7 := qh (below_to B_6.out hb)
  have C_7 := qh (C_6.out.up hb)
  have T_7 := qh (T_6.out.up hb)
  have Bc_7 := qh (Bc_6.out.below hb Bc_6.out.lt)
  have D_7 := qh (D_6.out.up hb)
  have K_7 := qh (K_6.out.up hb)
  have Bo_7 := qh (Bo_6.out.below hb Bo_6.out.lt)
  have E_7 := qh (E_6.out.up hb)
  have L_7 := qh (L_6.out.up hb)
  have Bw_7 := qh (Bw_6.out.below hb Bw_6.out.lt)
  clear hb yBc0 yBc1 yBo0 yBo1 yBw0 yBw1 B_6 C_6 T_6 Bc_6 D_6 K_6 Bo_6 E_6 L_6 Bw_6
  have yBc0 := Bc_7.out.cell 0
  have yBc1 := Bc_7.out.cell 1
  have yBo0 := Bo_7.out.cell 0
  have yBo1 := Bo_7.out.cell 1
  have yBw0 := Bw_7.out.cell 0
  have yBw1 := Bw_7.out.cell 1
  simp only [gT, gZ, gS] at yBc0 yBc1 yBo0 yBo1 yBw0 yBw1
  go_wp2_with fail
  refine (sameCluster_any A4 A5 A6 A7 m6 c4 m7 c5 c6 c7 _ _ v7 D_7.out E_7.out).mono ?_; rintro e v8 ⟨rfl, hb⟩
  have B_8 := qh (below_to B_7.out hb)
  have C_8 := qh (C_7.out.up hb)
  have T_8 := qh (T_7.out.up hb)
  have Bc_8 := qh (Bc_7.out.below hb Bc_7.out.lt)
  have D_8 := qh (D_7.out.up hb)
  have K_8 := qh (K_7.out.up hb)
  have Bo_8 := qh (Bo_7.out.below hb Bo_7.out.lt)
  have E_8 := qh (E_7.out.up hb)
  have L_8 := qh (L_7.out.up hb)
  have Bw_8 := qh (Bw_7.out.below hb Bw_7.out.lt)
  clear hb yBc0 yBc1 yBo0 yBo1 yBw0 yBw1 B_7 C_7 T_7 Bc_7 D_7 K_7 Bo_7 E_7 L_7 Bw_7
  have yBc0 := Bc_8.out.cell 0
  have yBc1 := Bc_8.out.cell 1
  have yBo0 := Bo_8.out.cell 0
  have yBo1 := Bo_8.out.cell 1
  have yBw0 := Bw_8.out.cell 0
  have yBw1 := Bw_8.out.cell 1
  simp only [gT, gZ, gS] at yBc0 yBc1 yBo0 yBo1 yBw0 yBw1
  go_wp2_with fail
  refine (clusterValidS_any A1 A2 m1 c1 m2 c2 room us v8 C_8.out Hs.out).mono ?_; rintro e v9 ⟨rfl, hb⟩
  have B_9 := qh (below_to B_8.out hb)
  have C_9 := qh (C_8.out.up hb)
  have T_9 := qh (T_8.out.up hb)
  have Bc_9 := qh (Bc_8.out.below hb Bc_8.out.lt)
  have D_9 := qh (D_8.out.up hb)
  have K_9 := qh (K_8.out.up hb)
  have Bo_9 := qh (Bo_8.out.below hb Bo_8.out.lt)
  have E_9 := qh (E_8.out.up hb)
  have L_9 := qh (L_8.out.up hb)
  have Bw_9 := qh (Bw_8.out.below hb Bw_8.out.lt)
  clear hb yBc0 yBc1 yBo0 yBo1 yBw0 yBw1 B_8 C_8 T_8 Bc_8 D_8 K_8 Bo_8 E_8 L_8 Bw_8
  cases hok : clOk room us with
  | false =>
    have yBc0 := Bc_9.out.cell 0
    have yBc1 := Bc_9.out.cell 1
    have yBo0 := Bo_9.out.cell 0
    have yBo1 := Bo_9.out.cell 1
    have yBw0 := Bw_9.out.cell 0
    have yBw1 := Bw_9.out.cell 1
    simp only [gT, gZ, gS] at yBc0 yBc1 yBo0 yBo1 yBw0 yBw1
    go_wp2_with fail
    refine (sameInts_any A8 A9 m8 c8 c9 _ _ _ v9 K_9.out L_9.out).mono ?_; rintro e v10 ⟨rfl, mq, hw⟩
    have hb := drew_below v9 mq
    rw [hw] at hb
    clear hw
    have B_10 := qh (below_to B_9.out hb)
    have C_10 := qh (C_9.out.up hb)
    have T_10 := qh (T_9.out.up hb)
    have Bc_10 := qh (Bc_9.out.below hb Bc_9.out.lt)
    have D_10 := qh (D_9.out.up hb)
    have K_10 := qh (K_9.out.up hb)
    have Bo_10 := qh (Bo_9.out.below hb Bo_9.out.lt)
    have E_10 := qh (E_9.out.up hb)
    have L_10 := qh (L_9.out.up hb)
    have Bw_10 := qh (Bw_9.out.below hb Bw_9.out.lt)
    clear hb yBc0 yBc1 yBo0 yBo1 yBw0 yBw1 B_9 C_9 T_9 Bc_9 D_9 K_9 Bo_9 E_9 L_9 Bw_9
    have yBc0 := Bc_10.out.cell 0
    have yBc1 := Bc_10.out.cell 1
    have yBo0 := Bo_10.out.cell 0
    have yBo1 := Bo_10.out.cell 1
    have yBw0 := Bw_10.out.cell 0
    have yBw1 := Bw_10.out.cell 1
    simp only [gT, gZ, gS] at yBc0 yBc1 yBo0 yBo1 yBw0 yBw1
    go_wp2_with fail
    refine (sameCluster_any A4 A5 A6 A7 m6 c4 m7 c5 c6 c7 _ _ v10 D_10.out E_10.out).mono ?_; rintro e v11 ⟨rfl, hb⟩
    have B_11 := qh (below_to B_10.out hb)
    have C_11 := qh (C_10.out.up hb)
    have T_11 := qh (T_10.out.up hb)
    have Bc_11 := qh (Bc_10.out.below hb Bc_10.out.lt)
    have D_11 := qh (D_10.out.up hb)
    have K_11 := qh (K_10.out.up hb)
    have Bo_11 := qh (Bo_10.out.below hb Bo_10.out.lt)
    have E_11 := qh (E_10.out.up hb)
    have L_11 := qh (L_10.out.up hb)
    have Bw_11 := qh (Bw_10.out.below hb Bw_10.out.lt)
    clear hb yBc0 yBc1 yBo0 yBo1 yBw0 yBw1 B_10 C_10 T_10 Bc_10 D_10 K_10 Bo_10 E_10 L_10 Bw_10
    have yBc0 := Bc_11.out.cell 0
    have yBc1 := Bc_11.out.cell 1
    have yBo0 := Bo_11.out.cell 0
    have yBo1 := Bo_11.out.cell 1
    have yBw0 := Bw_11.out.cell 0
    have yBw1 := Bw_11.out.cell 1
    simp only [gT, gZ, gS] at yBc0 yBc1 yBo0 yBo1 yBw0 yBw1
    go_wp2_with fail
    go_ret
    exact ⟨rfl, B_11.out⟩
  | true =>
    have Hok := qh hok
    clear hok
    have yBc0 := Bc_9.out.cell 0
    have yBc1 := Bc_9.out.cell 1
    have yBo0 := Bo_9.out.cell 0
    have yBo1 := Bo_9.out.cell 1
    have yBw0 := Bw_9.out.cell 0
    have yBw1 := Bw_9.out.cell 1
    simp only [gT, gZ, gS] at yBc0 yBc1 yBo0 yBo1 yBw0 yBw1
    go_wp2_with fail
    refine (tasksValidS_any A1 At m1 c1 nt ct room ts v9 C_9.out.a T_9.out).mono ?_; rintro e v10 ⟨rfl, mq, hw⟩
    have hb := drew_below v9 mq
    rw [hw] at hb
    clear hw
    have B_10 := qh (below_to B_9.out hb)
    have C_10 := qh (C_9.out.up hb)
    have T_10 := qh (T_9.out.up hb)
    have Bc_10 := qh (Bc_9.out.below hb Bc_9.out.lt)
    have D_10 := qh (D_9.out.up hb)
    have K_10 := qh (K_9.out.up hb)
    have Bo_10 := qh (Bo_9.out.below hb Bo_9.out.lt)
    have E_10 := qh (E_9.out.up hb)
    have L_10 := qh (L_9.out.up hb)
    have Bw_10 := qh (Bw_9.out.below hb Bw_9.out.lt)
    clear hb yBc0 yBc1 yBo0 yBo1 yBw0 yBw1 B_9 C_9 T_9 Bc_9 D_9 K_9 Bo_9 E_9 L_9 Bw_9
    cases htk : tasksOk room ts with
    | false =>
      have yBc0 := Bc_10.out.cell 0
      have yBc1 := Bc_10.out.cell 1
      have yBo0 := Bo_10.out.cell 0
      have yBo1 := Bo_10.out.cell 1
      have yBw0 := Bw_10.out.cell 0
      have yBw1 := Bw_10.out.cell 1
      simp only [gT, gZ, gS] at yBc0 yBc1 yBo0 yBo1 yBw0 yBw1
      go_wp2_with fail
      refine (sameInts_any A8 A9 m8 c8 c9 _ _ _ v10 K_10.out L_10.out).mono ?_; rintro e v11 ⟨rfl, mq, hw⟩
      have hb := drew_below v10 mq
      rw [hw] at hb
      clear hw
      have B_11 := qh (below_to B_10.out hb)
      have C_11 := qh (C_10.out.up hb)
      have T_11 := qh (T_10.out.up hb)
      have Bc_11 := qh (Bc_10.out.below hb Bc_10.out.lt)
      have D_11 := qh (D_10.out.up hb)
      have K_11 := qh (K_10.out.up hb)
      have Bo_11 := qh (Bo_10.out.below hb Bo_10.out.lt)
      have E_11 := qh (E_10.out.up hb)
      have L_11 := qh (L_10.out.up hb)
      have Bw_11 := qh (Bw_10.out.below hb Bw_10.out.lt)
      clear hb yBc0 yBc1 yBo0 yBo1 yBw0 yBw1 B_10 C_10 T_10 Bc_10 D_10 K_10 Bo_10 E_10 L_10 Bw_10
      have yBc0 := Bc_11.out.cell 0
      have yBc1 := Bc_11.out.cell 1
      have yBo0 := Bo_11.out.cell 0
      have yBo1 := Bo_11.out.cell 1
      have yBw0 := Bw_11.out.cell 0
      have yBw1 := Bw_11.out.cell 1
      simp only [gT, gZ, gS] at yBc0 yBc1 yBo0 yBo1 yBw0 yBw1
      go_wp2_with fail
      refine (sameCluster_any A4 A5 A6 A7 m6 c4 m7 c5 c6 c7 _ _ v11 D_11.out E_11.out).mono ?_; rintro e v12 ⟨rfl, hb⟩
      have B_12 := qh (below_to B_11.out hb)
      have C_12 := qh (C_11.out.up hb)
      have T_12 := qh (T_11.out.up hb)
      have Bc_12 := qh (Bc_11.out.below hb Bc_11.out.lt)
      have D_12 := qh (D_11.out.up hb)
      have K_12 := qh (K_11.out.up hb)
      have Bo_12 := qh (Bo_11.out.below hb Bo_11.out.lt)
      have E_12 := qh (E_11.out.up hb)
      have L_12 := qh (L_11.out.up hb)
      have Bw_12 := qh (Bw_11.out.below hb Bw_11.out.lt)
      clear hb yBc0 yBc1 yBo0 yBo1 yBw0 yBw1 B_11 C_11 T_11 Bc_11 D_11 K_11 Bo_11 E_11 L_11 Bw_11
      have yBc0 := Bc_12.out.cell 0
      have yBc1 := Bc_12.out.cell 1
      have yBo0 := Bo_12.out.cell 0
      have yBo1 := Bo_12.out.cell 1
      have yBw0 := Bw_12.out.cell 0
      have yBw1 := Bw_12.out.cell 1
      simp only [gT, gZ, gS] at yBc0 yBc1 yBo0 yBo1 yBw0 yBw1
      go_wp2_with fail
      go_ret
      exact ⟨rfl, B_12.out⟩
    | true =>
      have Htk := qh htk
      clear htk
      by_cases h0 : gv < 0
      · have q0 : gv < 0 := h0
        have yBc0 := Bc_10.out.cell 0
        have yBc1 := Bc_10.out.cell 1
        have yBo0 := Bo_10.out.cell 0
        have yBo1 := Bo_10.out.cell 1
        have yBw0 := Bw_10.out.cell 0
        have yBw1 := Bw_10.out.cell 1
        simp only [gT, gZ, gS] at yBc0 yBc1 yBo0 yBo1 yBw0 yBw1
        go_wp2_with fail
        refine (sameInts_any A8 A9 m8 c8 c9 _ _ _ v10 K_10.out L_10.out).mono ?_; rintro e v11 ⟨rfl, mq, hw⟩
        have hb := drew_below v10 mq
        rw [hw] at hb
        clear hw
        have B_11 := qh (below_to B_10.out hb)
        have C_11 := qh (C_10.out.up hb)
        have T_11 := qh (T_10.out.up hb)
        have Bc_11 := qh (Bc_10.out.below hb Bc_10.out.lt)
        have D_11 := qh (D_10.out.up hb)
        have K_11 := qh (K_10.out.up hb)
        have Bo_11 := qh (Bo_10.out.below hb Bo_10.out.lt)
        have E_11 := qh (E_10.out.up hb)
        have L_11 := qh (L_10.out.up hb)
        have Bw_11 := qh (Bw_10.out.below hb Bw_10.out.lt)
        clear hb yBc0 yBc1 yBo0 yBo1 yBw0 yBw1 B_10 C_10 T_10 Bc_10 D_10 K_10 Bo_10 E_10 L_10 Bw_10
        have yBc0 := Bc_11.out.cell 0
        have yBc1 := Bc_11.out.cell 1
        have yBo0 := Bo_11.out.cell 0
        have yBo1 := Bo_11.out.cell 1
        have yBw0 := Bw_11.out.cell 0
        have yBw1 := Bw_11.out.cell 1
        simp only [gT, gZ, gS] at yBc0 yBc1 yBo0 yBo1 yBw0 yBw1
        go_wp2_with fail
        refine (sameCluster_any A4 A5 A6 A7 m6 c4 m7 c5 c6 c7 _ _ v11 D_11.out E_11.out).mono ?_; rintro e v12 ⟨rfl, hb⟩
        have B_12 := qh (below_to B_11.out hb)
        have C_12 := qh (C_11.out.up hb)
        have T_12 := qh (T_11.out.up hb)
        have Bc_12 := qh (Bc_11.out.below hb Bc_11.out.lt)
        have D_12 := qh (D_11.out.up hb)
        have K_12 := qh (K_11.out.up hb)
        have Bo_12 := qh (Bo_11.out.below hb Bo_11.out.lt)
        have E_12 := qh (E_11.out.up hb)
        have L_12 := qh (L_11.out.up hb)
        have Bw_12 := qh (Bw_11.out.below hb Bw_11.out.lt)
        clear hb yBc0 yBc1 yBo0 yBo1 yBw0 yBw1 B_11 C_11 T_11 Bc_11 D_11 K_11 Bo_11 E_11 L_11 Bw_11
        have yBc0 := Bc_12.out.cell 0
        have yBc1 := Bc_12.out.cell 1
        have yBo0 := Bo_12.out.cell 0
        have yBo1 := Bo_12.out.cell 1
        have yBw0 := Bw_12.out.cell 0
        have yBw1 := Bw_12.out.cell 1
        simp only [gT, gZ, gS] at yBc0 yBc1 yBo0 yBo1 yBw0 yBw1
        go_wp2_with fail
        go_ret
        exact ⟨rfl, B_12.out⟩
      by_cases h1 : 10 < gv
      · have q1 : 10 < gv := h1
        have yBc0 := Bc_10.out.cell 0
        have yBc1 := Bc_10.out.cell 1
        have yBo0 := Bo_10.out.cell 0
        have yBo1 := Bo_10.out.cell 1
        have yBw0 := Bw_10.out.cell 0
        have yBw1 := Bw_10.out.cell 1
        simp only [gT, gZ, gS] at yBc0 yBc1 yBo0 yBo1 yBw0 yBw1
        go_wp2_with fail
        refine (sameInts_any A8 A9 m8 c8 c9 _ _ _ v10 K_10.out L_10.out).mono ?_; rintro e v11 ⟨rfl, mq, hw⟩
        have hb := drew_below v10 mq
        rw [hw] at hb
        clear hw
        have B_11 := qh (below_to B_10.out hb)
        have C_11 := qh (C_10.out.up hb)
        have T_11 := qh (T_10.out.up hb)
        have Bc_11 := qh (Bc_10.out.below hb Bc_10.out.lt)
        have D_11 := qh (D_10.out.up hb)
        have K_11 := qh (K_10.out.up hb)
        have Bo_11 := qh (Bo_10.out.below hb Bo_10.out.lt)
        have E_11 := qh (E_10.out.up hb)
        have L_11 := qh (L_10.out.up hb)
        have Bw_11 := qh (Bw_10.out.below hb Bw_10.out.lt)
        clear hb yBc0 yBc1 yBo0 yBo1 yBw0 yBw1 B_10 C_10 T_10 Bc_10 D_10 K_10 Bo_10 E_10 L_10 Bw_10
        have yBc0 := Bc_11.out.cell 0
        have yBc1 := Bc_11.out.cell 1
        have yBo0 := Bo_11.out.cell 0
        have yBo1 := Bo_11.out.cell 1
        have yBw0 := Bw_11.out.cell 0
        have yBw1 := Bw_11.out.cell 1
        simp only [gT, gZ, gS] at yBc0 yBc1 yBo0 yBo1 yBw0 yBw1
        go_wp2_with fail
        refine (sameCluster_any A4 A5 A6 A7 m6 c4 m7 c5 c6 c7 _ _ v11 D_11.out E_11.out).mono ?_; rintro e v12 ⟨rfl, hb⟩
        have B_12 := qh (below_to B_11.out hb)
        have C_12 := qh (C_11.out.up hb)
        have T_12 := qh (T_11.out.up hb)
        have Bc_12 := qh (Bc_11.out.below hb Bc_11.out.lt)
        have D_12 := qh (D_11.out.up hb)
        have K_12 := qh (K_11.out.up hb)
        have Bo_12 := qh (Bo_11.out.below hb Bo_11.out.lt)
        have E_12 := qh (E_11.out.up hb)
        have L_12 := qh (L_11.out.up hb)
        have Bw_12 := qh (Bw_11.out.below hb Bw_11.out.lt)
        clear hb yBc0 yBc1 yBo0 yBo1 yBw0 yBw1 B_11 C_11 T_11 Bc_11 D_11 K_11 Bo_11 E_11 L_11 Bw_11
        have yBc0 := Bc_12.out.cell 0
        have yBc1 := Bc_12.out.cell 1
        have yBo0 := Bo_12.out.cell 0
        have yBo1 := Bo_12.out.cell 1
        have yBw0 := Bw_12.out.cell 0
        have yBw1 := Bw_12.out.cell 1
        simp only [gT, gZ, gS] at yBc0 yBc1 yBo0 yBo1 yBw0 yBw1
        go_wp2_with fail
        go_ret
        exact ⟨rfl, B_12.out⟩
      have HG := qh (show 0 ≤ gv ∧ gv ≤ 10 by omega)
      have hk := bat_law Hok.out Htk.out HG.out.1 HG.out.2 (us := us)
      rw [Hp.out] at hk
      dsimp only at hk
      obtain ⟨e1, k2, k3, k4, k5, _, _⟩ := hk
      replace e1 := e1.symm
      subst e1
      have HK := qh (show clOk room uo = true ∧ True from ⟨k2, trivial⟩)
      obtain rfl : m8 = nt := by have := Hlk.out; have := Hlt.out; omega
      have HW := qh k5
      have HT := qh k4
      clear k2 k3 k4 k5
      go_wp2_with fail
      go_loopw [10, 11] (fun v i wr => ∃ k : Nat, i = .int .i64 (k : Int) ∧ k ≤ m8 ∧ v = .int .i64 (cntZ (co.take k) : Int) ∧ Below v10.heap.size v10 wr) (fun _ i _ => m8 - (intOf i).toNat)
      case atStart => exact ⟨0, rfl, Nat.zero_le _, rfl, Below.refl _ _⟩
      case round =>
        obtain ⟨k, rfl, hk, rfl, hbel⟩ := hrel
        have Hb := qh hbel
        clear hbel
        by_cases hlt : k < m8
        · obtain ⟨b1, o1, rfl, l1, hx1⟩ := (K_10.out.up Hb.out).at_ hlt
          obtain ⟨bt, ot, Ax, mx, cx, rfl, lt, ht0, _, _, _⟩ := (T_10.out).at_ hlt
          have Hst := qh (cntZ_take (cs := co) (k := k) (by have := Hlk.out; omega))
          have zle : cntZ (co.take k) ≤ 7 := by have := cntZ_le (co.take k); rw [List.length_take] at this; omega
          have hw := HW.out k (by have := Hlt.out; omega)
          unfold gTk at hw
          have HWk := qh hw
          clear hw
          generalize co[k]?.getD 0 = q at *
          generalize (ts[k]?.getD (0, [])).1 = tid at *
          generalize cntZ (co.take k) = zz at *
          have kk1 : (0 : Int) ≤ (k : Int) := by omega
          have kk2 : (k : Int) < (m8 : Int) := by omega
          have kk3 : 0 ≤ (k : Int) * 2 := by omega
          by_cases h0 : q = 0
          · subst h0
            have hz : (((0 : Int)) == 0) = true := rfl
            have n1 : ¬ cwhereP room uo tid < 0 := by have := HWk.out rfl; omega
            clear HWk
            have yBo0 := (Bo_10.out.below Hb.out Bo_10.out.lt).cell 0
            have yBo1 := (Bo_10.out.below Hb.out Bo_10.out.lt).cell 1
            simp only [gT, gZ, gS] at yBo0 yBo1
            have xt0 := (Hb.out.cell (p := ⟨bt, ot + k * 2, none⟩) lt).trans ht0
            have Ht0 := qh ht0
            clear ht0
            have HD := qh (D_10.out.up Hb.out)
            go_upto_region 14 with fail
            refine wp_region_mix (.take 0 (.take 1 (.take 2 (.take 3 (.take 4 (.take 5 (.bar 6 (.take 7 .nil)))))))) (fun w' => w'.cell? ⟨v3.heap.size, 0, none⟩ = some (.slice A4 m6 c4) ∧ w'.cell? ⟨v3.heap.size, 1, none⟩ = some (.slice A5 m7 c5) ∧ w'.cell? ⟨bt, ot + k * 2, none⟩ = some (.int .i64 tid)) (by kernel_rfl) (by kernel_rfl) ⟨yBo0, yBo1, xt0⟩ (fun _ => ?_)
            clear yBo0 yBo1 xt0
            have HD2 := qh (D_10.out.up Hb.out.drew)
            have Hb3 := qh Hb.out.drew
            clear HD Hb
            generalize wr.drew = u0 at HD2 Hb3 ⊢
            repeat ((first | refine wpMix_skip (by rfl) (by rfl) ?_ | (refine wpMix_take (v := ?_) (by rfl) (by rfl) (fun wS hSt => ?_) ?_; rotate_left; (focus ((try dsimp only at hSt); (go_simp <;> with_reducible rfl); done)))); (try simp only [Act.put, pS, pZ, pC]))
            (refine wpMix_bar (by rfl) (fun K hK => ?_); go_simp)
            refine (clusterWhereI_any A4 A5 m6 c4 m7 c5 room uo tid u0 HD2.out Hq.out.1).mono ?_; rintro e u1 ⟨rfl, hb⟩
            have Hb4 := qh (below_to Hb3.out hb)
            clear hb Hb3 HD2
            generalize cwhereP room uo tid = cw at *
            ((try dsimp only); refine nxK hK _ _ (⟨(Bo_10.out.below Hb4.out Bo_10.out.lt).cell 0, (Bo_10.out.below Hb4.out Bo_10.out.lt).cell 1, (Hb4.out.cell (p := ⟨bt, ot + k * 2, none⟩) lt).trans Ht0.out⟩) ?_; clear hK K; (try simp only [Act.put, pS, pZ, pC]))
            repeat ((first | refine wpMix_skip (by rfl) (by rfl) ?_ | (refine wpMix_take (v := ?_) (by rfl) (by rfl) (fun wS hSt => ?_) ?_; rotate_left; (focus ((try dsimp only at hSt); (go_simp <;> with_reducible rfl); done)))); (try simp only [Act.put, pS, pZ, pC]))
            refine wpMix_nil ?_
            go_wp2_with fail
            go_roundw
            case rel => exact ⟨k + 1, by go_num, by omega, by rw [Hst.out, if_pos rfl]; go_num, Hb4.out⟩
            case measure => simp [intOf]; omega
          · have q0 : (q == 0) = false := by simpa using h0
            have Hn := qh h0
            clear h0
            go_wp2_with fail
            go_roundw
            case rel => exact ⟨k + 1, by go_num, by omega, by rw [Hst.out, if_neg Hn.out]; go_num, Hb.out⟩
            case measure => simp [intOf]; omega
        · obtain rfl : k = m8 := by omega
          rw [List.take_of_length_le (by have := Hlk.out; omega)]
          have B_95 := qh (below_to B_10.out Hb.out)
          have C_95 := qh (C_10.out.up Hb.out)
          have D_95 := qh (D_10.out.up Hb.out)
          have Bo_95 := qh (Bo_10.out.below Hb.out Bo_10.out.lt)
          have Bc_95 := qh (Bc_10.out.below Hb.out Bc_10.out.lt)
          have hcz := cntZ_le co
          have hto := total_le Hok.out
          have hlc := Hlk.out
          have e9 : ((totalP uo : Int) == (totalP us : Int) + (cntZ co : Int)) = true := by have := HT.out; simp; omega
          have wv2 : IntKind.i64.wrap ((totalP us : Int) + (cntZ co : Int)) = (totalP us : Int) + (cntZ co : Int) := wr64 (by omega) (by omega)
          have heq : ((k : Int) == (k : Int)) = true := by simp
          clear hcz hto hlc
          have yBo0 := Bo_95.out.cell 0
          have yBo1 := Bo_95.out.cell 1
          have yBc0 := Bc_95.out.cell 0
          have yBc1 := Bc_95.out.cell 1
          simp only [gT, gZ, gS] at yBo0 yBo1 yBc0 yBc1
          go_upto_region 16 with fail
          refine wp_region_mix (.take 0 (.take 1 (.take 2 (.take 3 (.take 4 (.take 5 (.take 6 (.bar 7 (.take 8 (.take 9 (.take 10 (.take 14 (.take 18 (.bar 11 (.take 12 (.fork 13 (.bar 15 (.take 16 (.bar 17 (.take 19 (.take 20 (.take 21 (.take 22 .nil))))))) 15 (.take 16 (.fork 13 (.bar 17 (.take 19 (.take 20 (.take 21 (.take 22 .nil))))) 17 (.take 19 (.bar 13 (.take 20 (.take 21 (.take 22 .nil))))))))))))))))))))))) (fun w' => w'.cell? ⟨v3.heap.size, 0, none⟩ = some (.slice A4 m6 c4) ∧ w'.cell? ⟨v3.heap.size, 1, none⟩ = some (.slice A5 m7 c5) ∧ w'.cell? ⟨v1.heap.size, 0, none⟩ = some (.slice A1 m1 c1) ∧ w'.cell? ⟨v1.heap.size, 1, none⟩ = some (.slice A2 m2 c2)) (by kernel_rfl) (by kernel_rfl) ⟨yBo0, yBo1, yBc0, yBc1⟩ (fun _ => ?_)
          have hb := (Below.refl wr.heap.size wr).drew
          have B_96 := qh (below_to B_95.out hb)
          have C_96 := qh (C_95.out.up hb)
          have D_96 := qh (D_95.out.up hb)
          have Bo_96 := qh (Bo_95.out.below hb Bo_95.out.lt)
          have Bc_96 := qh (Bc_95.out.below hb Bc_95.out.lt)
          clear hb yBo0 yBo1 yBc0 yBc1  B_95 C_95 D_95 Bo_95 Bc_95
          generalize wr.drew = u0 at B_96 C_96 D_96 Bo_96 Bc_96 ⊢
          repeat ((first | refine wpMix_skip (by rfl) (by rfl) ?_ | (refine wpMix_take (v := ?_) (by rfl) (by rfl) (fun wS hSt => ?_) ?_; rotate_left; (focus ((try dsimp only at hSt); (go_simp <;> with_reducible rfl); done)))); (try simp only [Act.put, pS, pZ, pC]))
          (refine wpMix_bar (by rfl) (fun K hK => ?_); go_simp)
          refine (clusterValidI_any A4 A5 m6 c4 m7 c5 room uo u0 D_96.out Hq.out.1).mono ?_; rintro e u7 ⟨rfl, hb⟩
          rw [HK.out.1]
          have B_97 := qh (below_to B_96.out hb)
          have C_97 := qh (C_96.out.up hb)
          have D_97 := qh (D_96.out.up hb)
          have Bo_97 := qh (Bo_96.out.below hb Bo_96.out.lt)
          have Bc_97 := qh (Bc_96.out.below hb Bc_96.out.lt)
          ((try dsimp only); refine nxK hK _ _ (⟨Bo_97.out.cell 0, Bo_97.out.cell 1, Bc_97.out.cell 0, Bc_97.out.cell 1⟩) ?_; clear hK K; (try simp only [Act.put, pS, pZ, pC]))
          clear hb B_96 C_96 D_96 Bo_96 Bc_96
          repeat ((first | refine wpMix_skip (by rfl) (by rfl) ?_ | (refine wpMix_take (v := ?_) (by rfl) (by rfl) (fun wS hSt => ?_) ?_; rotate_left; (focus ((try dsimp only at hSt); (go_simp <;> with_reducible rfl); done)))); (try simp only [Act.put, pS, pZ, pC]))
          (refine wpMix_bar (by rfl) (fun K hK => ?_); go_simp)
          refine (clusterCountsI_any A4 A5 m6 c4 m7 c5 room uo u7 D_97.out Hq.out.1).mono ?_; rintro e ua ⟨Aqa, mqa, cqa, rfl, hown, hb⟩
          obtain rfl : mqa = 3 := by have := own_len hown; rw [counts_len HK.out.1] at this; omega
          obtain ⟨bqa, oqa, rfl, lqa, hqa⟩ := (own_rdI hown (own_le hown)).at_ (k := 2) (by omega)
          rw [counts2 HK.out.1] at hqa
          have Lqa := own_cap' hown
          have B_98 := qh (below_to B_97.out hb)
          have C_98 := qh (C_97.out.up hb)
          have D_98 := qh (D_97.out.up hb)
          have Bo_98 := qh (Bo_97.out.below hb Bo_97.out.lt)
          have Bc_98 := qh (Bc_97.out.below hb Bc_97.out.lt)
          ((try dsimp only); refine nxK hK _ _ (⟨Bo_98.out.cell 0, Bo_98.out.cell 1, Bc_98.out.cell 0, Bc_98.out.cell 1⟩) ?_; clear hK K; (try simp only [Act.put, pS, pZ, pC]))
          clear hown hb B_97 C_97 D_97 Bo_97 Bc_97
          repeat ((first | refine wpMix_skip (by rfl) (by rfl) ?_ | (refine wpMix_take (v := ?_) (by rfl) (by rfl) (fun wS hSt => ?_) ?_; rotate_left; (focus ((try dsimp only at hSt); (go_simp <;> with_reducible rfl); done)))); (try simp only [Act.put, pS, pZ, pC]))
          refine wpMix_fork (by rfl) (by rfl) (fun K hK => ?_) (fun K hK => ?_)
          · go_simp
            ((try dsimp only); refine nxK hK _ _ (⟨Bo_98.out.cell 0, Bo_98.out.cell 1, Bc_98.out.cell 0, Bc_98.out.cell 1⟩) ?_; clear hK K; (try simp only [Act.put, pS, pZ, pC]))
            refine wpMix_bar (by rfl) (fun K hK => ?_)
            go_simp
            refine (clusterCountsI_any A1 A2 m1 c1 m2 c2 room us ua C_98.out Hs.out).mono ?_; rintro e ub ⟨Aqb, mqb, cqb, rfl, hown, hb⟩
            obtain rfl : mqb = 3 := by have := own_len hown; rw [counts_len Hok.out] at this; omega
            obtain ⟨bqb, oqb, rfl, lqb, hqb⟩ := (own_rdI hown (own_le hown)).at_ (k := 2) (by omega)
            rw [counts2 Hok.out] at hqb
            have Lqb := own_cap' hown
            have B_99 := qh (below_to B_98.out hb)
            have C_99 := qh (C_98.out.up hb)
            have D_99 := qh (D_98.out.up hb)
            have Bo_99 := qh (Bo_98.out.below hb Bo_98.out.lt)
            have Bc_99 := qh (Bc_98.out.below hb Bc_98.out.lt)
            replace hqa := (hb.cell (p := ⟨bqa, oqa + 2, none⟩) lqa).trans hqa
            ((try dsimp only); refine nxK hK _ _ (⟨Bo_99.out.cell 0, Bo_99.out.cell 1, Bc_99.out.cell 0, Bc_99.out.cell 1⟩) ?_; clear hK K; (try simp only [Act.put, pS, pZ, pC]))
            clear hown hb B_98 C_98 D_98 Bo_98 Bc_98
            repeat ((first | refine wpMix_skip (by rfl) (by rfl) ?_ | (refine wpMix_take (v := ?_) (by rfl) (by rfl) (fun wS hSt => ?_) ?_; rotate_left; (focus ((try dsimp only at hSt); (go_simp <;> with_reducible rfl); done)))); (try simp only [Act.put, pS, pZ, pC]))
            (refine wpMix_bar (by rfl) (fun K hK => ?_); go_simp)
            ((try dsimp only); refine nxK hK _ _ (⟨Bo_99.out.cell 0, Bo_99.out.cell 1, Bc_99.out.cell 0, Bc_99.out.cell 1⟩) ?_; clear hK K; (try simp only [Act.put, pS, pZ, pC]))
            repeat ((first | refine wpMix_skip (by rfl) (by rfl) ?_ | (refine wpMix_take (v := ?_) (by rfl) (by rfl) (fun wS hSt => ?_) ?_; rotate_left; (focus ((try dsimp only at hSt); (go_simp <;> with_reducible rfl); done)))); (try simp only [Act.put, pS, pZ, pC]))
            refine wpMix_nil ?_
            go_wp2_with fail
            go_ret
            exact ⟨rfl, B_99.out⟩
          · go_simp
            refine (clusterCountsI_any A1 A2 m1 c1 m2 c2 room us ua C_98.out Hs.out).mono ?_; rintro e ub ⟨Aqb, mqb, cqb, rfl, hown, hb⟩
            obtain rfl : mqb = 3 := by have := own_len hown; rw [counts_len Hok.out] at this; omega
            obtain ⟨bqb, oqb, rfl, lqb, hqb⟩ := (own_rdI hown (own_le hown)).at_ (k := 2) (by omega)
            rw [counts2 Hok.out] at hqb
            have Lqb := own_cap' hown
            have B_99 := qh (below_to B_98.out hb)
            have C_99 := qh (C_98.out.up hb)
            have D_99 := qh (D_98.out.up hb)
            have Bo_99 := qh (Bo_98.out.below hb Bo_98.out.lt)
            have Bc_99 := qh (Bc_98.out.below hb Bc_98.out.lt)
            replace hqa := (hb.cell (p := ⟨bqa, oqa + 2, none⟩) lqa).trans hqa
            ((try dsimp only); refine nxK hK _ _ (⟨Bo_99.out.cell 0, Bo_99.out.cell 1, Bc_99.out.cell 0, Bc_99.out.cell 1⟩) ?_; clear hK K; (try simp only [Act.put, pS, pZ, pC]))
            clear hown hb B_98 C_98 D_98 Bo_98 Bc_98
            repeat ((first | refine wpMix_skip (by rfl) (by rfl) ?_ | (refine wpMix_take (v := ?_) (by rfl) (by rfl) (fun wS hSt => ?_) ?_; rotate_left; (focus ((try dsimp only at hSt); (go_simp <;> with_reducible rfl); done)))); (try simp only [Act.put, pS, pZ, pC]))
            refine wpMix_fork (by rfl) (by rfl) (fun K hK => ?_) (fun K hK => ?_)
            · go_simp
              ((try dsimp only); refine nxK hK _ _ (⟨Bo_99.out.cell 0, Bo_99.out.cell 1, Bc_99.out.cell 0, Bc_99.out.cell 1⟩) ?_; clear hK K; (try simp only [Act.put, pS, pZ, pC]))
              (refine wpMix_bar (by rfl) (fun K hK => ?_); go_simp)
              ((try dsimp only); refine nxK hK _ _ (⟨Bo_99.out.cell 0, Bo_99.out.cell 1, Bc_99.out.cell 0, Bc_99.out.cell 1⟩) ?_; clear hK K; (try simp only [Act.put, pS, pZ, pC]))
              repeat ((first | refine wpMix_skip (by rfl) (by rfl) ?_ | (refine wpMix_take (v := ?_) (by rfl) (by rfl) (fun wS hSt => ?_) ?_; rotate_left; (focus ((try dsimp only at hSt); (go_simp <;> with_reducible rfl); done)))); (try simp only [Act.put, pS, pZ, pC]))
              refine wpMix_nil ?_
              go_wp2_with fail
              go_ret
              exact ⟨rfl, B_99.out⟩
            · go_simp
              ((try dsimp only); refine nxK hK _ _ (⟨Bo_99.out.cell 0, Bo_99.out.cell 1, Bc_99.out.cell 0, Bc_99.out.cell 1⟩) ?_; clear hK K; (try simp only [Act.put, pS, pZ, pC]))
              repeat ((first | refine wpMix_skip (by rfl) (by rfl) ?_ | (refine wpMix_take (v := ?_) (by rfl) (by rfl) (fun wS hSt => ?_) ?_; rotate_left; (focus ((try dsimp only at hSt); (go_simp <;> with_reducible rfl); done)))); (try simp only [Act.put, pS, pZ, pC]))
              (refine wpMix_bar (by rfl) (fun K hK => ?_); go_simp)
              ((try dsimp only); refine nxK hK _ _ (⟨Bo_99.out.cell 0, Bo_99.out.cell 1, Bc_99.out.cell 0, Bc_99.out.cell 1⟩) ?_; clear hK K; (try simp only [Act.put, pS, pZ, pC]))
              repeat ((first | refine wpMix_skip (by rfl) (by rfl) ?_ | (refine wpMix_take (v := ?_) (by rfl) (by rfl) (fun wS hSt => ?_) ?_; rotate_left; (focus ((try dsimp only at hSt); (go_simp <;> with_reducible rfl); done)))); (try simp only [Act.put, pS, pZ, pC]))
              refine wpMix_nil ?_
              go_wp2_with fail
              go_ret
              exact ⟨rfl, B_99.out⟩
end Go.Proofs.YtjjnbbkdjimcoaaGreat
