/- Walk: the law FnBatchOrder. (Printed by gen_balaws.py.) -/
import Derived.Test.YtjjnbbkdjimcoaaGreatDrawBa
import Derived.Test.YtjjnbbkdjimcoaaGreatJ14
import Derived.Test.YtjjnbbkdjimcoaaGreatBaKit
import Derived.Test.YtjjnbbkdjimcoaaGreatBatchU
import Derived.Test.YtjjnbbkdjimcoaaGreatBatchE
import Derived.Test.YtjjnbbkdjimcoaaGreatRqRows
import Derived.Test.YtjjnbbkdjimcoaaGreatBatchD
namespace Go.Proofs.YtjjnbbkdjimcoaaGreat
set_option linter.unusedVariables false
open Go Go.RowKit
attribute [local go_sem ↓] Go.wp_at_zero Go.wp_at_succ

set_option maxRecDepth 100000 in
set_option maxHeartbeats 6400000 in
theorem batchOrder_walk (A : Option Addr) (n c : Nat) (w : World) (h : RdU w w.heap.size A n) (hc : n ≤ c) (hcm : c ≤ 9223372036854775807) :
    Calls Tryz.prog 5 #[.slice A n c] w fun e w' => e = .returned (.bool true) ∧ Below w.heap.size w w' := by
  obtain ⟨i0, hi0, hz0, hz1, hz2⟩ := info_parts task_info
  by_cases kn : 1048576 < n
  · go_enter Tryz.func5, Tryz.ntmps5
    go_wp2
    go_ret
    exact ⟨rfl, Below.refl _ _⟩
  go_enter Tryz.func5, Tryz.ntmps5
  go_wp2_with fail
  refine (drawBatchDo_any A n c w h hc hcm).mono ?_; rintro e v1 ⟨A1, m1, c1, A2, m2, c2, room, us, At, nt, ct, ts, gv, rfl, hcr, hs, hm1, hc1, hc2, ht, hnt, hct, hb⟩
  have B_1 := qh (hb)
  have C_1 := qh (hcr)
  have T_1 := qh (ht)
  clear hb
  have hlt := ht.len
  clear hcr ht h
  have Hs := qh hs
  have Hlt := qh hlt
  clear hs hlt
  have al := alloc_up v1 (.cells #[.slice A1 m1 c1, .slice A2 m2 c2] 26)
  have B_2 := qh (below_to B_1.out al)
  have C_2 := qh (C_1.out.up al)
  have T_2 := qh (T_1.out.up al)
  have hq := Blk.new v1 26 #[.slice A1 m1 c1, .slice A2 m2 c2]
  have Bc_2 := qh hq
  clear al hq B_1 C_1 T_1
  obtain ⟨ro, uo, co, hp⟩ : ∃ ro uo co, batP room us ts gv = (ro, uo, co) := ⟨_, _, _, rfl⟩
  have hq := bat_sh (room := room) (us := us) (ts := ts) (g := gv)
  rw [hp] at hq
  dsimp only at hq
  have Hp := qh hp
  have Hq := qh hq
  clear hp hq
  have yBc0 := Bc_2.out.cell 0
  have yBc1 := Bc_2.out.cell 1
  simp only [gT, gZ, gS] at yBc0 yBc1
  go_wp2_with fail
  generalize v1.alloc (.cells #[.slice A1 m1 c1, .slice A2 m2 c2] 26) = z2 at B_2 C_2 T_2 Bc_2 yBc0 yBc1 ⊢
  refine (batchDoI_any A1 A2 At m1 c1 m2 c2 nt ct gv room us ts z2 C_2.out Hs.out.v T_2.out).mono ?_; rintro e v3 ⟨A4, m4, c4, A5, m5, c5, A8, m8, c8, hi, he, hoc, hco, hb, _, _, _⟩
  simp only [Hp.out] at hoc hco
  subst he
  have hl := hoc.len
  have hl2 := hoc.lenU
  have hlk := own_len hco
  have B_3 := qh (below_to B_2.out hb)
  have C_3 := qh (C_2.out.up hb)
  have T_3 := qh (T_2.out.up hb)
  have Bc_3 := qh (Bc_2.out.below hb Bc_2.out.lt)
  have D_3 := qh (hoc.rd (by have := Hq.out.2; omega) Hq.out.1)
  have K_3 := qh (own_rdI hco (own_le hco))
  clear hb yBc0 yBc1 B_2 C_2 T_2 Bc_2
  clear hoc hco
  have al := alloc_up v3 (.cells #[.slice A4 m4 c4, .slice A5 m5 c5] 26)
  have B_4 := qh (below_to B_3.out al)
  have C_4 := qh (C_3.out.up al)
  have T_4 := qh (T_3.out.up al)
  have Bc_4 := qh (Bc_3.out.below al Bc_3.out.lt)
  have D_4 := qh (D_3.out.up al)
  have K_4 := qh (K_3.out.up al)
  have hq := Blk.new v3 26 #[.slice A4 m4 c4, .slice A5 m5 c5]
  have Bo_4 := qh hq
  clear al hq B_3 C_3 T_3 Bc_3 D_3 K_3
  have yBc0 := Bc_4.out.cell 0
  have yBc1 := Bc_4.out.cell 1
  have yBo0 := Bo_4.out.cell 0
  have yBo1 := Bo_4.out.cell 1
  simp only [gT, gZ, gS] at yBc0 yBc1 yBo0 yBo1
  go_wp2_with fail
  generalize v3.alloc (.cells #[.slice A4 m4 c4, .slice A5 m5 c5] 26) = z4 at B_4 C_4 T_4 Bc_4 D_4 K_4 Bo_4 yBc0 yBc1 yBo0 yBo1 ⊢
  refine (batchDoS_any A1 A2 At m1 c1 m2 c2 nt ct gv room us ts z4 C_4.out Hs.out.v T_4.out).mono ?_; rintro e v5 ⟨A6, m6, c6, A7, m7, c7, A9, m9, c9, he, hrc, hri, hb⟩
  simp only [Hp.out] at hrc hri
  subst he
  obtain rfl : m6 = m4 := by have := hrc.len; omega
  obtain rfl : m7 = m5 := by have := hrc.len; omega
  obtain rfl : m8 = m9 := by have := hri.len; omega
  have B_5 := qh (below_to B_4.out hb)
  have C_5 := qh (C_4.out.up hb)
  have T_5 := qh (T_4.out.up hb)
  have Bc_5 := qh (Bc_4.out.below hb Bc_4.out.lt)
  have D_5 := qh (D_4.out.up hb)
  have K_5 := qh (K_4.out.up hb)
  have Bo_5 := qh (Bo_4.out.below hb Bo_4.out.lt)
  have E_5 := qh (hrc.rd)
  have L_5 := qh (hri)
  clear hb yBc0 yBc1 yBo0 yBo1 B_4 C_4 T_4 Bc_4 D_4 K_4 Bo_4
  have Hlk := qh hlk
  clear hrc hri hl hl2 hlk
  have al := alloc_up v5 (.cells #[.slice A6 m6 c6, .slice A7 m7 c7] 26)
  have B_6 := qh (below_to B_5.out al)
  have C_6 := qh (C_5.out.up al)
  have T_6 := qh (T_5.out.up al)
  have Bc_6 := qh (Bc_5.out.below al Bc_5.out.lt)
  have D_6 := qh (D_5.out.up al)
  have K_6 := qh (K_5.out.up al)
  have Bo_6 := qh (Bo_5.out.below al Bo_5.out.lt)
  have E_6 := qh (E_5.out.up al)
  have L_6 := qh (L_5.out.up al)
  have hq := Blk.new v5 26 #[.slice A6 m6 c6, .slice A7 m7 c7]
  have Bw_6 := qh hq
  clear al hq B_5 C_5 T_5 Bc_5 D_5 K_5 Bo_5 E_5 L_5
  have yBc0 := Bc_6.out.cell 0
  have yBc1 := Bc_6.out.cell 1
  have yBo0 := Bo_6.out.cell 0
  have yBo1 := Bo_6.out.cell 1
  have yBw0 := Bw_6.out.cell 0
  have yBw1 := Bw_6.out.cell 1
  simp only [gT, gZ, gS] at yBc0 yBc1 yBo0 yBo1 yBw0 yBw1
  go_wp2_with fail
  generalize v5.alloc (.cells #[.slice A6 m6 c6, .slice A7 m7 c7] 26) = z6 at B_6 C_6 T_6 Bc_6 D_6 K_6 Bo_6 E_6 L_6 Bw_6 yBc0 yBc1 yBo0 yBo1 yBw0 yBw1 ⊢
  refine (sameInts_any A8 A9 m8 c8 c9 _ _ _ z6 K_6.out L_6.out).mono ?_; rintro e v7 ⟨rfl, mq, hw⟩
  have hb := drew_below z6 mq
  rw [hw] at hb
  clear hw
  have B_7 := qh (below_to B_6.out hb)
  have C_7 := qh (C_6.out.up hb)
  have T_7 := qh (T_6.out.up hb)
  have Bc_7 := qh (Bc_6.out.below hb Bc_6.out.lt)
  have D_7 := qh (D_6.out.up hb)
  have K_7 := qh (K_6.out.up hb)
  have Bo_7 := qh (Bo_6.out.below hb Bo_6.out.lt)
  have E_7 := qh (E_6.out.up hb)
  have L_7 := qh (L_6.out.up hb)
  have Bw_7 := qh (Bw_6.out.below hb Bw_6.out.lt)
  clear hb yBc0 yBc1 yBo0 yBo1 yBw0 yBw1 B_6 C_6 T_6 Bc_6 D_6 K_6 Bo_6 E_6 L_6 Bw_6
  have yBc0 := Bc_7.out.cell 0
  have yBc1 := Bc_7.out.cell 1
  have yBo0 := Bo_7.out.cell 0
  have yBo1 := Bo_7.out.cell 1
  have yBw0 := Bw_7.out.cell 0
  have yBw1 := Bw_7.out.cell 1
  simp only [gT, gZ, gS] at yBc0 yBc1 yBo0 yBo1 yBw0 yBw1
  go_wp2_with fail
  refine (sameCluster_any A4 A5 A6 A7 m6 c4 m7 c5 c6 c7 _ _ v7 D_7.out E_7.out).mono ?_; rintro e v8 ⟨rfl, hb⟩
  have B_8 := qh (below_to B_7.out hb)
  have C_8 := qh (C_7.out.up hb)
  have T_8 := qh (T_7.out.up hb)
  have Bc_8 := qh (Bc_7.out.below hb Bc_7.out.lt)
  have D_8 := qh (D_7.out.up hb)
  have K_8 := qh (K_7.out.up hb)
  have Bo_8 := qh (Bo_7.out.below hb Bo_7.out.lt)
  have E_8 := qh (E_7.out.up hb)
  have L_8 := qh (L_7.out.up hb)
  have Bw_8 := qh (Bw_7.out.below hb Bw_7.out.lt)
  clear hb yBc0 yBc1 yBo0 yBo1 yBw0 yBw1 B_7 C_7 T_7 Bc_7 D_7 K_7 Bo_7 E_7 L_7 Bw_7
  have yBc0 := Bc_8.out.cell 0
  have yBc1 := Bc_8.out.cell 1
  have yBo0 := Bo_8.out.cell 0
  have yBo1 := Bo_8.out.cell 1
  have yBw0 := Bw_8.out.cell 0
  have yBw1 := Bw_8.out.cell 1
  simp only [gT, gZ, gS] at yBc0 yBc1 yBo0 yBo1 yBw0 yBw1
  go_wp2_with fail
  refine (clusterValidS_any A1 A2 m1 c1 m2 c2 room us v8 C_8.out Hs.out).mono ?_; rintro e v9 ⟨rfl, hb⟩
  have B_9 := qh (below_to B_8.out hb)
  have C_9 := qh (C_8.out.up hb)
  have T_9 := qh (T_8.out.up hb)
  have Bc_9 := qh (Bc_8.out.below hb Bc_8.out.lt)
  have D_9 := qh (D_8.out.up hb)
  have K_9 := qh (K_8.out.up hb)
  have Bo_9 := qh (Bo_8.out.below hb Bo_8.out.lt)
  have E_9 := qh (E_8.out.up hb)
  have L_9 := qh (L_8.out.up hb)
  have Bw_9 := qh (Bw_8.out.below hb Bw_8.out.lt)
  clear hb yBc0 yBc1 yBo0 yBo1 yBw0 yBw1 B_8 C_8 T_8 Bc_8 D_8 K_8 Bo_8 E_8 L_8 Bw_8
  cases hok : clOk room us with
  | false =>
    have yBc0 := Bc_9.out.cell 0
    have yBc1 := Bc_9.out.cell 1
    have yBo0 := Bo_9.out.cell 0
    have yBo1 := Bo_9.out.cell 1
    have yBw0 := Bw_9.out.cell 0
    have yBw1 := Bw_9.out.cell 1
    simp only [gT, gZ, gS] at yBc0 yBc1 yBo0 yBo1 yBw0 yBw1
    go_wp2_with fail
    refine (sameInts_any A8 A9 m8 c8 c9 _ _ _ v9 K_9.out L_9.out).mono ?_; rintro e v10 ⟨rfl, mq, hw⟩
    have hb := drew_below v9 mq
    rw [hw] at hb
    clear hw
    have B_10 := qh (below_to B_9.out hb)
    have C_10 := qh (C_9.out.up hb)
    have T_10 := qh (T_9.out.up hb)
    have Bc_10 := qh (Bc_9.out.below hb Bc_9.out.lt)
    have D_10 := qh (D_9.out.up hb)
    have K_10 := qh (K_9.out.up hb)
    have Bo_10 := qh (Bo_9.out.below hb Bo_9.out.lt)
    have E_10 := qh (E_9.out.up hb)
    have L_10 := qh (L_9.out.up hb)
    have Bw_10 := qh (Bw_9.out.below hb Bw_9.out.lt)
    clear hb yBc0 yBc1 yBo0 yBo1 yBw0 yBw1 B_9 C_9 T_9 Bc_9 D_9 K_9 Bo_9 E_9 L_9 Bw_9
    have yBc0 := Bc_10.out.cell 0
    have yBc1 := Bc_10.out.cell 1
    have yBo0 := Bo_10.out.cell 0
    have yBo1 := Bo_10.out.cell 1
    have yBw0 := Bw_10.out.cell 0
    have yBw1 := Bw_10.out.cell 1
    simp only [gT, gZ, gS] at yBc0 yBc1 yBo0 yBo1 yBw0 yBw1
    go_wp2_with fail
    refine (sameCluster_any A4 A5 A6 A7 m6 c4 m7 c5 c6 c7 _ _ v10 D_10.out E_10.out).mono ?_; rintro e v11 ⟨rfl, hb⟩
    have B_11 := qh (below_to B_10.out hb)
    have C_11 := qh (C_10.out.up hb)
    have T_11 := qh (T_10.out.up hb)
    have Bc_11 := qh (Bc_10.out.below hb Bc_10.out.lt)
    have D_11 := qh (D_10.out.up hb)
    have K_11 := qh (K_10.out.up hb)
    have Bo_11 := qh (Bo_10.out.below hb Bo_10.out.lt)
    have E_11 := qh (E_10.out.up hb)
    have L_11 := qh (L_10.out.up hb)
    have Bw_11 := qh (Bw_10.out.below hb Bw_10.out.lt)
    clear hb yBc0 yBc1 yBo0 yBo1 yBw0 yBw1 B_10 C_10 T_10 Bc_10 D_10 K_10 Bo_10 E_10 L_10 Bw_10
    have yBc0 := Bc_11.out.cell 0
    have yBc1 := Bc_11.out.cell 1
    have yBo0 := Bo_11.out.cell 0
    have yBo1 := Bo_11.out.cell 1
    have yBw0 := Bw_11.out.cell 0
    have yBw1 := Bw_11.out.cell 1
    simp only [gT, gZ, gS] at yBc0 yBc1 yBo0 yBo1 yBw0 yBw1
    go_wp2_with fail
    go_ret
    exact ⟨rfl, B_11.out⟩
  | true =>
    have Hok := qh hok
    clear hok
    have yBc0 := Bc_9.out.cell 0
    have yBc1 := Bc_9.out.cell 1
    have yBo0 := Bo_9.out.cell 0
    have yBo1 := Bo_9.out.cell 1
    have yBw0 := Bw_9.out.cell 0
    have yBw1 := Bw_9.out.cell 1
    simp only [gT, gZ, gS] at yBc0 yBc1 yBo0 yBo1 yBw0 yBw1
    go_wp2_with fail
    refine (tasksValidS_any A1 At m1 c1 nt ct room ts v9 C_9.out.a T_9.out).mono ?_; rintro e v10 ⟨rfl, mq, hw⟩
    have hb := drew_below v9 mq
    rw [hw] at hb
    clear hw
    have B_10 := qh (below_to B_9.out hb)
    have C_10 := qh (C_9.out.up hb)
    have T_10 := qh (T_9.out.up hb)
    have Bc_10 := qh (Bc_9.out.below hb Bc_9.out.lt)
    have D_10 := qh (D_9.out.up hb)
    have K_10 := qh (K_9.out.up hb)
    have Bo_10 := qh (Bo_9.out.below hb Bo_9.out.lt)
    have E_10 := qh (E_9.out.up hb)
    have L_10 := qh (L_9.out.up hb)
    have Bw_10 := qh (Bw_9.out.below hb Bw_9.out.lt)
    clear hb yBc0 yBc1 yBo0 yBo1 yBw0 yBw1 B_9 C_9 T_9 Bc_9 D_9 K_9 Bo_9 E_9 L_9 Bw_9
    cases htk : tasksOk room ts with
    | false =>
      have yBc0 := Bc_10.out.cell 0
      have yBc1 := Bc_10.out.cell 1
      have yBo0 := Bo_10.out.cell 0
      have yBo1 := Bo_10.out.cell 1
      have yBw0 := Bw_10.out.cell 0
      have yBw1 := Bw_10.out.cell 1
      simp only [gT, gZ, gS] at yBc0 yBc1 yBo0 yBo1 yBw0 yBw1
      go_wp2_with fail
      refine (sameInts_any A8 A9 m8 c8 c9 _ _ _ v10 K_10.out L_10.out).mono ?_; rintro e v11 ⟨rfl, mq, hw⟩
      have hb := drew_below v10 mq
      rw [hw] at hb
      clear hw
      have B_11 := qh (below_to B_10.out hb)
      have C_11 := qh (C_10.out.up hb)
      have T_11 := qh (T_10.out.up hb)
      have Bc_11 := qh (Bc_10.out.below hb Bc_10.out.lt)
      have D_11 := qh (D_10.out.up hb)
      have K_11 := qh (K_10.out.up hb)
      have Bo_11 := qh (Bo_10.out.below hb Bo_10.out.lt)
      have E_11 := qh (E_10.out.up hb)
      have L_11 := qh (L_10.out.up hb)
      have Bw_11 := qh (Bw_10.out.below hb Bw_10.out.lt)
      clear hb yBc0 yBc1 yBo0 yBo1 yBw0 yBw1 B_10 C_10 T_10 Bc_10 D_10 K_10 Bo_10 E_10 L_10 Bw_10
      have yBc0 := Bc_11.out.cell 0
      have yBc1 := Bc_11.out.cell 1
      have yBo0 := Bo_11.out.cell 0
      have yBo1 := Bo_11.out.cell 1
      have yBw0 := Bw_11.out.cell 0
      have yBw1 := Bw_11.out.cell 1
      simp only [gT, gZ, gS] at yBc0 yBc1 yBo0 yBo1 yBw0 yBw1
      go_wp2_with fail
      refine (sameCluster_any A4 A5 A6 A7 m6 c4 m7 c5 c6 c7 _ _ v11 D_11.out E_11.out).mono ?_; rintro e v12 ⟨rfl, hb⟩
      have B_12 := qh (below_to B_11.out hb)
      have C_12 := qh (C_11.out.up hb)
      have T_12 := qh (T_11.out.up hb)
      have Bc_12 := qh (Bc_11.out.below hb Bc_11.out.lt)
      have D_12 := qh (D_11.out.up hb)
      have K_12 := qh (K_11.out.up hb)
      have Bo_12 := qh (Bo_11.out.below hb Bo_11.out.lt)
      have E_12 := qh (E_11.out.up hb)
      have L_12 := qh (L_11.out.up hb)
      have Bw_12 := qh (Bw_11.out.below hb Bw_11.out.lt)
      clear hb yBc0 yBc1 yBo0 yBo1 yBw0 yBw1 B_11 C_11 T_11 Bc_11 D_11 K_11 Bo_11 E_11 L_11 Bw_11
      have yBc0 := Bc_12.out.cell 0
      have yBc1 := Bc_12.out.cell 1
      have yBo0 := Bo_12.out.cell 0
      have yBo1 := Bo_12.out.cell 1
      have yBw0 := Bw_12.out.cell 0
      have yBw1 := Bw_12.out.cell 1
      simp only [gT, gZ, gS] at yBc0 yBc1 yBo0 yBo1 yBw0 yBw1
      go_wp2_with fail
      go_ret
      exact ⟨rfl, B_12.out⟩
    | true =>
      have Htk := qh htk
      clear htk
      by_cases h0 : gv < 0
      · have q0 : gv < 0 := h0
        have yBc0 := Bc_10.out.cell 0
        have yBc1 := Bc_10.out.cell 1
        have yBo0 := Bo_10.out.cell 0
        have yBo1 := Bo_10.out.cell 1
        have yBw0 := Bw_10.out.cell 0
        have yBw1 := Bw_10.out.cell 1
        simp only [gT, gZ, gS] at yBc0 yBc1 yBo0 yBo1 yBw0 yBw1
        go_wp2_with fail
        refine (sameInts_any A8 A9 m8 c8 c9 _ _ _ v10 K_10.out L_10.out).mono ?_; rintro e v11 ⟨rfl, mq, hw⟩
        have hb := drew_below v10 mq
        rw [hw] at hb
        clear hw
        have B_11 := qh (below_to B_10.out hb)
        have C_11 := qh (C_10.out.up hb)
        have T_11 := qh (T_10.out.up hb)
        have Bc_11 := qh (Bc_10.out.below hb Bc_10.out.lt)
        have D_11 := qh (D_10.out.up hb)
        have K_11 := qh (K_10.out.up hb)
        have Bo_11 := qh (Bo_10.out.below hb Bo_10.out.lt)
        have E_11 := qh (E_10.out.up hb)
        have L_11 := qh (L_10.out.up hb)
        have Bw_11 := qh (Bw_10.out.below hb Bw_10.out.lt)
        clear hb yBc0 yBc1 yBo0 yBo1 yBw0 yBw1 B_10 C_10 T_10 Bc_10 D_10 K_10 Bo_10 E_10 L_10 Bw_10
        have yBc0 := Bc_11.out.cell 0
        have yBc1 := Bc_11.out.cell 1
        have yBo0 := Bo_11.out.cell 0
        have yBo1 := Bo_11.out.cell 1
        have yBw0 := Bw_11.out.cell 0
        have yBw1 := Bw_11.out.cell 1
        simp only [gT, gZ, gS] at yBc0 yBc1 yBo0 yBo1 yBw0 yBw1
        go_wp2_with fail
        refine (sameCluster_any A4 A5 A6 A7 m6 c4 m7 c5 c6 c7 _ _ v11 D_11.out E_11.out).mono ?_; rintro e v12 ⟨rfl, hb⟩
        have B_12 := qh (below_to B_11.out hb)
        have C_12 := qh (C_11.out.up hb)
        have T_12 := qh (T_11.out.up hb)
        have Bc_12 := qh (Bc_11.out.below hb Bc_11.out.lt)
        have D_12 := qh (D_11.out.up hb)
        have K_12 := qh (K_11.out.up hb)
        have Bo_12 := qh (Bo_11.out.below hb Bo_11.out.lt)
        have E_12 := qh (E_11.out.up hb)
        have L_12 := qh (L_11.out.up hb)
        have Bw_12 := qh (Bw_11.out.below hb Bw_11.out.lt)
        clear hb yBc0 yBc1 yBo0 yBo1 yBw0 yBw1 B_11 C_11 T_11 Bc_11 D_11 K_11 Bo_11 E_11 L_11 Bw_11
        have yBc0 := Bc_12.out.cell 0
        have yBc1 := Bc_12.out.cell 1
        have yBo0 := Bo_12.out.cell 0
        have yBo1 := Bo_12.out.cell 1
        have yBw0 := Bw_12.out.cell 0
        have yBw1 := Bw_12.out.cell 1
        simp only [gT, gZ, gS] at yBc0 yBc1 yBo0 yBo1 yBw0 yBw1
        go_wp2_with fail
        go_ret
        exact ⟨rfl, B_12.out⟩
      by_cases h1 : 10 < gv
      · have q1 : 10 < gv := h1
        have yBc0 := Bc_10.out.cell 0
        have yBc1 := Bc_10.out.cell 1
        have yBo0 := Bo_10.out.cell 0
        have yBo1 := Bo_10.out.cell 1
        have yBw0 := Bw_10.out.cell 0
        have yBw1 := Bw_10.out.cell 1
        simp only [gT, gZ, gS] at yBc0 yBc1 yBo0 yBo1 yBw0 yBw1
        go_wp2_with fail
        refine (sameInts_any A8 A9 m8 c8 c9 _ _ _ v10 K_10.out L_10.out).mono ?_; rintro e v11 ⟨rfl, mq, hw⟩
        have hb := drew_below v10 mq
        rw [hw] at hb
        clear hw
        have B_11 := qh (below_to B_10.out hb)
        have C_11 := qh (C_10.out.up hb)
        have T_11 := qh (T_10.out.up hb)
        have Bc_11 := qh (Bc_10.out.below hb Bc_10.out.lt)
        have D_11 := qh (D_10.out.up hb)
        have K_11 := qh (K_10.out.up hb)
        have Bo_11 := qh (Bo_10.out.below hb Bo_10.out.lt)
        have E_11 := qh (E_10.out.up hb)
        have L_11 := qh (L_10.out.up hb)
        have Bw_11 := qh (Bw_10.out.below hb Bw_10.out.lt)
        clear hb yBc0 yBc1 yBo0 yBo1 yBw0 yBw1 B_10 C_10 T_10 Bc_10 D_10 K_10 Bo_10 E_10 L_10 Bw_10
        have yBc0 := Bc_11.out.cell 0
        have yBc1 := Bc_11.out.cell 1
        have yBo0 := Bo_11.out.cell 0
        have yBo1 := Bo_11.out.cell 1
        have yBw0 := Bw_11.out.cell 0
        have yBw1 := Bw_11.out.cell 1
        simp only [gT, gZ, gS] at yBc0 yBc1 yBo0 yBo1 yBw0 yBw1
        go_wp2_with fail
        refine (sameCluster_any A4 A5 A6 A7 m6 c4 m7 c5 c6 c7 _ _ v11 D_11.out E_11.out).mono ?_; rintro e v12 ⟨rfl, hb⟩
        have B_12 := qh (below_to B_11.out hb)
        have C_12 := qh (C_11.out.up hb)
        have T_12 := qh (T_11.out.up hb)
        have Bc_12 := qh (Bc_11.out.below hb Bc_11.out.lt)
        have D_12 := qh (D_11.out.up hb)
        have K_12 := qh (K_11.out.up hb)
        have Bo_12 := qh (Bo_11.out.below hb Bo_11.out.lt)
        have E_12 := qh (E_11.out.up hb)
        have L_12 := qh (L_11.out.up hb)
        have Bw_12 := qh (Bw_11.out.below hb Bw_11.out.lt)
        clear hb yBc0 yBc1 yBo0 yBo1 yBw0 yBw1 B_11 C_11 T_11 Bc_11 D_11 K_11 Bo_11 E_11 L_11 Bw_11
        have yBc0 := Bc_12.out.cell 0
        have yBc1 := Bc_12.out.cell 1
        have yBo0 := Bo_12.out.cell 0
        have yBo1 := Bo_12.out.cell 1
        have yBw0 := Bw_12.out.cell 0
        have yBw1 := Bw_12.out.cell 1
        simp only [gT, gZ, gS] at yBc0 yBc1 yBo0 yBo1 yBw0 yBw1
        go_wp2_with fail
        go_ret
        exact ⟨rfl, B_12.out⟩
      have HG := qh (show 0 ≤ gv ∧ gv ≤ 10 by omega)
      have O0 := qh (show (v10.alloc (.cells #[] 43)).ownsRow v10.heap.size 43 2 (.slice (some ⟨v10.heap.size, 0, none⟩) 0 0) 0 [] from World.ownsRow_made v10 #[] 0 (Nat.le_refl _) (by unfold maxLen; omega) rfl)
      have A0 := qh (alloc_up v10 (.cells #[] 43))
      have wv : IntKind.i64.wrap ((nt : Int) - 1) = (nt : Int) - 1 := wr64 (by omega) (by omega)
      go_wp2_with fail
      clear wv
      go_loopw [10, 11] (fun v i wr => ∃ (k m cc : Nat) (Ab : Option Addr) (vs : List Value), i = .int .i64 ((k : Int) - 1) ∧ k ≤ nt ∧ v = .slice Ab m cc ∧ m + k = nt ∧ Below v10.heap.size v10 wr ∧ wr.ownsRow v10.heap.size 43 2 (.slice Ab m cc) m vs ∧ TkCells v10 v10.heap.size vs ((ts.drop k).reverse)) (fun _ i _ => (intOf i + 1).toNat)
      case atStart => exact ⟨nt, 0, 0, some ⟨v10.heap.size, 0, none⟩, [], rfl, Nat.le_refl _, rfl, by omega, A0.out, O0.out, by rw [List.drop_of_length_le (by have := Hlt.out; omega)]; exact TkCells.nil⟩
      case round =>
        clear A0 O0
        obtain ⟨k, m, cc, Ab, vs, rfl, hk, rfl, hmk, hbel, hown, hcs⟩ := hrel
        have Hb := qh hbel
        have Hown := qh hown
        have Hcs := qh hcs
        have lz := hbel.size
        clear hbel hown hcs
        by_cases hk0 : 0 < k
        · obtain ⟨j, rfl⟩ : ∃ j, k = j + 1 := ⟨k - 1, by omega⟩
          obtain ⟨bt, ot, Ax, mx, cx, rfl, lt, ht0, ht1, hcx, hrx⟩ := (T_10.out).at_ (k := j) (by omega)
          have hst := rev_drop (ts := ts) (j := j) (by have := Hlt.out; omega)
          generalize ts[j]?.getD (0, []) = tj at *
          obtain ⟨tid, txs⟩ := tj
          dsimp only at ht0 hrx
          have yt0 := (Hb.out.cell (p := ⟨bt, ot + j * 2, none⟩) lt).trans ht0
          have yt1 := (Hb.out.cell (p := ⟨bt, ot + j * 2 + 1, none⟩) lt).trans ht1
          have Cs2 := qh (show TkCells v10 v10.heap.size (vs ++ [.int .i64 tid, .slice Ax mx cx]) ((ts.drop j).reverse) from by rw [← hst]; exact Hcs.out.append (TkCells.single hrx hcx))
          have one2 := (TkCells.single (id := tid) hrx hcx).one
          have One2 := qh one2
          clear ht0 ht1 hst hrx one2
          have ej : ((j + 1 : Nat) : Int) - 1 = (j : Int) := by omega
          rw [ej]
          clear ej
          have j0 : (0 : Int) ≤ (j : Int) := by omega
          have j1 : (j : Int) < (nt : Int) := by omega
          have j2 : 0 ≤ (j : Int) * 2 := by omega
          have wv : IntKind.i64.wrap ((j : Int) - 1) = (j : Int) - 1 := wr64 (by omega) (by omega)
          go_wp2_with (at_builtin; go_loud (refine wpList_append_src _ rfl _ _ 27 rfl v10.heap.size 43 i0 _ 2 32 Tryz.underlying27 hi0 hz0 hz1 hz2 rfl (by omega) (.slice Ab m cc) m vs rfl (own_alloc Hown.out _) (some ⟨wr.heap.size, 0, none⟩) 1 1 [.int .i64 tid, .slice Ax mx cx] rfl (own_src (own_built (w := wr) (base := v10.heap.size) 43 _ _ (by omega))) One2.out (by unfold maxLen; omega) (by omega) (by simp; omega) ?_; intro v5 w5 hown5 hgrow hrow))
          obtain ⟨A5b, c5b, rfl⟩ := own_shape hown5
          have B5 := qh ((Hb.out.alloc Hb.out.size (.cells #[.int .i64 tid, .slice Ax mx cx] 43)).grown hgrow (by simp; omega) (fun q e => (Hown.out.lt q e).1))
          have O5 := qh hown5
          clear hown5 hgrow hrow Hown Hcs Hb
          go_roundw
          case measure => simp [intOf] <;> omega
          case rel => exact ⟨j, m + 1, c5b, A5b, _, rfl, by omega, rfl, by omega, B5.out, O5.out, Cs2.out⟩
        · obtain rfl : k = 0 := by omega
          obtain rfl : m = nt := by omega
          have e0 : ((0 : Nat) : Int) - 1 = -1 := rfl
          rw [e0]
          clear e0
          rw [List.drop_zero] at Hcs
          have RT := qh (RdT.of_own Hown.out (Hcs.out.below Hb.out) lz (by omega))
          have B_95 := qh (below_to B_10.out Hb.out)
          have C_95 := qh (C_10.out.up Hb.out)
          have D_95 := qh (D_10.out.up Hb.out)
          have Bo_95 := qh (Bo_10.out.below Hb.out Bo_10.out.lt)
          have Bc_95 := qh (Bc_10.out.below Hb.out Bc_10.out.lt)
          clear Hown Hcs
          have ht := bat_turn (room := room) (us := us) (g := gv) Htk.out
          rw [Hp.out] at ht
          dsimp only at ht
          have Ht := qh ht
          clear ht
          have yBo0 := Bo_95.out.cell 0
          have yBo1 := Bo_95.out.cell 1
          have yBc0 := Bc_95.out.cell 0
          have yBc1 := Bc_95.out.cell 1
          simp only [gT, gZ, gS] at yBo0 yBo1 yBc0 yBc1
          go_wp2_with fail
          refine (batchDoI_any A1 A2 Ab m1 c1 m2 c2 m cc gv room us ts.reverse wr C_95.out Hs.out.v RT.out).mono ?_; rintro e v96 ⟨A10, m10, c10, A11, m11, c11, A12, m12, c12, hi, he, hoc, hco, hb, _, _, _⟩
          rw [Ht.out.1, Ht.out.2] at hoc
          subst he
          obtain rfl : m6 = m10 := by have := (D_95.out).a.len; have := hoc.len; omega
          obtain rfl : m7 = m11 := by have := (D_95.out).b.len; have := hoc.lenU; omega
          have B_96 := qh (below_to B_95.out hb)
          have C_96 := qh (C_95.out.up hb)
          have D_96 := qh (D_95.out.up hb)
          have Bo_96 := qh (Bo_95.out.below hb Bo_95.out.lt)
          have Bc_96 := qh (Bc_95.out.below hb Bc_95.out.lt)
          have X_96 := qh (hoc.rd (by have := Hq.out.2; have := hoc.len; omega) Hq.out.1)
          clear hb yBo0 yBo1 yBc0 yBc1 B_95 C_95 D_95 Bo_95 Bc_95
          clear hoc hco
          have al := alloc_up v96 (.cells #[.slice A10 m6 c10, .slice A11 m7 c11] 26)
          have B_97 := qh (below_to B_96.out al)
          have C_97 := qh (C_96.out.up al)
          have D_97 := qh (D_96.out.up al)
          have Bo_97 := qh (Bo_96.out.below al Bo_96.out.lt)
          have Bc_97 := qh (Bc_96.out.below al Bc_96.out.lt)
          have X_97 := qh (X_96.out.up al)
          have hq := Blk.new v96 26 #[.slice A10 m6 c10, .slice A11 m7 c11]
          have Bx_97 := qh hq
          clear al hq B_96 C_96 D_96 Bo_96 Bc_96 X_96
          have yBo0 := Bo_97.out.cell 0
          have yBo1 := Bo_97.out.cell 1
          have yBc0 := Bc_97.out.cell 0
          have yBc1 := Bc_97.out.cell 1
          have yBx0 := Bx_97.out.cell 0
          have yBx1 := Bx_97.out.cell 1
          simp only [gT, gZ, gS] at yBo0 yBo1 yBc0 yBc1 yBx0 yBx1
          go_wp2_with fail
          generalize v96.alloc (.cells #[.slice A10 m6 c10, .slice A11 m7 c11] 26) = z97 at B_97 C_97 D_97 Bo_97 Bc_97 X_97 Bx_97 yBo0 yBo1 yBc0 yBc1 yBx0 yBx1 ⊢
          refine (sameCluster_any A10 A11 A4 A5 m6 c10 m7 c11 c4 c5 _ _ z97 X_97.out D_97.out).mono ?_; rintro e v98 ⟨rfl, hb⟩
          have B_98 := qh (below_to B_97.out hb)
          have C_98 := qh (C_97.out.up hb)
          have D_98 := qh (D_97.out.up hb)
          have Bo_98 := qh (Bo_97.out.below hb Bo_97.out.lt)
          have Bc_98 := qh (Bc_97.out.below hb Bc_97.out.lt)
          have X_98 := qh (X_97.out.up hb)
          have Bx_98 := qh (Bx_97.out.below hb Bx_97.out.lt)
          clear hb yBo0 yBo1 yBc0 yBc1 yBx0 yBx1 B_97 C_97 D_97 Bo_97 Bc_97 X_97 Bx_97
          have yBo0 := Bo_98.out.cell 0
          have yBo1 := Bo_98.out.cell 1
          have yBc0 := Bc_98.out.cell 0
          have yBc1 := Bc_98.out.cell 1
          have yBx0 := Bx_98.out.cell 0
          have yBx1 := Bx_98.out.cell 1
          simp only [gT, gZ, gS] at yBo0 yBo1 yBc0 yBc1 yBx0 yBx1
          go_wp2_with fail
          go_ret
          exact ⟨rfl, B_98.out⟩
end Go.Proofs.YtjjnbbkdjimcoaaGreat
