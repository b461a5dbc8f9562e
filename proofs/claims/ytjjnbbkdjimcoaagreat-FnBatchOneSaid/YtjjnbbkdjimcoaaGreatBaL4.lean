/- Walk: the law FnBatchOne. (Printed by gen_balaws.py.) -/
import Derived.Test.YtjjnbbkdjimcoaaGreatDrawBa
import Derived.Test.YtjjnbbkdjimcoaaGreatJ14
import Derived.Test.YtjjnbbkdjimcoaaGreatBaKit
import Derived.Test.YtjjnbbkdjimcoaaGreatBatchU
import Derived.Test.YtjjnbbkdjimcoaaGreatBatchE
import Derived.Test.YtjjnbbkdjimcoaaGreatRqRows
import Derived.Test.YtjjnbbkdjimcoaaGreatBatchD
namespace Go.Proofs.YtjjnbbkdjimcoaaGreat
set_option linter.unusedVariables false
open Go Go.RowKit
attribute [local go_sem ↓] Go.wp_at_zero Go.wp_at_succ

set_option maxRecDepth 100000 in
set_option maxHeartbeats 6400000 in
theorem batchOne_walk (A A' : Option Addr) (n c n' c' : Nat) (w : World) (h : RdU w w.heap.size A n) (hc : n ≤ c) (hcm : c ≤ 9223372036854775807) :
    Calls Tryz.prog 4 #[.slice A n c, .slice A' n' c'] w fun e w' => e = .returned (.bool true) ∧ Below w.heap.size w w' := by
  by_cases kn : 1048576 < n
  · go_enter Tryz.func4, Tryz.ntmps4
    go_wp2
    go_ret
    exact ⟨rfl, Below.refl _ _⟩
  by_cases km : 1048576 < n'
  · go_enter Tryz.func4, Tryz.ntmps4
    go_wp2
    go_ret
    exact ⟨rfl, Below.refl _ _⟩
  go_enter Tryz.func4, Tryz.ntmps4
  go_wp2_with fail
  refine (drawBatchDo_any A n c w h hc hcm).mono ?_; rintro e v1 ⟨A1, m1, c1, A2, m2, c2, room, us, At, nt, ct, ts, gv, rfl, hcr, hs, hm1, hc1, hc2, ht, hnt, hct, hb⟩
  have B_1 := qh (hb)
  have C_1 := qh (hcr)
  have T_1 := qh (ht)
  clear hb
  have hlt := ht.len
  clear hcr ht h
  have Hs := qh hs
  have Hlt := qh hlt
  clear hs hlt
  have al := alloc_up v1 (.cells #[.slice A1 m1 c1, .slice A2 m2 c2] 26)
  have B_2 := qh (below_to B_1.out al)
  have C_2 := qh (C_1.out.up al)
  have T_2 := qh (T_1.out.up al)
  have hq := Blk.new v1 26 #[.slice A1 m1 c1, .slice A2 m2 c2]
  have Bc_2 := qh hq
  clear al hq B_1 C_1 T_1
  obtain ⟨ro, uo, co, hp⟩ : ∃ ro uo co, batP room us ts gv = (ro, uo, co) := ⟨_, _, _, rfl⟩
  have hq := bat_sh (room := room) (us := us) (ts := ts) (g := gv)
  rw [hp] at hq
  dsimp only at hq
  have Hp := qh hp
  have Hq := qh hq
  clear hp hq
  have yBc0 := Bc_2.out.cell 0
  have yBc1 := Bc_2.out.cell 1
  simp only [gT, gZ, gS] at yBc0 yBc1
  go_wp2_with fail
  generalize v1.alloc (.cells #[.slice A1 m1 c1, .slice A2 m2 c2] 26) = z2 at B_2 C_2 T_2 Bc_2 yBc0 yBc1 ⊢
  refine (batchDoI_any A1 A2 At m1 c1 m2 c2 nt ct gv room us ts z2 C_2.out Hs.out.v T_2.out).mono ?_; rintro e v3 ⟨A4, m4, c4, A5, m5, c5, A8, m8, c8, hi, he, hoc, hco, hb, _, _, _⟩
  simp only [Hp.out] at hoc hco
  subst he
  have hl := hoc.len
  have hl2 := hoc.lenU
  have hlk := own_len hco
  have B_3 := qh (below_to B_2.out hb)
  have C_3 := qh (C_2.out.up hb)
  have T_3 := qh (T_2.out.up hb)
  have Bc_3 := qh (Bc_2.out.below hb Bc_2.out.lt)
  have D_3 := qh (hoc.rd (by have := Hq.out.2; omega) Hq.out.1)
  have K_3 := qh (own_rdI hco (own_le hco))
  clear hb yBc0 yBc1 B_2 C_2 T_2 Bc_2
  clear hoc hco
  have al := alloc_up v3 (.cells #[.slice A4 m4 c4, .slice A5 m5 c5] 26)
  have B_4 := qh (below_to B_3.out al)
  have C_4 := qh (C_3.out.up al)
  have T_4 := qh (T_3.out.up al)
  have Bc_4 := qh (Bc_3.out.below al Bc_3.out.lt)
  have D_4 := qh (D_3.out.up al)
  have K_4 := qh (K_3.out.up al)
  have hq := Blk.new v3 26 #[.slice A4 m4 c4, .slice A5 m5 c5]
  have Bo_4 := qh hq
  clear al hq B_3 C_3 T_3 Bc_3 D_3 K_3
  have yBc0 := Bc_4.out.cell 0
  have yBc1 := Bc_4.out.cell 1
  have yBo0 := Bo_4.out.cell 0
  have yBo1 := Bo_4.out.cell 1
  simp only [gT, gZ, gS] at yBc0 yBc1 yBo0 yBo1
  go_wp2_with fail
  generalize v3.alloc (.cells #[.slice A4 m4 c4, .slice A5 m5 c5] 26) = z4 at B_4 C_4 T_4 Bc_4 D_4 K_4 Bo_4 yBc0 yBc1 yBo0 yBo1 ⊢
  refine (batchDoS_any A1 A2 At m1 c1 m2 c2 nt ct gv room us ts z4 C_4.out Hs.out.v T_4.out).mono ?_; rintro e v5 ⟨A6, m6, c6, A7, m7, c7, A9, m9, c9, he, hrc, hri, hb⟩
  simp only [Hp.out] at hrc hri
  subst he
  obtain rfl : m6 = m4 := by have := hrc.len; omega
  obtain rfl : m7 = m5 := by have := hrc.len; omega
  obtain rfl : m8 = m9 := by have := hri.len; omega
  have B_5 := qh (below_to B_4.out hb)
  have C_5 := qh (C_4.out.up hb)
  have T_5 := qh (T_4.out.up hb)
  have Bc_5 := qh (Bc_4.out.below hb Bc_4.out.lt)
  have D_5 := qh (D_4.out.up hb)
  have K_5 := qh (K_4.out.up hb)
  have Bo_5 := qh (Bo_4.out.below hb Bo_4.out.lt)
  have E_5 := qh (hrc.rd)
  have L_5 := qh (hri)
  clear hb yBc0 yBc1 yBo0 yBo1 B_4 C_4 T_4 Bc_4 D_4 K_4 Bo_4
  have Hlk := qh hlk
  clear hrc hri hl hl2 hlk
  have al := alloc_up v5 (.cells #[.slice A6 m6 c6, .slice A7 m7 c7] 26)
  have B_6 := qh (below_to B_5.out al)
  have C_6 := qh (C_5.out.up al)
  have T_6 := qh (T_5.out.up al)
  have Bc_6 := qh (Bc_5.out.below al Bc_5.out.lt)
  have D_6 := qh (D_5.out.up al)
  have K_6 := qh (K_5.out.up al)
  have Bo_6 := qh (Bo_5.out.below al Bo_5.out.lt)
  have E_6 := qh (E_5.out.up al)
  have L_6 := qh (L_5.out.up al)
  have hq := Blk.new v5 26 #[.slice A6 m6 c6, .slice A7 m7 c7]
  have Bw_6 := qh hq
  clear al hq B_5 C_5 T_5 Bc_5 D_5 K_5 Bo_5 E_5 L_5
  have yBc0 := Bc_6.out.cell 0
  have yBc1 := Bc_6.out.cell 1
  have yBo0 := Bo_6.out.cell 0
  have yBo1 := Bo_6.out.cell 1
  have yBw0 := Bw_6.out.cell 0
  have yBw1 := Bw_6.out.cell 1
  simp only [gT, gZ, gS] at yBc0 yBc1 yBo0 yBo1 yBw0 yBw1
  go_wp2_with fail
  generalize v5.alloc (.cells #[.slice A6 m6 c6, .slice A7 m7 c7] 26) = z6 at B_6 C_6 T_6 Bc_6 D_6 K_6 Bo_6 E_6 L_6 Bw_6 yBc0 yBc1 yBo0 yBo1 yBw0 yBw1 ⊢
  refine (sameInts_any A8 A9 m8 c8 c9 _ _ _ z6 K_6.out L_6.out).mono ?_; rintro e v7 ⟨rfl, mq, hw⟩
  have hb := drew_below z6 mq
  rw [hw] at hb
  clear hw
  have B_7 := qh (below_to B_6.out hb)
  have C_7 := qh (C_6.out.up hb)
  have T_7 := qh (T_6.out.up hb)
  have Bc_7 := qh (Bc_6.out.below hb Bc_6.out.lt)
  have D_7 := qh (D_6.out.up hb)
  have K_7 := qh (K_6.out.up hb)
  have Bo_7 := qh (Bo_6.out.below hb Bo_6.out.lt)
  have E_7 := qh (E_6.out.up hb)
  have L_7 := qh (L_6.out.up hb)
  have Bw_7 := qh (Bw_6.out.below hb Bw_6.out.lt)
  clear hb yBc0 yBc1 yBo0 yBo1 yBw0 yBw1 B_6 C_6 T_6 Bc_6 D_6 K_6 Bo_6 E_6 L_6 Bw_6
  have yBc0 := Bc_7.out.cell 0
  have yBc1 := Bc_7.out.cell 1
  have yBo0 := Bo_7.out.cell 0
  have yBo1 := Bo_7.out.cell 1
  have yBw0 := Bw_7.out.cell 0
  have yBw1 := Bw_7.out.cell 1
  simp only [gT, gZ, gS] at yBc0 yBc1 yBo0 yBo1 yBw0 yBw1
  go_wp2_with fail
  refine (sameCluster_any A4 A5 A6 A7 m6 c4 m7 c5 c6 c7 _ _ v7 D_7.out E_7.out).mono ?_; rintro e v8 ⟨rfl, hb⟩
  have B_8 := qh (below_to B_7.out hb)
  have C_8 := qh (C_7.out.up hb)
  have T_8 := qh (T_7.out.up hb)
  have Bc_8 := qh (Bc_7.out.below hb Bc_7.out.lt)
  have D_8 := qh (D_7.out.up hb)
  have K_8 := qh (K_7.out.up hb)
  have Bo_8 := qh (Bo_7.out.below hb Bo_7.out.lt)
  have E_8 := qh (E_7.out.up hb)
  have L_8 := qh (L_7.out.up hb)
  have Bw_8 := qh (Bw_7.out.below hb Bw_7.out.lt)
  clear hb yBc0 yBc1 yBo0 yBo1 yBw0 yBw1 B_7 C_7 T_7 Bc_7 D_7 K_7 Bo_7 E_7 L_7 Bw_7
  have yBc0 := Bc_8.out.cell 0
  have yBc1 := Bc_8.out.cell 1
  have yBo0 := Bo_8.out.cell 0
  have yBo1 := Bo_8.out.cell 1
  have yBw0 := Bw_8.out.cell 0
  have yBw1 := Bw_8.out.cell 1
  simp only [gT, gZ, gS] at yBc0 yBc1 yBo0 yBo1 yBw0 yBw1
  go_wp2_with fail
  refine (clusterValidS_any A1 A2 m1 c1 m2 c2 room us v8 C_8.out Hs.out).mono ?_; rintro e v9 ⟨rfl, hb⟩
  have B_9 := qh (below_to B_8.out hb)
  have C_9 := qh (C_8.out.up hb)
  have T_9 := qh (T_8.out.up hb)
  have Bc_9 := qh (Bc_8.out.below hb Bc_8.out.lt)
  have D_9 := qh (D_8.out.up hb)
  have K_9 := qh (K_8.out.up hb)
  have Bo_9 := qh (Bo_8.out.below hb Bo_8.out.lt)
  have E_9 := qh (E_8.out.up hb)
  have L_9 := qh (L_8.out.up hb)
  have Bw_9 := qh (Bw_8.out.below hb Bw_8.out.lt)
  clear hb yBc0 yBc1 yBo0 yBo1 yBw0 yBw1 B_8 C_8 T_8 Bc_8 D_8 K_8 Bo_8 E_8 L_8 Bw_8
  cases hok : clOk room us with
  | false =>
    have yBc0 := Bc_9.out.cell 0
    have yBc1 := Bc_9.out.cell 1
    have yBo0 := Bo_9.out.cell 0
    have yBo1 := Bo_9.out.cell 1
    have yBw0 := Bw_9.out.cell 0
    have yBw1 := Bw_9.out.cell 1
    simp only [gT, gZ, gS] at yBc0 yBc1 yBo0 yBo1 yBw0 yBw1
    go_wp2_with fail
    refine (sameInts_any A8 A9 m8 c8 c9 _ _ _ v9 K_9.out L_9.out).mono ?_; rintro e v10 ⟨rfl, mq, hw⟩
    have hb := drew_below v9 mq
    rw [hw] at hb
    clear hw
    have B_10 := qh (below_to B_9.out hb)
    have C_10 := qh (C_9.out.up hb)
    have T_10 := qh (T_9.out.up hb)
    have Bc_10 := qh (Bc_9.out.below hb Bc_9.out.lt)
    have D_10 := qh (D_9.out.up hb)
    have K_10 := qh (K_9.out.up hb)
    have Bo_10 := qh (Bo_9.out.below hb Bo_9.out.lt)
    have E_10 := qh (E_9.out.up hb)
    have L_10 := qh (L_9.out.up hb)
    have Bw_10 := qh (Bw_9.out.below hb Bw_9.out.lt)
    clear hb yBc0 yBc1 yBo0 yBo1 yBw0 yBw1 B_9 C_9 T_9 Bc_9 D_9 K_9 Bo_9 E_9 L_9 Bw_9
    have yBc0 := Bc_10.out.cell 0
    have yBc1 := Bc_10.out.cell 1
    have yBo0 := Bo_10.out.cell 0
    have yBo1 := Bo_10.out.cell 1
    have yBw0 := Bw_10.out.cell 0
    have yBw1 := Bw_10.out.cell 1
    simp only [gT, gZ, gS] at yBc0 yBc1 yBo0 yBo1 yBw0 yBw1
    go_wp2_with fail
    refine (sameCluster_any A4 A5 A6 A7 m6 c4 m7 c5 c6 c7 _ _ v10 D_10.out E_10.out).mono ?_; rintro e v11 ⟨rfl, hb⟩
    have B_11 := qh (below_to B_10.out hb)
    have C_11 := qh (C_10.out.up hb)
    have T_11 := qh (T_10.out.up hb)
    have Bc_11 := qh (Bc_10.out.below hb Bc_10.out.lt)
    have D_11 := qh (D_10.out.up hb)
    have K_11 := qh (K_10.out.up hb)
    have Bo_11 := qh (Bo_10.out.below hb Bo_10.out.lt)
    have E_11 := qh (E_10.out.up hb)
    have L_11 := qh (L_10.out.up hb)
    have Bw_11 := qh (Bw_10.out.below hb Bw_10.out.lt)
    clear hb yBc0 yBc1 yBo0 yBo1 yBw0 yBw1 B_10 C_10 T_10 Bc_10 D_10 K_10 Bo_10 E_10 L_10 Bw_10
    have yBc0 := Bc_11.out.cell 0
    have yBc1 := Bc_11.out.cell 1
    have yBo0 := Bo_11.out.cell 0
    have yBo1 := Bo_11.out.cell 1
    have yBw0 := Bw_11.out.cell 0
    have yBw1 := Bw_11.out.cell 1
    simp only [gT, gZ, gS] at yBc0 yBc1 yBo0 yBo1 yBw0 yBw1
    go_wp2_with fail
    go_ret
    exact ⟨rfl, B_11.out⟩
  | true =>
    have Hok := qh hok
    clear hok
    have yBc0 := Bc_9.out.cell 0
    have yBc1 := Bc_9.out.cell 1
    have yBo0 := Bo_9.out.cell 0
    have yBo1 := Bo_9.out.cell 1
    have yBw0 := Bw_9.out.cell 0
    have yBw1 := Bw_9.out.cell 1
    simp only [gT, gZ, gS] at yBc0 yBc1 yBo0 yBo1 yBw0 yBw1
    go_wp2_with fail
    refine (tasksValidS_any A1 At m1 c1 nt ct room ts v9 C_9.out.a T_9.out).mono ?_; rintro e v10 ⟨rfl, mq, hw⟩
    have hb := drew_below v9 mq
    rw [hw] at hb
    clear hw
    have B_10 := qh (below_to B_9.out hb)
    have C_10 := qh (C_9.out.up hb)
    have T_10 := qh (T_9.out.up hb)
    have Bc_10 := qh (Bc_9.out.below hb Bc_9.out.lt)
    have D_10 := qh (D_9.out.up hb)
    have K_10 := qh (K_9.out.up hb)
    have Bo_10 := qh (Bo_9.out.below hb Bo_9.out.lt)
    have E_10 := qh (E_9.out.up hb)
    have L_10 := qh (L_9.out.up hb)
    have Bw_10 := qh (Bw_9.out.below hb Bw_9.out.lt)
    clear hb yBc0 yBc1 yBo0 yBo1 yBw0 yBw1 B_9 C_9 T_9 Bc_9 D_9 K_9 Bo_9 E_9 L_9 Bw_9
    cases htk : tasksOk room ts with
    | false =>
      have yBc0 := Bc_10.out.cell 0
      have yBc1 := Bc_10.out.cell 1
      have yBo0 := Bo_10.out.cell 0
      have yBo1 := Bo_10.out.cell 1
      have yBw0 := Bw_10.out.cell 0
      have yBw1 := Bw_10.out.cell 1
      simp only [gT, gZ, gS] at yBc0 yBc1 yBo0 yBo1 yBw0 yBw1
      go_wp2_with fail
      refine (sameInts_any A8 A9 m8 c8 c9 _ _ _ v10 K_10.out L_10.out).mono ?_; rintro e v11 ⟨rfl, mq, hw⟩
      have hb := drew_below v10 mq
      rw [hw] at hb
      clear hw
      have B_11 := qh (below_to B_10.out hb)
      have C_11 := qh (C_10.out.up hb)
      have T_11 := qh (T_10.out.up hb)
      have Bc_11 := qh (Bc_10.out.below hb Bc_10.out.lt)
      have D_11 := qh (D_10.out.up hb)
      have K_11 := qh (K_10.out.up hb)
      have Bo_11 := qh (Bo_10.out.below hb Bo_10.out.lt)
      have E_11 := qh (E_10.out.up hb)
      have L_11 := qh (L_10.out.up hb)
      have Bw_11 := qh (Bw_10.out.below hb Bw_10.out.lt)
      clear hb yBc0 yBc1 yBo0 yBo1 yBw0 yBw1 B_10 C_10 T_10 Bc_10 D_10 K_10 Bo_10 E_10 L_10 Bw_10
      have yBc0 := Bc_11.out.cell 0
      have yBc1 := Bc_11.out.cell 1
      have yBo0 := Bo_11.out.cell 0
      have yBo1 := Bo_11.out.cell 1
      have yBw0 := Bw_11.out.cell 0
      have yBw1 := Bw_11.out.cell 1
      simp only [gT, gZ, gS] at yBc0 yBc1 yBo0 yBo1 yBw0 yBw1
      go_wp2_with fail
      refine (sameCluster_any A4 A5 A6 A7 m6 c4 m7 c5 c6 c7 _ _ v11 D_11.out E_11.out).mono ?_; rintro e v12 ⟨rfl, hb⟩
      have B_12 := qh (below_to B_11.out hb)
      have C_12 := qh (C_11.out.up hb)
      have T_12 := qh (T_11.out.up hb)
      have Bc_12 := qh (Bc_11.out.below hb Bc_11.out.lt)
      have D_12 := qh (D_11.out.up hb)
      have K_12 := qh (K_11.out.up hb)
      have Bo_12 := qh (Bo_11.out.below hb Bo_11.out.lt)
      have E_12 := qh (E_11.out.up hb)
      have L_12 := qh (L_11.out.up hb)
      have Bw_12 := qh (Bw_11.out.below hb Bw_11.out.lt)
      clear hb yBc0 yBc1 yBo0 yBo1 yBw0 yBw1 B_11 C_11 T_11 Bc_11 D_11 K_11 Bo_11 E_11 L_11 Bw_11
      have yBc0 := Bc_12.out.cell 0
      have yBc1 := Bc_12.out.cell 1
      have yBo0 := Bo_12.out.cell 0
      have yBo1 := Bo_12.out.cell 1
      have yBw0 := Bw_12.out.cell 0
      have yBw1 := Bw_12.out.cell 1
      simp only [gT, gZ, gS] at yBc0 yBc1 yBo0 yBo1 yBw0 yBw1
      go_wp2_with fail
      go_ret
      exact ⟨rfl, B_12.out⟩
    | true =>
      have Htk := qh htk
      clear htk
      by_cases h0 : gv < 0
      · have q0 : gv < 0 := h0
        have yBc0 := Bc_10.out.cell 0
        have yBc1 := Bc_10.out.cell 1
        have yBo0 := Bo_10.out.cell 0
        have yBo1 := Bo_10.out.cell 1
        have yBw0 := Bw_10.out.cell 0
        have yBw1 := Bw_10.out.cell 1
        simp only [gT, gZ, gS] at yBc0 yBc1 yBo0 yBo1 yBw0 yBw1
        go_wp2_with fail
        refine (sameInts_any A8 A9 m8 c8 c9 _ _ _ v10 K_10.out L_10.out).mono ?_; rintro e v11 ⟨rfl, mq, hw⟩
        have hb := drew_below v10 mq
        rw [hw] at hb
        clear hw
        have B_11 := qh (below_to B_10.out hb)
        have C_11 := qh (C_10.out.up hb)
        have T_11 := qh (T_10.out.up hb)
        have Bc_11 := qh (Bc_10.out.below hb Bc_10.out.lt)
        have D_11 := qh (D_10.out.up hb)
        have K_11 := qh (K_10.out.up hb)
        have Bo_11 := qh (Bo_10.out.below hb Bo_10.out.lt)
        have E_11 := qh (E_10.out.up hb)
        have L_11 := qh (L_10.out.up hb)
        have Bw_11 := qh (Bw_10.out.below hb Bw_10.out.lt)
        clear hb yBc0 yBc1 yBo0 yBo1 yBw0 yBw1 B_10 C_10 T_10 Bc_10 D_10 K_10 Bo_10 E_10 L_10 Bw_10
        have yBc0 := Bc_11.out.cell 0
        have yBc1 := Bc_11.out.cell 1
        have yBo0 := Bo_11.out.cell 0
        have yBo1 := Bo_11.out.cell 1
        have yBw0 := Bw_11.out.cell 0
        have yBw1 := Bw_11.out.cell 1
        simp only [gT, gZ, gS] at yBc0 yBc1 yBo0 yBo1 yBw0 yBw1
        go_wp2_with fail
        refine (sameCluster_any A4 A5 A6 A7 m6 c4 m7 c5 c6 c7 _ _ v11 D_11.out E_11.out).mono ?_; rintro e v12 ⟨rfl, hb⟩
        have B_12 := qh (below_to B_11.out hb)
        have C_12 := qh (C_11.out.up hb)
        have T_12 := qh (T_11.out.up hb)
        have Bc_12 := qh (Bc_11.out.below hb Bc_11.out.lt)
        have D_12 := qh (D_11.out.up hb)
        have K_12 := qh (K_11.out.up hb)
        have Bo_12 := qh (Bo_11.out.below hb Bo_11.out.lt)
        have E_12 := qh (E_11.out.up hb)
        have L_12 := qh (L_11.out.up hb)
        have Bw_12 := qh (Bw_11.out.below hb Bw_11.out.lt)
        clear hb yBc0 yBc1 yBo0 yBo1 yBw0 yBw1 B_11 C_11 T_11 Bc_11 D_11 K_11 Bo_11 E_11 L_11 Bw_11
        have yBc0 := Bc_12.out.cell 0
        have yBc1 := Bc_12.out.cell 1
        have yBo0 := Bo_12.out.cell 0
        have yBo1 := Bo_12.out.cell 1
        have yBw0 := Bw_12.out.cell 0
        have yBw1 := Bw_12.out.cell 1
        simp only [gT, gZ, gS] at yBc0 yBc1 yBo0 yBo1 yBw0 yBw1
        go_wp2_with fail
        go_ret
        exact ⟨rfl, B_12.out⟩
      by_cases h1 : 10 < gv
      · have q1 : 10 < gv := h1
        have yBc0 := Bc_10.out.cell 0
        have yBc1 := Bc_10.out.cell 1
        have yBo0 := Bo_10.out.cell 0
        have yBo1 := Bo_10.out.cell 1
        have yBw0 := Bw_10.out.cell 0
        have yBw1 := Bw_10.out.cell 1
        simp only [gT, gZ, gS] at yBc0 yBc1 yBo0 yBo1 yBw0 yBw1
        go_wp2_with fail
        refine (sameInts_any A8 A9 m8 c8 c9 _ _ _ v10 K_10.out L_10.out).mono ?_; rintro e v11 ⟨rfl, mq, hw⟩
        have hb := drew_below v10 mq
        rw [hw] at hb
        clear hw
        have B_11 := qh (below_to B_10.out hb)
        have C_11 := qh (C_10.out.up hb)
        have T_11 := qh (T_10.out.up hb)
        have Bc_11 := qh (Bc_10.out.below hb Bc_10.out.lt)
        have D_11 := qh (D_10.out.up hb)
        have K_11 := qh (K_10.out.up hb)
        have Bo_11 := qh (Bo_10.out.below hb Bo_10.out.lt)
        have E_11 := qh (E_10.out.up hb)
        have L_11 := qh (L_10.out.up hb)
        have Bw_11 := qh (Bw_10.out.below hb Bw_10.out.lt)
        clear hb yBc0 yBc1 yBo0 yBo1 yBw0 yBw1 B_10 C_10 T_10 Bc_10 D_10 K_10 Bo_10 E_10 L_10 Bw_10
        have yBc0 := Bc_11.out.cell 0
        have yBc1 := Bc_11.out.cell 1
        have yBo0 := Bo_11.out.cell 0
        have yBo1 := Bo_11.out.cell 1
        have yBw0 := Bw_11.out.cell 0
        have yBw1 := Bw_11.out.cell 1
        simp only [gT, gZ, gS] at yBc0 yBc1 yBo0 yBo1 yBw0 yBw1
        go_wp2_with fail
        refine (sameCluster_any A4 A5 A6 A7 m6 c4 m7 c5 c6 c7 _ _ v11 D_11.out E_11.out).mono ?_; rintro e v12 ⟨rfl, hb⟩
        have B_12 := qh (below_to B_11.out hb)
        have C_12 := qh (C_11.out.up hb)
        have T_12 := qh (T_11.out.up hb)
        have Bc_12 := qh (Bc_11.out.below hb Bc_11.out.lt)
        have D_12 := qh (D_11.out.up hb)
        have K_12 := qh (K_11.out.up hb)
        have Bo_12 := qh (Bo_11.out.below hb Bo_11.out.lt)
        have E_12 := qh (E_11.out.up hb)
        have L_12 := qh (L_11.out.up hb)
        have Bw_12 := qh (Bw_11.out.below hb Bw_11.out.lt)
        clear hb yBc0 yBc1 yBo0 yBo1 yBw0 yBw1 B_11 C_11 T_11 Bc_11 D_11 K_11 Bo_11 E_11 L_11 Bw_11
        have yBc0 := Bc_12.out.cell 0
        have yBc1 := Bc_12.out.cell 1
        have yBo0 := Bo_12.out.cell 0
        have yBo1 := Bo_12.out.cell 1
        have yBw0 := Bw_12.out.cell 0
        have yBw1 := Bw_12.out.cell 1
        simp only [gT, gZ, gS] at yBc0 yBc1 yBo0 yBo1 yBw0 yBw1
        go_wp2_with fail
        go_ret
        exact ⟨rfl, B_12.out⟩
      have HG := qh (show 0 ≤ gv ∧ gv ≤ 10 by omega)
      by_cases hz : nt = 0
      · have q0 : ((nt : Int) == 0) = true := by rw [hz]; rfl
        clear hz
        have yBc0 := Bc_10.out.cell 0
        have yBc1 := Bc_10.out.cell 1
        have yBo0 := Bo_10.out.cell 0
        have yBo1 := Bo_10.out.cell 1
        have yBw0 := Bw_10.out.cell 0
        have yBw1 := Bw_10.out.cell 1
        simp only [gT, gZ, gS] at yBc0 yBc1 yBo0 yBo1 yBw0 yBw1
        go_wp2_with fail
        refine (sameInts_any A8 A9 m8 c8 c9 _ _ _ v10 K_10.out L_10.out).mono ?_; rintro e v11 ⟨rfl, mq, hw⟩
        have hb := drew_below v10 mq
        rw [hw] at hb
        clear hw
        have B_11 := qh (below_to B_10.out hb)
        have C_11 := qh (C_10.out.up hb)
        have T_11 := qh (T_10.out.up hb)
        have Bc_11 := qh (Bc_10.out.below hb Bc_10.out.lt)
        have D_11 := qh (D_10.out.up hb)
        have K_11 := qh (K_10.out.up hb)
        have Bo_11 := qh (Bo_10.out.below hb Bo_10.out.lt)
        have E_11 := qh (E_10.out.up hb)
        have L_11 := qh (L_10.out.up hb)
        have Bw_11 := qh (Bw_10.out.below hb Bw_10.out.lt)
        clear hb yBc0 yBc1 yBo0 yBo1 yBw0 yBw1 B_10 C_10 T_10 Bc_10 D_10 K_10 Bo_10 E_10 L_10 Bw_10
        have yBc0 := Bc_11.out.cell 0
        have yBc1 := Bc_11.out.cell 1
        have yBo0 := Bo_11.out.cell 0
        have yBo1 := Bo_11.out.cell 1
        have yBw0 := Bw_11.out.cell 0
        have yBw1 := Bw_11.out.cell 1
        simp only [gT, gZ, gS] at yBc0 yBc1 yBo0 yBo1 yBw0 yBw1
        go_wp2_with fail
        refine (sameCluster_any A4 A5 A6 A7 m6 c4 m7 c5 c6 c7 _ _ v11 D_11.out E_11.out).mono ?_; rintro e v12 ⟨rfl, hb⟩
        have B_12 := qh (below_to B_11.out hb)
        have C_12 := qh (C_11.out.up hb)
        have T_12 := qh (T_11.out.up hb)
        have Bc_12 := qh (Bc_11.out.below hb Bc_11.out.lt)
        have D_12 := qh (D_11.out.up hb)
        have K_12 := qh (K_11.out.up hb)
        have Bo_12 := qh (Bo_11.out.below hb Bo_11.out.lt)
        have E_12 := qh (E_11.out.up hb)
        have L_12 := qh (L_11.out.up hb)
        have Bw_12 := qh (Bw_11.out.below hb Bw_11.out.lt)
        clear hb yBc0 yBc1 yBo0 yBo1 yBw0 yBw1 B_11 C_11 T_11 Bc_11 D_11 K_11 Bo_11 E_11 L_11 Bw_11
        have yBc0 := Bc_12.out.cell 0
        have yBc1 := Bc_12.out.cell 1
        have yBo0 := Bo_12.out.cell 0
        have yBo1 := Bo_12.out.cell 1
        have yBw0 := Bw_12.out.cell 0
        have yBw1 := Bw_12.out.cell 1
        simp only [gT, gZ, gS] at yBc0 yBc1 yBo0 yBo1 yBw0 yBw1
        go_wp2_with fail
        go_ret
        exact ⟨rfl, B_12.out⟩
      have q0 : ((nt : Int) == 0) = false := by simpa using (show ¬ (nt : Int) = 0 by omega)
      have hv2 : ((n' : Int)).tmod (nt : Int) = ((n' % nt : Nat) : Int) := rfl
      have hk := Nat.mod_lt n' (show 0 < nt by omega)
      have hmem : ts[n' % nt]?.getD (0, []) ∈ ts := by have := Hlt.out; rw [List.getElem?_eq_getElem (by omega)]; exact List.getElem_mem _
      generalize n' % nt = k at *
      obtain ⟨bt, ot, Ax, mx, cx, rfl, lt, ht0, ht1, hcx, hrx⟩ := (T_10.out).at_ (k := k) hk
      generalize ts[k]?.getD (0, []) = tj at *
      obtain ⟨tid, txs⟩ := tj
      dsimp only at ht0 hrx
      have hs1 := bat_single (us := us) (g := gv) Hok.out Htk.out hmem HG.out.1 HG.out.2
      obtain ⟨r1, u1, n1, hcv⟩ : ∃ r1 u1 n1, cavP room us tid txs (decide (0 < gv)) = (r1, u1, n1) := ⟨_, _, _, rfl⟩
      dsimp only at hs1
      rw [hcv] at hs1
      have hcf := cav_facts (id := tid) (xs := txs) (g := decide (0 < gv)) Hok.out
      rw [hcv] at hcf
      dsimp only at hcf
      have HS1 := qh hs1
      have HCV := qh hcv
      have HSh := qh (show ShU u1 ∧ r1.length ≤ 3 from ⟨clOk_sh hcf.2.1, by rw [hcf.1]; exact Nat.le_of_eq (clOk_facts Hok.out).1⟩)
      clear hs1 hcv hcf hmem
      have k0 : (0 : Int) ≤ (k : Int) := by omega
      have k1 : (k : Int) < (nt : Int) := by omega
      have k2 : 0 ≤ (k : Int) * 2 := by omega
      have k3 : ¬ (nt : Int) = 0 := by omega
      have X_10 := qh (show RdI v10 v10.heap.size Ax mx txs from hrx)
      have al := alloc_up v10 (.cells #[.int .i64 tid, .slice Ax mx cx] 43)
      have B_11 := qh (below_to B_10.out al)
      have C_11 := qh (C_10.out.up al)
      have T_11 := qh (T_10.out.up al)
      have Bc_11 := qh (Bc_10.out.below al Bc_10.out.lt)
      have D_11 := qh (D_10.out.up al)
      have K_11 := qh (K_10.out.up al)
      have Bo_11 := qh (Bo_10.out.below al Bo_10.out.lt)
      have E_11 := qh (E_10.out.up al)
      have L_11 := qh (L_10.out.up al)
      have Bw_11 := qh (Bw_10.out.below al Bw_10.out.lt)
      have X_11 := qh (X_10.out.up al)
      have hq := Blk.new v10 43 #[.int .i64 tid, .slice Ax mx cx]
      have Bx_11 := qh hq
      clear al hq B_10 C_10 T_10 Bc_10 D_10 K_10 Bo_10 E_10 L_10 Bw_10 X_10
      have yBc0 := Bc_11.out.cell 0
      have yBc1 := Bc_11.out.cell 1
      have yBo0 := Bo_11.out.cell 0
      have yBo1 := Bo_11.out.cell 1
      have yBw0 := Bw_11.out.cell 0
      have yBw1 := Bw_11.out.cell 1
      have yBx0 := Bx_11.out.cell 0
      have yBx1 := Bx_11.out.cell 1
      simp only [gT, gZ, gS] at yBc0 yBc1 yBo0 yBo1 yBw0 yBw1 yBx0 yBx1
      go_upto_region 9 with fail
      generalize v10.alloc (.cells #[.int .i64 tid, .slice Ax mx cx] 43) = z11 at B_11 C_11 T_11 Bc_11 D_11 K_11 Bo_11 E_11 L_11 Bw_11 X_11 Bx_11 yBc0 yBc1 yBo0 yBo1 yBw0 yBw1 yBx0 yBx1 ⊢
      have al := alloc_up z11 (.cells #[.int .i64 tid, .slice Ax mx cx] 43)
      have B_12 := qh (below_to B_11.out al)
      have C_12 := qh (C_11.out.up al)
      have T_12 := qh (T_11.out.up al)
      have Bc_12 := qh (Bc_11.out.below al Bc_11.out.lt)
      have D_12 := qh (D_11.out.up al)
      have K_12 := qh (K_11.out.up al)
      have Bo_12 := qh (Bo_11.out.below al Bo_11.out.lt)
      have E_12 := qh (E_11.out.up al)
      have L_12 := qh (L_11.out.up al)
      have Bw_12 := qh (Bw_11.out.below al Bw_11.out.lt)
      have X_12 := qh (X_11.out.up al)
      have Bx_12 := qh (Bx_11.out.below al Bx_11.out.lt)
      have hq := Blk.new z11 43 #[.int .i64 tid, .slice Ax mx cx]
      have Bl_12 := qh hq
      clear al hq B_11 C_11 T_11 Bc_11 D_11 K_11 Bo_11 E_11 L_11 Bw_11 X_11 Bx_11
      have X2 := X_12.out
      have S_12 := qh (RdT.of_own (own_built (w := z11) (base := z11.heap.size) 43 (.int .i64 tid) (.slice Ax mx cx) (Nat.le_refl _)) (TkCells.single (id := tid) X2 hcx) (Nat.le_refl _) (by omega))
      clear hrx X2
      have yBc0 := Bc_12.out.cell 0
      have yBc1 := Bc_12.out.cell 1
      have yBo0 := Bo_12.out.cell 0
      have yBo1 := Bo_12.out.cell 1
      have yBw0 := Bw_12.out.cell 0
      have yBw1 := Bw_12.out.cell 1
      have yBx0 := Bx_12.out.cell 0
      have yBx1 := Bx_12.out.cell 1
      have yBl0 := Bl_12.out.cell 0
      have yBl1 := Bl_12.out.cell 1
      simp only [gT, gZ, gS] at yBc0 yBc1 yBo0 yBo1 yBw0 yBw1 yBx0 yBx1 yBl0 yBl1
      go_wp2_with fail
      generalize z11.alloc (.cells #[.int .i64 tid, .slice Ax mx cx] 43) = z12 at B_12 C_12 T_12 Bc_12 D_12 K_12 Bo_12 E_12 L_12 Bw_12 X_12 Bx_12 Bl_12 S_12 yBc0 yBc1 yBo0 yBo1 yBw0 yBw1 yBx0 yBx1 yBl0 yBl1 ⊢
      refine (batchDoI_any A1 A2 (some ⟨z11.heap.size, 0, none⟩) m1 c1 m2 c2 1 1 gv room us [(tid, txs)] z12 C_12.out Hs.out.v S_12.out).mono ?_; rintro e v13 ⟨A10, m10, c10, A11, m11, c11, A12, m12, c12, hi, he, hoc, hco, hb, _, _, _⟩
      simp only [HS1.out] at hoc hco
      subst he
      have hl := hoc.len
      have hl2 := hoc.lenU
      obtain rfl : m12 = 1 := by have := own_len hco; simp at this; omega
      have B_13 := qh (below_to B_12.out hb)
      have C_13 := qh (C_12.out.up hb)
      have T_13 := qh (T_12.out.up hb)
      have Bc_13 := qh (Bc_12.out.below hb Bc_12.out.lt)
      have D_13 := qh (D_12.out.up hb)
      have K_13 := qh (K_12.out.up hb)
      have Bo_13 := qh (Bo_12.out.below hb Bo_12.out.lt)
      have E_13 := qh (E_12.out.up hb)
      have L_13 := qh (L_12.out.up hb)
      have Bw_13 := qh (Bw_12.out.below hb Bw_12.out.lt)
      have X_13 := qh (X_12.out.up hb)
      have Bx_13 := qh (Bx_12.out.below hb Bx_12.out.lt)
      have Bl_13 := qh (Bl_12.out.below hb Bl_12.out.lt)
      have S_13 := qh (S_12.out.up hb)
      have Y_13 := qh (hoc.rd (by have := HSh.out.2; omega) HSh.out.1)
      have M_13 := qh (own_rdI hco (own_le hco))
      clear hb yBc0 yBc1 yBo0 yBo1 yBw0 yBw1 yBx0 yBx1 yBl0 yBl1 B_12 C_12 T_12 Bc_12 D_12 K_12 Bo_12 E_12 L_12 Bw_12 X_12 Bx_12 Bl_12 S_12
      clear hoc hco
      have al := alloc_up v13 (.cells #[.slice A10 m10 c10, .slice A11 m11 c11] 26)
      have B_14 := qh (below_to B_13.out al)
      have C_14 := qh (C_13.out.up al)
      have T_14 := qh (T_13.out.up al)
      have Bc_14 := qh (Bc_13.out.below al Bc_13.out.lt)
      have D_14 := qh (D_13.out.up al)
      have K_14 := qh (K_13.out.up al)
      have Bo_14 := qh (Bo_13.out.below al Bo_13.out.lt)
      have E_14 := qh (E_13.out.up al)
      have L_14 := qh (L_13.out.up al)
      have Bw_14 := qh (Bw_13.out.below al Bw_13.out.lt)
      have X_14 := qh (X_13.out.up al)
      have Bx_14 := qh (Bx_13.out.below al Bx_13.out.lt)
      have Bl_14 := qh (Bl_13.out.below al Bl_13.out.lt)
      have S_14 := qh (S_13.out.up al)
      have Y_14 := qh (Y_13.out.up al)
      have M_14 := qh (M_13.out.up al)
      have hq := Blk.new v13 26 #[.slice A10 m10 c10, .slice A11 m11 c11]
      have Ba_14 := qh hq
      clear al hq B_13 C_13 T_13 Bc_13 D_13 K_13 Bo_13 E_13 L_13 Bw_13 X_13 Bx_13 Bl_13 S_13 Y_13 M_13
      have yBc0 := Bc_14.out.cell 0
      have yBc1 := Bc_14.out.cell 1
      have yBo0 := Bo_14.out.cell 0
      have yBo1 := Bo_14.out.cell 1
      have yBw0 := Bw_14.out.cell 0
      have yBw1 := Bw_14.out.cell 1
      have yBx0 := Bx_14.out.cell 0
      have yBx1 := Bx_14.out.cell 1
      have yBl0 := Bl_14.out.cell 0
      have yBl1 := Bl_14.out.cell 1
      have yBa0 := Ba_14.out.cell 0
      have yBa1 := Ba_14.out.cell 1
      simp only [gT, gZ, gS] at yBc0 yBc1 yBo0 yBo1 yBw0 yBw1 yBx0 yBx1 yBl0 yBl1 yBa0 yBa1
      go_wp2_with fail
      generalize v13.alloc (.cells #[.slice A10 m10 c10, .slice A11 m11 c11] 26) = z14 at B_14 C_14 T_14 Bc_14 D_14 K_14 Bo_14 E_14 L_14 Bw_14 X_14 Bx_14 Bl_14 S_14 Y_14 M_14 Ba_14 yBc0 yBc1 yBo0 yBo1 yBw0 yBw1 yBx0 yBx1 yBl0 yBl1 yBa0 yBa1 ⊢
      refine (clusterArriveI_any A1 A2 m1 c1 m2 c2 room us Ax mx cx tid txs (decide (0 < gv)) z14 C_14.out Hs.out.v X_14.out hcx).mono ?_; rintro e v15 ⟨A13, m13, c13, A14, m14, c14, he, hoc, hb⟩
      simp only [HCV.out] at he hoc
      subst he
      obtain rfl : m10 = m13 := by have := hoc.len; omega
      obtain rfl : m11 = m14 := by have := hoc.lenU; omega
      have B_15 := qh (below_to B_14.out hb)
      have C_15 := qh (C_14.out.up hb)
      have T_15 := qh (T_14.out.up hb)
      have Bc_15 := qh (Bc_14.out.below hb Bc_14.out.lt)
      have D_15 := qh (D_14.out.up hb)
      have K_15 := qh (K_14.out.up hb)
      have Bo_15 := qh (Bo_14.out.below hb Bo_14.out.lt)
      have E_15 := qh (E_14.out.up hb)
      have L_15 := qh (L_14.out.up hb)
      have Bw_15 := qh (Bw_14.out.below hb Bw_14.out.lt)
      have X_15 := qh (X_14.out.up hb)
      have Bx_15 := qh (Bx_14.out.below hb Bx_14.out.lt)
      have Bl_15 := qh (Bl_14.out.below hb Bl_14.out.lt)
      have S_15 := qh (S_14.out.up hb)
      have Y_15 := qh (Y_14.out.up hb)
      have M_15 := qh (M_14.out.up hb)
      have Ba_15 := qh (Ba_14.out.below hb Ba_14.out.lt)
      have Z_15 := qh (hoc.rd (by have := HSh.out.2; have := hoc.len; omega) HSh.out.1)
      clear hb yBc0 yBc1 yBo0 yBo1 yBw0 yBw1 yBx0 yBx1 yBl0 yBl1 yBa0 yBa1 B_14 C_14 T_14 Bc_14 D_14 K_14 Bo_14 E_14 L_14 Bw_14 X_14 Bx_14 Bl_14 S_14 Y_14 M_14 Ba_14
      clear hoc hl hl2 ht0 ht1
      have al := alloc_up v15 (.cells #[.slice A13 m10 c13, .slice A14 m11 c14] 26)
      have B_16 := qh (below_to B_15.out al)
      have C_16 := qh (C_15.out.up al)
      have T_16 := qh (T_15.out.up al)
      have Bc_16 := qh (Bc_15.out.below al Bc_15.out.lt)
      have D_16 := qh (D_15.out.up al)
      have K_16 := qh (K_15.out.up al)
      have Bo_16 := qh (Bo_15.out.below al Bo_15.out.lt)
      have E_16 := qh (E_15.out.up al)
      have L_16 := qh (L_15.out.up al)
      have Bw_16 := qh (Bw_15.out.below al Bw_15.out.lt)
      have X_16 := qh (X_15.out.up al)
      have Bx_16 := qh (Bx_15.out.below al Bx_15.out.lt)
      have Bl_16 := qh (Bl_15.out.below al Bl_15.out.lt)
      have S_16 := qh (S_15.out.up al)
      have Y_16 := qh (Y_15.out.up al)
      have M_16 := qh (M_15.out.up al)
      have Ba_16 := qh (Ba_15.out.below al Ba_15.out.lt)
      have Z_16 := qh (Z_15.out.up al)
      have hq := Blk.new v15 26 #[.slice A13 m10 c13, .slice A14 m11 c14]
      have Bb_16 := qh hq
      clear al hq B_15 C_15 T_15 Bc_15 D_15 K_15 Bo_15 E_15 L_15 Bw_15 X_15 Bx_15 Bl_15 S_15 Y_15 M_15 Ba_15 Z_15
      obtain ⟨bq, oq, rfl, lq, hx0⟩ := (M_16.out).at_ (k := 0) (by omega)
      simp only [Nat.add_zero, gZ, Option.getD_some] at hx0
      have heq : (n1 == n1) = true := by simp
      have yBc0 := Bc_16.out.cell 0
      have yBc1 := Bc_16.out.cell 1
      have yBo0 := Bo_16.out.cell 0
      have yBo1 := Bo_16.out.cell 1
      have yBw0 := Bw_16.out.cell 0
      have yBw1 := Bw_16.out.cell 1
      have yBx0 := Bx_16.out.cell 0
      have yBx1 := Bx_16.out.cell 1
      have yBl0 := Bl_16.out.cell 0
      have yBl1 := Bl_16.out.cell 1
      have yBa0 := Ba_16.out.cell 0
      have yBa1 := Ba_16.out.cell 1
      have yBb0 := Bb_16.out.cell 0
      have yBb1 := Bb_16.out.cell 1
      simp only [gT, gZ, gS] at yBc0 yBc1 yBo0 yBo1 yBw0 yBw1 yBx0 yBx1 yBl0 yBl1 yBa0 yBa1 yBb0 yBb1
      go_wp2_with fail
      generalize v15.alloc (.cells #[.slice A13 m10 c13, .slice A14 m11 c14] 26) = z16 at B_16 C_16 T_16 Bc_16 D_16 K_16 Bo_16 E_16 L_16 Bw_16 X_16 Bx_16 Bl_16 S_16 Y_16 M_16 Ba_16 Z_16 Bb_16 yBc0 yBc1 yBo0 yBo1 yBw0 yBw1 yBx0 yBx1 yBl0 yBl1 yBa0 yBa1 yBb0 yBb1 ⊢
      refine (sameCluster_any A10 A11 A13 A14 m10 c10 m11 c11 c13 c14 _ _ z16 Y_16.out Z_16.out).mono ?_; rintro e v17 ⟨rfl, hb⟩
      have B_17 := qh (below_to B_16.out hb)
      have C_17 := qh (C_16.out.up hb)
      have T_17 := qh (T_16.out.up hb)
      have Bc_17 := qh (Bc_16.out.below hb Bc_16.out.lt)
      have D_17 := qh (D_16.out.up hb)
      have K_17 := qh (K_16.out.up hb)
      have Bo_17 := qh (Bo_16.out.below hb Bo_16.out.lt)
      have E_17 := qh (E_16.out.up hb)
      have L_17 := qh (L_16.out.up hb)
      have Bw_17 := qh (Bw_16.out.below hb Bw_16.out.lt)
      have X_17 := qh (X_16.out.up hb)
      have Bx_17 := qh (Bx_16.out.below hb Bx_16.out.lt)
      have Bl_17 := qh (Bl_16.out.below hb Bl_16.out.lt)
      have S_17 := qh (S_16.out.up hb)
      have Y_17 := qh (Y_16.out.up hb)
      have M_17 := qh (M_16.out.up hb)
      have Ba_17 := qh (Ba_16.out.below hb Ba_16.out.lt)
      have Z_17 := qh (Z_16.out.up hb)
      have Bb_17 := qh (Bb_16.out.below hb Bb_16.out.lt)
      clear hb yBc0 yBc1 yBo0 yBo1 yBw0 yBw1 yBx0 yBx1 yBl0 yBl1 yBa0 yBa1 yBb0 yBb1 B_16 C_16 T_16 Bc_16 D_16 K_16 Bo_16 E_16 L_16 Bw_16 X_16 Bx_16 Bl_16 S_16 Y_16 M_16 Ba_16 Z_16 Bb_16
      have yBc0 := Bc_17.out.cell 0
      have yBc1 := Bc_17.out.cell 1
      have yBo0 := Bo_17.out.cell 0
      have yBo1 := Bo_17.out.cell 1
      have yBw0 := Bw_17.out.cell 0
      have yBw1 := Bw_17.out.cell 1
      have yBx0 := Bx_17.out.cell 0
      have yBx1 := Bx_17.out.cell 1
      have yBl0 := Bl_17.out.cell 0
      have yBl1 := Bl_17.out.cell 1
      have yBa0 := Ba_17.out.cell 0
      have yBa1 := Ba_17.out.cell 1
      have yBb0 := Bb_17.out.cell 0
      have yBb1 := Bb_17.out.cell 1
      simp only [gT, gZ, gS] at yBc0 yBc1 yBo0 yBo1 yBw0 yBw1 yBx0 yBx1 yBl0 yBl1 yBa0 yBa1 yBb0 yBb1
      go_wp2_with fail
      go_ret
      exact ⟨rfl, B_17.out⟩
end Go.Proofs.YtjjnbbkdjimcoaaGreat
