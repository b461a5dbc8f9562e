/- Walk: the law FnBatchAll. (Printed by gen_balaws.py.) -/
import Derived.Test.YtjjnbbkdjimcoaaGreatDrawBa
import Derived.Test.YtjjnbbkdjimcoaaGreatJ14
import Derived.Test.YtjjnbbkdjimcoaaGreatBaKit
import Derived.Test.YtjjnbbkdjimcoaaGreatBatchU
import Derived.Test.YtjjnbbkdjimcoaaGreatBatchE
import Derived.Test.YtjjnbbkdjimcoaaGreatRqRows
import Derived.Test.YtjjnbbkdjimcoaaGreatBatchD
namespace Go.Proofs.YtjjnbbkdjimcoaaGreat
set_option linter.unusedVariables false
open Go Go.RowKit
attribute [local go_sem ↓] Go.wp_at_zero Go.wp_at_succ

set_option maxRecDepth 100000 in
set_option maxHeartbeats 6400000 in
theorem batchAll_walk (A : Option Addr) (n c : Nat) (w : World) (h : RdU w w.heap.size A n) (hc : n ≤ c) (hcm : c ≤ 9223372036854775807) :
    Calls Tryz.prog 11 #[.slice A n c] w fun e w' => e = .returned (.bool true) ∧ Below w.heap.size w w' := by
  by_cases kn : 1048576 < n
  · go_enter Tryz.func11, Tryz.ntmps11
    go_wp2
    go_ret
    exact ⟨rfl, Below.refl _ _⟩
  go_enter Tryz.func11, Tryz.ntmps11
  go_wp2_with fail
  refine (drawBatchAll_any A n c w h hc hcm).mono ?_; rintro e v1 ⟨A1, m1, c1, A2, m2, c2, room, us, At, nt, ct, ts, gv, rfl, hcr, hs, hm1, hc1, hc2, ht, hnt, hct, hb⟩
  have B_1 := qh (hb)
  have C_1 := qh (hcr)
  have T_1 := qh (ht)
  clear hb
  have hlt := ht.len
  clear hcr ht h
  have Hs := qh hs
  have Hlt := qh hlt
  clear hs hlt
  have al := alloc_up v1 (.cells #[.slice A1 m1 c1, .slice A2 m2 c2] 26)
  have B_2 := qh (below_to B_1.out al)
  have C_2 := qh (C_1.out.up al)
  have T_2 := qh (T_1.out.up al)
  have hq := Blk.new v1 26 #[.slice A1 m1 c1, .slice A2 m2 c2]
  have Bc_2 := qh hq
  clear al hq B_1 C_1 T_1
  obtain ⟨ro, uo, fo, hp⟩ : ∃ ro uo fo, ballP room us ts gv = (ro, uo, fo) := ⟨_, _, _, rfl⟩
  have hq := ball_sh (room := room) (ts := ts) (g := gv) Hs.out
  rw [hp] at hq
  dsimp only at hq
  have Hp := qh hp
  have Hq := qh hq
  clear hp hq
  have yBc0 := Bc_2.out.cell 0
  have yBc1 := Bc_2.out.cell 1
  simp only [gT, gZ, gS] at yBc0 yBc1
  go_wp2_with fail
  generalize v1.alloc (.cells #[.slice A1 m1 c1, .slice A2 m2 c2] 26) = z2 at B_2 C_2 T_2 Bc_2 yBc0 yBc1 ⊢
  refine (batchAllI_any A1 A2 At m1 c1 m2 c2 nt ct gv room us ts z2 C_2.out Hs.out.v T_2.out).mono ?_; rintro e v3 ⟨A4, m4, c4, A5, m5, c5, he, hoc, hb⟩
  simp only [Hp.out] at he hoc
  subst he
  have hl := hoc.len
  have hl2 := hoc.lenU
  have B_3 := qh (below_to B_2.out hb)
  have C_3 := qh (C_2.out.up hb)
  have T_3 := qh (T_2.out.up hb)
  have Bc_3 := qh (Bc_2.out.below hb Bc_2.out.lt)
  have D_3 := qh (hoc.rd (by have := Hq.out.2; omega) Hq.out.1)
  clear hb yBc0 yBc1 B_2 C_2 T_2 Bc_2
  clear hoc
  have al := alloc_up v3 (.cells #[.slice A4 m4 c4, .slice A5 m5 c5] 26)
  have B_4 := qh (below_to B_3.out al)
  have C_4 := qh (C_3.out.up al)
  have T_4 := qh (T_3.out.up al)
  have Bc_4 := qh (Bc_3.out.below al Bc_3.out.lt)
  have D_4 := qh (D_3.out.up al)
  have hq := Blk.new v3 26 #[.slice A4 m4 c4, .slice A5 m5 c5]
  have Bo_4 := qh hq
  clear al hq B_3 C_3 T_3 Bc_3 D_3
  have yBc0 := Bc_4.out.cell 0
  have yBc1 := Bc_4.out.cell 1
  have yBo0 := Bo_4.out.cell 0
  have yBo1 := Bo_4.out.cell 1
  simp only [gT, gZ, gS] at yBc0 yBc1 yBo0 yBo1
  go_wp2_with fail
  generalize v3.alloc (.cells #[.slice A4 m4 c4, .slice A5 m5 c5] 26) = z4 at B_4 C_4 T_4 Bc_4 D_4 Bo_4 yBc0 yBc1 yBo0 yBo1 ⊢
  refine (batchAllS_any A1 A2 At m1 c1 m2 c2 nt ct gv room us ts z4 C_4.out Hs.out.v T_4.out).mono ?_; rintro e v5 ⟨A6, m6, c6, A7, m7, c7, he, hrc, hb⟩
  simp only [Hp.out] at he hrc
  subst he
  obtain rfl : m6 = m4 := by have := hrc.len; omega
  obtain rfl : m7 = m5 := by have := hrc.len; omega
  have B_5 := qh (below_to B_4.out hb)
  have C_5 := qh (C_4.out.up hb)
  have T_5 := qh (T_4.out.up hb)
  have Bc_5 := qh (Bc_4.out.below hb Bc_4.out.lt)
  have D_5 := qh (D_4.out.up hb)
  have Bo_5 := qh (Bo_4.out.below hb Bo_4.out.lt)
  have E_5 := qh (hrc.rd)
  clear hb yBc0 yBc1 yBo0 yBo1 B_4 C_4 T_4 Bc_4 D_4 Bo_4
  clear hrc hl hl2
  have hne : (fo != fo) = false := by simp
  have heq : (fo == fo) = true := by simp
  have al := alloc_up v5 (.cells #[.slice A6 m6 c6, .slice A7 m7 c7] 26)
  have B_6 := qh (below_to B_5.out al)
  have C_6 := qh (C_5.out.up al)
  have T_6 := qh (T_5.out.up al)
  have Bc_6 := qh (Bc_5.out.below al Bc_5.out.lt)
  have D_6 := qh (D_5.out.up al)
  have Bo_6 := qh (Bo_5.out.below al Bo_5.out.lt)
  have E_6 := qh (E_5.out.up al)
  have hq := Blk.new v5 26 #[.slice A6 m6 c6, .slice A7 m7 c7]
  have Bw_6 := qh hq
  clear al hq B_5 C_5 T_5 Bc_5 D_5 Bo_5 E_5
  have yBc0 := Bc_6.out.cell 0
  have yBc1 := Bc_6.out.cell 1
  have yBo0 := Bo_6.out.cell 0
  have yBo1 := Bo_6.out.cell 1
  have yBw0 := Bw_6.out.cell 0
  have yBw1 := Bw_6.out.cell 1
  simp only [gT, gZ, gS] at yBc0 yBc1 yBo0 yBo1 yBw0 yBw1
  go_wp2_with fail
  generalize v5.alloc (.cells #[.slice A6 m6 c6, .slice A7 m7 c7] 26) = z6 at B_6 C_6 T_6 Bc_6 D_6 Bo_6 E_6 Bw_6 yBc0 yBc1 yBo0 yBo1 yBw0 yBw1 ⊢
  refine (sameCluster_any A4 A5 A6 A7 m6 c4 m7 c5 c6 c7 _ _ z6 D_6.out E_6.out).mono ?_; rintro e v7 ⟨rfl, hb⟩
  have B_7 := qh (below_to B_6.out hb)
  have C_7 := qh (C_6.out.up hb)
  have T_7 := qh (T_6.out.up hb)
  have Bc_7 := qh (Bc_6.out.below hb Bc_6.out.lt)
  have D_7 := qh (D_6.out.up hb)
  have Bo_7 := qh (Bo_6.out.below hb Bo_6.out.lt)
  have E_7 := qh (E_6.out.up hb)
  have Bw_7 := qh (Bw_6.out.below hb Bw_6.out.lt)
  clear hb yBc0 yBc1 yBo0 yBo1 yBw0 yBw1 B_6 C_6 T_6 Bc_6 D_6 Bo_6 E_6 Bw_6
  have yBc0 := Bc_7.out.cell 0
  have yBc1 := Bc_7.out.cell 1
  have yBo0 := Bo_7.out.cell 0
  have yBo1 := Bo_7.out.cell 1
  have yBw0 := Bw_7.out.cell 0
  have yBw1 := Bw_7.out.cell 1
  simp only [gT, gZ, gS] at yBc0 yBc1 yBo0 yBo1 yBw0 yBw1
  go_wp2_with fail
  refine (clusterValidS_any A1 A2 m1 c1 m2 c2 room us v7 C_7.out Hs.out).mono ?_; rintro e v8 ⟨rfl, hb⟩
  have B_8 := qh (below_to B_7.out hb)
  have C_8 := qh (C_7.out.up hb)
  have T_8 := qh (T_7.out.up hb)
  have Bc_8 := qh (Bc_7.out.below hb Bc_7.out.lt)
  have D_8 := qh (D_7.out.up hb)
  have Bo_8 := qh (Bo_7.out.below hb Bo_7.out.lt)
  have E_8 := qh (E_7.out.up hb)
  have Bw_8 := qh (Bw_7.out.below hb Bw_7.out.lt)
  clear hb yBc0 yBc1 yBo0 yBo1 yBw0 yBw1 B_7 C_7 T_7 Bc_7 D_7 Bo_7 E_7 Bw_7
  cases hok : clOk room us with
  | false =>
    have yBc0 := Bc_8.out.cell 0
    have yBc1 := Bc_8.out.cell 1
    have yBo0 := Bo_8.out.cell 0
    have yBo1 := Bo_8.out.cell 1
    have yBw0 := Bw_8.out.cell 0
    have yBw1 := Bw_8.out.cell 1
    simp only [gT, gZ, gS] at yBc0 yBc1 yBo0 yBo1 yBw0 yBw1
    go_wp2_with fail
    refine (sameCluster_any A4 A5 A6 A7 m6 c4 m7 c5 c6 c7 _ _ v8 D_8.out E_8.out).mono ?_; rintro e v9 ⟨rfl, hb⟩
    have B_9 := qh (below_to B_8.out hb)
    have C_9 := qh (C_8.out.up hb)
    have T_9 := qh (T_8.out.up hb)
    have Bc_9 := qh (Bc_8.out.below hb Bc_8.out.lt)
    have D_9 := qh (D_8.out.up hb)
    have Bo_9 := qh (Bo_8.out.below hb Bo_8.out.lt)
    have E_9 := qh (E_8.out.up hb)
    have Bw_9 := qh (Bw_8.out.below hb Bw_8.out.lt)
    clear hb yBc0 yBc1 yBo0 yBo1 yBw0 yBw1 B_8 C_8 T_8 Bc_8 D_8 Bo_8 E_8 Bw_8
    have yBc0 := Bc_9.out.cell 0
    have yBc1 := Bc_9.out.cell 1
    have yBo0 := Bo_9.out.cell 0
    have yBo1 := Bo_9.out.cell 1
    have yBw0 := Bw_9.out.cell 0
    have yBw1 := Bw_9.out.cell 1
    simp only [gT, gZ, gS] at yBc0 yBc1 yBo0 yBo1 yBw0 yBw1
    go_wp2_with fail
    go_ret
    exact ⟨rfl, B_9.out⟩
  | true =>
    have Hok := qh hok
    clear hok
    have yBc0 := Bc_8.out.cell 0
    have yBc1 := Bc_8.out.cell 1
    have yBo0 := Bo_8.out.cell 0
    have yBo1 := Bo_8.out.cell 1
    have yBw0 := Bw_8.out.cell 0
    have yBw1 := Bw_8.out.cell 1
    simp only [gT, gZ, gS] at yBc0 yBc1 yBo0 yBo1 yBw0 yBw1
    go_wp2_with fail
    refine (tasksValidS_any A1 At m1 c1 nt ct room ts v8 C_8.out.a T_8.out).mono ?_; rintro e v9 ⟨rfl, mq, hw⟩
    have hb := drew_below v8 mq
    rw [hw] at hb
    clear hw
    have B_9 := qh (below_to B_8.out hb)
    have C_9 := qh (C_8.out.up hb)
    have T_9 := qh (T_8.out.up hb)
    have Bc_9 := qh (Bc_8.out.below hb Bc_8.out.lt)
    have D_9 := qh (D_8.out.up hb)
    have Bo_9 := qh (Bo_8.out.below hb Bo_8.out.lt)
    have E_9 := qh (E_8.out.up hb)
    have Bw_9 := qh (Bw_8.out.below hb Bw_8.out.lt)
    clear hb yBc0 yBc1 yBo0 yBo1 yBw0 yBw1 B_8 C_8 T_8 Bc_8 D_8 Bo_8 E_8 Bw_8
    cases htk : tasksOk room ts with
    | false =>
      have yBc0 := Bc_9.out.cell 0
      have yBc1 := Bc_9.out.cell 1
      have yBo0 := Bo_9.out.cell 0
      have yBo1 := Bo_9.out.cell 1
      have yBw0 := Bw_9.out.cell 0
      have yBw1 := Bw_9.out.cell 1
      simp only [gT, gZ, gS] at yBc0 yBc1 yBo0 yBo1 yBw0 yBw1
      go_wp2_with fail
      refine (sameCluster_any A4 A5 A6 A7 m6 c4 m7 c5 c6 c7 _ _ v9 D_9.out E_9.out).mono ?_; rintro e v10 ⟨rfl, hb⟩
      have B_10 := qh (below_to B_9.out hb)
      have C_10 := qh (C_9.out.up hb)
      have T_10 := qh (T_9.out.up hb)
      have Bc_10 := qh (Bc_9.out.below hb Bc_9.out.lt)
      have D_10 := qh (D_9.out.up hb)
      have Bo_10 := qh (Bo_9.out.below hb Bo_9.out.lt)
      have E_10 := qh (E_9.out.up hb)
      have Bw_10 := qh (Bw_9.out.below hb Bw_9.out.lt)
      clear hb yBc0 yBc1 yBo0 yBo1 yBw0 yBw1 B_9 C_9 T_9 Bc_9 D_9 Bo_9 E_9 Bw_9
      have yBc0 := Bc_10.out.cell 0
      have yBc1 := Bc_10.out.cell 1
      have yBo0 := Bo_10.out.cell 0
      have yBo1 := Bo_10.out.cell 1
      have yBw0 := Bw_10.out.cell 0
      have yBw1 := Bw_10.out.cell 1
      simp only [gT, gZ, gS] at yBc0 yBc1 yBo0 yBo1 yBw0 yBw1
      go_wp2_with fail
      go_ret
      exact ⟨rfl, B_10.out⟩
    | true =>
      have Htk := qh htk
      clear htk
      by_cases h0 : gv < 0
      · have q0 : gv < 0 := h0
        have yBc0 := Bc_9.out.cell 0
        have yBc1 := Bc_9.out.cell 1
        have yBo0 := Bo_9.out.cell 0
        have yBo1 := Bo_9.out.cell 1
        have yBw0 := Bw_9.out.cell 0
        have yBw1 := Bw_9.out.cell 1
        simp only [gT, gZ, gS] at yBc0 yBc1 yBo0 yBo1 yBw0 yBw1
        go_wp2_with fail
        refine (sameCluster_any A4 A5 A6 A7 m6 c4 m7 c5 c6 c7 _ _ v9 D_9.out E_9.out).mono ?_; rintro e v10 ⟨rfl, hb⟩
        have B_10 := qh (below_to B_9.out hb)
        have C_10 := qh (C_9.out.up hb)
        have T_10 := qh (T_9.out.up hb)
        have Bc_10 := qh (Bc_9.out.below hb Bc_9.out.lt)
        have D_10 := qh (D_9.out.up hb)
        have Bo_10 := qh (Bo_9.out.below hb Bo_9.out.lt)
        have E_10 := qh (E_9.out.up hb)
        have Bw_10 := qh (Bw_9.out.below hb Bw_9.out.lt)
        clear hb yBc0 yBc1 yBo0 yBo1 yBw0 yBw1 B_9 C_9 T_9 Bc_9 D_9 Bo_9 E_9 Bw_9
        have yBc0 := Bc_10.out.cell 0
        have yBc1 := Bc_10.out.cell 1
        have yBo0 := Bo_10.out.cell 0
        have yBo1 := Bo_10.out.cell 1
        have yBw0 := Bw_10.out.cell 0
        have yBw1 := Bw_10.out.cell 1
        simp only [gT, gZ, gS] at yBc0 yBc1 yBo0 yBo1 yBw0 yBw1
        go_wp2_with fail
        go_ret
        exact ⟨rfl, B_10.out⟩
      by_cases h1 : 10 < gv
      · have q1 : 10 < gv := h1
        have yBc0 := Bc_9.out.cell 0
        have yBc1 := Bc_9.out.cell 1
        have yBo0 := Bo_9.out.cell 0
        have yBo1 := Bo_9.out.cell 1
        have yBw0 := Bw_9.out.cell 0
        have yBw1 := Bw_9.out.cell 1
        simp only [gT, gZ, gS] at yBc0 yBc1 yBo0 yBo1 yBw0 yBw1
        go_wp2_with fail
        refine (sameCluster_any A4 A5 A6 A7 m6 c4 m7 c5 c6 c7 _ _ v9 D_9.out E_9.out).mono ?_; rintro e v10 ⟨rfl, hb⟩
        have B_10 := qh (below_to B_9.out hb)
        have C_10 := qh (C_9.out.up hb)
        have T_10 := qh (T_9.out.up hb)
        have Bc_10 := qh (Bc_9.out.below hb Bc_9.out.lt)
        have D_10 := qh (D_9.out.up hb)
        have Bo_10 := qh (Bo_9.out.below hb Bo_9.out.lt)
        have E_10 := qh (E_9.out.up hb)
        have Bw_10 := qh (Bw_9.out.below hb Bw_9.out.lt)
        clear hb yBc0 yBc1 yBo0 yBo1 yBw0 yBw1 B_9 C_9 T_9 Bc_9 D_9 Bo_9 E_9 Bw_9
        have yBc0 := Bc_10.out.cell 0
        have yBc1 := Bc_10.out.cell 1
        have yBo0 := Bo_10.out.cell 0
        have yBo1 := Bo_10.out.cell 1
        have yBw0 := Bw_10.out.cell 0
        have yBw1 := Bw_10.out.cell 1
        simp only [gT, gZ, gS] at yBc0 yBc1 yBo0 yBo1 yBw0 yBw1
        go_wp2_with fail
        go_ret
        exact ⟨rfl, B_10.out⟩
      have HG := qh (show 0 ≤ gv ∧ gv ≤ 10 by omega)
      obtain ⟨r1, u1, k1, hp1⟩ : ∃ r1 u1 k1, batP room us ts gv = (r1, u1, k1) := ⟨_, _, _, rfl⟩
      have hq1 := bat_sh (room := room) (us := us) (ts := ts) (g := gv)
      have hlaw := ball_law Hok.out Htk.out HG.out.1 HG.out.2 (us := us)
      rw [hp1] at hq1 hlaw
      rw [Hp.out] at hlaw
      dsimp only at hq1 hlaw
      have Hp1 := qh hp1
      have Hq1 := qh hq1
      have Hlaw := qh hlaw
      clear hp1 hq1 hlaw
      have yBc0 := Bc_9.out.cell 0
      have yBc1 := Bc_9.out.cell 1
      have yBo0 := Bo_9.out.cell 0
      have yBo1 := Bo_9.out.cell 1
      have yBw0 := Bw_9.out.cell 0
      have yBw1 := Bw_9.out.cell 1
      simp only [gT, gZ, gS] at yBc0 yBc1 yBo0 yBo1 yBw0 yBw1
      go_wp2_with fail
      refine (batchDoI_any A1 A2 At m1 c1 m2 c2 nt ct gv room us ts v9 C_9.out Hs.out.v T_9.out).mono ?_; rintro e v10 ⟨A10, m10, c10, A11, m11, c11, A12, m12, c12, hi, he, hoc, hco, hb, _, _, _⟩
      simp only [Hp1.out] at hoc hco
      subst he
      have hl := hoc.len
      have hl2 := hoc.lenU
      have hlk := own_len hco
      have B_10 := qh (below_to B_9.out hb)
      have C_10 := qh (C_9.out.up hb)
      have T_10 := qh (T_9.out.up hb)
      have Bc_10 := qh (Bc_9.out.below hb Bc_9.out.lt)
      have D_10 := qh (D_9.out.up hb)
      have Bo_10 := qh (Bo_9.out.below hb Bo_9.out.lt)
      have E_10 := qh (E_9.out.up hb)
      have Bw_10 := qh (Bw_9.out.below hb Bw_9.out.lt)
      have Y_10 := qh (hoc.rd (by have := Hq1.out.2; omega) Hq1.out.1)
      have M_10 := qh (own_rdI hco (own_le hco))
      clear hb yBc0 yBc1 yBo0 yBo1 yBw0 yBw1 B_9 C_9 T_9 Bc_9 D_9 Bo_9 E_9 Bw_9
      have Hlk := qh hlk
      clear hoc hco hl hl2 hlk
      have al := alloc_up v10 (.cells #[.slice A10 m10 c10, .slice A11 m11 c11] 26)
      have B_11 := qh (below_to B_10.out al)
      have C_11 := qh (C_10.out.up al)
      have T_11 := qh (T_10.out.up al)
      have Bc_11 := qh (Bc_10.out.below al Bc_10.out.lt)
      have D_11 := qh (D_10.out.up al)
      have Bo_11 := qh (Bo_10.out.below al Bo_10.out.lt)
      have E_11 := qh (E_10.out.up al)
      have Bw_11 := qh (Bw_10.out.below al Bw_10.out.lt)
      have Y_11 := qh (Y_10.out.up al)
      have M_11 := qh (M_10.out.up al)
      have hq := Blk.new v10 26 #[.slice A10 m10 c10, .slice A11 m11 c11]
      have Bx_11 := qh hq
      clear al hq B_10 C_10 T_10 Bc_10 D_10 Bo_10 E_10 Bw_10 Y_10 M_10
      have yBc0 := Bc_11.out.cell 0
      have yBc1 := Bc_11.out.cell 1
      have yBo0 := Bo_11.out.cell 0
      have yBo1 := Bo_11.out.cell 1
      have yBw0 := Bw_11.out.cell 0
      have yBw1 := Bw_11.out.cell 1
      have yBx0 := Bx_11.out.cell 0
      have yBx1 := Bx_11.out.cell 1
      simp only [gT, gZ, gS] at yBc0 yBc1 yBo0 yBo1 yBw0 yBw1 yBx0 yBx1
      go_wp2_with fail
      generalize v10.alloc (.cells #[.slice A10 m10 c10, .slice A11 m11 c11] 26) = z11 at B_11 C_11 T_11 Bc_11 D_11 Bo_11 E_11 Bw_11 Y_11 M_11 Bx_11 yBc0 yBc1 yBo0 yBo1 yBw0 yBw1 yBx0 yBx1 ⊢
      clear yBc0 yBc1 yBo0 yBo1 yBw0 yBw1 yBx0 yBx1
      have hm12 : m12 ≤ 7 := by have := Hlk.out; have := Hq1.out.2.2; have := Hlt.out; omega
      go_loopw [12, 13] (fun a i wr => ∃ k : Nat, i = .int .i64 k ∧ k ≤ m12 ∧ a = .bool (zeroP (k1.take k)) ∧ Below z11.heap.size z11 wr) (fun _ i _ => m12 - (intOf i).toNat)
      case atStart => exact ⟨0, rfl, Nat.zero_le _, rfl, Below.refl _ _⟩
      case round =>
        obtain ⟨k, rfl, hk, rfl, hbel⟩ := hrel
        have Hb := qh hbel
        clear hbel
        by_cases hlt : k < m12
        · obtain ⟨b1, o1, rfl, l1, hx1⟩ := (M_11.out.up Hb.out).at_ hlt
          have Hst := qh (zero_take (cs := k1) (k := k) (by have := Hlk.out; omega))
          have kk1 : (0 : Int) ≤ (k : Int) := by omega
          have kk2 : (k : Int) < (m12 : Int) := by omega
          generalize k1[k]?.getD 0 = co at *
          generalize zeroP (k1.take k) = zz at *
          cases zz with
          | false =>
            go_wp2_with fail
            go_roundw
            case rel => exact ⟨k + 1, by go_num, by omega, by rw [Hst.out]; rfl, Hb.out⟩
            case measure => simp [intOf]; omega
          | true =>
            go_wp2_with fail
            go_roundw
            case rel => exact ⟨k + 1, by go_num, by omega, by rw [Hst.out]; rfl, Hb.out⟩
            case measure => simp [intOf]; omega
        · obtain rfl : k = m12 := by omega
          rw [List.take_of_length_le (by have := Hlk.out; omega)]
          have B_95 := qh (below_to B_11.out Hb.out)
          have C_95 := qh (C_11.out.up Hb.out)
          have D_95 := qh (D_11.out.up Hb.out)
          have Y_95 := qh (Y_11.out.up Hb.out)
          have Bo_95 := qh (Bo_11.out.below Hb.out Bo_11.out.lt)
          have Bc_95 := qh (Bc_11.out.below Hb.out Bc_11.out.lt)
          have Bx_95 := qh (Bx_11.out.below Hb.out Bx_11.out.lt)
          rcases Hlaw.out with ⟨l1, l2, l3, l4⟩ | ⟨l1, l2, l3, l4⟩
          · rw [l2]
            subst l1 l3 l4
            obtain rfl : m6 = m10 := by have := D_95.out.a.len; have := Y_95.out.a.len; omega
            obtain rfl : m7 = m11 := by have := D_95.out.b.len; have := Y_95.out.b.len; omega
            have yBo0 := Bo_95.out.cell 0
            have yBo1 := Bo_95.out.cell 1
            have yBc0 := Bc_95.out.cell 0
            have yBc1 := Bc_95.out.cell 1
            have yBx0 := Bx_95.out.cell 0
            have yBx1 := Bx_95.out.cell 1
            simp only [gT, gZ, gS] at yBo0 yBo1 yBc0 yBc1 yBx0 yBx1
            go_wp2_with fail
            refine (sameCluster_any A10 A11 A4 A5 m6 c10 m7 c11 c4 c5 _ _ wr Y_95.out D_95.out).mono ?_; rintro e v96 ⟨rfl, hb⟩
            have B_96 := qh (below_to B_95.out hb)
            have C_96 := qh (C_95.out.up hb)
            have D_96 := qh (D_95.out.up hb)
            have Y_96 := qh (Y_95.out.up hb)
            have Bo_96 := qh (Bo_95.out.below hb Bo_95.out.lt)
            have Bc_96 := qh (Bc_95.out.below hb Bc_95.out.lt)
            have Bx_96 := qh (Bx_95.out.below hb Bx_95.out.lt)
            clear hb yBo0 yBo1 yBc0 yBc1 yBx0 yBx1 B_95 C_95 D_95 Y_95 Bo_95 Bc_95 Bx_95
            have yBo0 := Bo_96.out.cell 0
            have yBo1 := Bo_96.out.cell 1
            have yBc0 := Bc_96.out.cell 0
            have yBc1 := Bc_96.out.cell 1
            have yBx0 := Bx_96.out.cell 0
            have yBx1 := Bx_96.out.cell 1
            simp only [gT, gZ, gS] at yBo0 yBo1 yBc0 yBc1 yBx0 yBx1
            go_wp2_with fail
            go_ret
            exact ⟨rfl, B_96.out⟩
          · rw [l2]
            subst l1 l3 l4
            obtain rfl : m6 = m1 := by have := D_95.out.a.len; have := C_95.out.a.len; omega
            obtain rfl : m7 = m2 := by have := D_95.out.b.len; have := C_95.out.b.len; omega
            have yBo0 := Bo_95.out.cell 0
            have yBo1 := Bo_95.out.cell 1
            have yBc0 := Bc_95.out.cell 0
            have yBc1 := Bc_95.out.cell 1
            have yBx0 := Bx_95.out.cell 0
            have yBx1 := Bx_95.out.cell 1
            simp only [gT, gZ, gS] at yBo0 yBo1 yBc0 yBc1 yBx0 yBx1
            go_wp2_with fail
            refine (sameCluster_any A1 A2 A4 A5 m6 c1 m7 c2 c4 c5 _ _ wr C_95.out D_95.out).mono ?_; rintro e v96 ⟨rfl, hb⟩
            have B_96 := qh (below_to B_95.out hb)
            have C_96 := qh (C_95.out.up hb)
            have D_96 := qh (D_95.out.up hb)
            have Y_96 := qh (Y_95.out.up hb)
            have Bo_96 := qh (Bo_95.out.below hb Bo_95.out.lt)
            have Bc_96 := qh (Bc_95.out.below hb Bc_95.out.lt)
            have Bx_96 := qh (Bx_95.out.below hb Bx_95.out.lt)
            clear hb yBo0 yBo1 yBc0 yBc1 yBx0 yBx1 B_95 C_95 D_95 Y_95 Bo_95 Bc_95 Bx_95
            have yBo0 := Bo_96.out.cell 0
            have yBo1 := Bo_96.out.cell 1
            have yBc0 := Bc_96.out.cell 0
            have yBc1 := Bc_96.out.cell 1
            have yBx0 := Bx_96.out.cell 0
            have yBx1 := Bx_96.out.cell 1
            simp only [gT, gZ, gS] at yBo0 yBo1 yBc0 yBc1 yBx0 yBx1
            go_wp2_with fail
            go_ret
            exact ⟨rfl, B_96.out⟩
end Go.Proofs.YtjjnbbkdjimcoaaGreat
